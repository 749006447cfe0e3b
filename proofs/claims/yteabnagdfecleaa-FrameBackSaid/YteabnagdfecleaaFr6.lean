/- Package frame: lifts; bytes.Clone, bytes.Equal; boxes of frames. -/
import Derived.Test.YteabnagdfecleaaFrQ
import Derived.Test.YteabnagdfecleaaSt
import Derived.Test.YteabnagdfecleaaTake
namespace Go.Proofs.Yteabnagdfecleaa
open Go.RowKit
set_option linter.unusedVariables false
set_option linter.unusedSimpArgs false

set_option maxHeartbeats 1000000 in
theorem bclone_u8 (ao : Option Addr) (zs : List Int) (n cap : Nat) (w : World) (hn : zs.length = n) (h : IntsAt .u8 w ao zs) (hm : n ≤ 140737488355328) :
    Calls Try.prog 36 #[.slice ao n cap] w fun e w' => RowPost w zs e w' := by
  have heq := fun w : World => Lib.run_eql_slice_nil (P := Try.prog) w 22 5 ao n cap 0 0 Try.underlying22
  have HN := Lib.hid hn
  have H := Lib.hid h
  clear hn
  cases ao with
  | none =>
    have h0 := ints_none h
    clear h
    go_enter Try.func36, Try.ntmps36
    go_wp2
    go_ret
    exact ⟨none, 0, ret_val (a := .slice none 0 0) (by rw [h0]), by rw [h0, List.length_eq_zero_iff.1 h0]; exact ⟨World.ownsRow_nil _ _ _ _, Below.refl _ _, fun g hg => by cases hg⟩⟩
  | some a =>
    obtain ⟨i0, hi, hz0, hz1, hz2⟩ := info_parts Try_infoU8
    clear h
    go_enter Try.func36, Try.ntmps36
    go_wp2_with (at_builtin; refine wpList_append_any rfl _ _ 22 rfl 5 i0 (.int .u8 0) 1 1 Try.underlying22 hi hz0 hz1 hz2 rfl (by decide) (.slice (some ⟨w.heap.size, 0, none⟩) 0 0) 0 [] rfl (World.ownsRow_made w #[] 0 (Nat.zero_le _) (Nat.zero_le _) rfl) (some a) n cap (zs.map (Value.int .u8)) rfl ?c1 ?c2 ?c3 (ints_one _ _) ?c5 ?c6 ?_)
    case c1 => simp; exact HN.out
    case c2 => intro e; cases e
    case c3 => exact src_ints (ints_below H.out ((Below.refl _ _).alloc (Nat.le_refl _) _))
    case c5 => unfold maxLen; omega
    case c6 => omega
    intro ao' cap' w1 hown hgrow hat hnn
    have HR : Hid (RowAt w (.slice ao' n cap') zs w1) := Lib.hid (by
      refine ⟨by rw [HN.out]; simpa using hown, ((Below.refl _ _).alloc (Nat.le_refl _) _).grown hgrow (by simp) (fun k hk => by simp only [Value.ownBlock, Option.some.injEq] at hk; omega), fun g hg => ?_⟩
      rcases hat g hg with e | e
      · simp only [Value.ownBlock, Option.some.injEq] at e; omega
      · rw [e]; simp)
    clear hown hgrow hat hnn
    go_wp2
    go_ret
    exact ⟨ao', cap', ret_val (a := .slice ao' n cap') (by rw [HN.out]), by rw [HN.out]; exact HR.out⟩

set_option maxHeartbeats 1000000 in
theorem bytes_equal (ao bo : Option Addr) (xs ys : List Int) (n m c d : Nat) (w : World) (hn : xs.length = n) (hm : ys.length = m) (hx : IntsAt .u8 w ao xs) (hy : IntsAt .u8 w bo ys) (rx : InB xs) (ry : InB ys) :
    Calls Try.prog 37 #[.slice ao n c, .slice bo m d] w fun e w' => e = .returned (.bool (eqB xs ys)) ∧ w = w' := by
  have h1 := conv_u8 (P := Try.prog) c 22 5 9 Try.underlying22 Try.underlying5 Try.underlying9 hx hn
  have h2 := conv_u8 (P := Try.prog) d 22 5 9 Try.underlying22 Try.underlying5 Try.underlying9 hy hm
  have HE := Lib.hid (strOf_inj rx ry)
  clear hn hm hx hy rx ry
  go_enter Try.func37, Try.ntmps37
  go_wp2
  go_ret
  exact ⟨ret_bool HE.out, rfl⟩

/-- What lifts hands back. -/
def LiftPost (w : World) (r : List Int × Bool) (e : Ending) (w' : World) : Prop := ∃ ao c, e = .returned (.tuple #[.slice ao r.1.length c, .bool r.2]) ∧ RowAt w (.slice ao r.1.length c) r.1 w'

set_option maxRecDepth 100000 in
set_option maxHeartbeats 4000000 in
theorem lifts_any (ao : Option Addr) (zs : List Int) (m c : Nat) (n : Nat) (w : World) (hm : zs.length = m) (hz : IntsAt .u8 w ao zs) (hB : InB zs) (hc : m ≤ c) (hcm : c ≤ maxLen) (hn : n ≤ 953) :
    Calls Try.prog 33 #[.slice ao m c, .int .i64 (n : Int)] w fun e w' => LiftPost w (liftF zs n) e w' := by
  have HM := Lib.hid hm
  have HZ := Lib.hid hz
  have HB := Lib.hid hB
  have HC := Lib.hid (And.intro hc hcm)
  have HN := Lib.hid hn
  clear hm hz hB hc hcm
  have w1 : wrap64 ((n : Int) * 64) = (n : Int) * 64 := by unfold wrap64; omega
  clear hn
  by_cases hlt : (m : Int) < (n : Int) * 64
  · have HR := Lib.hid (show liftF zs n = ([], false) by unfold liftF; rw [if_pos (by have := HM.out; omega)])
    go_enter Try.func33, Try.ntmps33
    go_wp2_with fail
    go_ret2
    rw [HR.out]
    exact ⟨none, 0, rfl, World.ownsRow_nil _ _ _ _, Below.refl _ _, fun g (hg : (Value.slice none 0 0).ownBlock = some g) => by cases hg⟩
  have HLT : Hid (64 * n ≤ m) := Lib.hid (by omega)
  go_enter Try.func33, Try.ntmps33
  go_wp2_with fail
  clear hlt w1
  go_loopw [6, 15] (fun s i wr => ∃ (k : Nat) (a2 : Option Addr) (c2 : Nat), k ≤ n ∧ i = .int .i64 (k : Int) ∧ s = .slice a2 (63 * k) c2 ∧ markOk zs k = true ∧ wr.ownsRow 0 5 1 (.slice a2 (63 * k) c2) (63 * k) ((catS zs k).map (Value.int .u8)) ∧ Below w.heap.size w wr ∧ (∀ g, (Value.slice a2 (63 * k) c2).ownBlock = some g → w.heap.size ≤ g)) (fun _ i _ => n - (intOf i).toNat)
  case atStart => exact ⟨0, none, 0, Nat.zero_le _, rfl, rfl, rfl, World.ownsRow_nil _ _ _ _, Below.refl _ _, fun g (hg : (Value.slice none 0 0).ownBlock = some g) => by cases hg⟩
  case round =>
    obtain ⟨k, a2, c2, hk, rfl, rfl, hmk, ho, hb, hf⟩ := hrel
    have HMK := Lib.hid hmk
    have HO := Lib.hid ho
    have HBR := Lib.hid hb
    have HF := Lib.hid hf
    clear hmk ho hb hf
    by_cases hlt : k < n
    · obtain ⟨b, off, rfl⟩ : ∃ b off, ao = some ⟨b, off, none⟩ := by
        rcases HZ.out with h | ⟨b, off, h, _⟩
        · have := HLT.out; have := HM.out; rw [h] at this; simp at this; omega
        · exact ⟨b, off, h⟩
      obtain ⟨I, hI⟩ : ∃ I, I = 64 * k := ⟨_, rfl⟩
      have HI := Lib.hid hI
      have e1 : (k : Int) * 64 = (I : Int) := by omega
      have e2 : ((k : Int) + 1) * 64 = (I : Int) + 64 := by omega
      have e3 : ((I : Int) + 64).toNat = I + 64 := by omega
      have hIm : I + 64 ≤ m := by have := HLT.out; omega
      have hIc : I + 64 ≤ c := by have := HC.out.1; omega
      have hIs : I ≤ 61000 := by have := HN.out; omega
      have w1 : wrap64 (I : Int) = (I : Int) := by unfold wrap64; omega
      have w2 : wrap64 ((I : Int) + 64) = (I : Int) + 64 := by unfold wrap64; omega
      have b0 : (0 : Int) ≤ (I : Int) := by omega
      have b1 : (I : Int) ≤ (I : Int) + 64 := by omega
      have b2 : (I : Int) + 64 ≤ (c : Int) := by omega
      have b3 : ¬ c = I := by omega
      have b4 : I + 64 - I = 64 := by omega
      have b5 : 64 ≤ c - I := by omega
      have b6 : ¬ c - I = 1 := by omega
      have HW := Lib.hid (ints_below HZ.out HBR.out)
      obtain ⟨z, hzd⟩ : ∃ z, z = zs.getD I 0 := ⟨_, rfl⟩
      have hcell : wr.cell? ⟨b, off + I, none⟩ = some (.int .u8 z) := by
        rcases HW.out with h | ⟨b', off', h, hcl⟩
        · have := HM.out; rw [h] at this; simp at this; omega
        · cases h; rw [hzd]; exact hcl I (by have := HM.out; omega)
      have HZD := Lib.hid hzd
      have HNL : Hid (k < n) := Lib.hid hlt
      have HMS : Hid (markOk zs (k + 1) = (z == markI k)) := Lib.hid (by rw [markOk, HMK.out, Bool.true_and, hzd, hI])
      have c1 : (k : Int) < (n : Int) := by omega
      have w3 : wrap64 ((k : Int) + 1) = (k : Int) + 1 := by have := HN.out; unfold wrap64; omega
      have HW3 := Lib.hid w3
      have HIK := Lib.hid hI
      have HIS := Lib.hid hIs
      clear hI hIs hzd
      go_upto_region 8 with fail
      clear e1 e2 e3 w1 w2 b0 b1 b2 hIm
      go_cut [42] (fun s wx => s = .bool (!(z == markI k)) ∧ wr = wx)
      case first =>
        by_cases hk0 : k = 0
        · have HMK0 := Lib.hid (show markI k = 1 by unfold markI; rw [if_pos hk0])
          subst hk0
          by_cases hz1 : z = 1
          · have hb : (z == (1 : Int)) = true := by simp [hz1]
            have hb2 : (z != (1 : Int)) = false := by simp [hz1]
            have HZZ := Lib.hid hz1
            clear hz1
            go_wp2_with fail
            go_meet
            case rel => exact ⟨by rw [HMK0.out, HZZ.out]; rfl, rfl⟩
          · have hb : (z == (1 : Int)) = false := by simp [hz1]
            have hb2 : (z != (1 : Int)) = true := by simp [hz1]
            have HZZ := Lib.hid hb
            clear hz1
            go_wp2_with fail
            go_meet
            case rel => exact ⟨by rw [HMK0.out, HZZ.out]; rfl, rfl⟩
        · have HMK0 := Lib.hid (show markI k = 2 by unfold markI; rw [if_neg hk0])
          have hkb : ((k : Int) == 0) = false := by simp; omega
          have hkp : (0 : Int) < (k : Int) := by omega
          clear hk0
          by_cases hz1 : z = 2
          · have hb : (z == (2 : Int)) = true := by simp [hz1]
            have hb2 : (z != (2 : Int)) = false := by simp [hz1]
            have HZZ := Lib.hid hz1
            clear hz1
            go_wp2_with fail
            go_meet
            case rel => exact ⟨by rw [HMK0.out, HZZ.out]; rfl, rfl⟩
          · have hb : (z == (2 : Int)) = false := by simp [hz1]
            have hb2 : (z != (2 : Int)) = true := by simp [hz1]
            have HZZ := Lib.hid hb
            clear hz1
            go_wp2_with fail
            go_meet
            case rel => exact ⟨by rw [HMK0.out, HZZ.out]; rfl, rfl⟩
      case rest =>
        obtain ⟨rfl, rfl⟩ := hcut
        rename World => wr
        cases hq : (z == markI k)
        · have HR := Lib.hid (show liftF zs n = ([], false) by
            have hno : ∀ j, j ≤ n → k + 1 ≤ j → markOk zs j = false := by
              intro j
              induction j with
              | zero => intro _ h; omega
              | succ i ih =>
                intro h1 h2
                by_cases e : k = i
                · rw [← e, HMS.out, hq]
                · rw [markOk, ih (by omega) (by omega), Bool.false_and]
            unfold liftF
            rw [if_neg (by have := HLT.out; have := HM.out; omega), hno n (Nat.le_refl _) (by have := HNL.out; omega), if_neg (by decide)])
          clear hq
          go_wp2_with fail
          go_ret2
          rw [HR.out]
          exact ⟨none, 0, rfl, World.ownsRow_nil _ _ _ _, HBR.out, fun g (hg : (Value.slice none 0 0).ownBlock = some g) => by cases hg⟩
        · have HMK1 : Hid (markOk zs (k + 1) = true) := Lib.hid (by rw [HMS.out, hq])
          clear hq
          have d1 : ¬ c - I = 1 := by omega
          have d2 : (1 : Int) ≤ 64 := by omega
          have HSL : Hid (((zs.drop (64 * k + 1)).take 63).length = 63) := Lib.hid (by rw [List.length_take, List.length_drop, HM.out]; have := HLT.out; have := HNL.out; omega)
          have HSI : Hid (IntsAt .u8 wr (some ⟨b, off + I + 1, none⟩) ((zs.drop (64 * k + 1)).take 63)) := Lib.hid (by
            have h1 := (HW.out.drop (I + 1)).take 63
            rw [← Nat.add_assoc, HIK.out] at h1
            rw [HIK.out]
            exact h1)
          have HKL : Hid (k ≤ 953) := Lib.hid (by have := HNL.out; have := HN.out; omega)
          have HCS : Hid (catS zs (k + 1) = catS zs k ++ (zs.drop (64 * k + 1)).take 63) := Lib.hid rfl
          generalize (zs.drop (64 * k + 1)).take 63 = sv at *
          obtain ⟨i0, hi, hz0, hz1, hz2⟩ := info_parts Try_infoU8
          go_wp2_with (at_builtin; refine wpList_append_any rfl _ _ 22 rfl 5 i0 (.int .u8 0) 1 1 Try.underlying22 hi hz0 hz1 hz2 rfl (by decide) (.slice a2 (63 * k) c2) (63 * k) _ rfl HO.out (some ⟨b, off + I + 1, none⟩) 63 (c - I - 1) (sv.map (Value.int .u8)) rfl ?c1 ?c2 ?c3 (ints_one _ _) ?c5 ?c6 ?_)
          case c1 => rw [List.length_map, HSL.out]
          case c2 => intro e; cases e
          case c3 => exact src_ints HSI.out
          case c5 => have := HKL.out; unfold maxLen; omega
          case c6 => have := HKL.out; omega
          intro ao7 cap7 w7 hown hgrow hat hnn
          rw [← List.map_append] at hown
          have HO7 : Hid (w7.ownsRow 0 5 1 (.slice ao7 (63 * (k + 1)) cap7) (63 * (k + 1)) ((catS zs (k + 1)).map (Value.int .u8))) := Lib.hid (by rw [HCS.out]; exact hown)
          have HB7 : Hid (Below w.heap.size w w7) := Lib.hid (below_fp HBR.out ((Keeps.refl _ wr).grown hgrow (fun i hi => Or.inl hi)) (fun i hi => HF.out i hi))
          have HF7 : Hid (∀ g, (Value.slice ao7 (63 * (k + 1)) cap7).ownBlock = some g → w.heap.size ≤ g) := Lib.hid (fun g hg => by
            rcases hat g hg with h | h
            · exact HF.out g h
            · have := HBR.out.size; omega)
          clear hown hgrow hat hnn
          have hke : ((k + 1 : Nat) : Int) = (k : Int) + 1 := by omega
          go_wp2_with fail
          rw [HW3.out]
          refine ⟨⟨k + 1, ao7, cap7, by have := HNL.out; omega, by rw [hke], rfl, HMK1.out, HO7.out, HB7.out, HF7.out⟩, ?_⟩
          simp only [intOf]
          have := HNL.out
          omega
    · obtain rfl : k = n := by omega
      have c1 : ¬ (k : Int) < (k : Int) := by omega
      have HR := Lib.hid (show liftF zs k = (catS zs k, true) by unfold liftF; rw [if_neg (by have := HLT.out; have := HM.out; omega), if_pos HMK.out])
      have HL := Lib.hid (catS_len zs k (by have := HLT.out; have := HM.out; omega))
      go_wp2_with fail
      go_ret2
      rw [HR.out]
      refine ⟨a2, c2, ?_, ?_, HBR.out, ?_⟩
      · dsimp only; rw [HL.out]; rfl
      · dsimp only; rw [HL.out]; exact HO.out
      · dsimp only; rw [HL.out]; exact HF.out

end Go.Proofs.Yteabnagdfecleaa
namespace Go.Proofs.Yteabnagdfecleaa
open Go.RowKit
set_option linter.unusedVariables false
set_option linter.unusedSimpArgs false

/-- A frame's cells in a block. -/
def FBox (w : World) (b : Nat) (k g s : Int) (v : Value) : Prop := w.heap[b]? = some (.cells #[.int .i64 k, .int .i64 g, .int .i64 s, v] 24 (0, 0))
section
variable {w w' : World} {b : Nat} {k g s : Int} {v : Value}
theorem FBox.lt (h : FBox w b k g s v) : b < w.heap.size := blk_lt h
theorem FBox.new (w : World) (k g s : Int) (v : Value) : FBox (w.alloc (.cells #[.int .i64 k, .int .i64 g, .int .i64 s, v] 24)) w.heap.size k g s v := heap_alloc_new _ _
theorem FBox.cells (h : FBox w b k g s v) : w.cell? ⟨b, 0, none⟩ = some (.int .i64 k) ∧ w.cell? ⟨b, 1, none⟩ = some (.int .i64 g) ∧ w.cell? ⟨b, 2, none⟩ = some (.int .i64 s) ∧ w.cell? ⟨b, 3, none⟩ = some v := ⟨blk_cell h 0, blk_cell h 1, blk_cell h 2, blk_cell h 3⟩
theorem FBox.free (h : FBox w b k g s v) : w.frozen? ⟨b, 0, none⟩ = false ∧ w.frozen? ⟨b, 1, none⟩ = false ∧ w.frozen? ⟨b, 2, none⟩ = false ∧ w.frozen? ⟨b, 3, none⟩ = false := ⟨blk_frozen h 0, blk_frozen h 1, blk_frozen h 2, blk_frozen h 3⟩
theorem FBox.keep {S : Nat → Prop} (h : FBox w b k g s v) (hk : Keeps S w w') (hS : ¬ S b) : FBox w' b k g s v := (hk.block b (blk_lt h) hS).trans h
theorem FBox.below (h : FBox w b k g s v) (hb : Below w.heap.size w w') : FBox w' b k g s v := (hb.block b (blk_lt h)).trans h
theorem FBox.set1 (h : FBox w b k g s v) (x : Int) : FBox (w.setCell ⟨b, 1, none⟩ (.int .i64 x)) b k x s v := by unfold FBox; simpa using blk_set h 1 (.int .i64 x)
theorem FBox.set2 (h : FBox w b k g s v) (x : Int) : FBox (w.setCell ⟨b, 2, none⟩ (.int .i64 x)) b k g x v := by unfold FBox; simpa using blk_set h 2 (.int .i64 x)
theorem FBox.set3 (h : FBox w b k g s v) (x : Value) : FBox (w.setCell ⟨b, 3, none⟩ x) b k g s x := by unfold FBox; simpa using blk_set h 3 x
/-- All four cells written. -/
def fillB (w : World) (b : Nat) (k g s : Int) (v : Value) : World := (((w.setCell ⟨b, 0, none⟩ (.int .i64 k)).setCell ⟨b, 1, none⟩ (.int .i64 g)).setCell ⟨b, 2, none⟩ (.int .i64 s)).setCell ⟨b, 3, none⟩ v
theorem FBox.fill (h : FBox w b k g s v) (k' g' s' : Int) (v' : Value) : FBox (fillB w b k' g' s' v') b k' g' s' v' := by
  unfold fillB FBox
  simpa using blk_set (blk_set (blk_set (blk_set h 0 (.int .i64 k')) 1 (.int .i64 g')) 2 (.int .i64 s')) 3 v'
theorem fillB_keeps (w : World) (b : Nat) (k g s : Int) (v : Value) : Keeps (fun i => i = b) w (fillB w b k g s v) :=
  ((((Keeps.refl (fun i => i = b) w).setCell (p := ⟨b, 0, none⟩) (Or.inl rfl) _).setCell (p := ⟨b, 1, none⟩) (Or.inl rfl) _).setCell (p := ⟨b, 2, none⟩) (Or.inl rfl) _).setCell (p := ⟨b, 3, none⟩) (Or.inl rfl) _
end

/-- What Get hands back. -/
def GetPost (w : World) (tb : Nat) (r : FR × Int × Int) (e : Ending) (w' : World) : Prop := ∃ ao c, e = .returned (.tuple #[.agg #[.int .i64 r.1.k, .int .i64 r.1.g, .int .i64 r.1.s, .slice ao r.1.b.length c], .int .i64 r.2.1, .int .i64 r.2.2]) ∧ RowT w tb r.1.b (.slice ao r.1.b.length c) w'
theorem get_none {w wr : World} {tb b : Nat} {k g s : Int} {v : Value} (hk : Keeps (fun i => i = tb) w wr) (ht : TabOk wr tb) (hb : w.heap.size ≤ b) (htb : tb < w.heap.size) (hx : FBox wr b k g s v) :
    GetPost w tb (noF, 0, 2) (.returned (.tuple #[.agg #[.int .i64 0, .int .i64 0, .int .i64 0, .slice none 0 0], .int .i64 0, .int .i64 2])) (fillB wr b 0 0 0 (.slice none 0 0)) :=
  ⟨none, 0, rfl, tab_keep ht (fillB_keeps _ _ _ _ _ _) (by omega), World.ownsRow_nil _ _ _ _, hk.trans (fillB_keeps _ _ _ _ _ _) (fun i hi => Or.inr (by omega)), fun g (hg : (Value.slice none 0 0).ownBlock = some g) => by cases hg⟩
theorem decNum_ok {zs : List Int} (hB : InB zs) (s : Nat) (h1 : 1 ≤ s ∧ s ≤ 7) (hl : s ≤ zs.length) : decNum zs 0 s = (valB (zs.take s), zs.drop s, 0) := by
  have h2 := valB_in (zs.take s) (inB_take hB s)
  rw [List.length_take, Nat.min_eq_left hl] at h2
  have h3 := pow256 s h1.2
  have hM : mayB (s : Int) = true := by unfold mayB; exact decide_eq_true (by omega)
  have e : numF zs s = (valB (zs.take s), 0) := by
    unfold numF
    rw [if_pos hM, if_neg (by omega), Int.toNat_natCast, if_neg (by unfold MA; omega)]
  unfold decNum
  rw [if_pos rfl, e, if_pos rfl, Int.toNat_natCast]
theorem hd_cat {zs : List Int} (hl : 64 ≤ zs.length) (i s : Nat) (h : i + s ≤ 63) : ((catS zs 1).drop i).take s = (zs.drop (i + 1)).take s := by
  show (List.drop i ([] ++ (zs.drop 1).take 63)).take s = _
  rw [List.nil_append, List.drop_take, List.take_take, Nat.min_eq_left (by omega), List.drop_drop, Nat.add_comm]

end Go.Proofs.Yteabnagdfecleaa
