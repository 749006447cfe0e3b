/- Package chain: may, starts; slices.Grow of nil; slices.Concat of three rows. slices.Grow of nil; slices.Concat of three rows of bytes. slices.Concat of rows of bytes. Package chain: New, Head, Len, Add. Package chain: Head, Len, Add. -/
import Derived.Test.YtbhoakohpfdeoaaChP
import Derived.Test.YtbhoakohpfdeoaaRowb
import Derived.Test.YtbhoakohpfdeoaaGen
import Derived.Lib.AppendZeros
namespace Go.Proofs.Ytbhoakohpfdeoaa
open Go.RowKit
set_option linter.unusedVariables false
set_option linter.unusedSimpArgs false

/-- An entry's cells in a block. -/
def EBox (w : World) (b : Nat) (k : Int) (v : Value) : Prop := w.heap[b]? = some (.cells #[.int .i64 k, v] 34 (0, 0))
section
variable {w w' : World} {b : Nat} {k : Int} {v : Value}
theorem EBox.lt (h : EBox w b k v) : b < w.heap.size := blk_lt h
theorem EBox.new (w : World) (k : Int) (v : Value) : EBox (w.alloc (.cells #[.int .i64 k, v] 34)) w.heap.size k v := heap_alloc_new _ _
theorem EBox.cells (h : EBox w b k v) : w.cell? ⟨b, 0, none⟩ = some (.int .i64 k) ∧ w.cell? ⟨b, 1, none⟩ = some v := ⟨blk_cell h 0, blk_cell h 1⟩
theorem EBox.keep {S : Nat → Prop} (h : EBox w b k v) (hk : Keeps S w w') (hS : ¬ S b) : EBox w' b k v := (hk.block b (blk_lt h) hS).trans h
theorem EBox.below (h : EBox w b k v) (hb : Below w.heap.size w w') : EBox w' b k v := (hb.block b (blk_lt h)).trans h
end

set_option maxHeartbeats 1000000 in
theorem may_chain (e : ER) (ao : Option Addr) (m c : Nat) (w : World) (hm : e.b.length = m) :
    Calls Try.prog 46 #[.agg #[.int .i64 e.k, .slice ao m c]] w fun en w' => en = .returned (.int .i64 (badF e)) ∧ Below w.heap.size w w' := by
  have HM := Lib.hid hm
  have HB1 : Hid (Below w.heap.size w (w.alloc (.cells #[.int .i64 e.k, .slice ao m c] 34))) := Lib.hid ((Below.refl _ _).alloc (Nat.le_refl _) _)
  obtain ⟨c0, c1⟩ := (EBox.new w e.k (.slice ao m c)).cells
  clear hm
  by_cases h0 : e.k < 0
  · have HR := Lib.hid (show badF e = 1 by unfold badF; rw [if_neg (by omega)])
    go_enter Try.func46, Try.ntmps46
    go_wp2
    go_ret
    exact ⟨ret_int HR.out.symm, HB1.out⟩
  by_cases h1 : 255 < e.k
  · have HR := Lib.hid (show badF e = 1 by unfold badF; rw [if_neg (by omega)])
    go_enter Try.func46, Try.ntmps46
    go_wp2
    go_ret
    exact ⟨ret_int HR.out.symm, HB1.out⟩
  by_cases h2 : (60000 : Int) < (m : Int)
  · have HR := Lib.hid (show badF e = 3 by unfold badF; rw [if_pos (by omega), if_pos (by have := HM.out; omega)])
    go_enter Try.func46, Try.ntmps46
    go_wp2
    go_ret
    exact ⟨ret_int HR.out.symm, HB1.out⟩
  have HR := Lib.hid (show badF e = 0 by unfold badF; rw [if_pos (by omega), if_neg (by have := HM.out; omega)])
  go_enter Try.func46, Try.ntmps46
  go_wp2
  go_ret
  exact ⟨ret_int HR.out.symm, HB1.out⟩

set_option maxRecDepth 100000 in
set_option maxHeartbeats 2000000 in
theorem startC_any (e : ER) (ao : Option Addr) (m c : Nat) (w : World) (he : e.ok) (hm : e.b.length = m) :
    Calls Try.prog 49 #[.agg #[.int .i64 e.k, .slice ao m c]] w fun en w' => RowPost w (startC e) en w' := by
  have HE := Lib.hid he
  have HM := Lib.hid hm
  obtain ⟨w1, hw1⟩ : ∃ w1, w1 = w.alloc (.cells #[.int .i64 e.k, .slice ao m c] 34) := ⟨_, rfl⟩
  have HX1 : Hid (EBox w1 w.heap.size e.k (.slice ao m c)) := Lib.hid (by rw [hw1]; exact EBox.new _ _ _)
  have HB1 : Hid (Below w.heap.size w w1) := Lib.hid (by rw [hw1]; exact (Below.refl _ _).alloc (Nat.le_refl _) _)
  have HW1 := Lib.hid hw1
  have HSE : Hid (startC e = putB e.k 1 ++ putB m 4) := Lib.hid (by unfold startC; rw [hm])
  have HSL := Lib.hid (startC_len e)
  clear he hm hw1
  go_enter Try.func49, Try.ntmps49
  go_wp2_with fail
  rw [← HW1.out]
  refine (newEnc w1).mono ?_
  rintro en w2 ⟨rfl, rfl⟩
  have HE2 := Lib.hid (EI.start 138 w1)
  generalize (w1.alloc (.cells #[.slice none 0 0, .int .i64 0] 138)) = w2 at *
  generalize w1.heap.size = p at *
  have HC2 := Lib.hid (HE2.out.num e.k 1 (by simp))
  rw [show encNum ([]) 0 e.k 1 = (putB e.k 1, 0) from encNum_ok ([]) e.k 1 (by omega) HE.out.1.1 (by have := HE.out.1.2; omega)] at HC2
  obtain ⟨c0, c1⟩ := (HX1.out.below (HE2.out.below.mono (Nat.le_refl _))).cells
  go_wp2_with fail
  refine HC2.out.mono ?_
  rintro en w3 ⟨rfl, he⟩
  have HE3 := Lib.hid he
  clear he c0 c1
  have HC3 := Lib.hid (HE3.out.num (m : Int) 4 (by simp [putB_length]))
  rw [show encNum (putB e.k 1) 0 (m : Int) 4 = (putB e.k 1 ++ putB m 4, 0) from encNum_ok (putB e.k 1) (m : Int) 4 (by omega) (by omega) (by have := HE.out.2; have := HM.out; omega)] at HC3
  obtain ⟨c0, c1⟩ := (HX1.out.below (HE3.out.below.mono (Nat.le_refl _))).cells
  go_wp2_with fail
  refine HC3.out.mono ?_
  rintro en w4 ⟨rfl, he⟩
  rw [← HSE.out] at he
  have HE4 := Lib.hid he
  clear he c0 c1
  have HDN := Lib.hid (HE4.out.done (by rw [HSL.out]; omega))
  go_wp2_with fail
  refine HDN.out.mono ?_
  rintro en w9 ⟨ao9, c9, rfl, hr9⟩
  have HP : Hid (RowPost w (startC e) (.returned (.slice ao9 (startC e).length c9)) w9) := Lib.hid ⟨ao9, c9, rfl, hr9.1, below_step HB1.out hr9.2.1, fun g hg => Nat.le_trans HB1.out.size (hr9.2.2 g hg)⟩
  clear hr9
  go_wp2
  go_ret
  exact HP.out

/-- An empty row of one's own with room. -/
theorem own_empty (w : World) (cur : Array Value) (cap : Nat) (h : cur.size = cap) (hm : cap ≤ maxLen) : (w.alloc (.cells cur 5)).ownsRow 0 5 1 (.slice (some ⟨w.heap.size, 0, none⟩) 0 cap) 0 [] :=
  ⟨rfl, Or.inr ⟨w.heap.size, cap, cur, rfl, Nat.zero_le _, heap_alloc_new _ _, Nat.zero_le _, hm, by rw [h, Nat.mul_one], rfl⟩⟩

set_option maxRecDepth 100000 in
set_option maxHeartbeats 1000000 in
theorem grow_nil (n : Nat) (w : World) (hn : n ≤ 1000000) :
    Calls Try.prog 81 #[.slice none 0 0, .int .i64 n] w fun e w' => ∃ ao cap, e = .returned (.slice ao 0 cap) ∧ w'.ownsRow 0 5 1 (.slice ao 0 cap) 0 [] ∧ Below w.heap.size w w' ∧ (∀ g, (Value.slice ao 0 cap).ownBlock = some g → w.heap.size ≤ g) := by
  have HN := Lib.hid hn
  have w1 : wrap64 (n : Int) = (n : Int) := by unfold wrap64; omega
  clear hn
  by_cases h0 : n = 0
  · subst h0
    go_enter Try.func81, Try.ntmps81
    go_wp2
    go_ret
    exact ⟨none, 0, rfl, World.ownsRow_nil _ _ _ _, Below.refl _ _, fun g (hg : (Value.slice none 0 0).ownBlock = some g) => by cases hg⟩
  have hp : (0 : Int) < (n : Int) := by omega
  obtain ⟨i0, hi, hz0, hz1, hz2⟩ := info_parts Try_infoU8
  have HR := Lib.hid (Lib.run_append_nil_zeros (P := Try.prog) w 29 3 29 5 i0 (.int .u8 0) .i64 .i64 Try.underlying29 Try.underlying3 hi hz0 n (by omega) (by rw [hz1]; omega) (by have := HN.out; omega) (by rw [hz2]; have := HN.out; omega))
  have HGE := Lib.hid (grownCap_ge w n 0 5)
  have HLE := Lib.hid (grownCap_le_maxLen w n 0 5 (by have := HN.out; unfold maxLen; omega))
  clear h0
  go_enter Try.func81, Try.ntmps81
  go_upto_region 5 with fail
  rw [w1]
  clear w1
  obtain ⟨cap, hcap⟩ : ∃ cap, cap = grownCap w n 0 5 := ⟨_, rfl⟩
  rw [← hcap] at HR HGE HLE
  clear hcap
  have g1 : (n : Int) ≤ (cap : Int) := by have := HGE.out; omega
  have g2 : (0 : Int) ≤ (cap : Int) := by omega
  go_wp2_with (refine Lib.wpList_append_run w rfl (.tmp 20) (.tmp 21) 29 3 rfl (.slice none 0 0) (.int .i64 (n : Int)) rfl rfl _ _ HR.out ?_)
  go_ret
  have hsz : (Builtin.zeroCells #[Value.int .u8 0] n ++ Builtin.zeroCells #[Value.int .u8 0] (cap - n)).size = cap := by
    have := HGE.out
    simp [Builtin.zeroCells]
    omega
  exact ⟨some ⟨w.heap.size, 0, none⟩, cap, rfl, own_empty w _ cap hsz HLE.out, ((Below.refl _ _).alloc (Nat.le_refl _) _).drew, fun g hg => by
    have h : w.heap.size = g := by simpa [Value.ownBlock] using hg
    omega⟩

/-- A row as it lies. -/
structure RV where
  ao : Option Addr
  zs : List Int
  c : Nat
/-- Rows whose slices lie in a block. -/
def RowsIn (w : World) (q : Nat) (rs : List RV) : Prop := ∀ i (h : i < rs.length), w.cell? ⟨q, i, none⟩ = some (.slice rs[i].ao rs[i].zs.length rs[i].c) ∧ IntsAt .u8 w rs[i].ao rs[i].zs
theorem RowsIn.below {w w' : World} {q : Nat} {rs : List RV} (h : RowsIn w q rs) (hb : Below w.heap.size w w') : RowsIn w' q rs := fun i hi => by
  have hl := World.block_lt_of_cell? w _ (h i hi).1
  exact ⟨(hb.cell (p := ⟨q, i, none⟩) hl).trans (h i hi).1, ints_below (h i hi).2 hb⟩
/-- The first k of them. -/
def catR (rs : List RV) (k : Nat) : List Int := (rs.take k).flatMap RV.zs
theorem catR_succ (rs : List RV) (k : Nat) (h : k < rs.length) : catR rs (k + 1) = catR rs k ++ rs[k].zs := by
  unfold catR
  rw [List.take_add_one, List.getElem?_eq_getElem h, List.flatMap_append]
  congr 1
  show List.flatMap RV.zs [rs[k]] = _
  simp only [List.flatMap_cons, List.flatMap_nil, List.append_nil]
theorem catR_le (rs : List RV) (k : Nat) : (catR rs k).length ≤ (catR rs rs.length).length := by
  unfold catR
  have h : rs.take rs.length = rs.take k ++ rs.drop k := by rw [List.take_length, List.take_append_drop]
  rw [h, List.flatMap_append, List.length_append]
  omega

set_option maxRecDepth 100000 in
set_option maxHeartbeats 2000000 in
theorem concat_any (q : Nat) (rs : List RV) (n : Nat) (w : World) (hn : rs.length = n) (h : RowsIn w q rs) (hl : (catR rs n).length ≤ 500000) (hr : n ≤ 1000) :
    Calls Try.prog 48 #[.slice (some ⟨q, 0, none⟩) n n] w fun e w' => RowPost w (catR rs n) e w' := by
  have HN := Lib.hid hn
  have HH := Lib.hid h
  have HL := Lib.hid hl
  have HR := Lib.hid hr
  clear h hl hn hr
  go_enter Try.func48, Try.ntmps48
  go_wp2_with fail
  go_loopw [3, 11] (fun s i wr => ∃ k : Nat, k ≤ n ∧ i = .int .i64 (k : Int) ∧ s = .int .i64 ((catR rs k).length : Int) ∧ w = wr) (fun _ i _ => n - (intOf i).toNat)
  case atStart => exact ⟨0, by omega, rfl, rfl, rfl⟩
  case round =>
    obtain ⟨k, hk, rfl, rfl, rfl⟩ := hrel
    have HK := Lib.hid hk
    by_cases hlt : k < n
    · have c1 : (k : Int) < (n : Int) := by omega
      have hkr : k < rs.length := by rw [HN.out]; exact hlt
      have hcell := (HH.out k hkr).1
      have HCS := Lib.hid (catR_succ rs k hkr)
      have HCL := Lib.hid (catR_le rs (k + 1))
      rw [HN.out] at HCL
      obtain ⟨m, hm⟩ : ∃ m, m = rs[k].zs.length := ⟨_, rfl⟩
      rw [← hm] at hcell
      have HM := Lib.hid hm
      obtain ⟨s, hs⟩ : ∃ s, s = (catR rs k).length := ⟨_, rfl⟩
      rw [← hs]
      have HSM : Hid ((catR rs (k + 1)).length = s + m) := Lib.hid (by rw [HCS.out, List.length_append, hs, hm])
      clear hm hs
      have ha : s + m ≤ 500000 := by have := HSM.out; have := HCL.out; have := HL.out; omega
      have w1 : wrap64 ((s : Int) + (m : Int)) = ((s + m : Nat) : Int) := by unfold wrap64; omega
      have w2 : wrap64 ((k : Int) + 1) = ((k + 1 : Nat) : Int) := by have := HR.out; unfold wrap64; omega
      have HW1 := Lib.hid w1
      have HW2 := Lib.hid w2
      have hnn : ¬ ((s + m : Nat) : Int) < 0 := by omega
      have HA := Lib.hid ha
      clear ha w2
      generalize hrk : rs[k] = rk at *
      go_upto_region 6 with fail
      rw [w1]
      clear w1
      generalize hS : ((s + m : Nat) : Int) = S at *
      have HS := Lib.hid hS
      clear hS
      go_wp2_with fail
      rw [HW2.out]
      refine ⟨⟨k + 1, by omega, rfl, ?_, by first | rfl | trivial⟩, ?_⟩
      · rw [HSM.out, HS.out]
      · simp only [intOf]; omega
    · obtain rfl : k = n := by omega
      have c1 : ¬ (k : Int) < (k : Int) := by omega
      obtain ⟨s, hs⟩ : ∃ s, s = (catR rs k).length := ⟨_, rfl⟩
      rw [← hs]
      have HSZ := Lib.hid hs
      have HGR := Lib.hid (grow_nil s w (by have := HL.out; have := HSZ.out; omega))
      clear hs hlt
      go_wp2_with fail
      refine HGR.out.mono ?_
      rintro e w1 ⟨ga, gc, rfl, ho, hb, hf⟩
      have HO := Lib.hid ho
      have HB := Lib.hid hb
      have HF := Lib.hid hf
      clear ho hb hf c1
      go_wp2_with fail
      go_loopw [6, 27] (fun s i wq => ∃ (j : Nat) (a2 : Option Addr) (c2 : Nat), j ≤ k ∧ i = .int .i64 (j : Int) ∧ s = .slice a2 (catR rs j).length c2 ∧ wq.ownsRow 0 5 1 (.slice a2 (catR rs j).length c2) (catR rs j).length ((catR rs j).map (Value.int .u8)) ∧ Below w.heap.size w wq ∧ (∀ g, (Value.slice a2 (catR rs j).length c2).ownBlock = some g → w.heap.size ≤ g)) (fun _ i _ => k - (intOf i).toNat)
      case atStart => exact ⟨0, ga, gc, by omega, rfl, rfl, HO.out, HB.out, HF.out⟩
      case round =>
        obtain ⟨j, a2, c2, hj, rfl, rfl, ho, hb, hf⟩ := hrel
        have HO2 := Lib.hid ho
        have HB2 := Lib.hid hb
        have HF2 := Lib.hid hf
        have HJ := Lib.hid hj
        clear ho hb hf
        by_cases hlt : j < k
        · have c1 : (j : Int) < (k : Int) := by omega
          have hkr : j < rs.length := by rw [HN.out]; exact hlt
          have HXX := Lib.hid (HH.out.below HB2.out)
          have hcell := (HXX.out j hkr).1
          have HCS := Lib.hid (catR_succ rs j hkr)
          have HCL := Lib.hid (catR_le rs (j + 1))
          rw [HN.out] at HCL
          have HII := Lib.hid (HXX.out j hkr).2
          obtain ⟨m, hm⟩ : ∃ m, m = rs[j].zs.length := ⟨_, rfl⟩
          rw [← hm] at hcell
          have HM := Lib.hid hm
          obtain ⟨s, hs⟩ : ∃ s, s = (catR rs j).length := ⟨_, rfl⟩
          rw [← hs] at HO2 HF2
          rw [← hs]
          have HSM : Hid ((catR rs (j + 1)).length = s + m) := Lib.hid (by rw [HCS.out, List.length_append, hs, hm])
          have HS2 := Lib.hid hs
          clear hm hs
          have w2 : wrap64 ((j : Int) + 1) = ((j + 1 : Nat) : Int) := by have := HR.out; unfold wrap64; omega
          have HW2 := Lib.hid w2
          have HA : Hid (s + m ≤ 500000) := Lib.hid (by have := HSM.out; have := HCL.out; have := HL.out; omega)
          clear w2
          generalize rs[j] = rj at *
          obtain ⟨i0, hi, hz0, hz1, hz2⟩ := info_parts Try_infoU8
          go_wp2_with (at_builtin; refine wpList_append_any rfl _ _ 29 rfl 5 i0 (.int .u8 0) 1 1 Try.underlying29 hi hz0 hz1 hz2 rfl (by decide) (.slice a2 s c2) s _ rfl HO2.out rj.ao m rj.c (rj.zs.map (Value.int .u8)) rfl ?c1 ?c2 ?c3 (ints_one _ _) ?c5 ?c6 ?_)
          case c1 => rw [List.length_map, HM.out, Nat.mul_one]
          case c2 => intro e; have := ints_none (e ▸ HII.out); rw [HM.out]; exact this
          case c3 => exact src_ints HII.out
          case c5 => have := HA.out; unfold maxLen; omega
          case c6 => have := HA.out; omega
          intro ao7 cap7 w7 hown hgrow hat hnn
          rw [← List.map_append] at hown
          have HO7 : Hid (w7.ownsRow 0 5 1 (.slice ao7 (catR rs (j + 1)).length cap7) (catR rs (j + 1)).length ((catR rs (j + 1)).map (Value.int .u8))) := Lib.hid (by rw [HSM.out, HCS.out]; exact hown)
          have HB7 : Hid (Below w.heap.size w w7) := Lib.hid (below_fp HB2.out ((Keeps.refl _ wr).grown hgrow (fun i hi => Or.inl hi)) (fun i hi => HF2.out i hi))
          have HF7 : Hid (∀ g, (Value.slice ao7 (catR rs (j + 1)).length cap7).ownBlock = some g → w.heap.size ≤ g) := Lib.hid (fun g hg => by
            rw [HSM.out] at hg
            rcases hat g hg with h | h
            · exact HF2.out g h
            · have := HB2.out.size; omega)
          clear hown hgrow hat hnn
          go_wp2_with fail
          rw [HW2.out]
          refine ⟨⟨j + 1, ao7, cap7, by omega, rfl, by rw [HSM.out], HO7.out, HB7.out, HF7.out⟩, ?_⟩
          simp only [intOf]; omega
        · obtain rfl : j = k := by omega
          have c1 : ¬ (j : Int) < (j : Int) := by omega
          clear hlt
          go_wp2_with fail
          go_ret
          exact ⟨a2, c2, rfl, HO2.out, HB2.out, HF2.out⟩

/-- A chain in a block. -/
def CIg (tb : Nat) (w : World) (p : Nat) (l : List ER) (ao : Option Addr) (c : Nat) : Prop := w.heap[p]? = some (.cells #[.pointer (some ⟨tb, 0, none⟩), .slice ao 32 c, .int .i64 (l.length : Int)] 95 (0, 0)) ∧ w.ownsRow 0 5 1 (.slice ao 32 c) 32 ((headC l).map (Value.int .u8))
/-- Wherever its head lies. -/
def CI (tb : Nat) (w : World) (p : Nat) (l : List ER) : Prop := ∃ ao c, CIg tb w p l ao c
theorem CI.lt {tb : Nat} {w : World} {p : Nat} {l : List ER} (h : CI tb w p l) : p < w.heap.size := by
  obtain ⟨_, _, h, _⟩ := h; exact blk_lt h
theorem cells_type {cs cs' : Array Value} {t t' : TypeId} {f f' : Nat × Nat} (h : some (Obj.cells cs t f) = some (Obj.cells cs' t' f')) : t = t' := by
  injection h with h
  injection h
/-- A row's block is no chain's. -/
theorem row_type {w : World} {ao : Option Addr} {n c g : Nat} {xs : List Value} (h : w.ownsRow 0 5 1 (.slice ao n c) n xs) (hg : (Value.slice ao n c).ownBlock = some g) : ∃ cur, w.heap[g]? = some (.cells cur 5 (0, 0)) := by
  rcases h.2 with ⟨hv, _⟩ | ⟨g', cap', cur, hv, hb, hh, _⟩
  · simp only [Value.slice.injEq] at hv
    rw [hv.1] at hg
    cases hg
  · simp only [Value.slice.injEq] at hv
    rw [hv.1] at hg
    cases hg
    exact ⟨cur, hh⟩
theorem row_ne_chain {w : World} {ao : Option Addr} {n c g p : Nat} {xs : List Value} {cs : Array Value} (h : w.ownsRow 0 5 1 (.slice ao n c) n xs) (hg : (Value.slice ao n c).ownBlock = some g) (hp : w.heap[p]? = some (.cells cs 95 (0, 0))) : g ≠ p := by
  intro e
  obtain ⟨cur, h1⟩ := row_type h hg
  rw [e, hp] at h1
  exact absurd (cells_type h1) (by decide)
theorem tab_ne_row {w : World} {ao : Option Addr} {n c g tb : Nat} {xs : List Value} (h : w.ownsRow 0 5 1 (.slice ao n c) n xs) (hg : (Value.slice ao n c).ownBlock = some g) (ht : TabOk w tb) : g ≠ tb := by
  intro e
  obtain ⟨cur, h1⟩ := row_type h hg
  rcases ht with ⟨_, _, cs, h2, _⟩ | ⟨cs, h2, _⟩
  all_goals rw [e, h2] at h1; exact absurd (cells_type h1) (by decide)
theorem tab_ne_chain {w : World} {p tb : Nat} {cs : Array Value} (hp : w.heap[p]? = some (.cells cs 95 (0, 0))) (ht : TabOk w tb) : p ≠ tb := by
  intro e
  rcases ht with ⟨_, _, cs, h2, _⟩ | ⟨cs, h2, _⟩
  all_goals rw [e, h2] at hp; exact absurd (cells_type hp) (by decide)
section
variable {tb : Nat} {w w' : World} {p q : Nat} {l l' : List ER}
theorem CI.below (h : CI tb w p l) (hb : Below w.heap.size w w') : CI tb w' p l := by
  obtain ⟨ao, c, h1, h2⟩ := h
  exact ⟨ao, c, (hb.block p (blk_lt h1)).trans h1, ownsRow_same h2 (fun g hg => hb.block g (h2.lt g hg).2)⟩
/-- The table turned. -/
theorem CI.tab (h : CI tb w p l) (ht : TabOk w tb) (hk : Keeps (fun i => i = tb) w w') : CI tb w' p l := by
  obtain ⟨ao, c, h1, h2⟩ := h
  exact ⟨ao, c, (hk.block p (blk_lt h1) (tab_ne_chain h1 ht)).trans h1, ownsRow_same h2 (fun g hg => hk.block g (h2.lt g hg).2 (tab_ne_row h2 hg ht))⟩
/-- Another chain turned. -/
theorem CI.other (h : CI tb w p l) (h' : CI tb w q l') (hpq : p ≠ q) (ht : TabOk w tb) (hk : Keeps (fun i => i = tb ∨ i = q) w w') : CI tb w' p l := by
  obtain ⟨ao, c, h1, h2⟩ := h
  obtain ⟨_, _, h3, _⟩ := h'
  refine ⟨ao, c, (hk.block p (blk_lt h1) ?_).trans h1, ownsRow_same h2 (fun g hg => hk.block g (h2.lt g hg).2 ?_)⟩
  · rintro (e | e)
    · exact tab_ne_chain h1 ht e
    · exact hpq e
  · rintro (e | e)
    · exact tab_ne_row h2 hg ht e
    · exact row_ne_chain h2 hg h3 e
end

set_option maxHeartbeats 1000000 in
theorem chain_new (tb : Nat) (w : World) (ht : TabOk w tb) :
    Calls Try.prog 13 #[.pointer (some ⟨tb, 0, none⟩)] w fun e w' => ∃ p, e = .returned (.pointer (some ⟨p, 0, none⟩)) ∧ TabOk w' tb ∧ CI tb w' p [] ∧ Below w.heap.size w w' ∧ w.heap.size ≤ p := by
  have HT := Lib.hid ht
  clear ht
  have hmk : ∀ w : World, (Instr.makeSlice 29 (.int .i64 32) (.int .i64 32)).run Try.prog w = .ok (.slice (some ⟨w.heap.size, 0, none⟩) 32 32) (w.alloc (.cells (madeCells #[.int .u8 0] 32) 5)) := fun w => run_make_row' (P := Try.prog) 29 5 (.int .u8 0) 1 Try.underlying29 Try_infoU8 rfl .i64 .i64 32 (by omega) (by omega) w
  have HR1 : Hid (RowL (w.alloc (.cells (madeCells #[.int .u8 0] 32) 5)) w.heap.size zero32) := Lib.hid (RowL.made w 32)
  have HB1 : Hid (Below w.heap.size w (w.alloc (.cells (madeCells #[.int .u8 0] 32) 5))) := Lib.hid ((Below.refl _ _).alloc (Nat.le_refl _) _)
  have HS1 : Hid ((w.alloc (.cells (madeCells #[.int .u8 0] 32) 5)).heap.size = w.heap.size + 1) := Lib.hid (by simp)
  go_enter Try.func13, Try.ntmps13
  go_wp2_with fail
  generalize w.alloc (.cells (madeCells #[.int .u8 0] 32) 5) = w1 at *
  rw [← HS1.out]
  go_ret
  have hb2 : Below w1.heap.size w1 (w1.alloc (.cells #[.pointer (some ⟨tb, 0, none⟩), .slice (some ⟨w.heap.size, 0, none⟩) 32 32, .int .i64 0] 95)) := (Below.refl _ _).alloc (Nat.le_refl _) _
  exact ⟨w1.heap.size, rfl, (HT.out.below HB1.out).below hb2, ⟨some ⟨w.heap.size, 0, none⟩, 32, heap_alloc_new _ _, ownsRow_same (HR1.out.own 32 rfl (by unfold maxLen; omega)) (fun g hg => hb2.block g ((HR1.out.own 32 rfl (by unfold maxLen; omega)).lt g hg).2)⟩, below_step HB1.out hb2, HB1.out.size⟩

theorem below_undrew {w w' : World} (h : Below w.drew.heap.size w.drew w') : Below w.heap.size w w' := ⟨h.os, h.tape, h.output, h.size, h.block⟩
theorem keeps_undrew {S : Nat → Prop} {w w' : World} (h : Keeps S w.drew w') : Keeps S w w' := ⟨h.os, h.tape, h.output, h.size, h.block⟩
theorem cat3 (a b c : RV) : catR [a, b, c] 3 = a.zs ++ b.zs ++ c.zs := by simp [catR]
theorem rows3 {w : World} {a b c : RV} (ha : IntsAt .u8 w a.ao a.zs) (hb : IntsAt .u8 w b.ao b.zs) (hc : IntsAt .u8 w c.ao c.zs) (T : TypeId) :
    RowsIn (w.alloc (.cells #[.slice a.ao a.zs.length a.c, .slice b.ao b.zs.length b.c, .slice c.ao c.zs.length c.c] T)) w.heap.size [a, b, c] := by
  have h := heap_alloc_new w (.cells #[.slice a.ao a.zs.length a.c, .slice b.ao b.zs.length b.c, .slice c.ao c.zs.length c.c] T)
  have hb' : Below w.heap.size w (w.alloc (.cells #[.slice a.ao a.zs.length a.c, .slice b.ao b.zs.length b.c, .slice c.ao c.zs.length c.c] T)) := (Below.refl _ _).alloc (Nat.le_refl _) _
  intro i hi
  match i, hi with
  | 0, _ => exact ⟨blk_cell h 0, ints_below ha hb'⟩
  | 1, _ => exact ⟨blk_cell h 1, ints_below hb hb'⟩
  | 2, _ => exact ⟨blk_cell h 2, ints_below hc hb'⟩

set_option maxHeartbeats 1000000 in
theorem chain_head (tb p : Nat) (l : List ER) (w : World) (h : CI tb w p l) :
    Calls Try.prog 14 #[.pointer (some ⟨p, 0, none⟩)] w fun e w' => RowPost w (headC l) e w' := by
  obtain ⟨ao, c, h1, h2⟩ := h
  have HL := Lib.hid (headC_len l)
  have HC := Lib.hid (bclone_u8 ao (headC l) 32 c w HL.out (owns_at h2).2.1 (by omega))
  have c1 : w.cell? ⟨p, 1, none⟩ = some (.slice ao 32 c) := blk_cell h1 1
  clear h1 h2
  go_enter Try.func14, Try.ntmps14
  go_wp2_with fail
  refine HC.out.mono ?_
  rintro e w1 ⟨a1, k1, rfl, hr⟩
  have HR := Lib.hid hr
  clear hr
  go_wp2
  go_ret
  exact ⟨a1, k1, rfl, HR.out⟩
set_option maxHeartbeats 1000000 in
theorem chain_len (tb p : Nat) (l : List ER) (w : World) (h : CI tb w p l) :
    Calls Try.prog 18 #[.pointer (some ⟨p, 0, none⟩)] w fun e w' => e = .returned (.int .i64 (l.length : Int)) ∧ w = w' := by
  obtain ⟨ao, c, h1, h2⟩ := h
  have c1 : w.cell? ⟨p, 2, none⟩ = some (.int .i64 (l.length : Int)) := blk_cell h1 2
  clear h1 h2
  go_enter Try.func18, Try.ntmps18
  go_wp2
  go_ret
  exact ⟨rfl, rfl⟩

set_option maxRecDepth 100000 in
set_option maxHeartbeats 4000000 in
theorem chain_add (tb p : Nat) (l : List ER) (E : ER) (ao : Option Addr) (m c : Nat) (w : World) (ht : TabOk w tb) (h : CI tb w p l) (hm : E.b.length = m) (hz : IntsAt .u8 w ao E.b) (hB : InB E.b) (hl : l.length ≤ 1000000) :
    Calls Try.prog 15 #[.pointer (some ⟨p, 0, none⟩), .agg #[.int .i64 E.k, .slice ao m c]] w fun e w' => e = .returned (.int .i64 (badF E)) ∧ TabOk w' tb ∧ (∃ ao c, CIg tb w' p (if badF E = 0 then l ++ [E] else l) ao c ∧ (badF E = 0 → ∀ g, (Value.slice ao 32 c).ownBlock = some g → w.heap.size ≤ g)) ∧ Keeps (fun i => i = tb ∨ i = p) w w' := by
  have HT := Lib.hid ht
  have HI := Lib.hid h
  have HM := Lib.hid hm
  have HZ := Lib.hid hz
  have HB := Lib.hid hB
  have HL := Lib.hid hl
  obtain ⟨L', hL'⟩ : ∃ L', L' = if badF E = 0 then l ++ [E] else l := ⟨_, rfl⟩
  rw [← hL']
  have HLE := Lib.hid hL'
  clear hL'
  have HPT := Lib.hid (show p < w.heap.size ∧ tb < w.heap.size ∧ p ≠ tb by
    obtain ⟨_, _, h1, _⟩ := h
    exact ⟨blk_lt h1, ht.lt, tab_ne_chain h1 ht⟩)
  obtain ⟨w1, hw1⟩ : ∃ w1, w1 = w.alloc (.cells #[.int .i64 E.k, .slice ao m c] 34) := ⟨_, rfl⟩
  have HX1 : Hid (EBox w1 w.heap.size E.k (.slice ao m c)) := Lib.hid (by rw [hw1]; exact EBox.new _ _ _)
  have HB1 : Hid (Below w.heap.size w w1) := Lib.hid (by rw [hw1]; exact (Below.refl _ _).alloc (Nat.le_refl _) _)
  have HW1 := Lib.hid hw1
  have HMY := Lib.hid (may_chain E ao m c w1 hm)
  clear ht h hm hz hB hl hw1
  obtain ⟨x0, x1⟩ := HX1.out.cells
  go_enter Try.func15, Try.ntmps15
  go_wp2_with fail
  rw [← HW1.out]
  refine HMY.out.mono ?_
  rintro e w2 ⟨rfl, hb2⟩
  have HB2 : Hid (Below w.heap.size w w2) := Lib.hid (below_step HB1.out hb2)
  have HX2 := Lib.hid (HX1.out.below hb2)
  clear hb2 x0 x1 HMY HX1 HW1
  by_cases hbad : badF E = 0
  case neg =>
    have hb : (badF E == 0) = false := by simp [hbad]
    have hb' : (badF E != 0) = true := by simp [hbad]
    have HNB := Lib.hid hbad
    have HIF : Hid (L' = l) := Lib.hid (by rw [HLE.out, if_neg hbad])
    clear hbad
    go_wp2
    go_ret
    rw [HIF.out]
    obtain ⟨ha, hc, h1⟩ := HI.out.below HB2.out
    exact ⟨rfl, HT.out.below HB2.out, ⟨ha, hc, h1, fun h => absurd h HNB.out⟩, Keeps.of_below HB2.out⟩
  have HOK := Lib.hid ((badF_ok E).1 hbad)
  have HBD := Lib.hid hbad
  have HIF : Hid (L' = l ++ [E]) := Lib.hid (by rw [HLE.out, if_pos hbad])
  rw [hbad]
  clear hbad
  obtain ⟨ha, hc, h1, h2⟩ := HI.out.below HB2.out
  have HO2 := Lib.hid h2
  have HK2 := Lib.hid h1
  have c0 : w2.cell? ⟨p, 0, none⟩ = some (.pointer (some ⟨tb, 0, none⟩)) := blk_cell h1 0
  have c1 : w2.cell? ⟨p, 1, none⟩ = some (.slice ha 32 hc) := blk_cell h1 1
  have HT2 := Lib.hid (HT.out.below HB2.out)
  have HLT : Hid (p < w2.heap.size ∧ tb < w2.heap.size ∧ w.heap.size < w2.heap.size) := Lib.hid ⟨by have := HPT.out.1; have := HB2.out.size; omega, by have := HPT.out.2.1; have := HB2.out.size; omega, HX2.out.lt⟩
  clear h1 h2 HI
  obtain ⟨x0, x1⟩ := HX2.out.cells
  have HZ2 := Lib.hid (ints_below HZ.out HB2.out)
  have HXX := Lib.hid (show w.heap.size < w2.heap.size from HX2.out.lt)
  have HHL := Lib.hid (headC_len l)
  have HSC := Lib.hid (startC_len E)
  have HEL : Hid (m ≤ 60000) := Lib.hid (by have := HOK.out.2; have := HM.out; omega)
  have HCC := Lib.hid (And.intro c0 c1)
  go_upto_region 4 with fail
  refine wp_region_held_drew (S := fun w' => w'.cell? ⟨p, 0, none⟩ = some (.pointer (some ⟨tb, 0, none⟩)) ∧ w'.cell? ⟨w.heap.size, 0, none⟩ = some (.int .i64 E.k) ∧ w'.cell? ⟨w.heap.size, 1, none⟩ = some (.slice ao m c)) (by kernel_rfl) ?_ (fun hHeld => ?_)
  · exact ⟨c0, x0, x1⟩
  refine take_at (i := 0) (d := 11) (v := ?_) rfl rfl (by kernel_rfl) (by kernel_rfl) (by kernel_rfl) (fun _ _ _ h => h) (Or.inl ⟨by rfl, by intro w' hSw; (try dsimp only at hSw); go_simp; try with_reducible rfl⟩) (by assumption) ?_
  simp only [List.setIfInBounds_toArray, List.set_cons_zero, List.set_cons_succ]
  refine take_at (i := 1) (d := 12) (v := ?_) rfl rfl (by kernel_rfl) (by kernel_rfl) (by kernel_rfl) (fun _ _ _ h => h) (Or.inl ⟨by rfl, by intro w' hSw; (try dsimp only at hSw); go_simp; try with_reducible rfl⟩) (by assumption) ?_
  simp only [List.setIfInBounds_toArray, List.set_cons_zero, List.set_cons_succ]
  refine take_at (i := 2) (d := 13) (v := ?_) rfl rfl (by kernel_rfl) (by kernel_rfl) (by kernel_rfl) (fun _ _ _ h => h) (Or.inl ⟨by rfl, by intro w' hSw; (try dsimp only at hSw); go_simp; try with_reducible rfl⟩) (by assumption) ?_
  simp only [List.setIfInBounds_toArray, List.set_cons_zero, List.set_cons_succ]
  refine take_at (i := 3) (d := 14) (v := ?_) rfl rfl (by kernel_rfl) (by kernel_rfl) (by kernel_rfl) (fun _ _ _ h => h) (Or.inl ⟨by rfl, by intro w' hSw; (try dsimp only at hSw); go_simp; try with_reducible rfl⟩) (by assumption) ?_
  simp only [List.setIfInBounds_toArray, List.set_cons_zero, List.set_cons_succ]
  refine take_at (i := 4) (d := 15) (v := ?_) rfl rfl (by kernel_rfl) (by kernel_rfl) (by kernel_rfl) (fun _ _ _ h => h) (Or.inl ⟨by rfl, by intro w' hSw; (try dsimp only at hSw); go_simp; try with_reducible rfl⟩) (by assumption) ?_
  simp only [List.setIfInBounds_toArray, List.set_cons_zero, List.set_cons_succ]
  refine take_at (i := 5) (d := 16) (v := ?_) rfl rfl (by kernel_rfl) (by kernel_rfl) (by kernel_rfl) (fun _ _ _ h => h) (Or.inl ⟨by rfl, by intro w' hSw; (try dsimp only at hSw); go_simp; try with_reducible rfl⟩) (by assumption) ?_
  simp only [List.setIfInBounds_toArray, List.set_cons_zero, List.set_cons_succ]
  refine take_at (i := 6) (d := 17) (v := ?_) rfl rfl (by kernel_rfl) (by kernel_rfl) (by kernel_rfl) (fun _ _ _ h => h) (Or.inl ⟨by rfl, by intro w' hSw; (try dsimp only at hSw); go_simp; try with_reducible rfl⟩) (by assumption) ?_
  simp only [List.setIfInBounds_toArray, List.set_cons_zero, List.set_cons_succ]
  refine take_at (i := 7) (d := 18) (v := ?_) rfl rfl (by kernel_rfl) (by kernel_rfl) (by kernel_rfl) (fun _ _ _ h => h) (Or.inl ⟨by rfl, by intro w' hSw; (try dsimp only at hSw); go_simp; try with_reducible rfl⟩) (by assumption) ?_
  simp only [List.setIfInBounds_toArray, List.set_cons_zero, List.set_cons_succ]
  refine take_at (i := 9) (d := 20) (v := ?_) rfl rfl (by kernel_rfl) (by kernel_rfl) (by kernel_rfl) (fun _ _ _ h => h) (Or.inl ⟨by rfl, by intro w' hSw; (try dsimp only at hSw); go_simp; try with_reducible rfl⟩) (by assumption) ?_
  simp only [List.setIfInBounds_toArray, List.set_cons_zero, List.set_cons_succ]
  refine take_at (i := 11) (d := 22) (v := ?_) rfl rfl (by kernel_rfl) (by kernel_rfl) (by kernel_rfl) (fun _ _ _ h => h) (Or.inl ⟨by rfl, by intro w' hSw; (try dsimp only at hSw); go_simp; try with_reducible rfl⟩) (by assumption) ?_
  simp only [List.setIfInBounds_toArray, List.set_cons_zero, List.set_cons_succ]
  refine take_at (i := 12) (d := 23) (v := ?_) rfl rfl (by kernel_rfl) (by kernel_rfl) (by kernel_rfl) (fun _ _ _ h => h) (Or.inl ⟨by rfl, by intro w' hSw; (try dsimp only at hSw); go_simp; try with_reducible rfl⟩) (by assumption) ?_
  simp only [List.setIfInBounds_toArray, List.set_cons_zero, List.set_cons_succ]
  refine wpAnyH_ready (rs := [8, 10]) (by kernel_rfl) (by simp) ?_
  refine AllReadyH.cons rfl (fun K hK => ?_) (AllReadyH.cons rfl (fun K hK => ?_) (AllReadyH.nil))
  · skip
    go_simp
    go_wp2_with fail
    refine hK.out _ _ ?_ (fun hHeld => ?_)
    · exact hHeld
    clear hK K
    try simp only [Act.put, List.getElem_toArray, List.getElem_cons_succ, List.getElem_cons_zero]
    try simp only [List.setIfInBounds_toArray, List.set_cons_zero, List.set_cons_succ]
    refine wpAnyH_ready (rs := [10]) (by kernel_rfl) (by simp) ?_
    refine AllReadyH.cons rfl (fun K hK => ?_) AllReadyH.nil
    go_simp
    first | refine (startC_any E ao m c w2.drew HOK.out HM.out).mono ?_ | refine (startC_any E ao m c w2.drew.drew HOK.out HM.out).mono ?_
    rintro e w3 ⟨sa, sc, rfl, hr3⟩
    have HB3 : Hid (Below w2.heap.size w2 w3) := Lib.hid (below_undrew hr3.2.1)
    have HO3 := Lib.hid hr3.1
    have HX3 := Lib.hid (HX2.out.below HB3.out)
    have HF3 := Lib.hid hr3.2.2
    clear hr3 x0 x1
    obtain ⟨x0, x1⟩ := HX3.out.cells
    have c0 := (HB3.out.cell (p := ⟨p, 0, none⟩) HLT.out.1).trans c0
    have c1 := (HB3.out.cell (p := ⟨p, 1, none⟩) HLT.out.1).trans c1
    dsimp only
    go_wp2_with fail
    refine hK.out _ _ ?_ (fun hHeld => ?_)
    · exact ⟨c0, x0, x1⟩
    clear hK K
    try simp only [Act.put, List.getElem_toArray, List.getElem_cons_succ, List.getElem_cons_zero]
    try simp only [List.setIfInBounds_toArray, List.set_cons_zero, List.set_cons_succ]
    refine wpAnyH_ready (rs := [13]) (by kernel_rfl) (by simp) ?_
    refine AllReadyH.cons rfl (fun K hK => ?_) AllReadyH.nil
    go_simp
    obtain ⟨w4, hw4⟩ : ∃ w4, w4 = w3.alloc (.cells #[.slice ha 32 hc, .slice sa (startC E).length sc, .slice ao m c] 29) := ⟨_, rfl⟩
    have HB4 : Hid (Below w3.heap.size w3 w4) := Lib.hid (by rw [hw4]; exact (Below.refl _ _).alloc (Nat.le_refl _) _)
    have HR4 : Hid (RowsIn w4 w3.heap.size [⟨ha, headC l, hc⟩, ⟨sa, startC E, sc⟩, ⟨ao, E.b, c⟩]) := Lib.hid (by
      have hz3 := ints_below HZ2.out HB3.out
      have h := rows3 (w := w3) (a := ⟨ha, headC l, hc⟩) (b := ⟨sa, startC E, sc⟩) (c := ⟨ao, E.b, c⟩) (ints_below (owns_at HO2.out).2.1 HB3.out) (owns_at HO3.out).2.1 hz3 29
      dsimp only at h
      rw [HHL.out, HM.out] at h
      rw [hw4]
      exact h)
    have hc0 := (HB4.out.cell (p := ⟨p, 0, none⟩) (by have := HLT.out.1; have := HB3.out.size; dsimp only; omega)).trans c0
    have hc1 := (HB4.out.cell (p := ⟨p, 1, none⟩) (by have := HLT.out.1; have := HB3.out.size; dsimp only; omega)).trans c1
    obtain ⟨hx0, hx1⟩ := (HX3.out.below HB4.out).cells
    have HW4 := Lib.hid hw4
    rw [← hw4]
    clear hw4
    go_wp2_with fail
    refine hK.out _ _ ?_ (fun hHeld => ?_)
    · exact ⟨hc0, hx0, hx1⟩
    clear hK K
    try simp only [Act.put, List.getElem_toArray, List.getElem_cons_succ, List.getElem_cons_zero]
    try simp only [List.setIfInBounds_toArray, List.set_cons_zero, List.set_cons_succ]
    refine wpAnyH_ready (rs := [14]) (by kernel_rfl) (by simp) ?_
    refine AllReadyH.cons rfl (fun K hK => ?_) AllReadyH.nil
    go_simp
    have HCA := Lib.hid (concat_any w3.heap.size [⟨ha, headC l, hc⟩, ⟨sa, startC E, sc⟩, ⟨ao, E.b, c⟩] 3 w4 rfl HR4.out (by rw [cat3]; simp only [List.length_append]; have := HHL.out; have := HSC.out; have := HM.out; have := HEL.out; omega) (by omega))
    with_reducible refine HCA.out.mono ?_
    rintro e w5 ⟨ca, cc, rfl, hr5⟩
    rw [cat3] at hr5
    rw [show catR [⟨ha, headC l, hc⟩, ⟨sa, startC E, sc⟩, ⟨ao, E.b, c⟩] 3 = headC l ++ startC E ++ E.b from cat3 _ _ _]
    have HDB : Hid (InB (headC l ++ startC E ++ E.b)) := Lib.hid (inB_app (inB_app (headC_inB l) (startC_inB E)) HB.out)
    have HDL : Hid ((headC l ++ startC E ++ E.b).length ≤ 1099511627776) := Lib.hid (by simp only [List.length_append]; have := HHL.out; have := HSC.out; have := HM.out; have := HEL.out; omega)
    have HDE : Hid (shaF (headC l ++ startC E ++ E.b) = nextC (headC l) E) := Lib.hid rfl
    generalize headC l ++ startC E ++ E.b = HD at *
    obtain ⟨hn, hhn⟩ : ∃ hn, hn = HD.length := ⟨_, rfl⟩
    rw [← hhn] at hr5 HDL
    rw [← hhn]
    have HDN : Hid (HD.length = hn) := Lib.hid hhn.symm
    clear hhn
    have HB5 : Hid (Below w2.heap.size w2 w5) := Lib.hid (below_step (below_step HB3.out HB4.out) hr5.2.1)
    have HO5 : Hid (w5.ownsRow 0 5 1 (.slice ca hn cc) hn (HD.map (Value.int .u8))) := Lib.hid (by have h := hr5.1; rw [HDN.out] at h; exact h)
    have HF5 := Lib.hid hr5.2.2
    clear hr5 HCA
    have hd0 := (HB5.out.cell (p := ⟨p, 0, none⟩) HLT.out.1).trans HCC.out.1
    have hd1 := (HB5.out.cell (p := ⟨p, 1, none⟩) HLT.out.1).trans HCC.out.2
    obtain ⟨hy0, hy1⟩ := (HX2.out.below HB5.out).cells
    dsimp only
    go_wp2_with fail
    refine hK.out _ _ ?_ (fun hHeld => ?_)
    · exact ⟨hd0, hy0, hy1⟩
    clear hK K
    try simp only [Act.put, List.getElem_toArray, List.getElem_cons_succ, List.getElem_cons_zero]
    try simp only [List.setIfInBounds_toArray, List.set_cons_zero, List.set_cons_succ]
    refine wpAnyH_ready (rs := [15]) (by kernel_rfl) (by simp) ?_
    refine AllReadyH.cons rfl (fun K hK => ?_) AllReadyH.nil
    go_simp
    have HTT := Lib.hid (HT2.out.below HB5.out)
    have HON := Lib.hid (one_any tb ca HD hn cc w5 HTT.out HDN.out (owns_at HO5.out).2.1 HDB.out (Or.inr (fun a ha e => by have := HF5.out a.block (by rw [ha]; rfl); have := HLT.out.2.1; have := (below_step HB3.out HB4.out).size; omega)) HDL.out)
    with_reducible refine HON.out.mono ?_
    rintro e w6 ⟨g6, c6, rfl, ht6, ho6, hl6, hk6, hg6⟩
    have HT6 := Lib.hid ht6
    have HO6 := Lib.hid ho6
    have HK6 := Lib.hid hk6
    have HG6 := Lib.hid hg6
    clear ht6 ho6 hl6 hk6 hg6 HON HTT
    have hp6 : w6.heap[p]? = some (.cells #[.pointer (some ⟨tb, 0, none⟩), .slice ha 32 hc, .int .i64 (l.length : Int)] 95 (0, 0)) := (HK6.out.block p (by have := HLT.out.1; have := HB5.out.size; omega) HPT.out.2.2).trans ((HB5.out.block p HLT.out.1).trans HK2.out)
    have HP6 := Lib.hid hp6
    obtain ⟨hz0, hz1⟩ := ((HX2.out.below HB5.out).keep HK6.out (by have := HPT.out.2.1; omega)).cells
    have hf1 : w6.frozen? ⟨p, 1, none⟩ = false := blk_frozen hp6 1
    have hf2 : w6.cell? ⟨p, 1, none⟩ = some (.slice ha 32 hc) := blk_cell hp6 1
    clear hp6
    dsimp only
    go_wp2_with fail
    refine hK.out _ _ ?_ (fun hHeld => ?_)
    · exact ⟨blk_cell HP6.out 0, hz0, hz1⟩
    clear hK K
    try simp only [Act.put, List.getElem_toArray, List.getElem_cons_succ, List.getElem_cons_zero]
    try simp only [List.setIfInBounds_toArray, List.set_cons_zero, List.set_cons_succ]
    refine take_at (i := 16) (d := 27) (v := ?_) rfl rfl (by kernel_rfl) (by kernel_rfl) (by kernel_rfl) (fun _ _ _ h => h) (Or.inl ⟨by rfl, by intro w' hSw; (try dsimp only at hSw); go_simp; try with_reducible rfl⟩) (by assumption) ?_
    simp only [List.setIfInBounds_toArray, List.set_cons_zero, List.set_cons_succ]
    refine take_at (i := 17) (d := 28) (v := ?_) rfl rfl (by kernel_rfl) (by kernel_rfl) (by kernel_rfl) (fun _ _ _ h => h) (Or.inl ⟨by rfl, by intro w' hSw; (try dsimp only at hSw); go_simp; try with_reducible rfl⟩) (by assumption) ?_
    simp only [List.setIfInBounds_toArray, List.set_cons_zero, List.set_cons_succ]
    refine wpAnyH_ready (rs := [18]) (by kernel_rfl) (by simp) ?_
    refine AllReadyH.cons rfl (fun K hK => ?_) AllReadyH.nil
    go_simp
    go_wp2_with fail
    refine hK.out _ _ ?_ (fun hHeld => ?_)
    · exact ⟨blk_cell (blk_set HP6.out 1 _) 0, ((HX2.out.below HB5.out).keep HK6.out (by have := HPT.out.2.1; omega) |>.keep (S := fun i => i = p) ((Keeps.refl (fun i => i = p) w6).setCell (p := ⟨p, 1, none⟩) (Or.inl rfl) _) (by have := HPT.out.1; omega)).cells⟩
    clear hK K
    try simp only [Act.put, List.getElem_toArray, List.getElem_cons_succ, List.getElem_cons_zero]
    try simp only [List.setIfInBounds_toArray, List.set_cons_zero, List.set_cons_succ]
    refine wpAnyH_done (by kernel_rfl) ?_ _
    obtain ⟨w7, hw7⟩ : ∃ w7, w7 = w6.setCell ⟨p, 1, none⟩ (.slice (some ⟨g6, 0, none⟩) 32 c6) := ⟨_, rfl⟩
    have HP7 : Hid (w7.heap[p]? = some (.cells #[.pointer (some ⟨tb, 0, none⟩), .slice (some ⟨g6, 0, none⟩) 32 c6, .int .i64 (l.length : Int)] 95 (0, 0))) := Lib.hid (by rw [hw7]; simpa using blk_set HP6.out 1 (.slice (some ⟨g6, 0, none⟩) 32 c6))
    have HK7 : Hid (Keeps (fun i => i = p) w6 w7) := Lib.hid (by rw [hw7]; exact (Keeps.refl (fun i => i = p) w6).setCell (p := ⟨p, 1, none⟩) (Or.inl rfl) _)
    have HW7 := Lib.hid hw7
    rw [← hw7]
    clear hw7 hHeld
    have q2 : w7.cell? ⟨p, 2, none⟩ = some (.int .i64 (l.length : Int)) := blk_cell HP7.out 2
    have q3 : w7.frozen? ⟨p, 2, none⟩ = false := blk_frozen HP7.out 2
    have hw : wrap64 ((l.length : Int) + 1) = ((l.length + 1 : Nat) : Int) := by have := HL.out; unfold wrap64; omega
    go_wp2
    go_ret
    rw [HIF.out, HBD.out]
    have hk8 := (Keeps.refl (fun i => i = p) w7).setCell (p := ⟨p, 2, none⟩) (Or.inl rfl) (.int .i64 ((l.length + 1 : Nat) : Int))
    have hlp : p < w5.heap.size := by have := HLT.out.1; have := HB5.out.size; omega
    refine ⟨rfl, tab_keep (tab_keep HT6.out HK7.out (fun e => HPT.out.2.2 e.symm)) hk8 (fun e => HPT.out.2.2 e.symm), ⟨some ⟨g6, 0, none⟩, c6, ⟨?_, ?_⟩, fun _ g hg => ?_⟩, ?_⟩
    · have h := blk_set HP7.out 2 (.int .i64 ((l.length + 1 : Nat) : Int))
      rw [show (l ++ [E]).length = l.length + 1 from by simp]
      simpa using h
    · rw [headC_snoc, ← HDE.out]
      refine ownsRow_same (ownsRow_same HO6.out (fun g hg => HK7.out.block g (HO6.out.lt g hg).2 ?_)) (fun g hg => hk8.block g (Nat.lt_of_lt_of_le (HO6.out.lt g hg).2 HK7.out.size) ?_)
      · have : g6 = g := by simpa [Value.ownBlock] using hg
        have := HG6.out
        omega
      · have : g6 = g := by simpa [Value.ownBlock] using hg
        have := HG6.out
        omega
    · have : g6 = g := by simpa [Value.ownBlock] using hg
      have := HG6.out
      have := HB5.out.size
      have := HB2.out.size
      omega
    · refine ((((Keeps.of_below (S := fun i => i = tb ∨ i = p) HB2.out).step HB5.out).trans HK6.out (fun i hi => Or.inl (Or.inl hi))).trans HK7.out (fun i hi => Or.inl (Or.inr hi))).trans hk8 (fun i hi => Or.inl (Or.inr hi))
  · skip
    go_simp
    first | refine (startC_any E ao m c w2.drew HOK.out HM.out).mono ?_ | refine (startC_any E ao m c w2.drew.drew HOK.out HM.out).mono ?_
    rintro e w3 ⟨sa, sc, rfl, hr3⟩
    have HB3 : Hid (Below w2.heap.size w2 w3) := Lib.hid (below_undrew hr3.2.1)
    have HO3 := Lib.hid hr3.1
    have HX3 := Lib.hid (HX2.out.below HB3.out)
    have HF3 := Lib.hid hr3.2.2
    clear hr3 x0 x1
    obtain ⟨x0, x1⟩ := HX3.out.cells
    have c0 := (HB3.out.cell (p := ⟨p, 0, none⟩) HLT.out.1).trans c0
    have c1 := (HB3.out.cell (p := ⟨p, 1, none⟩) HLT.out.1).trans c1
    dsimp only
    go_wp2_with fail
    refine hK.out _ _ ?_ (fun hHeld => ?_)
    · exact ⟨c0, x0, x1⟩
    clear hK K
    try simp only [Act.put, List.getElem_toArray, List.getElem_cons_succ, List.getElem_cons_zero]
    try simp only [List.setIfInBounds_toArray, List.set_cons_zero, List.set_cons_succ]
    refine wpAnyH_ready (rs := [8]) (by kernel_rfl) (by simp) ?_
    refine AllReadyH.cons rfl (fun K hK => ?_) AllReadyH.nil
    go_simp
    go_wp2_with fail
    refine hK.out _ _ ?_ (fun hHeld => ?_)
    · exact hHeld
    clear hK K
    try simp only [Act.put, List.getElem_toArray, List.getElem_cons_succ, List.getElem_cons_zero]
    try simp only [List.setIfInBounds_toArray, List.set_cons_zero, List.set_cons_succ]
    refine wpAnyH_ready (rs := [13]) (by kernel_rfl) (by simp) ?_
    refine AllReadyH.cons rfl (fun K hK => ?_) AllReadyH.nil
    go_simp
    obtain ⟨w4, hw4⟩ : ∃ w4, w4 = w3.alloc (.cells #[.slice ha 32 hc, .slice sa (startC E).length sc, .slice ao m c] 29) := ⟨_, rfl⟩
    have HB4 : Hid (Below w3.heap.size w3 w4) := Lib.hid (by rw [hw4]; exact (Below.refl _ _).alloc (Nat.le_refl _) _)
    have HR4 : Hid (RowsIn w4 w3.heap.size [⟨ha, headC l, hc⟩, ⟨sa, startC E, sc⟩, ⟨ao, E.b, c⟩]) := Lib.hid (by
      have hz3 := ints_below HZ2.out HB3.out
      have h := rows3 (w := w3) (a := ⟨ha, headC l, hc⟩) (b := ⟨sa, startC E, sc⟩) (c := ⟨ao, E.b, c⟩) (ints_below (owns_at HO2.out).2.1 HB3.out) (owns_at HO3.out).2.1 hz3 29
      dsimp only at h
      rw [HHL.out, HM.out] at h
      rw [hw4]
      exact h)
    have hc0 := (HB4.out.cell (p := ⟨p, 0, none⟩) (by have := HLT.out.1; have := HB3.out.size; dsimp only; omega)).trans c0
    have hc1 := (HB4.out.cell (p := ⟨p, 1, none⟩) (by have := HLT.out.1; have := HB3.out.size; dsimp only; omega)).trans c1
    obtain ⟨hx0, hx1⟩ := (HX3.out.below HB4.out).cells
    have HW4 := Lib.hid hw4
    rw [← hw4]
    clear hw4
    go_wp2_with fail
    refine hK.out _ _ ?_ (fun hHeld => ?_)
    · exact ⟨hc0, hx0, hx1⟩
    clear hK K
    try simp only [Act.put, List.getElem_toArray, List.getElem_cons_succ, List.getElem_cons_zero]
    try simp only [List.setIfInBounds_toArray, List.set_cons_zero, List.set_cons_succ]
    refine wpAnyH_ready (rs := [14]) (by kernel_rfl) (by simp) ?_
    refine AllReadyH.cons rfl (fun K hK => ?_) AllReadyH.nil
    go_simp
    have HCA := Lib.hid (concat_any w3.heap.size [⟨ha, headC l, hc⟩, ⟨sa, startC E, sc⟩, ⟨ao, E.b, c⟩] 3 w4 rfl HR4.out (by rw [cat3]; simp only [List.length_append]; have := HHL.out; have := HSC.out; have := HM.out; have := HEL.out; omega) (by omega))
    with_reducible refine HCA.out.mono ?_
    rintro e w5 ⟨ca, cc, rfl, hr5⟩
    rw [cat3] at hr5
    rw [show catR [⟨ha, headC l, hc⟩, ⟨sa, startC E, sc⟩, ⟨ao, E.b, c⟩] 3 = headC l ++ startC E ++ E.b from cat3 _ _ _]
    have HDB : Hid (InB (headC l ++ startC E ++ E.b)) := Lib.hid (inB_app (inB_app (headC_inB l) (startC_inB E)) HB.out)
    have HDL : Hid ((headC l ++ startC E ++ E.b).length ≤ 1099511627776) := Lib.hid (by simp only [List.length_append]; have := HHL.out; have := HSC.out; have := HM.out; have := HEL.out; omega)
    have HDE : Hid (shaF (headC l ++ startC E ++ E.b) = nextC (headC l) E) := Lib.hid rfl
    generalize headC l ++ startC E ++ E.b = HD at *
    obtain ⟨hn, hhn⟩ : ∃ hn, hn = HD.length := ⟨_, rfl⟩
    rw [← hhn] at hr5 HDL
    rw [← hhn]
    have HDN : Hid (HD.length = hn) := Lib.hid hhn.symm
    clear hhn
    have HB5 : Hid (Below w2.heap.size w2 w5) := Lib.hid (below_step (below_step HB3.out HB4.out) hr5.2.1)
    have HO5 : Hid (w5.ownsRow 0 5 1 (.slice ca hn cc) hn (HD.map (Value.int .u8))) := Lib.hid (by have h := hr5.1; rw [HDN.out] at h; exact h)
    have HF5 := Lib.hid hr5.2.2
    clear hr5 HCA
    have hd0 := (HB5.out.cell (p := ⟨p, 0, none⟩) HLT.out.1).trans HCC.out.1
    have hd1 := (HB5.out.cell (p := ⟨p, 1, none⟩) HLT.out.1).trans HCC.out.2
    obtain ⟨hy0, hy1⟩ := (HX2.out.below HB5.out).cells
    dsimp only
    go_wp2_with fail
    refine hK.out _ _ ?_ (fun hHeld => ?_)
    · exact ⟨hd0, hy0, hy1⟩
    clear hK K
    try simp only [Act.put, List.getElem_toArray, List.getElem_cons_succ, List.getElem_cons_zero]
    try simp only [List.setIfInBounds_toArray, List.set_cons_zero, List.set_cons_succ]
    refine wpAnyH_ready (rs := [15]) (by kernel_rfl) (by simp) ?_
    refine AllReadyH.cons rfl (fun K hK => ?_) AllReadyH.nil
    go_simp
    have HTT := Lib.hid (HT2.out.below HB5.out)
    have HON := Lib.hid (one_any tb ca HD hn cc w5 HTT.out HDN.out (owns_at HO5.out).2.1 HDB.out (Or.inr (fun a ha e => by have := HF5.out a.block (by rw [ha]; rfl); have := HLT.out.2.1; have := (below_step HB3.out HB4.out).size; omega)) HDL.out)
    with_reducible refine HON.out.mono ?_
    rintro e w6 ⟨g6, c6, rfl, ht6, ho6, hl6, hk6, hg6⟩
    have HT6 := Lib.hid ht6
    have HO6 := Lib.hid ho6
    have HK6 := Lib.hid hk6
    have HG6 := Lib.hid hg6
    clear ht6 ho6 hl6 hk6 hg6 HON HTT
    have hp6 : w6.heap[p]? = some (.cells #[.pointer (some ⟨tb, 0, none⟩), .slice ha 32 hc, .int .i64 (l.length : Int)] 95 (0, 0)) := (HK6.out.block p (by have := HLT.out.1; have := HB5.out.size; omega) HPT.out.2.2).trans ((HB5.out.block p HLT.out.1).trans HK2.out)
    have HP6 := Lib.hid hp6
    obtain ⟨hz0, hz1⟩ := ((HX2.out.below HB5.out).keep HK6.out (by have := HPT.out.2.1; omega)).cells
    have hf1 : w6.frozen? ⟨p, 1, none⟩ = false := blk_frozen hp6 1
    have hf2 : w6.cell? ⟨p, 1, none⟩ = some (.slice ha 32 hc) := blk_cell hp6 1
    clear hp6
    dsimp only
    go_wp2_with fail
    refine hK.out _ _ ?_ (fun hHeld => ?_)
    · exact ⟨blk_cell HP6.out 0, hz0, hz1⟩
    clear hK K
    try simp only [Act.put, List.getElem_toArray, List.getElem_cons_succ, List.getElem_cons_zero]
    try simp only [List.setIfInBounds_toArray, List.set_cons_zero, List.set_cons_succ]
    refine take_at (i := 16) (d := 27) (v := ?_) rfl rfl (by kernel_rfl) (by kernel_rfl) (by kernel_rfl) (fun _ _ _ h => h) (Or.inl ⟨by rfl, by intro w' hSw; (try dsimp only at hSw); go_simp; try with_reducible rfl⟩) (by assumption) ?_
    simp only [List.setIfInBounds_toArray, List.set_cons_zero, List.set_cons_succ]
    refine take_at (i := 17) (d := 28) (v := ?_) rfl rfl (by kernel_rfl) (by kernel_rfl) (by kernel_rfl) (fun _ _ _ h => h) (Or.inl ⟨by rfl, by intro w' hSw; (try dsimp only at hSw); go_simp; try with_reducible rfl⟩) (by assumption) ?_
    simp only [List.setIfInBounds_toArray, List.set_cons_zero, List.set_cons_succ]
    refine wpAnyH_ready (rs := [18]) (by kernel_rfl) (by simp) ?_
    refine AllReadyH.cons rfl (fun K hK => ?_) AllReadyH.nil
    go_simp
    go_wp2_with fail
    refine hK.out _ _ ?_ (fun hHeld => ?_)
    · exact ⟨blk_cell (blk_set HP6.out 1 _) 0, ((HX2.out.below HB5.out).keep HK6.out (by have := HPT.out.2.1; omega) |>.keep (S := fun i => i = p) ((Keeps.refl (fun i => i = p) w6).setCell (p := ⟨p, 1, none⟩) (Or.inl rfl) _) (by have := HPT.out.1; omega)).cells⟩
    clear hK K
    try simp only [Act.put, List.getElem_toArray, List.getElem_cons_succ, List.getElem_cons_zero]
    try simp only [List.setIfInBounds_toArray, List.set_cons_zero, List.set_cons_succ]
    refine wpAnyH_done (by kernel_rfl) ?_ _
    obtain ⟨w7, hw7⟩ : ∃ w7, w7 = w6.setCell ⟨p, 1, none⟩ (.slice (some ⟨g6, 0, none⟩) 32 c6) := ⟨_, rfl⟩
    have HP7 : Hid (w7.heap[p]? = some (.cells #[.pointer (some ⟨tb, 0, none⟩), .slice (some ⟨g6, 0, none⟩) 32 c6, .int .i64 (l.length : Int)] 95 (0, 0))) := Lib.hid (by rw [hw7]; simpa using blk_set HP6.out 1 (.slice (some ⟨g6, 0, none⟩) 32 c6))
    have HK7 : Hid (Keeps (fun i => i = p) w6 w7) := Lib.hid (by rw [hw7]; exact (Keeps.refl (fun i => i = p) w6).setCell (p := ⟨p, 1, none⟩) (Or.inl rfl) _)
    have HW7 := Lib.hid hw7
    rw [← hw7]
    clear hw7 hHeld
    have q2 : w7.cell? ⟨p, 2, none⟩ = some (.int .i64 (l.length : Int)) := blk_cell HP7.out 2
    have q3 : w7.frozen? ⟨p, 2, none⟩ = false := blk_frozen HP7.out 2
    have hw : wrap64 ((l.length : Int) + 1) = ((l.length + 1 : Nat) : Int) := by have := HL.out; unfold wrap64; omega
    go_wp2
    go_ret
    rw [HIF.out, HBD.out]
    have hk8 := (Keeps.refl (fun i => i = p) w7).setCell (p := ⟨p, 2, none⟩) (Or.inl rfl) (.int .i64 ((l.length + 1 : Nat) : Int))
    have hlp : p < w5.heap.size := by have := HLT.out.1; have := HB5.out.size; omega
    refine ⟨rfl, tab_keep (tab_keep HT6.out HK7.out (fun e => HPT.out.2.2 e.symm)) hk8 (fun e => HPT.out.2.2 e.symm), ⟨some ⟨g6, 0, none⟩, c6, ⟨?_, ?_⟩, fun _ g hg => ?_⟩, ?_⟩
    · have h := blk_set HP7.out 2 (.int .i64 ((l.length + 1 : Nat) : Int))
      rw [show (l ++ [E]).length = l.length + 1 from by simp]
      simpa using h
    · rw [headC_snoc, ← HDE.out]
      refine ownsRow_same (ownsRow_same HO6.out (fun g hg => HK7.out.block g (HO6.out.lt g hg).2 ?_)) (fun g hg => hk8.block g (Nat.lt_of_lt_of_le (HO6.out.lt g hg).2 HK7.out.size) ?_)
      · have : g6 = g := by simpa [Value.ownBlock] using hg
        have := HG6.out
        omega
      · have : g6 = g := by simpa [Value.ownBlock] using hg
        have := HG6.out
        omega
    · have : g6 = g := by simpa [Value.ownBlock] using hg
      have := HG6.out
      have := HB5.out.size
      have := HB2.out.size
      omega
    · refine ((((Keeps.of_below (S := fun i => i = tb ∨ i = p) HB2.out).step HB5.out).trans HK6.out (fun i hi => Or.inl (Or.inl hi))).trans HK7.out (fun i hi => Or.inl (Or.inr hi))).trans hk8 (fun i hi => Or.inl (Or.inr hi))

end Go.Proofs.Ytbhoakohpfdeoaa
