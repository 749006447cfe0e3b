/- The reference's Text of a frame. -/
import Derived.Test.YteabnagdfecleaaFr2
import Derived.Test.YteabnagdfecleaaRefe2
import Derived.Test.YteabnagdfecleaaShaR3
import Derived.Lib.SlBytesConst
namespace Go.Proofs.Yteabnagdfecleaa
open Go.RowKit
set_option linter.unusedVariables false
set_option linter.unusedSimpArgs false

def textR (F : FR) : List Int × Int := if 60000 < F.b.length then ([], 3) else if F.ok then (textF F, 0) else ([], 1)
section
variable {w0 w w' : World} {p : Nat} {bs bs' : List Int} {e e' : Int}
theorem EI.rnum (h : EI 98 w0 p bs e w) (n size : Int) (hlen : bs.length ≤ 1000000) :
    Calls Try.prog 53 #[.pointer (some ⟨p, 0, none⟩), .int .i64 n, .int .i64 size] w fun en w' => en = .returned (.tuple #[]) ∧ EI 98 w0 p (refNum bs e n size).1 (refNum bs e n size).2 w' := by
  obtain ⟨v, h1, h2, h3, h4⟩ := h
  refine (refnum_any p v bs e n size w h1 (by omega)).mono ?_
  rintro en w' ⟨rfl, hp⟩
  exact ⟨rfl, EI.step h1 h2 h3 h4 hp⟩
theorem EI.raw (h : EI 98 w0 p bs e w) (ao : Option Addr) (zs : List Int) (n cap : Nat) (hn : zs.length = n) (hz : IntsAt .u8 w ao zs) (hlen : bs.length + n ≤ 1000000) :
    Calls Try.prog 52 #[.pointer (some ⟨p, 0, none⟩), .slice ao n cap] w fun en w' => en = .returned (.tuple #[]) ∧ EI 98 w0 p (bs ++ zs) e w' := by
  obtain ⟨v, h1, h2, h3, h4⟩ := h
  refine (raw_any p v bs e w h1 ao zs n cap hn hz (by omega)).mono ?_
  rintro en w' ⟨rfl, hp⟩
  exact ⟨rfl, EI.step h1 h2 h3 h4 hp⟩
theorem EI.later {T : TypeId} (h : EI T w0 p bs e w) (hb : Below w.heap.size w w') : EI T w0 p bs e w' := by
  obtain ⟨v, h1, h2, h3, h4⟩ := h
  exact ⟨v, h1.keep (S := fun _ => False) (Keeps.of_below hb) (fun _ _ h => h), below_step h2 hb, h3, h4⟩
/-- What an encoder holds. -/
theorem EI.open {T : TypeId} (h : EI T w0 p bs e w) : ∃ ao cap, w.cell? ⟨p, 0, none⟩ = some (.slice ao bs.length cap) ∧ RowAt w0 (.slice ao bs.length cap) bs w := by
  obtain ⟨v, h1, h2, h3, h4⟩ := h
  obtain ⟨ao, cap, rfl⟩ := enc_form h1
  exact ⟨ao, cap, blk_cell h1.1 0, h1.2.1, h2, h4⟩
end
theorem refNum_ok (bs : List Int) (n : Int) (s : Nat) (hs : 1 ≤ s ∧ s ≤ 7) (h0 : 0 ≤ n) (h1 : n < 2 ^ (8 * s)) : refNum bs 0 n s = (bs ++ putB n s, 0) := by
  have h := encNum_ok bs n s hs h0 h1
  unfold encNum at h
  rw [if_pos rfl] at h
  unfold refNum
  by_cases hf : fitsB n s = true
  · rw [if_pos hf]; rw [if_pos hf] at h; exact h
  · rw [if_neg hf] at h; simp at h
theorem fits_1 (n : Int) : fitsB n 1 = decide (0 ≤ n ∧ n ≤ 255) := by
  rw [show (1 : Int) = ((1 : Nat) : Int) from rfl, fitsB_small n 1 (by omega) (by omega)]
  have : (2 : Int) ^ (8 * 1) = 256 := by decide
  rw [this]
  simp only [decide_eq_decide]
  omega
theorem fits_4 (n : Int) : fitsB n 4 = decide (0 ≤ n ∧ n ≤ 4294967295) := by
  rw [show (4 : Int) = ((4 : Nat) : Int) from rfl, fitsB_small n 4 (by omega) (by omega)]
  have : (2 : Int) ^ (8 * 4) = 4294967296 := by decide
  rw [this]
  simp only [decide_eq_decide]
  omega

set_option maxRecDepth 100000 in
set_option maxHeartbeats 4000000 in
theorem rtext_any (F : FR) (ao : Option Addr) (m c : Nat) (w : World) (hm : F.b.length = m) (hz : IntsAt .u8 w ao F.b) (hB : InB F.b) :
    Calls Try.prog 32 #[.agg #[.int .i64 F.k, .int .i64 F.g, .int .i64 F.s, .slice ao m c]] w fun e w' => RowPost2 w (textR F).1 (textR F).2 e w' := by
  have HM := Lib.hid hm
  have HZ := Lib.hid hz
  have HB := Lib.hid hB
  obtain ⟨w1, hw1⟩ : ∃ w1, w1 = w.alloc (.cells #[.int .i64 F.k, .int .i64 F.g, .int .i64 F.s, .slice ao m c] 24) := ⟨_, rfl⟩
  have HX1 : Hid (BoxF w1 w.heap.size F ao m c) := Lib.hid (by rw [hw1]; exact heap_alloc_new _ _)
  have HB1 : Hid (Below w.heap.size w w1) := Lib.hid (by rw [hw1]; exact (Below.refl _ _).alloc (Nat.le_refl _) _)
  have HBL : Hid (w.heap.size < w1.heap.size) := Lib.hid (blk_lt HX1.out)
  have HW1 := Lib.hid hw1
  have kc := fun (w : World) (C : Array Value) (n c : Nat) => Lib.run_convert_bytes_const (P := Try.prog) w 22 5 C n c Try.underlying22 Try.underlying5
  clear hm hz hB
  have HNIL : Hid (RowAt w (.slice none 0 0) [] w1) := Lib.hid ⟨World.ownsRow_nil _ _ _ _, HB1.out, fun g (h : (Value.slice none 0 0).ownBlock = some g) => by cases h⟩
  obtain ⟨c0, c1, c2, c3⟩ := HX1.out.cells
  rw [hw1] at c0 c1 c2 c3
  clear hw1
  by_cases hl : (60000 : Int) < (m : Int)
  · have HR := Lib.hid (show textR F = ([], 3) by unfold textR; rw [if_pos (by have := HM.out; omega)])
    go_enter Try.func32, Try.ntmps32
    go_wp2_with fail
    rw [← HW1.out]
    go_ret2
    rw [HR.out]
    exact ⟨none, 0, rfl, HNIL.out⟩
  have HF1 := Lib.hid (fits_1 F.k)
  have HF2 := Lib.hid (fits_4 F.g)
  have HF3 := Lib.hid (fits_4 F.s)
  have HL := Lib.hid hl
  go_enter Try.func32, Try.ntmps32
  go_wp2_with fail
  rw [← HW1.out]
  refine (fits_any F.k 1 w1).mono ?_
  rintro e w1' ⟨rfl, rfl⟩
  obtain ⟨c0, c1, c2, c3⟩ := HX1.out.cells
  by_cases hk : 0 ≤ F.k ∧ F.k ≤ 255
  case neg =>
    have HR := Lib.hid (show textR F = ([], 1) by unfold textR; rw [if_neg (by have := HM.out; have := HL.out; omega), if_neg (fun h => hk h.1)])
    rw [HF1.out, decide_eq_false hk]
    clear hk
    go_wp2_with fail
    go_ret2
    rw [HR.out]
    exact ⟨none, 0, rfl, HNIL.out⟩
  case pos =>
  rw [HF1.out, decide_eq_true hk]
  have HOK1 := Lib.hid hk
  clear hk
  go_wp2_with fail
  refine (fits_any F.g 4 w1).mono ?_
  rintro e w1' ⟨rfl, rfl⟩
  by_cases hg : 0 ≤ F.g ∧ F.g ≤ 4294967295
  case neg =>
    have HR := Lib.hid (show textR F = ([], 1) by unfold textR; rw [if_neg (by have := HM.out; have := HL.out; omega), if_neg (fun h => hg h.2.1)])
    rw [HF2.out, decide_eq_false hg]
    clear hg
    go_wp2_with fail
    go_ret2
    rw [HR.out]
    exact ⟨none, 0, rfl, HNIL.out⟩
  case pos =>
  rw [HF2.out, decide_eq_true hg]
  have HOK2 := Lib.hid hg
  clear hg
  go_wp2_with fail
  refine (fits_any F.s 4 w1).mono ?_
  rintro e w1' ⟨rfl, rfl⟩
  by_cases hs : 0 ≤ F.s ∧ F.s ≤ 4294967295
  case neg =>
    have HR := Lib.hid (show textR F = ([], 1) by unfold textR; rw [if_neg (by have := HM.out; have := HL.out; omega), if_neg (fun h => hs h.2.2)])
    rw [HF3.out, decide_eq_false hs]
    clear hs
    go_wp2_with fail
    go_ret2
    rw [HR.out]
    exact ⟨none, 0, rfl, HNIL.out⟩
  case pos =>
  rw [HF3.out, decide_eq_true hs]
  have HOK3 := Lib.hid hs
  clear hs
  have HF : Hid F.ok := Lib.hid ⟨HOK1.out, HOK2.out, HOK3.out⟩
  have HR := Lib.hid (show textR F = (textF F, 0) by unfold textR; rw [if_neg (by have := HM.out; have := HL.out; omega), if_pos HF.out])
  have HHE : Hid (headF F = putB 25446 2 ++ putB F.k 1 ++ putB 0 1 ++ putB F.g 4 ++ putB F.s 4 ++ putB m 4) := Lib.hid (by unfold headF; rw [HM.out])
  have HHL := Lib.hid (headF_len F)
  clear HF1 HF2 HF3 HNIL HOK1 HOK2 HOK3 HW1 c0 c1 c2 c3
  go_upto_region 6 with fail
  obtain ⟨w2, hw2⟩ : ∃ w2, w2 = w1.alloc (.cells #[.slice none 0 0, .int .i64 0] 98) := ⟨_, rfl⟩
  have HE2 : Hid (EI 98 w1 w1.heap.size [] 0 w2) := Lib.hid (by rw [hw2]; exact EI.start _ w1)
  rw [← hw2]
  clear hw2
  generalize hp : w1.heap.size = p at *
  have HPE := Lib.hid hp
  clear hp
  obtain ⟨w3, hw3⟩ : ∃ w3, w3 = w2.alloc (.cells #[.int .u8 99, .int .u8 102] 5 (2, 3)) := ⟨_, rfl⟩
  have hb3 : Below w2.heap.size w2 w3 := by rw [hw3]; exact (Below.refl _ _).alloc (Nat.le_refl _) _
  have HI3 : Hid (IntsAt .u8 w3 (some ⟨w2.heap.size, 0, none⟩) [99, 102]) := Lib.hid (by
    refine Or.inr ⟨_, _, rfl, fun i hi => ?_⟩
    rw [Nat.zero_add, hw3, World.cell?_alloc_mark]
    match i, hi with
    | 0, _ => rfl
    | 1, _ => rfl)
  have HE3 := Lib.hid (HE2.out.later hb3)
  have HC3 := Lib.hid (HE3.out.raw (some ⟨w2.heap.size, 0, none⟩) [99, 102] 2 2 rfl HI3.out (by simp))
  have HW3 := Lib.hid hw3
  clear hw3 hb3
  go_wp2_with fail
  rw [← HW3.out]
  refine HC3.out.mono ?_
  rintro e w4 ⟨rfl, he⟩
  have HE4 : Hid (EI 98 w1 p (putB 25446 2) 0 w4) := Lib.hid he
  clear he HE2 HE3 HC3 HI3 HW3
  have HC4 := Lib.hid (HE4.out.rnum F.k 1 (by simp [putB_length]))
  rw [show refNum (putB 25446 2) 0 F.k 1 = (putB 25446 2 ++ putB F.k 1, 0) from refNum_ok (putB 25446 2) F.k 1 (by omega) HF.out.1.1 (by have := HF.out.1.2; omega)] at HC4
  obtain ⟨c0, c1, c2, c3⟩ := (BoxF.below (HX1.out) (HE4.out.below.mono (Nat.le_refl _))).cells
  go_wp2_with fail
  refine HC4.out.mono ?_
  rintro e w5 ⟨rfl, he⟩
  have HE5 := Lib.hid he
  clear he c0 c1 c2 c3
  have HC5 := Lib.hid (HE5.out.rnum 0 1 (by simp [putB_length]))
  rw [show refNum (putB 25446 2 ++ putB F.k 1) 0 0 1 = (putB 25446 2 ++ putB F.k 1 ++ putB 0 1, 0) from refNum_ok (putB 25446 2 ++ putB F.k 1) 0 1 (by omega) (by omega) (by decide)] at HC5
  obtain ⟨c0, c1, c2, c3⟩ := (BoxF.below (HX1.out) (HE5.out.below.mono (Nat.le_refl _))).cells
  go_wp2_with fail
  refine HC5.out.mono ?_
  rintro e w6 ⟨rfl, he⟩
  have HE6 := Lib.hid he
  clear he c0 c1 c2 c3
  have HC6 := Lib.hid (HE6.out.rnum F.g 4 (by simp [putB_length]))
  rw [show refNum (putB 25446 2 ++ putB F.k 1 ++ putB 0 1) 0 F.g 4 = (putB 25446 2 ++ putB F.k 1 ++ putB 0 1 ++ putB F.g 4, 0) from refNum_ok (putB 25446 2 ++ putB F.k 1 ++ putB 0 1) F.g 4 (by omega) HF.out.2.1.1 (by have := HF.out.2.1.2; omega)] at HC6
  obtain ⟨c0, c1, c2, c3⟩ := (BoxF.below (HX1.out) (HE6.out.below.mono (Nat.le_refl _))).cells
  go_wp2_with fail
  refine HC6.out.mono ?_
  rintro e w7 ⟨rfl, he⟩
  have HE7 := Lib.hid he
  clear he c0 c1 c2 c3
  have HC7 := Lib.hid (HE7.out.rnum F.s 4 (by simp [putB_length]))
  rw [show refNum (putB 25446 2 ++ putB F.k 1 ++ putB 0 1 ++ putB F.g 4) 0 F.s 4 = (putB 25446 2 ++ putB F.k 1 ++ putB 0 1 ++ putB F.g 4 ++ putB F.s 4, 0) from refNum_ok (putB 25446 2 ++ putB F.k 1 ++ putB 0 1 ++ putB F.g 4) F.s 4 (by omega) HF.out.2.2.1 (by have := HF.out.2.2.2; omega)] at HC7
  obtain ⟨c0, c1, c2, c3⟩ := (BoxF.below (HX1.out) (HE7.out.below.mono (Nat.le_refl _))).cells
  go_wp2_with fail
  refine HC7.out.mono ?_
  rintro e w8 ⟨rfl, he⟩
  have HE8 := Lib.hid he
  clear he c0 c1 c2 c3
  have HC8 := Lib.hid (HE8.out.rnum (m : Int) 4 (by simp [putB_length]))
  rw [show refNum (putB 25446 2 ++ putB F.k 1 ++ putB 0 1 ++ putB F.g 4 ++ putB F.s 4) 0 (m : Int) 4 = (putB 25446 2 ++ putB F.k 1 ++ putB 0 1 ++ putB F.g 4 ++ putB F.s 4 ++ putB m 4, 0) from refNum_ok (putB 25446 2 ++ putB F.k 1 ++ putB 0 1 ++ putB F.g 4 ++ putB F.s 4) (m : Int) 4 (by omega) (by omega) (by have := HL.out; omega)] at HC8
  obtain ⟨c0, c1, c2, c3⟩ := (BoxF.below (HX1.out) (HE8.out.below.mono (Nat.le_refl _))).cells
  go_wp2_with fail
  refine HC8.out.mono ?_
  rintro e w9 ⟨rfl, he⟩
  have HE9 := Lib.hid he
  clear he c0 c1 c2 c3
  rw [← HHE.out] at HE9
  clear HC4 HC5 HC6 HC7 HC8 HE4 HE5 HE6 HE7 HE8
  go_upto_region 12 with fail
  have HX9 := Lib.hid (BoxF.below (HX1.out) (HE9.out.below.mono (Nat.le_refl _)))
  obtain ⟨vo, vc, cv, hrow⟩ := HE9.out.open
  rw [HHL.out] at cv hrow
  have HV9 := Lib.hid (owns_at hrow.1).2.1
  have HB9 : Hid (Below w.heap.size w w9) := Lib.hid (below_step HB1.out hrow.2.1)
  have HZ9 := Lib.hid (ints_below HZ.out HB9.out)
  have HPL : Hid (p < w9.heap.size) := Lib.hid (World.block_lt_of_cell? w9 _ cv)
  clear hrow
  obtain ⟨_, _, _, cb⟩ := HX9.out.cells
  have HCB := Lib.hid (copyBytes vo (headF F) 16 vc w9.drew HHL.out (HV9.out.same (w' := w9.drew) (fun _ _ _ => rfl)) (by omega))
  obtain ⟨i0, hi, hz0, hz1, hz2⟩ := info_parts Try_infoU8
  refine wp_region_held_drew (S := fun w' => w'.cell? ⟨p, 0, none⟩ = some (.slice vo 16 vc) ∧ w'.cell? ⟨w.heap.size, 3, none⟩ = some (.slice ao m c)) (by kernel_rfl) ?_ (fun hHeld => ?_)
  · exact ⟨cv, cb⟩
  refine take_at (i := 0) (d := 51) (v := ?_) rfl rfl (by kernel_rfl) (by kernel_rfl) (by kernel_rfl) (fun _ _ _ h => h) (Or.inl ⟨by rfl, by intro w' hSw; (try dsimp only at hSw); go_simp; try with_reducible rfl⟩) (by assumption) ?_
  simp only [List.setIfInBounds_toArray, List.set_cons_zero, List.set_cons_succ]
  refine take_at (i := 1) (d := 52) (v := ?_) rfl rfl (by kernel_rfl) (by kernel_rfl) (by kernel_rfl) (fun _ _ _ h => h) (Or.inl ⟨by rfl, by intro w' hSw; (try dsimp only at hSw); go_simp; try with_reducible rfl⟩) (by assumption) ?_
  simp only [List.setIfInBounds_toArray, List.set_cons_zero, List.set_cons_succ]
  refine take_at (i := 2) (d := 53) (v := ?_) rfl rfl (by kernel_rfl) (by kernel_rfl) (by kernel_rfl) (fun _ _ _ h => h) (Or.inl ⟨by rfl, by intro w' hSw; (try dsimp only at hSw); go_simp; try with_reducible rfl⟩) (by assumption) ?_
  simp only [List.setIfInBounds_toArray, List.set_cons_zero, List.set_cons_succ]
  refine take_at (i := 3) (d := 54) (v := ?_) rfl rfl (by kernel_rfl) (by kernel_rfl) (by kernel_rfl) (fun _ _ _ h => h) (Or.inl ⟨by rfl, by intro w' hSw; (try dsimp only at hSw); go_simp; try with_reducible rfl⟩) (by assumption) ?_
  simp only [List.setIfInBounds_toArray, List.set_cons_zero, List.set_cons_succ]
  refine take_at (i := 5) (d := 56) (v := ?_) rfl rfl (by kernel_rfl) (by kernel_rfl) (by kernel_rfl) (fun _ _ _ h => h) (Or.inl ⟨by rfl, by intro w' hSw; (try dsimp only at hSw); go_simp; try with_reducible rfl⟩) (by assumption) ?_
  simp only [List.setIfInBounds_toArray, List.set_cons_zero, List.set_cons_succ]
  refine take_at (i := 6) (d := 57) (v := ?_) rfl rfl (by kernel_rfl) (by kernel_rfl) (by kernel_rfl) (fun _ _ _ h => h) (Or.inl ⟨by rfl, by intro w' hSw; (try dsimp only at hSw); go_simp; try with_reducible rfl⟩) (by assumption) ?_
  simp only [List.setIfInBounds_toArray, List.set_cons_zero, List.set_cons_succ]
  refine wpAnyH_ready (rs := [4]) (by kernel_rfl) (by simp) ?_
  refine AllReadyH.cons rfl (fun K hK => ?_) AllReadyH.nil
  go_simp
  go_at_call 22
  refine HCB.out.mono ?_
  rintro e w10 ⟨cao, ccap, rfl, ho10, hb10, hf10⟩
  rw [HHL.out] at ho10 hf10 ⊢
  have HO10 := Lib.hid ho10
  have HB10 : Hid (Below w9.heap.size w9 w10) := Lib.hid (below_step ((Keeps.refl (fun _ => False) w9).drew.below (Nat.le_refl _) (fun _ h => h.elim)) hb10)
  have HF10 : Hid (∀ g, (Value.slice cao 16 ccap).ownBlock = some g → w9.heap.size ≤ g) := Lib.hid (fun g hg => hf10 g hg)
  clear ho10 hb10 hf10
  dsimp only
  go_wp2_with fail
  refine hK.out _ _ ?_ (fun hHeld => ?_)
  · exact ⟨(HB10.out.cell (p := ⟨p, 0, none⟩) HPL.out).trans cv, (HB10.out.cell (p := ⟨w.heap.size, 3, none⟩) (blk_lt HX9.out)).trans cb⟩
  clear hK K
  try simp only [Act.put, List.getElem_toArray, List.getElem_cons_succ, List.getElem_cons_zero]
  try simp only [List.setIfInBounds_toArray, List.set_cons_zero, List.set_cons_succ]
  refine wpAnyH_ready (rs := [7]) (by kernel_rfl) (by simp) ?_
  refine AllReadyH.cons rfl (fun K hK => ?_) AllReadyH.nil
  refine step_append_any (by rfl) _ _ 22 (by rfl) 5 i0 (.int .u8 0) 1 1 Try.underlying22 hi hz0 hz1 hz2 rfl (by decide) (.slice cao 16 ccap) 16 ((headF F).map (Value.int .u8)) (by rfl) HO10.out ao m c (F.b.map (Value.int .u8)) (by rfl) (by simp [HM.out]) (fun e => by have := HZ.out; rw [e] at this; have h1 := ints_none this; have := HM.out; omega) (src_ints (ints_below HZ9.out HB10.out)) (ints_one _ _) (by have := HL.out; unfold maxLen; omega) (by have := HL.out; omega) ?_
  intro ao11 cap11 w11 hown hgrow hat hnn
  rw [← List.map_append] at hown
  have HR11 := Lib.hid hown
  have HK11 : Hid (Keeps (fun _ => False) w9 w11) := Lib.hid ((Keeps.of_below HB10.out).grown hgrow (fun i hi => Or.inr (HF10.out i hi)))
  have HN11 : Hid ((headF F ++ F.b).length = 16 + m) := Lib.hid (by rw [List.length_append, HHL.out, HM.out])
  clear hown hgrow hat hnn
  go_wp2_with fail
  refine hK.out _ _ ?_ (fun hHeld => ?_)
  · exact ⟨(World.cell?_of_block (a := ⟨p, 0, none⟩) (HK11.out.block p HPL.out (fun h => h))).trans cv, (World.cell?_of_block (a := ⟨w.heap.size, 3, none⟩) (HK11.out.block _ (blk_lt HX9.out) (fun h => h))).trans cb⟩
  clear hK K
  try simp only [Act.put, List.getElem_toArray, List.getElem_cons_succ, List.getElem_cons_zero]
  try simp only [List.setIfInBounds_toArray, List.set_cons_zero, List.set_cons_succ]
  have HB11 : Hid (Below w9.heap.size w9 w11) := Lib.hid (HK11.out.below (Nat.le_refl _) (fun _ h => h.elim))
  have HRH := Lib.hid (rhash_any ao11 (headF F ++ F.b) (16 + m) cap11 w11 HN11.out (owns_at HR11.out).2.1 (inB_app (headF_inB F) HB.out) (by have := HL.out; omega))
  refine wpAnyH_ready (rs := [8]) (by kernel_rfl) (by simp) ?_
  refine AllReadyH.cons rfl (fun K hK => ?_) AllReadyH.nil
  go_simp
  go_at_call 54
  refine HRH.out.mono ?_
  rintro e w12 ⟨ao12, c12, rfl, ho12, hb12, hf12⟩
  have HI12 := Lib.hid ((owns_at ho12).2.1.take 8)
  have HC12 := Lib.hid (owns_at ho12).2.2.1
  have HB12 : Hid (Below w9.heap.size w9 w12) := Lib.hid (below_step HB11.out hb12)
  clear ho12 hb12 hf12
  dsimp only
  go_wp2_with fail
  refine hK.out _ _ ?_ (fun hHeld => ?_)
  · exact ⟨(HB12.out.cell (p := ⟨p, 0, none⟩) HPL.out).trans cv, (HB12.out.cell (p := ⟨w.heap.size, 3, none⟩) (blk_lt HX9.out)).trans cb⟩
  clear hK K
  try simp only [Act.put, List.getElem_toArray, List.getElem_cons_succ, List.getElem_cons_zero]
  try simp only [List.setIfInBounds_toArray, List.set_cons_zero, List.set_cons_succ]
  refine take_at (i := 9) (d := 5) (v := ?_) rfl rfl (by kernel_rfl) (by kernel_rfl) (by kernel_rfl) (fun _ _ _ h => h) (Or.inl ⟨by rfl, by intro w' hSw; (try dsimp only at hSw); go_simp; try with_reducible rfl⟩) (by assumption) ?_
  simp only [List.setIfInBounds_toArray, List.set_cons_zero, List.set_cons_succ]
  refine wpAnyH_done (by kernel_rfl) ?_ _
  have HE12 := Lib.hid (HE9.out.later HB12.out)
  have HS8 : Hid (((shaF (headF F ++ F.b)).take 8).length = 8) := Lib.hid (by rw [List.length_take, shaF_len]; rfl)
  have HSL := Lib.hid (shaF_len (headF F ++ F.b))
  have HTE : Hid (textF F = headF F ++ (shaF (headF F ++ F.b)).take 8 ++ F.b) := Lib.hid rfl
  have HTN := Lib.hid (textF_len F)
  have HC32 : Hid (32 ≤ c12) := Lib.hid (by have := HC12.out; rw [HSL.out] at this; exact this)
  rw [HSL.out]
  have b8 : 8 ≤ c12 := by have := HC32.out; omega
  have b9 : (8 : Int) ≤ (c12 : Int) := by omega
  obtain ⟨S8, hS8⟩ : ∃ S8, S8 = (shaF (headF F ++ F.b)).take 8 := ⟨_, rfl⟩
  rw [← hS8] at HI12 HS8 HTE
  clear hS8 hHeld
  have HCA := Lib.hid (HE12.out.raw ao12 S8 8 c12 HS8.out HI12.out (by rw [HHL.out]; omega))
  have HX12 := Lib.hid (HX9.out.below HB12.out)
  clear cv cb
  go_wp2_with fail
  refine HCA.out.mono ?_
  rintro e w13 ⟨rfl, he⟩
  have HE13 := Lib.hid he
  clear he
  have HX13 := Lib.hid (BoxF.below (HX1.out) (HE13.out.below.mono (Nat.le_refl _)))
  have HZ13 := Lib.hid (ints_below HZ.out (below_step HB1.out HE13.out.below))
  obtain ⟨_, _, _, cb⟩ := HX13.out.cells
  have HCB2 := Lib.hid (HE13.out.raw ao F.b m c HM.out HZ13.out (by rw [List.length_append, HHL.out, HS8.out]; have := HL.out; omega))
  go_wp2_with fail
  refine HCB2.out.mono ?_
  rintro e w14 ⟨rfl, he⟩
  rw [← HTE.out] at he
  have HE14 := Lib.hid he
  clear he cb
  obtain ⟨ro, rc, cr, hrow⟩ := HE14.out.open
  have HRW : Hid (RowAt w (.slice ro (textF F).length rc) (textF F) w14) := Lib.hid ⟨hrow.1, below_step HB1.out hrow.2.1, fun g hg => Nat.le_trans HB1.out.size (hrow.2.2 g hg)⟩
  clear hrow
  go_wp2_with fail
  go_ret2
  rw [HR.out]
  exact ⟨ro, rc, rfl, HRW.out⟩

end Go.Proofs.Yteabnagdfecleaa
