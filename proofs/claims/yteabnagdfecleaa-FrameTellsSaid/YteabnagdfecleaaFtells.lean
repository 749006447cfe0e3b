/- FrameTells is true for every input, and its arguments read behind the call as before; no condition: the walk. -/
import Derived.Test.YteabnagdfecleaaFf
import Derived.Test.YteabnagdfecleaaFr5
import Derived.Test.YteabnagdfecleaaTake
import Derived.Test.YteabnagdfecleaaFrA
namespace Go.Proofs.Yteabnagdfecleaa
open Go.RowKit
set_option linter.unusedVariables false
set_option linter.unusedSimpArgs false

set_option maxRecDepth 100000 in
set_option maxHeartbeats 4000000 in
theorem ftells_core (W : World) (F : FR) (ao : Option Addr) (m c : Nat) (n : Int) (hm : F.b.length = m) (hz : IntsAt .u8 W ao F.b) (hB : InB F.b) (hc : m ≤ c) (hcm : c ≤ maxLen) :
    Calls Try.prog 3 #[.agg #[.int .i64 F.k, .int .i64 F.g, .int .i64 F.s, .slice ao m c], .int .i64 n] W fun e w' => e = .returned (.bool true) ∧ Below W.heap.size W w' := by
  have HM := Lib.hid hm
  have HZ := Lib.hid hz
  have HB := Lib.hid hB
  have HC := Lib.hid (And.intro hc hcm)
  obtain ⟨w0, hw0⟩ : ∃ w0, w0 = W.alloc (.cells #[.int .i64 F.k, .int .i64 F.g, .int .i64 F.s, .slice ao m c] 24) := ⟨_, rfl⟩
  have HX0 : Hid (BoxF w0 W.heap.size F ao m c) := Lib.hid (by rw [hw0]; exact heap_alloc_new _ _)
  have HB0 : Hid (Below W.heap.size W w0) := Lib.hid (by rw [hw0]; exact (Below.refl _ _).alloc (Nat.le_refl _) _)
  have HW0 := Lib.hid hw0
  clear hm hz hB hc hcm hw0
  go_enter Try.func3, Try.ntmps3
  go_wp2_with fail
  rw [← HW0.out]
  refine (first7_any w0).mono ?_
  rintro e w1 ⟨rfl, hb1⟩
  have HX1 := Lib.hid (HX0.out.below hb1)
  have HB1 : Hid (Below W.heap.size W w1) := Lib.hid (below_step HB0.out hb1)
  clear hb1
  obtain ⟨c0, c1, c2, c3⟩ := HX1.out.cells
  by_cases hbig : (70000 : Int) < (m : Int)
  · go_wp2_with fail
    refine (first7_any w1).mono ?_
    rintro e w2 ⟨rfl, hb2⟩
    have HB2 : Hid (Below W.heap.size W w2) := Lib.hid (below_step HB1.out hb2)
    clear hb2
    go_wp2
    go_ret
    exact ⟨rfl, HB2.out⟩
  go_upto_region 5 with fail
  have HBX := Lib.hid (blk_lt HX1.out)
  have hnt := newTable_any w1.drew
  have HNT := Lib.hid hnt
  clear hnt
  refine wp_region_held_drew (S := fun w' => w'.cell? ⟨W.heap.size, 0, none⟩ = some (.int .i64 F.k) ∧ w'.cell? ⟨W.heap.size, 1, none⟩ = some (.int .i64 F.g) ∧ w'.cell? ⟨W.heap.size, 2, none⟩ = some (.int .i64 F.s) ∧ w'.cell? ⟨W.heap.size, 3, none⟩ = some (.slice ao m c)) (by kernel_rfl) ?_ (fun hHeld => ?_)
  · exact ⟨c0, c1, c2, c3⟩
  refine take_at (i := 1) (d := 18) (v := ?_) rfl rfl (by kernel_rfl) (by kernel_rfl) (by kernel_rfl) (fun _ _ _ h => h) (Or.inl ⟨by rfl, by intro w' hSw; (try dsimp only at hSw); go_simp; try with_reducible rfl⟩) (by assumption) ?_
  simp only [List.setIfInBounds_toArray, List.set_cons_zero, List.set_cons_succ]
  refine wpAnyH_ready (rs := [0]) (by kernel_rfl) (by simp) ?_
  refine AllReadyH.cons rfl (fun K hK => ?_) AllReadyH.nil
  go_simp
  go_at_call 14
  refine HNT.out.mono ?_
  rintro e w2 ⟨rfl, ht2, hb2⟩
  have HS2 : Hid (St W w1.heap.size w2) := Lib.hid ⟨ht2, below_step (HB1.out.drew) hb2, HB1.out.size⟩
  have HX2 : Hid (BoxF w2 W.heap.size F ao m c) := Lib.hid (BoxF.below (w := w1.drew) HX1.out hb2)
  clear ht2 hb2
  dsimp only
  go_wp2_with fail
  refine hK.out _ _ ?_ (fun hHeld => ?_)
  · exact HX2.out.cells
  clear hK K
  try simp only [Act.put, List.getElem_toArray, List.getElem_cons_succ, List.getElem_cons_zero]
  try simp only [List.setIfInBounds_toArray, List.set_cons_zero, List.set_cons_succ]
  have HPT := Lib.hid (put_st HS2.out F ao m c (Lie.arg HM.out HZ.out HB.out HC.out.1 HC.out.2 HS2.out))
  refine wpAnyH_ready (rs := [2]) (by kernel_rfl) (by simp) ?_
  refine AllReadyH.cons rfl (fun K hK => ?_) AllReadyH.nil
  go_simp
  go_at_call 13
  refine HPT.out.mono ?_
  rintro e w3 ⟨a3, c3', rfl, hs3, hk3, ho3⟩
  have HS3 := Lib.hid hs3
  have HX3 : Hid (BoxF w3 W.heap.size F ao m c) := Lib.hid (HX2.out.step hk3 (by have := HBX.out; omega))
  have HO3 := Lib.hid ho3
  clear hs3 hk3 ho3
  dsimp only
  go_wp2_with fail
  refine hK.out _ _ ?_ (fun hHeld => ?_)
  · exact HX3.out.cells
  clear hK K
  try simp only [Act.put, List.getElem_toArray, List.getElem_cons_succ, List.getElem_cons_zero]
  try simp only [List.setIfInBounds_toArray, List.set_cons_zero, List.set_cons_succ]
  refine take_at (i := 3) (d := 16) (v := ?_) rfl rfl (by kernel_rfl) (by kernel_rfl) (by kernel_rfl) (fun _ _ _ h => h) (Or.inl ⟨by rfl, by intro w' hSw; (try dsimp only at hSw); go_simp; try with_reducible rfl⟩) (by assumption) ?_
  simp only [List.setIfInBounds_toArray, List.set_cons_zero, List.set_cons_succ]
  refine take_at (i := 4) (d := 20) (v := ?_) rfl rfl (by kernel_rfl) (by kernel_rfl) (by kernel_rfl) (fun _ _ _ h => h) (Or.inl ⟨by rfl, by intro w' hSw; (try dsimp only at hSw); go_simp; try with_reducible rfl⟩) (by assumption) ?_
  simp only [List.setIfInBounds_toArray, List.set_cons_zero, List.set_cons_succ]
  refine take_at (i := 5) (d := 21) (v := ?_) rfl rfl (by kernel_rfl) (by kernel_rfl) (by kernel_rfl) (fun _ _ _ h => h) (Or.inl ⟨by rfl, by intro w' hSw; (try dsimp only at hSw); go_simp; try with_reducible rfl⟩) (by assumption) ?_
  simp only [List.setIfInBounds_toArray, List.set_cons_zero, List.set_cons_succ]
  refine take_at (i := 6) (d := 5) (v := ?_) rfl rfl (by kernel_rfl) (by kernel_rfl) (by kernel_rfl) (fun _ _ _ h => h) (Or.inl ⟨by rfl, by intro w' hSw; (try dsimp only at hSw); go_simp; try with_reducible rfl⟩) (by assumption) ?_
  simp only [List.setIfInBounds_toArray, List.set_cons_zero, List.set_cons_succ]
  refine take_at (i := 7) (d := 6) (v := ?_) rfl rfl (by kernel_rfl) (by kernel_rfl) (by kernel_rfl) (fun _ _ _ h => h) (Or.inl ⟨by rfl, by intro w' hSw; (try dsimp only at hSw); go_simp; try with_reducible rfl⟩) (by assumption) ?_
  simp only [List.setIfInBounds_toArray, List.set_cons_zero, List.set_cons_succ]
  refine wpAnyH_done (by kernel_rfl) ?_ _
  clear hHeld c0 c1 c2 c3
  obtain ⟨c0, c1, c2, c3⟩ := HX3.out.cells
  have HRP := Lib.hid (rput_any F ao m c w3 HM.out (ints_below HZ.out HS3.out.bel) HB.out)
  go_wp2_with fail
  refine HRP.out.mono ?_
  rintro e w4 ⟨a4, k4, rfl, hr4⟩
  have HS4 := Lib.hid (HS3.out.below hr4.2.1)
  have HO4 := Lib.hid (HO3.out.below hr4.2.1)
  have HP4 := Lib.hid (RowAt.own (tb := w1.heap.size) hr4 HS3.out.lt rfl (putR_inB HB.out))
  clear hr4 c0 c1 c2 c3
  go_wp2_with fail
  refine (first7_any w4).mono ?_
  rintro e w5 ⟨rfl, hb5⟩
  have HS5 := Lib.hid (HS4.out.below hb5)
  have HBE := Lib.hid (bytes_eq a3 a4 (putR F).1 (putR F).1 _ _ c3' k4 w5 rfl rfl (HO4.out.below hb5).lie.ints (HP4.out.below hb5).lie.ints (putR_inB HB.out) (putR_inB HB.out))
  rw [eqB_self] at HBE
  clear hb5
  generalize (putR F).2 = er at *
  generalize (putR F).1.length = le at *
  go_wp2_with fail
  refine HBE.out.mono ?_
  rintro e w6 ⟨rfl, rfl⟩
  rename World => w5
  go_wp2_with fail
  refine (sectors_any n w5).mono ?_
  rintro e w6 ⟨rfl, rfl⟩
  rename World => w5
  go_wp2_with fail
  refine (rsectors_any n w5).mono ?_
  rintro e w6 ⟨rfl, rfl⟩
  rename World => w5
  go_wp2
  go_ret
  exact ⟨rfl, HS5.out.bel⟩

theorem walk_frameTells (W : World) (F : FR) (ao : Option Addr) (m c : Nat) (hm : F.b.length = m) (hz : IntsAt .u8 W ao F.b) (hB : InB F.b) (hc : m ≤ c) (hcm : c ≤ maxLen) (n : Int) (hn : (Lit.int .i64 n).wf = true) :
    Calls Try.prog 3 #[.agg #[.int .i64 F.k, .int .i64 F.g, .int .i64 F.s, .slice ao m c], .int .i64 n] W fun e w' => e = .returned (.bool true) ∧ Below W.heap.size W w' :=
  ftells_core W F ao m c n hm hz hB hc hcm

end Go.Proofs.Yteabnagdfecleaa
