/- FrameReads is true for every input, and its arguments read behind the call as before; no condition: the walk. -/
import Derived.Test.YteabnagdfecleaaFf
import Derived.Test.YteabnagdfecleaaFr9
import Derived.Test.YteabnagdfecleaaFrA
namespace Go.Proofs.Yteabnagdfecleaa
open Go.RowKit
set_option linter.unusedVariables false
set_option linter.unusedSimpArgs false

theorem getF_inB {zs : List Int} (h : InB zs) : InB (getF zs).1.b := by
  unfold getF
  split
  · intro z hz; cases hz
  · split
    · exact inB_take (inB_drop (catS_inB h _) _) _
    · intro z hz; cases hz
/-- Get, within a law. -/
theorem get_st {W w : World} {tb : Nat} (hs : St W tb w) (ao : Option Addr) (zs : List Int) (m c : Nat) (hl : Lie tb w ao zs m c) (hm : m ≤ 1000000) :
    Calls Try.prog 19 #[.pointer (some ⟨tb, 0, none⟩), .slice ao m c] w fun e w' => ∃ a2 c2, e = .returned (.tuple #[.agg #[.int .i64 (getF zs).1.k, .int .i64 (getF zs).1.g, .int .i64 (getF zs).1.s, .slice a2 (getF zs).1.b.length c2], .int .i64 (getF zs).2.1, .int .i64 (getF zs).2.2]) ∧ St W tb w' ∧ Keeps (fun i => i = tb) w w' ∧ Own tb w' a2 (getF zs).1.b (getF zs).1.b.length c2 := by
  refine (get_any tb ao zs m c w hs.tab hl hm).mono ?_
  rintro e w' ⟨a2, c2, rfl, h⟩
  exact ⟨a2, c2, rfl, h.st hs, h.2.2.1, h.own hs.lt rfl (getF_inB hl.inb)⟩

theorem putR_ok {F : FR} (h : (putR F).2 = 0) : F.ok ∧ F.b.length ≤ 60000 ∧ putR F = (putF F, 0) := by
  unfold putR at h ⊢
  by_cases h1 : 60000 < F.b.length
  · rw [if_pos h1] at h; cases h
  · rw [if_neg h1] at h ⊢
    by_cases h2 : F.ok
    · rw [if_pos h2]; exact ⟨h2, by omega, rfl⟩
    · rw [if_neg h2] at h; cases h
theorem putR_no {F : FR} (h : (putR F).2 ≠ 0) : (putR F).1 = [] := by
  unfold putR at h ⊢
  by_cases h1 : 60000 < F.b.length
  · rw [if_pos h1]
  · rw [if_neg h1] at h ⊢
    by_cases h2 : F.ok
    · rw [if_pos h2] at h; exact absurd rfl h
    · rw [if_neg h2]
theorem put_mark (F : FR) (hl : F.b.length ≤ 60000) : (putF F).getD 0 0 = 1 := by
  have h := put_mark0 (F := F) (rest := []) hl
  rwa [List.append_nil] at h
theorem getF_at (F : FR) (hl : F.b.length ≤ 60000) (hF : F.ok) (j : Nat) (hj : j < (F.b.length + 86) / 63) : (getF ((putF F).drop (64 * j))).2.2 = (if j = 0 then 0 else 2) ∧ (putF F).getD (64 * j) 0 = markI j := by
  have h1 := put_marks F [] j hj
  rw [List.append_nil] at h1
  refine ⟨?_, h1⟩
  by_cases e : j = 0
  · subst e
    have h2 := getF_put hl hF []
    rw [List.append_nil] at h2
    rw [Nat.mul_zero, List.drop_zero, h2, if_pos rfl]
  · have h2 := getF_other F [] j (by omega) hj
    rw [List.append_nil] at h2
    rw [h2, if_neg e]

set_option maxRecDepth 100000 in
set_option maxHeartbeats 4000000 in
theorem freads_core (W : World) (ao : Option Addr) (zs : List Int) (m c : Nat) (hm : zs.length = m) (hz : IntsAt .u8 W ao zs) (hB : InB zs) (hc : m ≤ c) (hcm : c ≤ maxLen) :
    Calls Try.prog 4 #[.slice ao m c] W fun e w' => e = .returned (.bool true) ∧ Below W.heap.size W w' := by
  have HM := Lib.hid hm
  have HZ := Lib.hid hz
  have HB := Lib.hid hB
  have HC := Lib.hid (And.intro hc hcm)
  clear hm hz hB hc hcm
  go_enter Try.func4, Try.ntmps4
  go_wp2_with fail
  refine (first7_any W).mono ?_
  rintro e w1 ⟨rfl, hb1⟩
  have HB1 := Lib.hid hb1
  clear hb1
  by_cases hbig : (70000 : Int) < (m : Int)
  · go_wp2_with fail
    refine (first7_any w1).mono ?_
    rintro e w2 ⟨rfl, hb2⟩
    have HB2 : Hid (Below W.heap.size W w2) := Lib.hid (below_step HB1.out hb2)
    clear hb2
    go_wp2
    go_ret
    exact ⟨rfl, HB2.out⟩
  have HML : Hid (m ≤ 70000) := Lib.hid (by omega)
  go_wp2_with fail
  refine (newTable_any w1).mono ?_
  rintro e w2 ⟨rfl, ht2, hb2⟩
  have HS2 : Hid (St W w1.heap.size w2) := Lib.hid ⟨ht2, below_step HB1.out hb2, HB1.out.size⟩
  clear ht2 hb2
  generalize w1.heap.size = tb at *
  have HGT := Lib.hid (get_st HS2.out ao zs m c (Lie.arg HM.out HZ.out HB.out HC.out.1 HC.out.2 HS2.out) (by have := HML.out; omega))
  have HGI := Lib.hid (getF_inB HB.out)
  have HRG := Lib.hid (fun (wx : World) (h : St W tb wx) => rget_any ao zs m c wx HM.out (ints_below HZ.out h.bel) HB.out HC.out.1 HC.out.2 (by have := HML.out; omega))
  generalize getF zs = G at *
  obtain ⟨F, k, er⟩ := G
  dsimp only at HGT HGI HRG
  unfold RGetPost at HRG
  dsimp only at HRG
  go_wp2_with fail
  refine HGT.out.mono ?_
  rintro e w3 ⟨a3, c3, rfl, hs3, hk3, ho3⟩
  have HS3 := Lib.hid hs3
  obtain ⟨w4, hw4⟩ : ∃ w4, w4 = w3.alloc (.cells #[.int .i64 F.k, .int .i64 F.g, .int .i64 F.s, .slice a3 F.b.length c3] 24) := ⟨_, rfl⟩
  have HX4 : Hid (FBox w4 w3.heap.size F.k F.g F.s (.slice a3 F.b.length c3)) := Lib.hid (by rw [hw4]; exact FBox.new _ _ _ _ _)
  have hb4 : Below w3.heap.size w3 w4 := by rw [hw4]; exact (Below.refl _ _).alloc (Nat.le_refl _) _
  have HS4 := Lib.hid (HS3.out.below hb4)
  have HI4 := Lib.hid (ints_below ho3.lie.ints hb4)
  have HW4 := Lib.hid hw4
  have HR4 := Lib.hid (HRG.out w4 HS4.out)
  have HXT : Hid (tb < w3.heap.size) := Lib.hid HS3.out.lt
  clear hs3 hk3 ho3 hb4 hw4 HGT HRG
  go_wp2_with fail
  rw [← HW4.out]
  generalize w3.heap.size = X at *
  refine HR4.out.mono ?_
  rintro e w5 ⟨a5, c5, rfl, hr5⟩
  obtain ⟨w6, hw6⟩ : ∃ w6, w6 = w5.alloc (.cells #[.int .i64 F.k, .int .i64 F.g, .int .i64 F.s, .slice a5 F.b.length c5] 24) := ⟨_, rfl⟩
  have hb6 : Below w5.heap.size w5 w6 := by rw [hw6]; exact (Below.refl _ _).alloc (Nat.le_refl _) _
  have HY6 : Hid (FBox w6 w5.heap.size F.k F.g F.s (.slice a5 F.b.length c5)) := Lib.hid (by rw [hw6]; exact FBox.new _ _ _ _ _)
  have HX6 := Lib.hid ((HX4.out.below hr5.2.1).below hb6)
  have HS6 := Lib.hid ((HS4.out.below hr5.2.1).below hb6)
  have HI6 := Lib.hid (ints_below (ints_below HI4.out hr5.2.1) hb6)
  have HJ6 := Lib.hid (ints_below (owns_at hr5.1).2.1 hb6)
  have HW6 := Lib.hid hw6
  clear hr5 hb6 hw6 HR4
  go_wp2_with fail
  rw [← HW6.out]
  generalize w5.heap.size = Y at *
  refine (first7_any w6).mono ?_
  rintro e w7 ⟨rfl, hb7⟩
  have HS7 := Lib.hid (HS6.out.below hb7)
  have HX7 := Lib.hid (HX6.out.below hb7)
  have HY7 := Lib.hid (HY6.out.below hb7)
  have HSF := Lib.hid (sameFrame_any F a3 a5 c3 c5 w7 (ints_below HI6.out hb7) (ints_below HJ6.out hb7) HGI.out)
  clear hb7 HX6 HY6 HI6 HJ6 HI4 HX4 HW4 HW6
  obtain ⟨n0, n1, n2, n3⟩ := HX7.out.cells
  obtain ⟨y0, y1, y2, y3⟩ := HY7.out.cells
  go_wp2_with fail
  refine HSF.out.mono ?_
  rintro e w8 ⟨rfl, hb8⟩
  have HS8 := Lib.hid (HS7.out.below hb8)
  clear hb8
  go_wp2
  go_ret
  exact ⟨rfl, HS8.out.bel⟩

theorem walk_frameReads (W : World) (ao : Option Addr) (zs : List Int) (cap : Nat) (hz : IntsAt .u8 W ao zs) (hc : zs.length ≤ cap) (wf : cap ≤ maxLen ∧ ∀ n ∈ zs, (Lit.int .u8 n).wf = true) :
    Calls Try.prog 4 #[.slice ao zs.length cap] W fun e w' => e = .returned (.bool true) ∧ Below W.heap.size W w' :=
  freads_core W ao zs zs.length cap rfl hz (inB_of_wf wf.2) hc wf.1

end Go.Proofs.Yteabnagdfecleaa
