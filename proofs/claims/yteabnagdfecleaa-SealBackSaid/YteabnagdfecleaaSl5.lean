/- The reference's Peek and OpenNote. -/
import Derived.Test.YteabnagdfecleaaSl4
namespace Go.Proofs.Yteabnagdfecleaa
open Go.RowKit
set_option linter.unusedVariables false
set_option linter.unusedSimpArgs false

theorem hd_get {zs : List Int} (i : Nat) (hi : i < zs.length) : hdF zs i 1 = zs.getD i 0 := by
  unfold hdF
  rw [List.drop_eq_getElem_cons hi, List.take_succ_cons, List.take_zero]
  simp [valB, List.getD, hi]
/-- What the reference's Peek tells. -/
def PeekR (w : World) (R : NR × Int) (e : Ending) (w' : World) : Prop := e = .returned (.tuple #[.int .i64 R.1.p, .int .i64 R.1.l, .int .i64 R.1.w, .int .i64 R.2]) ∧ Below w.heap.size w w'

set_option maxRecDepth 100000 in
set_option maxHeartbeats 4000000 in
theorem rpeek_any (ao : Option Addr) (zs : List Int) (m c : Nat) (w : World) (hlen : zs.length = m) (hz : IntsAt .u8 w ao zs) (hB : InB zs) (hc : m ≤ c) (hcm : c ≤ maxLen) (hm : m ≤ 1000000) :
    Calls Try.prog 28 #[.slice ao m c] w fun e w' => PeekR w (splitF zs) e w' := by
  have HLN := Lib.hid hlen
  have HZ := Lib.hid hz
  have HB := Lib.hid hB
  have HC := Lib.hid (And.intro hc hcm)
  have HM := Lib.hid hm
  clear hlen hz hB hc hcm hm
  have HN0 : Hid (PeekR w (noN, 2) (.returned (.tuple #[.int .i64 0, .int .i64 0, .int .i64 0, .int .i64 2])) w) := Lib.hid ⟨rfl, Below.refl _ _⟩
  by_cases h44 : (m : Int) < 44
  · have HG : Hid (splitF zs = (noN, 2)) := Lib.hid (by unfold splitF; rw [if_pos (by have := HLN.out; omega)])
    go_enter Try.func28, Try.ntmps28
    go_wp2_with fail
    refine bodyPost_ret (v := .tuple #[.int .i64 0, .int .i64 0, .int .i64 0, .int .i64 2]) (by simp [results, Try.results28, go_sem]) rfl ?_
    rw [HG.out]
    exact HN0.out
  have HM44 : Hid (44 ≤ m) := Lib.hid (by omega)
  obtain ⟨bb, bo, rfl⟩ : ∃ b off, ao = some ⟨b, off, none⟩ := by
    rcases HZ.out with h | ⟨b, off, h, _⟩
    · have h1 := HLN.out; have := HM44.out; rw [h] at h1; simp at h1; omega
    · exact ⟨b, off, h⟩
  have hcl : ∀ i, i < m → w.cell? ⟨bb, bo + i, none⟩ = some (.int .u8 (hdF zs i 1)) := fun i hi => by
    rcases HZ.out with h | ⟨b, off, h, hcc⟩
    · have h1 := HLN.out; rw [h] at h1; simp at h1; omega
    · cases h; rw [hd_get i (by rw [HLN.out]; exact hi)]; exact hcc i (by rw [HLN.out]; exact hi)
  have d0 := hcl 0 (by omega)
  have d1 := hcl 1 (by omega)
  have d2 := hcl 2 (by omega)
  have d3 := hcl 3 (by omega)
  rw [Nat.add_zero] at d0
  clear hcl
  have HI1 := Lib.hid (hdF_1 HB.out 1 (by have := HLN.out; omega))
  have HI2 := Lib.hid (hdF_1 HB.out 2 (by have := HLN.out; omega))
  have HI3 := Lib.hid (hdF_1 HB.out 3 (by have := HLN.out; omega))
  have HNI := Lib.hid (hdF_4 HB.out 8 (by have := HLN.out; omega))
  obtain ⟨nn, hnn⟩ : ∃ nn : Nat, hdF zs 8 4 = (nn : Int) := ⟨(hdF zs 8 4).toNat, by have := HNI.out; omega⟩
  have HNI2 : Hid ((nn : Int) ≤ 4294967295) := Lib.hid (by have := HNI.out; omega)
  have HSD : Hid (splitF zs = if hdF zs 0 1 = 110 ∧ hdF zs 1 1 < 16 ∧ hdF zs 2 1 ≤ 1 ∧ hdF zs 3 1 ≤ 1 ∧ (nn : Int) ≤ 60000 ∧ (m : Int) = 44 + (nn : Int) then (⟨hdF zs 1 1, hdF zs 2 1, hdF zs 3 1, hdF zs 4 4, (zs.drop 12).take (m - 44)⟩, 0) else (noN, 2)) := Lib.hid (by
    unfold splitF
    rw [if_neg (by rw [HLN.out]; have := HM44.out; omega), hnn, HLN.out])
  obtain ⟨S, hS⟩ : ∃ S, S = (zs.drop 8).take 4 := ⟨_, rfl⟩
  have HSN : Hid (S.length = 4) := Lib.hid (by rw [hS, List.length_take, List.length_drop, HLN.out]; have := HM44.out; omega)
  have hdb := dec_box 82 (w := w) (b := bb) (off := bo + 8) (zs := S) (n := 4) (c := c - 8) HSN.out (by rw [hS]; exact (HZ.out.drop 8).take 4) (by rw [hS]; exact inB_take (inB_drop HB.out 8) 4) (by have := HC.out.1; have := HM44.out; omega) (by have := HC.out.2; omega) (by omega) (by omega)
  have HSB : Hid (InB S) := Lib.hid (by rw [hS]; exact inB_take (inB_drop HB.out 8) 4)
  obtain ⟨w1, hw1⟩ : ∃ w1, w1 = w.alloc (.cells #[.slice (some ⟨bb, bo + 8, none⟩) 4 (c - 8), .int .i64 0] 82) := ⟨_, rfl⟩
  rw [← hw1] at hdb
  have HB1 : Hid (Below w.heap.size w w1) := Lib.hid (by rw [hw1]; exact (Below.refl _ _).alloc (Nat.le_refl _) _)
  have HDC := Lib.hid (DI.rnum (w0 := w) (w := w1) (p := w.heap.size) (g := bb) (zs := S) ⟨hdb.1, HB1.out, Nat.le_refl _⟩ HSB.out 4 (by omega) (by rw [HSN.out]; omega))
  rw [show S.take 4 = (zs.drop 8).take 4 by rw [hS, List.take_take]; rfl, show valB ((zs.drop 8).take 4) = (nn : Int) from hnn] at HDC
  have HBC : Hid (bb < w.heap.size) := Lib.hid hdb.2
  have HW1 := Lib.hid hw1
  clear hnn hS hdb hw1
  generalize hdF zs 0 1 = f0 at *
  generalize hdF zs 1 1 = p0 at *
  generalize hdF zs 2 1 = l0 at *
  generalize hdF zs 3 1 = x0 at *
  have i1 : 1 < m := by omega
  have i2 : 2 < m := by omega
  have i3 : 3 < m := by omega
  have i0 : 0 < m := by omega
  by_cases t1 : f0 = 110
  case neg =>
    have HG : Hid (splitF zs = (noN, 2)) := Lib.hid (by rw [HSD.out, if_neg (fun h => t1 h.1)])
    have hb : (f0 != (110 : Int)) = true := by simp [t1]
    clear t1
    go_enter Try.func28, Try.ntmps28
    go_wp2_with fail
    refine bodyPost_ret (v := .tuple #[.int .i64 0, .int .i64 0, .int .i64 0, .int .i64 2]) (by simp [results, Try.results28, go_sem]) rfl ?_
    rw [HG.out]
    exact HN0.out
  case pos =>
  have hb1 : (f0 != (110 : Int)) = false := by simp [t1]
  have HT1 := Lib.hid t1
  clear t1
  by_cases t2 : 16 ≤ p0
  · have HG : Hid (splitF zs = (noN, 2)) := Lib.hid (by rw [HSD.out, if_neg (fun h => by have := h.2.1; omega)])
    go_enter Try.func28, Try.ntmps28
    go_wp2_with fail
    refine bodyPost_ret (v := .tuple #[.int .i64 0, .int .i64 0, .int .i64 0, .int .i64 2]) (by simp [results, Try.results28, go_sem]) rfl ?_
    rw [HG.out]
    exact HN0.out
  by_cases t3 : 1 < l0
  · have HG : Hid (splitF zs = (noN, 2)) := Lib.hid (by rw [HSD.out, if_neg (fun h => by have := h.2.2.1; omega)])
    go_enter Try.func28, Try.ntmps28
    go_wp2_with fail
    refine bodyPost_ret (v := .tuple #[.int .i64 0, .int .i64 0, .int .i64 0, .int .i64 2]) (by simp [results, Try.results28, go_sem]) rfl ?_
    rw [HG.out]
    exact HN0.out
  by_cases t4 : 1 < x0
  · have HG : Hid (splitF zs = (noN, 2)) := Lib.hid (by rw [HSD.out, if_neg (fun h => by have := h.2.2.2.1; omega)])
    go_enter Try.func28, Try.ntmps28
    go_wp2_with fail
    refine bodyPost_ret (v := .tuple #[.int .i64 0, .int .i64 0, .int .i64 0, .int .i64 2]) (by simp [results, Try.results28, go_sem]) rfl ?_
    rw [HG.out]
    exact HN0.out
  have j1 : (12 : Int) ≤ (c : Int) := by have := HC.out.1; have := HM44.out; omega
  have j2 : 12 ≤ c := by have := HC.out.1; have := HM44.out; omega
  have j3 : ¬ c = 8 := by omega
  go_enter Try.func28, Try.ntmps28
  go_wp2_with fail
  rw [← HW1.out]
  refine HDC.out.mono ?_
  rintro e w2 ⟨rfl, hd2, hk2⟩
  have HB2 : Hid (Below w.heap.size w w2) := Lib.hid hd2.2.1
  have e1 : w2.cell? ⟨bb, bo + 1, none⟩ = some (.int .u8 p0) := (HB2.out.cell (p := ⟨bb, bo + 1, none⟩) HBC.out).trans d1
  have e2 : w2.cell? ⟨bb, bo + 2, none⟩ = some (.int .u8 l0) := (HB2.out.cell (p := ⟨bb, bo + 2, none⟩) HBC.out).trans d2
  have e3 : w2.cell? ⟨bb, bo + 3, none⟩ = some (.int .u8 x0) := (HB2.out.cell (p := ⟨bb, bo + 3, none⟩) HBC.out).trans d3
  have HE := Lib.hid (And.intro e1 (And.intro e2 e3))
  clear hd2 hk2 HDC d0 d1 d2 d3 hb1 j1 j2 j3 e1 e2 e3
  have HN2 : Hid (PeekR w (noN, 2) (.returned (.tuple #[.int .i64 0, .int .i64 0, .int .i64 0, .int .i64 2])) w2) := Lib.hid ⟨rfl, HB2.out⟩
  have HWN : Hid (wrap64 (44 + (nn : Int)) = 44 + (nn : Int)) := Lib.hid (by have := HNI2.out; unfold wrap64; omega)
  by_cases t5 : (60000 : Int) < (nn : Int)
  · have HG : Hid (splitF zs = (noN, 2)) := Lib.hid (by rw [HSD.out, if_neg (fun h => by have := h.2.2.2.2.1; omega)])
    go_wp2_with fail
    refine bodyPost_ret (v := .tuple #[.int .i64 0, .int .i64 0, .int .i64 0, .int .i64 2]) (by simp [results, Try.results28, go_sem]) rfl ?_
    rw [HG.out]
    exact HN2.out
  by_cases t6 : m = 44 + nn
  case neg =>
    have HG : Hid (splitF zs = (noN, 2)) := Lib.hid (by rw [HSD.out, if_neg (fun h => by have := h.2.2.2.2.2; omega)])
    have hb : ((m : Int) != 44 + (nn : Int)) = true := by rw [bne_iff_ne]; omega
    clear t6
    obtain v1 := HWN.out
    go_wp2_with fail
    refine bodyPost_ret (v := .tuple #[.int .i64 0, .int .i64 0, .int .i64 0, .int .i64 2]) (by simp [results, Try.results28, go_sem]) rfl ?_
    rw [HG.out]
    exact HN2.out
  case pos =>
  have hb6 : ((m : Int) != 44 + (nn : Int)) = false := by rw [bne_eq_false_iff_eq]; omega
  have HG : Hid (splitF zs = (⟨p0, l0, x0, hdF zs 4 4, (zs.drop 12).take (m - 44)⟩, 0)) := Lib.hid (by
    rw [HSD.out, if_pos ⟨HT1.out, by omega, by omega, by omega, by omega, by omega⟩])
  clear t6
  obtain v1 := HWN.out
  go_upto_region 7 with fail
  clear v1 hb6 t2 t3 t4 t5
  obtain ⟨e1, e2, e3⟩ := HE.out
  have k1 : IntKind.i64.wrap p0 = p0 := by have := HI1.out; rw [IntKind.wrap_i64]; omega
  have k2 : IntKind.i64.wrap l0 = l0 := by have := HI2.out; rw [IntKind.wrap_i64]; omega
  have k3 : IntKind.i64.wrap x0 = x0 := by have := HI3.out; rw [IntKind.wrap_i64]; omega
  go_quiet (fail)
  go_wp2_with fail
  refine bodyPost_ret (v := .tuple #[.int .i64 p0, .int .i64 l0, .int .i64 x0, .int .i64 0]) (by simp [results, Try.results28, go_sem]) rfl ?_
  rw [HG.out]
  exact ⟨rfl, ((Keeps.of_below (S := fun _ => False) HB2.out).drewN nq).below (Nat.le_refl _) (fun _ h => h.elim)⟩

end Go.Proofs.Yteabnagdfecleaa
