/- Package seal: split, Peek. -/
import Derived.Test.YteabnagdfecleaaSl1
namespace Go.Proofs.Yteabnagdfecleaa
open Go.RowKit
set_option linter.unusedVariables false
set_option linter.unusedSimpArgs false

/-- What split hands back. -/
def SplitPost (w : World) (r : NR × Int) (e : Ending) (w' : World) : Prop := ∃ ao c, e = .returned (.tuple #[.agg #[.int .i64 r.1.p, .int .i64 r.1.l, .int .i64 r.1.w, .int .i64 r.1.s, .slice ao r.1.b.length c], .int .i64 r.2]) ∧ RowAt w (.slice ao r.1.b.length c) r.1.b w'
theorem split_none {w wr : World} {b : Nat} (hb : Below w.heap.size w wr) (hR : w.heap.size ≤ b) :
    SplitPost w (noN, 2) (.returned (.tuple #[.agg #[.int .i64 0, .int .i64 0, .int .i64 0, .int .i64 0, .slice none 0 0], .int .i64 2])) (fillN wr b 0 0 0 0 (.slice none 0 0)) :=
  ⟨none, 0, rfl, World.ownsRow_nil _ _ _ _, below_fp hb (fillN_keeps _ _ _ _ _ _ _) (fun i hi => by omega), fun g (hg : (Value.slice none 0 0).ownBlock = some g) => by cases hg⟩

set_option maxRecDepth 100000 in
set_option maxHeartbeats 4000000 in
theorem split_any (ao : Option Addr) (zs : List Int) (m c : Nat) (w : World) (hlen : zs.length = m) (hz : IntsAt .u8 w ao zs) (hB : InB zs) (hc : m ≤ c) (hcm : c ≤ maxLen) (hm : m ≤ 1000000) :
    Calls Try.prog 43 #[.slice ao m c] w fun e w' => SplitPost w (splitF zs) e w' := by
  have HLN := Lib.hid hlen
  have HZ := Lib.hid hz
  have HB := Lib.hid hB
  have HC := Lib.hid (And.intro hc hcm)
  have HM := Lib.hid hm
  obtain ⟨w1, hw1⟩ : ∃ w1, w1 = w.alloc (.cells #[.int .i64 0, .int .i64 0, .int .i64 0, .int .i64 0, .slice none 0 0] 46) := ⟨_, rfl⟩
  have HX1 : Hid (NBox w1 w.heap.size 0 0 0 0 (.slice none 0 0)) := Lib.hid (by rw [hw1]; exact NBox.new _ _ _ _ _ _)
  have HB1 : Hid (Below w.heap.size w w1) := Lib.hid (by rw [hw1]; exact (Below.refl _ _).alloc (Nat.le_refl _) _)
  have HW1 := Lib.hid hw1
  have HZ1 := Lib.hid (ints_below hz HB1.out)
  have HSZ : Hid (w.heap.size < w1.heap.size) := Lib.hid HX1.out.lt
  clear hlen hz hB hc hcm hm hw1
  by_cases h44 : (m : Int) < 44
  · have HG : Hid (splitF zs = (noN, 2)) := Lib.hid (by unfold splitF; rw [if_pos (by have := HLN.out; omega)])
    go_enter Try.func43, Try.ntmps43
    go_upto_region 2 with fail
    rw [← HW1.out]
    obtain ⟨f0', f1, f2, f3, f4⟩ := HX1.out.free
    obtain ⟨n0, n1, n2, n3, n4⟩ := HX1.out.cells
    go_wp2_with fail
    rw [show ((((w1.setCell ⟨w.heap.size, 0, none⟩ (.int .i64 0)).setCell ⟨w.heap.size, 1, none⟩ (.int .i64 0)).setCell ⟨w.heap.size, 2, none⟩ (.int .i64 0)).setCell ⟨w.heap.size, 3, none⟩ (.int .i64 0)).setCell ⟨w.heap.size, 4, none⟩ (.slice none 0 0) = fillN w1 w.heap.size 0 0 0 0 (.slice none 0 0) from rfl]
    obtain ⟨q0, q1, q2, q3, q4⟩ := (HX1.out.fill 0 0 0 0 (.slice none 0 0)).cells
    refine bodyPost_ret (v := .tuple #[.agg #[.int .i64 0, .int .i64 0, .int .i64 0, .int .i64 0, .slice none 0 0], .int .i64 2]) (by simp [results, Try.results43, go_sem, q0, q1, q2, q3, q4]) rfl ?_
    rw [HG.out]
    exact split_none HB1.out (Nat.le_refl _)
  have HM44 : Hid (44 ≤ m) := Lib.hid (by omega)
  have hc12 : (12 : Int) ≤ (c : Int) := by have := HC.out.1; omega
  have hc12' : 12 ≤ c := by have := HC.out.1; omega
  obtain ⟨bb, bo, rfl⟩ : ∃ b off, ao = some ⟨b, off, none⟩ := by
    rcases HZ.out with h | ⟨b, off, h, _⟩
    · have := HLN.out; have := HM44.out; rw [h] at *; simp at *; omega
    · exact ⟨b, off, h⟩
  obtain ⟨S, hS⟩ : ∃ S, S = zs.take 12 := ⟨_, rfl⟩
  have HSN : Hid (S.length = 12) := Lib.hid (by rw [hS, List.length_take, HLN.out]; have := HM44.out; omega)
  have HHD : Hid (∀ i s, i + s ≤ 12 → valB ((S.drop i).take s) = hdF zs i s) := Lib.hid (fun i s h => by rw [hS, List.drop_take, List.take_take, Nat.min_eq_left (by omega)]; rfl)
  have HBB : Hid (∀ i, InB (S.drop i)) := Lib.hid (fun i => by rw [hS]; exact inB_drop (inB_take HB.out 12) i)
  have HND := Lib.hid (newDec (some ⟨bb, bo, none⟩) S 12 c w1 HSN.out (by rw [hS]; exact HZ1.out.take 12) (by rw [hS]; exact inB_take HB.out 12) (by omega))
  clear hS
  go_enter Try.func43, Try.ntmps43
  go_wp2_with fail
  rw [← HW1.out]
  (with_reducible refine HND.out.mono ?_)
  rintro e w3 ⟨p, g, rfl, hd3, hb3, hp3, hg3⟩
  have HE0 : Hid (S = S.drop 0) := Lib.hid (by rw [List.drop_zero])
  have hd3' : DI 100 w1 p g S w3 := ⟨hd3, hb3, hp3⟩
  rw [HE0.out] at hd3'
  have HD3 := Lib.hid hd3'
  have HX3 := Lib.hid (HX1.out.below hb3)
  have HPG : Hid (w1.heap.size ≤ p ∧ w1.heap.size ≤ g ∧ w.heap.size < w1.heap.size) := Lib.hid ⟨hp3, hg3, HSZ.out⟩
  clear hd3 hd3' hb3 hp3 hg3 HND hc12 hc12' h44
  obtain ⟨f0, hf0⟩ : ∃ f0, f0 = hdF zs 0 1 := ⟨_, rfl⟩
  obtain ⟨p0, hp0⟩ : ∃ p0, p0 = hdF zs 1 1 := ⟨_, rfl⟩
  obtain ⟨l0, hl0⟩ : ∃ l0, l0 = hdF zs 2 1 := ⟨_, rfl⟩
  obtain ⟨x0, hx0⟩ : ∃ x0, x0 = hdF zs 3 1 := ⟨_, rfl⟩
  obtain ⟨s0, hs0⟩ : ∃ s0, s0 = hdF zs 4 4 := ⟨_, rfl⟩
  have HHX : Hid (hdF zs 0 1 = f0 ∧ hdF zs 1 1 = p0 ∧ hdF zs 2 1 = l0 ∧ hdF zs 3 1 = x0 ∧ hdF zs 4 4 = s0) := Lib.hid ⟨hf0.symm, hp0.symm, hl0.symm, hx0.symm, hs0.symm⟩
  clear hf0 hp0 hl0 hx0 hs0
  have HC3 := Lib.hid (HD3.out.num (HBB.out 0) 1 (by omega) (by rw [List.length_drop, HSN.out]; omega))
  rw [List.drop_drop, HHD.out 0 1 (by omega), HHX.out.1] at HC3
  go_wp2_with fail
  refine HC3.out.mono ?_
  rintro e w4 ⟨rfl, hd4, hk4⟩
  have HD4 := Lib.hid hd4
  have HX4 := Lib.hid (HX3.out.keep hk4 (by have := HPG.out; omega))
  clear hd4 hk4 HC3 HD3 HX3
  have HC4 := Lib.hid (HD4.out.num (HBB.out 1) 1 (by omega) (by rw [List.length_drop, HSN.out]; omega))
  rw [List.drop_drop, HHD.out 1 1 (by omega), HHX.out.2.1] at HC4
  go_wp2_with fail
  refine HC4.out.mono ?_
  rintro e w5 ⟨rfl, hd5, hk5⟩
  have HD5 := Lib.hid hd5
  have HX5 := Lib.hid (HX4.out.keep hk5 (by have := HPG.out; omega))
  clear hd5 hk5 HC4 HD4 HX4
  have HC5 := Lib.hid (HD5.out.num (HBB.out 2) 1 (by omega) (by rw [List.length_drop, HSN.out]; omega))
  rw [List.drop_drop, HHD.out 2 1 (by omega), HHX.out.2.2.1] at HC5
  go_wp2_with fail
  refine HC5.out.mono ?_
  rintro e w6 ⟨rfl, hd6, hk6⟩
  have HD6 := Lib.hid hd6
  have HX6 := Lib.hid (HX5.out.keep hk6 (by have := HPG.out; omega))
  clear hd6 hk6 HC5 HD5 HX5
  have HC6 := Lib.hid (HD6.out.num (HBB.out 3) 1 (by omega) (by rw [List.length_drop, HSN.out]; omega))
  rw [List.drop_drop, HHD.out 3 1 (by omega), HHX.out.2.2.2.1] at HC6
  go_wp2_with fail
  refine HC6.out.mono ?_
  rintro e w7 ⟨rfl, hd7, hk7⟩
  have HD7 := Lib.hid hd7
  have HX7 := Lib.hid (HX6.out.keep hk7 (by have := HPG.out; omega))
  clear hd7 hk7 HC6 HD6 HX6
  have HC7 := Lib.hid (HD7.out.num (HBB.out 4) 4 (by omega) (by rw [List.length_drop, HSN.out]; omega))
  rw [List.drop_drop, HHD.out 4 4 (by omega), HHX.out.2.2.2.2] at HC7
  go_wp2_with fail
  refine HC7.out.mono ?_
  rintro e w8 ⟨rfl, hd8, hk8⟩
  have HD8 := Lib.hid hd8
  have HX8 := Lib.hid (HX7.out.keep hk8 (by have := HPG.out; omega))
  clear hd8 hk8 HC7 HD7 HX7
  obtain ⟨w9, hw9⟩ : ∃ w9, w9 = w8.alloc (.cells #[.int .i64 p0, .int .i64 l0, .int .i64 x0, .int .i64 s0, .slice none 0 0] 46) := ⟨_, rfl⟩
  have HF9 : Hid (NBox w9 w8.heap.size p0 l0 x0 s0 (.slice none 0 0)) := Lib.hid (by rw [hw9]; exact NBox.new _ _ _ _ _ _)
  have HB9 : Hid (Below w8.heap.size w8 w9) := Lib.hid (by rw [hw9]; exact (Below.refl _ _).alloc (Nat.le_refl _) _)
  have HW9 := Lib.hid hw9
  have HD9 := Lib.hid (HD8.out.later HB9.out)
  have HX9 := Lib.hid (HX8.out.below HB9.out)
  have HPX : Hid (p < w8.heap.size ∧ w.heap.size < w8.heap.size) := Lib.hid ⟨HD8.out.1.lt, HX8.out.lt⟩
  have HNI := Lib.hid (hdF_4 HB.out 8 (by have := HLN.out; have := HM44.out; omega))
  obtain ⟨nn, hnn⟩ : ∃ nn : Nat, hdF zs 8 4 = (nn : Int) := ⟨(hdF zs 8 4).toNat, by have := HNI.out; omega⟩
  have HNN := Lib.hid hnn
  have HC9 := Lib.hid (HD9.out.num (HBB.out 8) 4 (by omega) (by rw [List.length_drop, HSN.out]; omega))
  rw [List.drop_drop, HHD.out 8 4 (by omega), hnn] at HC9
  clear hw9 hnn HD8 HX8
  go_wp2_with fail
  rw [← HW9.out]
  refine HC9.out.mono ?_
  rintro e w11 ⟨rfl, hd11, hk11⟩
  have HB11 : Hid (Below w.heap.size w w11) := Lib.hid (below_step HB1.out hd11.2.1)
  have HX11 := Lib.hid (HX9.out.keep hk11 (by have := HPG.out; omega))
  have HF11 := Lib.hid (HF9.out.keep hk11 (by have := HPX.out; omega))
  clear hd11 hk11 HC9 HD9 HX9 HF9 HB9 HW9
  generalize w8.heap.size = X at *
  have HWM : Hid (wrap64 ((m : Int) - 12) = (m : Int) - 12 ∧ wrap64 ((m : Int) - 12 - 32) = (m : Int) - 12 - 32) := Lib.hid (by have := HM.out; have := HM44.out; constructor <;> (unfold wrap64; omega))
  have HSD : Hid (splitF zs = if f0 = 110 ∧ p0 < 16 ∧ l0 ≤ 1 ∧ x0 ≤ 1 ∧ (nn : Int) ≤ 60000 ∧ (m : Int) = 44 + (nn : Int) then (⟨p0, l0, x0, s0, (zs.drop 12).take (m - 44)⟩, 0) else (noN, 2)) := Lib.hid (by
    unfold splitF
    rw [if_neg (by rw [HLN.out]; have := HM44.out; omega), HHX.out.1, HHX.out.2.1, HHX.out.2.2.1, HHX.out.2.2.2.1, HHX.out.2.2.2.2, HNN.out, HLN.out])
  obtain ⟨y0, y1, y2, y3, y4⟩ := HF11.out.cells
  by_cases t1 : f0 = 110
  case neg =>
    have HG : Hid (splitF zs = (noN, 2)) := Lib.hid (by rw [HSD.out, if_neg (fun h => t1 h.1)])
    have hb : (f0 != (110 : Int)) = true := by simp [t1]
    clear t1
    go_upto_region 8 with fail
    obtain ⟨f0', f1, f2, f3, f4⟩ := HX11.out.free
    obtain ⟨n0, n1, n2, n3, n4⟩ := HX11.out.cells
    go_wp2_with fail
    rw [show ((((w11.setCell ⟨w.heap.size, 0, none⟩ (.int .i64 0)).setCell ⟨w.heap.size, 1, none⟩ (.int .i64 0)).setCell ⟨w.heap.size, 2, none⟩ (.int .i64 0)).setCell ⟨w.heap.size, 3, none⟩ (.int .i64 0)).setCell ⟨w.heap.size, 4, none⟩ (.slice none 0 0) = fillN w11 w.heap.size 0 0 0 0 (.slice none 0 0) from rfl]
    obtain ⟨q0, q1, q2, q3, q4⟩ := (HX11.out.fill 0 0 0 0 (.slice none 0 0)).cells
    refine bodyPost_ret (v := .tuple #[.agg #[.int .i64 0, .int .i64 0, .int .i64 0, .int .i64 0, .slice none 0 0], .int .i64 2]) (by simp [results, Try.results43, go_sem, q0, q1, q2, q3, q4]) rfl ?_
    rw [HG.out]
    exact split_none HB11.out (Nat.le_refl _)
  case pos =>
  have hb1 : (f0 != (110 : Int)) = false := by simp [t1]
  have HT1 := Lib.hid t1
  clear t1
  by_cases t2 : 16 ≤ p0
  · have HG : Hid (splitF zs = (noN, 2)) := Lib.hid (by rw [HSD.out, if_neg (fun h => by have := h.2.1; omega)])
    go_upto_region 8 with fail
    obtain ⟨f0', f1, f2, f3, f4⟩ := HX11.out.free
    obtain ⟨n0, n1, n2, n3, n4⟩ := HX11.out.cells
    go_wp2_with fail
    rw [show ((((w11.setCell ⟨w.heap.size, 0, none⟩ (.int .i64 0)).setCell ⟨w.heap.size, 1, none⟩ (.int .i64 0)).setCell ⟨w.heap.size, 2, none⟩ (.int .i64 0)).setCell ⟨w.heap.size, 3, none⟩ (.int .i64 0)).setCell ⟨w.heap.size, 4, none⟩ (.slice none 0 0) = fillN w11 w.heap.size 0 0 0 0 (.slice none 0 0) from rfl]
    obtain ⟨q0, q1, q2, q3, q4⟩ := (HX11.out.fill 0 0 0 0 (.slice none 0 0)).cells
    refine bodyPost_ret (v := .tuple #[.agg #[.int .i64 0, .int .i64 0, .int .i64 0, .int .i64 0, .slice none 0 0], .int .i64 2]) (by simp [results, Try.results43, go_sem, q0, q1, q2, q3, q4]) rfl ?_
    rw [HG.out]
    exact split_none HB11.out (Nat.le_refl _)
  by_cases t3 : 1 < l0
  · have HG : Hid (splitF zs = (noN, 2)) := Lib.hid (by rw [HSD.out, if_neg (fun h => by have := h.2.2.1; omega)])
    go_upto_region 8 with fail
    obtain ⟨f0', f1, f2, f3, f4⟩ := HX11.out.free
    obtain ⟨n0, n1, n2, n3, n4⟩ := HX11.out.cells
    go_wp2_with fail
    rw [show ((((w11.setCell ⟨w.heap.size, 0, none⟩ (.int .i64 0)).setCell ⟨w.heap.size, 1, none⟩ (.int .i64 0)).setCell ⟨w.heap.size, 2, none⟩ (.int .i64 0)).setCell ⟨w.heap.size, 3, none⟩ (.int .i64 0)).setCell ⟨w.heap.size, 4, none⟩ (.slice none 0 0) = fillN w11 w.heap.size 0 0 0 0 (.slice none 0 0) from rfl]
    obtain ⟨q0, q1, q2, q3, q4⟩ := (HX11.out.fill 0 0 0 0 (.slice none 0 0)).cells
    refine bodyPost_ret (v := .tuple #[.agg #[.int .i64 0, .int .i64 0, .int .i64 0, .int .i64 0, .slice none 0 0], .int .i64 2]) (by simp [results, Try.results43, go_sem, q0, q1, q2, q3, q4]) rfl ?_
    rw [HG.out]
    exact split_none HB11.out (Nat.le_refl _)
  by_cases t4 : 1 < x0
  · have HG : Hid (splitF zs = (noN, 2)) := Lib.hid (by rw [HSD.out, if_neg (fun h => by have := h.2.2.2.1; omega)])
    go_upto_region 8 with fail
    obtain ⟨f0', f1, f2, f3, f4⟩ := HX11.out.free
    obtain ⟨n0, n1, n2, n3, n4⟩ := HX11.out.cells
    go_wp2_with fail
    rw [show ((((w11.setCell ⟨w.heap.size, 0, none⟩ (.int .i64 0)).setCell ⟨w.heap.size, 1, none⟩ (.int .i64 0)).setCell ⟨w.heap.size, 2, none⟩ (.int .i64 0)).setCell ⟨w.heap.size, 3, none⟩ (.int .i64 0)).setCell ⟨w.heap.size, 4, none⟩ (.slice none 0 0) = fillN w11 w.heap.size 0 0 0 0 (.slice none 0 0) from rfl]
    obtain ⟨q0, q1, q2, q3, q4⟩ := (HX11.out.fill 0 0 0 0 (.slice none 0 0)).cells
    refine bodyPost_ret (v := .tuple #[.agg #[.int .i64 0, .int .i64 0, .int .i64 0, .int .i64 0, .slice none 0 0], .int .i64 2]) (by simp [results, Try.results43, go_sem, q0, q1, q2, q3, q4]) rfl ?_
    rw [HG.out]
    exact split_none HB11.out (Nat.le_refl _)
  by_cases t5 : (60000 : Int) < (nn : Int)
  · have HG : Hid (splitF zs = (noN, 2)) := Lib.hid (by rw [HSD.out, if_neg (fun h => by have := h.2.2.2.2.1; omega)])
    go_upto_region 8 with fail
    obtain ⟨f0', f1, f2, f3, f4⟩ := HX11.out.free
    obtain ⟨n0, n1, n2, n3, n4⟩ := HX11.out.cells
    go_wp2_with fail
    rw [show ((((w11.setCell ⟨w.heap.size, 0, none⟩ (.int .i64 0)).setCell ⟨w.heap.size, 1, none⟩ (.int .i64 0)).setCell ⟨w.heap.size, 2, none⟩ (.int .i64 0)).setCell ⟨w.heap.size, 3, none⟩ (.int .i64 0)).setCell ⟨w.heap.size, 4, none⟩ (.slice none 0 0) = fillN w11 w.heap.size 0 0 0 0 (.slice none 0 0) from rfl]
    obtain ⟨q0, q1, q2, q3, q4⟩ := (HX11.out.fill 0 0 0 0 (.slice none 0 0)).cells
    refine bodyPost_ret (v := .tuple #[.agg #[.int .i64 0, .int .i64 0, .int .i64 0, .int .i64 0, .slice none 0 0], .int .i64 2]) (by simp [results, Try.results43, go_sem, q0, q1, q2, q3, q4]) rfl ?_
    rw [HG.out]
    exact split_none HB11.out (Nat.le_refl _)
  by_cases t6 : m = 44 + nn
  case neg =>
    have HG : Hid (splitF zs = (noN, 2)) := Lib.hid (by rw [HSD.out, if_neg (fun h => by have := h.2.2.2.2.2; omega)])
    have hb : ((nn : Int) != (m : Int) - 12 - 32) = true := by rw [bne_iff_ne]; have := HM44.out; omega
    clear t6
    obtain ⟨e1, e2⟩ := HWM.out
    go_upto_region 8 with fail
    clear e1 e2
    obtain ⟨f0', f1, f2, f3, f4⟩ := HX11.out.free
    obtain ⟨n0, n1, n2, n3, n4⟩ := HX11.out.cells
    go_wp2_with fail
    rw [show ((((w11.setCell ⟨w.heap.size, 0, none⟩ (.int .i64 0)).setCell ⟨w.heap.size, 1, none⟩ (.int .i64 0)).setCell ⟨w.heap.size, 2, none⟩ (.int .i64 0)).setCell ⟨w.heap.size, 3, none⟩ (.int .i64 0)).setCell ⟨w.heap.size, 4, none⟩ (.slice none 0 0) = fillN w11 w.heap.size 0 0 0 0 (.slice none 0 0) from rfl]
    obtain ⟨q0, q1, q2, q3, q4⟩ := (HX11.out.fill 0 0 0 0 (.slice none 0 0)).cells
    refine bodyPost_ret (v := .tuple #[.agg #[.int .i64 0, .int .i64 0, .int .i64 0, .int .i64 0, .slice none 0 0], .int .i64 2]) (by simp [results, Try.results43, go_sem, q0, q1, q2, q3, q4]) rfl ?_
    rw [HG.out]
    exact split_none HB11.out (Nat.le_refl _)
  case pos =>
  have hb6 : ((nn : Int) != (m : Int) - 12 - 32) = false := by rw [bne_eq_false_iff_eq]; have := HM44.out; omega
  have HMN := Lib.hid t6
  have HG : Hid (splitF zs = (⟨p0, l0, x0, s0, (zs.drop 12).take nn⟩, 0)) := Lib.hid (by
    rw [HSD.out, if_pos ⟨HT1.out, by omega, by omega, by omega, by omega, by omega⟩, show m - 44 = nn by omega])
  have HN6 : Hid (nn ≤ 60000) := Lib.hid (by omega)
  clear t6
  obtain ⟨e1, e2⟩ := HWM.out
  go_upto_region 9 with fail
  clear e1 e2 hb6 hb1 t2 t3 t4 t5
  have HI11 : Hid (IntsAt .u8 w11 (some ⟨bb, bo + 12, none⟩) ((zs.drop 12).take nn)) := Lib.hid (((ints_below HZ.out HB11.out).drop 12).take nn)
  have HBL : Hid (((zs.drop 12).take nn).length = nn) := Lib.hid (by rw [List.length_take, List.length_drop, HLN.out]; have := HMN.out; omega)
  generalize (zs.drop 12).take nn = body at *
  have HCN := Lib.hid (bclone_u8 (some ⟨bb, bo + 12, none⟩) body nn (c - 12) w11 HBL.out HI11.out (by have := HN6.out; omega))
  have g2 : (12 + (nn : Int)).toNat = 12 + nn := by omega
  have g3 : 12 + nn - 12 = nn := by omega
  have g4 : (12 : Int) ≤ 12 + (nn : Int) := by omega
  have g5 : 12 + (nn : Int) ≤ (c : Int) := by have := HC.out.1; have := HMN.out; omega
  have g6 : ¬ c = 12 := by have := HC.out.1; have := HMN.out; omega
  have g1 : wrap64 (12 + (nn : Int)) = 12 + (nn : Int) := by have := HN6.out; unfold wrap64; omega
  go_wp2_with fail
  (with_reducible refine HCN.out.mono ?_)
  rintro e w13 ⟨a13, c13, rfl, hr13⟩
  rw [HBL.out] at hr13 ⊢
  have HO13 : Hid (w13.ownsRow 0 5 1 (.slice a13 nn c13) nn (body.map (Value.int .u8))) := Lib.hid (by have h := hr13.1; rw [HBL.out] at h; exact h)
  have HX13 := Lib.hid (HX11.out.below hr13.2.1)
  have HF13 := Lib.hid (HF11.out.below hr13.2.1)
  have HB13 : Hid (Below w.heap.size w w13) := Lib.hid (below_step HB11.out hr13.2.1)
  have HG13 : Hid (∀ x, (Value.slice a13 nn c13).ownBlock = some x → x ≠ X ∧ w.heap.size < x) := Lib.hid (fun x hx => by have := hr13.2.2 x hx; have := HF11.out.lt; have := HX11.out.lt; omega)
  clear hr13 HCN HX11 HF11 HI11 HB11 g1 g2 g3 g4 g5 g6 y0 y1 y2 y3 y4
  obtain ⟨w14, hw14⟩ : ∃ w14, w14 = w13.setCell ⟨X, 4, none⟩ (.slice a13 nn c13) := ⟨_, rfl⟩
  have HF14 : Hid (NBox w14 X p0 l0 x0 s0 (.slice a13 nn c13)) := Lib.hid (by rw [hw14]; exact HF13.out.set4 _)
  have HK14 : Hid (Keeps (fun i => i = X) w13 w14) := Lib.hid (by rw [hw14]; exact (Keeps.refl (fun i => i = X) w13).setCell (p := ⟨X, 4, none⟩) (Or.inl rfl) _)
  have HX14 := Lib.hid (HX13.out.keep HK14.out (by have := HPX.out; omega))
  have HB14 : Hid (Below w.heap.size w w14) := Lib.hid (below_fp HB13.out HK14.out (fun i hi => by have := HPX.out; omega))
  have HO14 : Hid (w14.ownsRow 0 5 1 (.slice a13 nn c13) nn (body.map (Value.int .u8))) := Lib.hid (ownsRow_same HO13.out (fun x hx => HK14.out.block x (HO13.out.lt x hx).2 (HG13.out x hx).1))
  have HW14 := Lib.hid hw14
  obtain ⟨f0', f1, f2, f3, f4⟩ := HF13.out.free
  obtain ⟨n0, n1, n2, n3, n4⟩ := HF13.out.cells
  clear hw14
  go_upto_region 10 with fail
  rw [← HW14.out]
  clear f0' f1 f2 f3 f4 n0 n1 n2 n3 n4
  obtain ⟨f0', f1, f2, f3, f4⟩ := HX14.out.free
  obtain ⟨n0, n1, n2, n3, n4⟩ := HX14.out.cells
  obtain ⟨y0, y1, y2, y3, y4⟩ := HF14.out.cells
  go_wp2_with fail
  obtain ⟨wF, hwF⟩ : ∃ wF, wF = fillN w14 w.heap.size p0 l0 x0 s0 (.slice a13 nn c13) := ⟨_, rfl⟩
  rw [show ((((w14.setCell ⟨w.heap.size, 0, none⟩ (.int .i64 p0)).setCell ⟨w.heap.size, 1, none⟩ (.int .i64 l0)).setCell ⟨w.heap.size, 2, none⟩ (.int .i64 x0)).setCell ⟨w.heap.size, 3, none⟩ (.int .i64 s0)).setCell ⟨w.heap.size, 4, none⟩ (.slice a13 nn c13) = wF from hwF.symm]
  have HKF : Hid (Keeps (fun i => i = w.heap.size) w14 wF) := Lib.hid (by rw [hwF]; exact fillN_keeps _ _ _ _ _ _ _)
  have HXF : Hid (NBox wF w.heap.size p0 l0 x0 s0 (.slice a13 nn c13)) := Lib.hid (by rw [hwF]; exact HX14.out.fill _ _ _ _ _)
  clear hwF f0' f1 f2 f3 f4 n0 n1 n2 n3 n4 y0 y1 y2 y3 y4
  obtain ⟨q0, q1, q2, q3, q4⟩ := HXF.out.cells
  refine bodyPost_ret (v := .tuple #[.agg #[.int .i64 p0, .int .i64 l0, .int .i64 x0, .int .i64 s0, .slice a13 nn c13], .int .i64 0]) (by simp [results, Try.results43, go_sem, q0, q1, q2, q3, q4]) rfl ?_
  rw [HG.out]
  refine ⟨a13, c13, ?_, ?_, below_fp HB14.out HKF.out (fun i hi => by omega), fun x hx => ?_⟩
  · dsimp only; rw [HBL.out]
  · dsimp only
    rw [HBL.out]
    exact ownsRow_same HO14.out (fun x hx => HKF.out.block x (HO14.out.lt x hx).2 (by have := (HG13.out x hx).2; omega))
  · dsimp only at hx
    rw [HBL.out] at hx
    have := (HG13.out x hx).2
    omega

set_option maxRecDepth 100000 in
set_option maxHeartbeats 2000000 in
theorem peek_any (ao : Option Addr) (zs : List Int) (m c : Nat) (w : World) (hlen : zs.length = m) (hz : IntsAt .u8 w ao zs) (hB : InB zs) (hc : m ≤ c) (hcm : c ≤ maxLen) (hm : m ≤ 1000000) :
    Calls Try.prog 27 #[.slice ao m c] w fun e w' => e = .returned (.tuple #[.int .i64 (splitF zs).1.p, .int .i64 (splitF zs).1.l, .int .i64 (splitF zs).1.w, .int .i64 (splitF zs).2]) ∧ Below w.heap.size w w' := by
  have HSP := Lib.hid (split_any ao zs m c w hlen hz hB hc hcm hm)
  generalize splitF zs = R at *
  obtain ⟨N, er⟩ := R
  unfold SplitPost at HSP
  dsimp only at HSP ⊢
  clear hlen hz hB hc hcm hm
  go_enter Try.func27, Try.ntmps27
  go_wp2_with fail
  (with_reducible refine HSP.out.mono ?_)
  rintro e w1 ⟨a1, k1, rfl, hr1⟩
  obtain ⟨w2, hw2⟩ : ∃ w2, w2 = w1.alloc (.cells #[.int .i64 N.p, .int .i64 N.l, .int .i64 N.w, .int .i64 N.s, .slice a1 N.b.length k1] 46) := ⟨_, rfl⟩
  have hb2 : Below w1.heap.size w1 w2 := by rw [hw2]; exact (Below.refl _ _).alloc (Nat.le_refl _) _
  have HX2 : Hid (NBox w2 w1.heap.size N.p N.l N.w N.s (.slice a1 N.b.length k1)) := Lib.hid (by rw [hw2]; exact NBox.new _ _ _ _ _ _)
  have HB2 : Hid (Below w.heap.size w w2) := Lib.hid (below_step hr1.2.1 hb2)
  have HW2 := Lib.hid hw2
  clear hr1 hb2 hw2
  go_upto_region 2 with fail
  rw [← HW2.out]
  obtain ⟨y0, y1, y2, y3, y4⟩ := HX2.out.cells
  go_quiet (fail)
  go_wp2_with fail
  refine bodyPost_ret (v := .tuple #[.int .i64 N.p, .int .i64 N.l, .int .i64 N.w, .int .i64 er]) (by simp [results, Try.results27, go_sem]) rfl ⟨rfl, ?_⟩
  exact ((Keeps.of_below (S := fun _ => False) HB2.out).drewN nq).below (Nat.le_refl _) (fun _ h => h.elim)

end Go.Proofs.Yteabnagdfecleaa
