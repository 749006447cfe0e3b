/- The reference's Get of a frame; SameFrame. -/
import Derived.Test.YteabnagdfecleaaFr8
import Derived.Test.YteabnagdfecleaaFr5
import Derived.Test.YteabnagdfecleaaRefd
namespace Go.Proofs.Yteabnagdfecleaa
open Go.RowKit
set_option linter.unusedVariables false
set_option linter.unusedSimpArgs false

theorem DI.rnum {w0 w : World} {p g : Nat} {zs : List Int} (h : DI 82 w0 p g zs w) (hB : InB zs) (s : Nat) (h1 : 1 ≤ s ∧ s ≤ 7) (hl : s ≤ zs.length) :
    Calls Try.prog 38 #[.pointer (some ⟨p, 0, none⟩), .int .i64 (s : Int)] w fun en w' => en = .returned (.int .i64 (valB (zs.take s))) ∧ DI 82 w0 p g (zs.drop s) w' ∧ Keeps (fun k => k = p) w w' := by
  refine (refdec_num p g zs 0 s w h.1).mono ?_
  rintro en w' ⟨rfl, hd, hk⟩
  rw [decNum_ok hB s h1 hl] at hd ⊢
  exact ⟨rfl, ⟨hd, below_fp h.2.1 hk (fun i hi => by have := h.2.2; omega), h.2.2⟩, hk⟩
/-- A decoder laid over bytes. -/
theorem dec_box (T : TypeId) {w : World} {b off : Nat} {zs : List Int} {n c : Nat} (hn : zs.length = n) (hz : IntsAt .u8 w (some ⟨b, off, none⟩) zs) (hB : InB zs) (hc : n ≤ c) (hm : c ≤ maxLen) (hl : n ≤ 140737488355328) (h0 : 0 < n) :
    DecAt T (w.alloc (.cells #[.slice (some ⟨b, off, none⟩) n c, .int .i64 0] T)) w.heap.size b zs 0 ∧ b < w.heap.size := by
  have hb := hz.lt (fun e => by rw [e] at hn; simp at hn; omega)
  have hb' : b < w.heap.size := hb
  subst hn
  exact ⟨⟨some ⟨b, off, none⟩, c, heap_alloc_new w _, ints_below hz ((Below.refl _ _).alloc (Nat.le_refl _) _), hc, hm, hB, hl, Or.inr (fun a ha => by cases ha; rfl), by omega⟩, hb'⟩

/-- What the reference's Get hands back. -/
def RGetPost (w : World) (r : FR × Int × Int) (e : Ending) (w' : World) : Prop := ∃ ao c, e = .returned (.tuple #[.agg #[.int .i64 r.1.k, .int .i64 r.1.g, .int .i64 r.1.s, .slice ao r.1.b.length c], .int .i64 r.2.1, .int .i64 r.2.2]) ∧ RowAt w (.slice ao r.1.b.length c) r.1.b w'
theorem rget_none {w wr : World} {b : Nat} (hb : Below w.heap.size w wr) (hR : w.heap.size ≤ b) :
    RGetPost w (noF, 0, 2) (.returned (.tuple #[.agg #[.int .i64 0, .int .i64 0, .int .i64 0, .slice none 0 0], .int .i64 0, .int .i64 2])) (fillB wr b 0 0 0 (.slice none 0 0)) :=
  ⟨none, 0, rfl, World.ownsRow_nil _ _ _ _, below_fp hb (fillB_keeps _ _ _ _ _ _) (fun i hi => by omega), fun g (hg : (Value.slice none 0 0).ownBlock = some g) => by cases hg⟩

set_option maxRecDepth 100000 in
set_option maxHeartbeats 4000000 in
theorem rget_any (ao : Option Addr) (zs : List Int) (m c : Nat) (w : World) (hlen : zs.length = m) (hz : IntsAt .u8 w ao zs) (hB : InB zs) (hc : m ≤ c) (hcm : c ≤ maxLen) (hm : m ≤ 1000000) :
    Calls Try.prog 20 #[.slice ao m c] w fun e w' => RGetPost w (getF zs) e w' := by
  have HLN := Lib.hid hlen
  have HZ := Lib.hid hz
  have HB := Lib.hid hB
  have HC := Lib.hid (And.intro hc hcm)
  have HM := Lib.hid hm
  obtain ⟨w1, hw1⟩ : ∃ w1, w1 = (w.alloc (.cells #[.int .i64 0, .int .i64 0, .int .i64 0, .slice none 0 0] 24)).alloc (.cells #[.int .i64 0, .int .i64 0, .int .i64 0, .slice none 0 0] 24) := ⟨_, rfl⟩
  have HX1 : Hid (FBox w1 w.heap.size 0 0 0 (.slice none 0 0)) := Lib.hid (by rw [hw1]; exact (Below.heap_alloc _ _ _ (by simp)).trans (heap_alloc_new w _))
  have HN1 : Hid (FBox w1 (w.heap.size + 1) 0 0 0 (.slice none 0 0)) := Lib.hid (by rw [hw1]; have h := heap_alloc_new (w.alloc (.cells #[.int .i64 0, .int .i64 0, .int .i64 0, .slice none 0 0] 24)) (.cells #[.int .i64 0, .int .i64 0, .int .i64 0, .slice none 0 0] 24); simpa [FBox] using h)
  have HB1 : Hid (Below w.heap.size w w1) := Lib.hid (by rw [hw1]; exact ((Below.refl _ _).alloc (Nat.le_refl _) _).alloc (by simp) _)
  have HW1 := Lib.hid hw1
  have HZ1 := Lib.hid (ints_below hz HB1.out)
  have HSZ : Hid (w.heap.size + 1 < w1.heap.size) := Lib.hid HN1.out.lt
  clear hlen hz hB hc hcm hm hw1
  by_cases h64 : (m : Int) < 64
  · have HG : Hid (getF zs = (noF, 0, 2)) := Lib.hid (by unfold getF; rw [if_pos (Or.inl (by have := HLN.out; omega))])
    obtain ⟨y0, y1, y2, y3⟩ := HN1.out.cells
    go_enter Try.func20, Try.ntmps20
    go_upto_region 3 with fail
    rw [← HW1.out]
    obtain ⟨f0, f1, f2, f3⟩ := HX1.out.free
    obtain ⟨n0, n1, n2, n3⟩ := HX1.out.cells
    obtain ⟨y0, y1, y2, y3⟩ := HN1.out.cells
    go_wp2_with fail
    rw [show (((w1.setCell ⟨w.heap.size, 0, none⟩ (.int .i64 0)).setCell ⟨w.heap.size, 1, none⟩ (.int .i64 0)).setCell ⟨w.heap.size, 2, none⟩ (.int .i64 0)).setCell ⟨w.heap.size, 3, none⟩ (.slice none 0 0) = fillB w1 w.heap.size 0 0 0 (.slice none 0 0) from rfl]
    obtain ⟨q0, q1, q2, q3⟩ := (HX1.out.fill 0 0 0 (.slice none 0 0)).cells
    refine bodyPost_ret (v := .tuple #[.agg #[.int .i64 0, .int .i64 0, .int .i64 0, .slice none 0 0], .int .i64 0, .int .i64 2]) (by simp [results, Try.results20, go_sem, q0, q1, q2, q3]) rfl ?_
    rw [HG.out]
    exact rget_none HB1.out (Nat.le_refl _)
  obtain ⟨bb, bo, rfl⟩ : ∃ b off, ao = some ⟨b, off, none⟩ := by
    rcases HZ.out with h | ⟨b, off, h, _⟩
    · have := HLN.out; rw [h] at this; simp at this; omega
    · exact ⟨b, off, h⟩
  obtain ⟨z0, hz0⟩ : ∃ z0, z0 = zs.getD 0 0 := ⟨_, rfl⟩
  have hcell : w1.cell? ⟨bb, bo, none⟩ = some (.int .u8 z0) := by
    rcases HZ1.out with h | ⟨b, off, h, hc⟩
    · have := HLN.out; rw [h] at this; simp at this; omega
    · cases h; rw [hz0]; exact hc 0 (by have := HLN.out; omega)
  have hmp : (0 : Int) < (m : Int) := by omega
  have hmq : 0 < m := by omega
  have HZ0 := Lib.hid hz0
  clear hz0
  rw [HW1.out] at hcell
  by_cases h1 : z0 = 1
  case neg =>
    have HG : Hid (getF zs = (noF, 0, 2)) := Lib.hid (by unfold getF; rw [if_pos (Or.inr (Or.inl (by rw [← HZ0.out]; exact h1)))])
    have hb1 : (z0 != (1 : Int)) = true := by simp [h1]
    clear h1
    go_enter Try.func20, Try.ntmps20
    go_upto_region 3 with fail
    rw [← HW1.out]
    clear hcell hb1
    obtain ⟨f0, f1, f2, f3⟩ := HX1.out.free
    obtain ⟨n0, n1, n2, n3⟩ := HX1.out.cells
    obtain ⟨y0, y1, y2, y3⟩ := HN1.out.cells
    go_wp2_with fail
    rw [show (((w1.setCell ⟨w.heap.size, 0, none⟩ (.int .i64 0)).setCell ⟨w.heap.size, 1, none⟩ (.int .i64 0)).setCell ⟨w.heap.size, 2, none⟩ (.int .i64 0)).setCell ⟨w.heap.size, 3, none⟩ (.slice none 0 0) = fillB w1 w.heap.size 0 0 0 (.slice none 0 0) from rfl]
    obtain ⟨q0, q1, q2, q3⟩ := (HX1.out.fill 0 0 0 (.slice none 0 0)).cells
    refine bodyPost_ret (v := .tuple #[.agg #[.int .i64 0, .int .i64 0, .int .i64 0, .slice none 0 0], .int .i64 0, .int .i64 2]) (by simp [results, Try.results20, go_sem, q0, q1, q2, q3]) rfl ?_
    rw [HG.out]
    exact rget_none HB1.out (Nat.le_refl _)
  case pos =>
  have HY : Hid (64 ≤ zs.length ∧ zs.getD 0 0 = 1) := Lib.hid ⟨by have := HLN.out; omega, by rw [← HZ0.out]; exact h1⟩
  have hb1 : (z0 != (1 : Int)) = false := by simp [h1]
  have hc17 : (17 : Int) ≤ (c : Int) := by have := HC.out.1; omega
  have hc17' : 17 ≤ c := by have := HC.out.1; omega
  have hc3 : ¬ c = 3 := by omega
  clear h1
  go_enter Try.func20, Try.ntmps20
  go_upto_region 5 with fail
  rw [← HW1.out]
  obtain ⟨p, hp⟩ : ∃ p, p = w.heap.size + 1 + 1 := ⟨_, rfl⟩
  rw [← hp]
  have HPE : Hid (p = w1.heap.size) := Lib.hid (by rw [HW1.out, hp]; simp)
  have HPR : Hid (p = w.heap.size + 2) := Lib.hid hp
  clear hp hcell hb1 hc17 hc17' hc3 HSZ
  obtain ⟨w3, hw3⟩ : ∃ w3, w3 = w1.alloc (.cells #[.slice (some ⟨bb, bo + 3, none⟩) 14 (c - 3), .int .i64 0] 82) := ⟨_, rfl⟩
  rw [← hw3]
  obtain ⟨S, hS⟩ : ∃ S, S = (zs.drop 3).take 14 := ⟨_, rfl⟩
  have HSN : Hid (S.length = 14) := Lib.hid (by rw [hS, List.length_take, List.length_drop]; have := HY.out.1; omega)
  have hdb := dec_box 82 (w := w1) (b := bb) (off := bo + 3) (zs := S) (n := 14) (c := c - 3) HSN.out (by rw [hS]; exact (HZ1.out.drop 3).take 14) (by rw [hS]; exact inB_take (inB_drop HB.out 3) 14) (by have := HC.out.1; omega) (by have := HC.out.2; omega) (by omega) (by omega)
  rw [← hw3, ← HPE.out] at hdb
  have HB3 : Hid (Below w1.heap.size w1 w3) := Lib.hid (by rw [hw3]; exact (Below.refl _ _).alloc (Nat.le_refl _) _)
  have HD3 : Hid (DI 82 w1 p bb S w3) := Lib.hid ⟨hdb.1, HB3.out, by rw [HPE.out]; exact Nat.le_refl _⟩
  have HBBL : Hid (bb < p) := Lib.hid hdb.2
  have HX3 := Lib.hid (HX1.out.below HB3.out)
  have HN3 := Lib.hid (HN1.out.below HB3.out)
  have HHD : Hid (∀ i s, i + s ≤ 14 → valB ((S.drop i).take s) = hdF zs (i + 3) s) := Lib.hid (fun i s h => by rw [hS, List.drop_take, List.take_take, Nat.min_eq_left (by omega), List.drop_drop, Nat.add_comm 3 i]; rfl)
  have HBB : Hid (∀ i, InB (S.drop i)) := Lib.hid (fun i => by rw [hS]; exact inB_drop (inB_take (inB_drop HB.out 3) 14) i)
  have HE0 : Hid (S = S.drop 0) := Lib.hid (by rw [List.drop_zero])
  clear hS hdb hw3 HX1 HN1 HZ1
  rw [HE0.out] at HD3
  obtain ⟨k0, hk0⟩ : ∃ k0, k0 = hdF zs 3 1 := ⟨_, rfl⟩
  obtain ⟨g0, hg0⟩ : ∃ g0, g0 = hdF zs 5 4 := ⟨_, rfl⟩
  obtain ⟨s0, hs0⟩ : ∃ s0, s0 = hdF zs 9 4 := ⟨_, rfl⟩
  have HHX : Hid (hdF zs 3 1 = k0) := Lib.hid hk0.symm
  have HGS : Hid (hdF zs 5 4 = g0 ∧ hdF zs 9 4 = s0) := Lib.hid ⟨hg0.symm, hs0.symm⟩
  clear hk0 hg0 hs0
  have HC3 := Lib.hid (HD3.out.rnum (HBB.out 0) 1 (by omega) (by rw [List.length_drop, HSN.out]; omega))
  rw [List.drop_drop, HHD.out 0 1 (by omega), show hdF zs (0 + 3) 1 = k0 from HHX.out] at HC3
  go_wp2_with fail
  refine HC3.out.mono ?_
  rintro e w5 ⟨rfl, hd5, hk5⟩
  have HD5 := Lib.hid hd5
  have HX5 := Lib.hid (HX3.out.keep hk5 (by have := HPR.out; omega))
  have HN5 := Lib.hid (HN3.out.keep hk5 (by have := HPR.out; omega))
  clear hd5 hk5 HC3 HD3 HX3 HN3 HB3
  obtain ⟨w6, hw6⟩ : ∃ w6, w6 = w5.alloc (.cells #[.int .i64 k0, .int .i64 0, .int .i64 0, .slice none 0 0] 24) := ⟨_, rfl⟩
  have HF6 : Hid (FBox w6 w5.heap.size k0 0 0 (.slice none 0 0)) := Lib.hid (by rw [hw6]; exact FBox.new _ _ _ _ _)
  have HB6 : Hid (Below w5.heap.size w5 w6) := Lib.hid (by rw [hw6]; exact (Below.refl _ _).alloc (Nat.le_refl _) _)
  have HW6 := Lib.hid hw6
  have HD6 := Lib.hid (HD5.out.later HB6.out)
  have HX6 := Lib.hid (HX5.out.below HB6.out)
  have HN6 := Lib.hid (HN5.out.below HB6.out)
  have HPX : Hid (p < w5.heap.size ∧ w.heap.size + 2 ≤ w5.heap.size ∧ bb < w5.heap.size ∧ w1.heap.size ≤ w5.heap.size) := Lib.hid ⟨HD5.out.1.lt, by have := HPR.out; have := HD5.out.1.lt; omega, by have := HBBL.out; have := HD5.out.1.lt; omega, HD5.out.2.1.size⟩
  have HC6 := Lib.hid (HD6.out.rnum (HBB.out (0 + 1)) 1 (by omega) (by rw [List.length_drop, HSN.out]; omega))
  rw [List.drop_drop, HHD.out (0 + 1) 1 (by omega)] at HC6
  generalize hdF zs (0 + 1 + 3) 1 = x1 at HC6
  clear hw6 HD5 HX5 HN5
  go_wp2_with fail
  rw [← HW6.out]
  generalize w5.heap.size = X at *
  refine HC6.out.mono ?_
  rintro e w7 ⟨rfl, hd7, hk7⟩
  have HD7 := Lib.hid hd7
  have HX7 := Lib.hid (HX6.out.keep hk7 (by have := HPR.out; omega))
  have HN7 := Lib.hid (HN6.out.keep hk7 (by have := HPR.out; omega))
  have HF7 := Lib.hid (HF6.out.keep hk7 (by have := HPX.out; omega))
  clear hd7 hk7 HC6 HD6 HX6 HN6 HF6 HW6 HB6
  have HC7 := Lib.hid (HD7.out.rnum (HBB.out 2) 4 (by omega) (by rw [List.length_drop, HSN.out]; omega))
  rw [List.drop_drop, HHD.out 2 4 (by omega), show hdF zs (2 + 3) 4 = g0 from HGS.out.1] at HC7
  go_wp2_with fail
  refine HC7.out.mono ?_
  rintro e w8 ⟨rfl, hd8, hk8⟩
  have HD8 := Lib.hid hd8
  have HX8 := Lib.hid (HX7.out.keep hk8 (by have := HPR.out; omega))
  have HN8 := Lib.hid (HN7.out.keep hk8 (by have := HPR.out; omega))
  have HF8 := Lib.hid (HF7.out.keep hk8 (by have := HPX.out; omega))
  clear hd8 hk8 HC7 HD7 HX7 HN7 HF7
  have HC8 := Lib.hid (HD8.out.rnum (HBB.out (2 + 4)) 4 (by omega) (by rw [List.length_drop, HSN.out]; omega))
  rw [List.drop_drop, HHD.out (2 + 4) 4 (by omega), show hdF zs (2 + 4 + 3) 4 = s0 from HGS.out.2] at HC8
  go_wp2_with fail
  refine HC8.out.mono ?_
  rintro e w9 ⟨rfl, hd9, hk9⟩
  have HD9 := Lib.hid hd9
  have HX9 := Lib.hid (HX8.out.keep hk9 (by have := HPR.out; omega))
  have HN9 := Lib.hid (HN8.out.keep hk9 (by have := HPR.out; omega))
  have HF9 := Lib.hid (HF8.out.keep hk9 (by have := HPX.out; omega))
  clear hd9 hk9 HC8 HD8 HX8 HN8 HF8
  obtain ⟨w10, hw10⟩ : ∃ w10, w10 = (w9.setCell ⟨X, 1, none⟩ (.int .i64 g0)).setCell ⟨X, 2, none⟩ (.int .i64 s0) := ⟨_, rfl⟩
  have HF10 : Hid (FBox w10 X k0 g0 s0 (.slice none 0 0)) := Lib.hid (by rw [hw10]; exact (HF9.out.set1 g0).set2 s0)
  have HK10 : Hid (Keeps (fun i => i = X) w9 w10) := Lib.hid (by rw [hw10]; exact ((Keeps.refl (fun i => i = X) w9).setCell (p := ⟨X, 1, none⟩) (Or.inl rfl) _).setCell (p := ⟨X, 2, none⟩) (Or.inl rfl) _)
  have HX10 := Lib.hid (HX9.out.keep HK10.out (by have := HPX.out; omega))
  have HN10 := Lib.hid (HN9.out.keep HK10.out (by have := HPX.out; omega))
  have HD10 := Lib.hid (HD9.out.keep HK10.out (by have := HPX.out; omega) (by have := HPX.out; omega) (fun i hi => by have := HPX.out; omega))
  have HW10 := Lib.hid hw10
  obtain ⟨f0, f1, f2, f3⟩ := HF9.out.free
  obtain ⟨n0, n1, n2, n3⟩ := HF9.out.cells
  have HC10 := Lib.hid (HD10.out.rnum (HBB.out (2 + 4 + 4)) 4 (by omega) (by rw [List.length_drop, HSN.out]; omega))
  have HNI := Lib.hid (getN_in HB.out HY.out.1)
  obtain ⟨nn, hnn⟩ : ∃ nn : Nat, getN zs = (nn : Int) := ⟨(getN zs).toNat, by have := HNI.out; omega⟩
  rw [List.drop_drop, HHD.out (2 + 4 + 4) 4 (by omega), show hdF zs (2 + 4 + 4 + 3) 4 = (nn : Int) from hnn] at HC10
  have HNN := Lib.hid hnn
  clear hw10 hnn
  go_wp2_with fail
  rw [← HW10.out]
  refine HC10.out.mono ?_
  rintro e w11 ⟨rfl, hd11, hk11⟩
  have HB11 : Hid (Below w.heap.size w w11) := Lib.hid (below_step HB1.out hd11.2.1)
  have HX11 := Lib.hid (HX10.out.keep hk11 (by have := HPR.out; omega))
  have HN11 := Lib.hid (HN10.out.keep hk11 (by have := HPR.out; omega))
  have HF11 := Lib.hid (HF10.out.keep hk11 (by have := HPX.out; omega))
  clear hd11 hk11 HC10 HD10 HX10 HN10 HF10 HD9 HX9 HN9 HF9 HW10 HK10 f0 f1 f2 f3 n0 n1 n2 n3
  have HKK : Hid (secN (nn : Int) = (getK zs : Int) ∧ getK zs ≤ 953) := Lib.hid (by
    have h1 := secN_in (nn : Int)
    unfold getK
    rw [HNN.out]
    omega)
  have HKP : Hid (nn ≤ 60000 → 1 ≤ getK zs ∧ 24 + nn ≤ 63 * getK zs) := Lib.hid (fun h => by
    have h1 := secN_pos (n := (nn : Int)) (by omega) (by omega)
    have := HKK.out
    omega)
  have HKZ : Hid (60000 < nn → getK zs = 0) := Lib.hid (fun h => by
    have h1 : secN (nn : Int) = 0 := by unfold secN; rw [if_pos (by omega)]
    have := HKK.out
    omega)
  have HGB : Hid (60000 < nn → getF zs = (noF, 0, 2)) := Lib.hid (fun h => getF_big (by rw [HNN.out]; omega))
  have HGS2 : Hid (zs.length < 64 * getK zs → getF zs = (noF, 0, 2)) := Lib.hid (fun h => by unfold getF; rw [if_pos (Or.inr (Or.inr (Or.inr h)))])
  have HGE : Hid (nn ≤ 60000 → 64 * getK zs ≤ zs.length → getF zs = if putF (getX zs) = zs.take (64 * getK zs) then (getX zs, (getK zs : Int), 0) else (noF, 0, 2)) := Lib.hid (fun h hk => by
    rw [getF_end HY.out.1 HY.out.2 (by rw [HNN.out]; omega) hk, HNN.out, HKK.out.1])
  have HGX : Hid (getX zs = ⟨k0, g0, s0, ((catS zs (getK zs)).drop 24).take nn⟩) := Lib.hid (by
    unfold getX
    rw [HHX.out, HGS.out.1, HGS.out.2, HNN.out, Int.toNat_natCast])
  have HXO := Lib.hid (getX_ok HB.out HY.out.1)
  have HXL : Hid (nn ≤ 60000 → 64 * getK zs ≤ zs.length → (getX zs).b.length = nn ∧ (putF (getX zs)).length = 64 * getK zs) := Lib.hid (fun h hk => by
    have h1 := getX_len HB.out HY.out.1 (by rw [HNN.out]; omega) hk
    rw [HNN.out] at h1
    exact ⟨by omega, by rw [putF_len, h1.2.1]⟩)
  generalize getK zs = K at *
  go_wp2_with fail
  refine (rsectors_any (nn : Int) w11).mono ?_
  rintro e w12 ⟨rfl, rfl⟩
  rename World => w11
  rw [HKK.out.1]
  by_cases hbig : 60000 < nn
  · obtain rfl : K = 0 := HKZ.out hbig
    have HG := Lib.hid (HGB.out hbig)
    clear hbig
    obtain ⟨f0, f1, f2, f3⟩ := HX11.out.free
    obtain ⟨n0, n1, n2, n3⟩ := HX11.out.cells
    obtain ⟨y0, y1, y2, y3⟩ := HN11.out.cells
    go_wp2_with fail
    rw [show (((w11.setCell ⟨w.heap.size, 0, none⟩ (.int .i64 0)).setCell ⟨w.heap.size, 1, none⟩ (.int .i64 0)).setCell ⟨w.heap.size, 2, none⟩ (.int .i64 0)).setCell ⟨w.heap.size, 3, none⟩ (.slice none 0 0) = fillB w11 w.heap.size 0 0 0 (.slice none 0 0) from rfl]
    obtain ⟨q0, q1, q2, q3⟩ := (HX11.out.fill 0 0 0 (.slice none 0 0)).cells
    refine bodyPost_ret (v := .tuple #[.agg #[.int .i64 0, .int .i64 0, .int .i64 0, .slice none 0 0], .int .i64 0, .int .i64 2]) (by simp [results, Try.results20, go_sem, q0, q1, q2, q3]) rfl ?_
    rw [HG.out]
    exact rget_none HB11.out (Nat.le_refl _)
  have HNB : Hid (nn ≤ 60000) := Lib.hid (by omega)
  have HKL := Lib.hid (HKP.out HNB.out)
  have g1 : ((K : Int) == 0) = false := by have := HKL.out; simp; omega
  have g2 : wrap64 (64 * (K : Int)) = 64 * (K : Int) := by have := HKK.out; unfold wrap64; omega
  clear hbig
  by_cases hsh : (m : Int) < 64 * (K : Int)
  · have HG := Lib.hid (HGS2.out (by have := HLN.out; omega))
    obtain ⟨f0, f1, f2, f3⟩ := HX11.out.free
    obtain ⟨n0, n1, n2, n3⟩ := HX11.out.cells
    obtain ⟨y0, y1, y2, y3⟩ := HN11.out.cells
    go_wp2_with fail
    rw [show (((w11.setCell ⟨w.heap.size, 0, none⟩ (.int .i64 0)).setCell ⟨w.heap.size, 1, none⟩ (.int .i64 0)).setCell ⟨w.heap.size, 2, none⟩ (.int .i64 0)).setCell ⟨w.heap.size, 3, none⟩ (.slice none 0 0) = fillB w11 w.heap.size 0 0 0 (.slice none 0 0) from rfl]
    obtain ⟨q0, q1, q2, q3⟩ := (HX11.out.fill 0 0 0 (.slice none 0 0)).cells
    refine bodyPost_ret (v := .tuple #[.agg #[.int .i64 0, .int .i64 0, .int .i64 0, .slice none 0 0], .int .i64 0, .int .i64 2]) (by simp [results, Try.results20, go_sem, q0, q1, q2, q3]) rfl ?_
    rw [HG.out]
    exact rget_none HB11.out (Nat.le_refl _)
  have HLY : Hid (64 * K ≤ zs.length) := Lib.hid (by have := HLN.out; omega)
  have hd : decide ((m : Int) < 64 * (K : Int)) = false := decide_eq_false hsh
  go_upto_region 14 with fail
  rw [g2]
  clear hsh hd g1 HGB HGS2 HKZ
  go_loopw [10, 11] (fun s i wr => ∃ (k : Nat) (a2 : Option Addr) (c2 : Nat), k ≤ K ∧ i = .int .i64 (k : Int) ∧ s = .slice a2 (63 * k) c2 ∧ wr.ownsRow 0 5 1 (.slice a2 (63 * k) c2) (63 * k) ((catS zs k).map (Value.int .u8)) ∧ Below w11.heap.size w11 wr ∧ (∀ g, (Value.slice a2 (63 * k) c2).ownBlock = some g → w11.heap.size ≤ g)) (fun _ i _ => K - (intOf i).toNat)
  case atStart => exact ⟨0, none, 0, Nat.zero_le _, rfl, rfl, World.ownsRow_nil _ _ _ _, Below.refl _ _, fun g (hg : (Value.slice none 0 0).ownBlock = some g) => by cases hg⟩
  case round =>
    obtain ⟨k, a2, c2, hk, rfl, rfl, ho, hb, hf⟩ := hrel
    have HO := Lib.hid ho
    have HBR := Lib.hid hb
    have HF := Lib.hid hf
    clear ho hb hf
    by_cases hlt : k < K
    · obtain ⟨I, hI⟩ : ∃ I, I = 64 * k := ⟨_, rfl⟩
      have e1 : 64 * (k : Int) = (I : Int) := by omega
      have hIc : I + 64 ≤ c := by have := HLY.out; have := HLN.out; have := HC.out.1; omega
      have w1' : wrap64 (I : Int) = (I : Int) := by have := HKK.out; unfold wrap64; omega
      have w2' : wrap64 ((I : Int) + 64) = (I : Int) + 64 := by have := HKK.out; unfold wrap64; omega
      have w3' : wrap64 ((I : Int) + 1) = (I : Int) + 1 := by have := HKK.out; unfold wrap64; omega
      have w4' : wrap64 ((k : Int) + 1) = (k : Int) + 1 := by have := HKK.out; unfold wrap64; omega
      have e2 : ((I : Int) + 1).toNat = I + 1 := by omega
      have e3 : ((I : Int) + 64).toNat = I + 64 := by omega
      have e4 : I + 64 - (I + 1) = 63 := by omega
      have b0 : (0 : Int) ≤ (I : Int) + 1 := by omega
      have b1 : (I : Int) + 1 ≤ (I : Int) + 64 := by omega
      have b2 : (I : Int) + 64 ≤ (c : Int) := by omega
      have b3 : ¬ c = I + 1 := by omega
      have c1 : (k : Int) < (K : Int) := by omega
      have HW4 := Lib.hid w4'
      have HSL : Hid (((zs.drop (64 * k + 1)).take 63).length = 63) := Lib.hid (by rw [List.length_take, List.length_drop]; have := HLY.out; omega)
      have HW := Lib.hid (ints_below HZ.out (below_step HB11.out HBR.out))
      have HSI : Hid (IntsAt .u8 wr (some ⟨bb, bo + (I + 1), none⟩) ((zs.drop (64 * k + 1)).take 63)) := Lib.hid (by
        have h1 := (HW.out.drop (I + 1)).take 63
        rw [hI] at h1 ⊢
        exact h1)
      have HKL2 : Hid (k ≤ 953) := Lib.hid (by have := HKK.out; omega)
      have HCS : Hid (catS zs (k + 1) = catS zs k ++ (zs.drop (64 * k + 1)).take 63) := Lib.hid rfl
      generalize (zs.drop (64 * k + 1)).take 63 = sv at *
      have HNL : Hid (k < K) := Lib.hid hlt
      clear hI hlt hIc
      obtain ⟨i0, hi, hz0, hz1, hz2⟩ := info_parts Try_infoU8
      go_wp2_with (at_builtin; refine wpList_append_any rfl _ _ 22 rfl 5 i0 (.int .u8 0) 1 1 Try.underlying22 hi hz0 hz1 hz2 rfl (by decide) (.slice a2 (63 * k) c2) (63 * k) _ rfl HO.out (some ⟨bb, bo + (I + 1), none⟩) 63 (c - (I + 1)) (sv.map (Value.int .u8)) rfl ?c1 ?c2 ?c3 (ints_one _ _) ?c5 ?c6 ?_)
      case c1 => rw [List.length_map, HSL.out]
      case c2 => intro e; cases e
      case c3 => exact src_ints HSI.out
      case c5 => have := HKL2.out; unfold maxLen; omega
      case c6 => have := HKL2.out; omega
      intro ao7 cap7 w17 hown hgrow hat hnn
      rw [← List.map_append] at hown
      have HO7 : Hid (w17.ownsRow 0 5 1 (.slice ao7 (63 * (k + 1)) cap7) (63 * (k + 1)) ((catS zs (k + 1)).map (Value.int .u8))) := Lib.hid (by rw [HCS.out]; exact hown)
      have HB7 : Hid (Below w11.heap.size w11 w17) := Lib.hid (below_fp HBR.out ((Keeps.refl _ wr).grown hgrow (fun i hi => Or.inl hi)) (fun i hi => HF.out i hi))
      have HF7 : Hid (∀ g, (Value.slice ao7 (63 * (k + 1)) cap7).ownBlock = some g → w11.heap.size ≤ g) := Lib.hid (fun g hg => by
        rcases hat g hg with h | h
        · exact HF.out g h
        · have := HBR.out.size; omega)
      clear hown hgrow hat hnn e1 w1' w2' w3' e2 e3 e4 b0 b1 b2 b3
      have hke : ((k + 1 : Nat) : Int) = (k : Int) + 1 := by omega
      go_wp2_with fail
      rw [HW4.out]
      refine ⟨by first | exact ⟨k + 1, ao7, cap7, by have := HNL.out; omega, by rw [hke], rfl, HO7.out, HB7.out, HF7.out⟩ | ((repeat apply Exists.intro); refine ⟨?_, rfl⟩; exact ⟨k + 1, ao7, cap7, by have := HNL.out; omega, by rw [hke], rfl, HO7.out, HB7.out, HF7.out⟩), ?_⟩
      simp only [intOf]
      have := HNL.out
      omega
    · obtain rfl : k = K := by omega
      rename World => w12
      have c1 : ¬ (k : Int) < (k : Int) := by omega
      have HX12 := Lib.hid (HX11.out.below HBR.out)
      have HN12 := Lib.hid (HN11.out.below HBR.out)
      have HF12 := Lib.hid (HF11.out.below HBR.out)
      have HB12 : Hid (Below w.heap.size w w12) := Lib.hid (below_step HB11.out HBR.out)
      have hia := owns_at HO.out
      have HCL : Hid ((catS zs k).length = 63 * k) := Lib.hid hia.1
      obtain ⟨b12, o12, rfl⟩ : ∃ b off, a2 = some ⟨b, off, none⟩ := by
        rcases hia.2.1 with h | ⟨b, off, h, _⟩
        · have h1 := HCL.out; have h2 := HKL.out; rw [h] at h1; simp at h1; omega
        · exact ⟨b, off, h⟩
      have HI12 : Hid (IntsAt .u8 w12 (some ⟨b12, o12 + 24, none⟩) (((catS zs k).drop 24).take nn)) := Lib.hid ((hia.2.1.drop 24).take nn)
      have HCC : Hid (63 * k ≤ c2 ∧ c2 ≤ maxLen) := Lib.hid ⟨hia.2.2.1, hia.2.2.2⟩
      clear hia HO HF HX11 HN11 HF11 HBR HB11
      have HBL : Hid ((((catS zs k).drop 24).take nn).length = nn) := Lib.hid (by rw [List.length_take, List.length_drop, HCL.out]; have := HKL.out; omega)
      have HBI : Hid (InB (((catS zs k).drop 24).take nn)) := Lib.hid (inB_take (inB_drop (catS_inB HB.out k) 24) nn)
      generalize ((catS zs k).drop 24).take nn = body at *
      have HCN := Lib.hid (copyBytes (some ⟨b12, o12 + 24, none⟩) body nn (c2 - 24) w12 HBL.out HI12.out (by have := HNB.out; omega))
      have e1 : wrap64 (24 + (nn : Int)) = 24 + (nn : Int) := by unfold wrap64; have := HNB.out; omega
      have e2 : (24 + (nn : Int)).toNat = 24 + nn := by omega
      have e3 : 24 + nn - 24 = nn := by omega
      have e4 : (24 : Int) ≤ 24 + (nn : Int) := by omega
      have e5 : 24 + (nn : Int) ≤ (c2 : Int) := by have := HCC.out; have := HKL.out; omega
      have e6 : ¬ c2 = 24 := by have := HCC.out; have := HKL.out; omega
      go_wp2_with fail
      refine HCN.out.mono ?_
      rintro e w13 ⟨a13, c13, rfl, hr13⟩
      rw [HBL.out] at hr13 ⊢
      have HO13 : Hid (w13.ownsRow 0 5 1 (.slice a13 nn c13) nn (body.map (Value.int .u8))) := Lib.hid (by have h := hr13.1; rw [HBL.out] at h; exact h)
      have HX13 := Lib.hid (HX12.out.below hr13.2.1)
      have HN13 := Lib.hid (HN12.out.below hr13.2.1)
      have HF13 := Lib.hid (HF12.out.below hr13.2.1)
      have HB13 : Hid (Below w.heap.size w w13) := Lib.hid (below_step HB12.out hr13.2.1)
      have HG13 : Hid (∀ x, (Value.slice a13 nn c13).ownBlock = some x → x ≠ X ∧ w.heap.size + 1 < x) := Lib.hid (fun x hx => by have := hr13.2.2 x hx; have := HF12.out.lt; have := HN12.out.lt; omega)
      clear hr13 HCN HX12 HN12 HF12 HI12 HB12 e1 e2 e3 e4 e5 e6
      obtain ⟨w14, hw14⟩ : ∃ w14, w14 = w13.setCell ⟨X, 3, none⟩ (.slice a13 nn c13) := ⟨_, rfl⟩
      have HF14 : Hid (FBox w14 X k0 g0 s0 (.slice a13 nn c13)) := Lib.hid (by rw [hw14]; exact HF13.out.set3 _)
      have HK14 : Hid (Keeps (fun i => i = X) w13 w14) := Lib.hid (by rw [hw14]; exact (Keeps.refl (fun i => i = X) w13).setCell (p := ⟨X, 3, none⟩) (Or.inl rfl) _)
      have HX14 := Lib.hid (HX13.out.keep HK14.out (by have := HPX.out; omega))
      have HN14 := Lib.hid (HN13.out.keep HK14.out (by have := HPX.out; omega))
      have HB14 : Hid (Below w.heap.size w w14) := Lib.hid (below_fp HB13.out HK14.out (fun i hi => by have := HPX.out; omega))
      have HO14 : Hid (w14.ownsRow 0 5 1 (.slice a13 nn c13) nn (body.map (Value.int .u8))) := Lib.hid (ownsRow_same HO13.out (fun x hx => HK14.out.block x (HO13.out.lt x hx).2 (HG13.out x hx).1))
      have HW14 := Lib.hid hw14
      have HPT := Lib.hid (rput_any ⟨k0, g0, s0, body⟩ a13 nn c13 w14 HBL.out (owns_at HO14.out).2.1 HBI.out)
      rw [← HGX.out] at HPT
      have HPR2 : Hid (putR (getX zs) = (putF (getX zs), 0)) := Lib.hid (by
        unfold putR
        have h1 := HXL.out HNB.out HLY.out
        rw [if_neg (by rw [h1.1]; have := HNB.out; omega), if_pos HXO.out])
      rw [HPR2.out] at HPT
      obtain ⟨f0, f1, f2, f3⟩ := HF13.out.free
      obtain ⟨n0, n1, n2, n3⟩ := HF13.out.cells
      obtain ⟨y0, y1, y2, y3⟩ := HF14.out.cells
      rw [hw14] at y0 y1 y2 y3
      clear hw14
      rw [show (getX zs).k = k0 by rw [HGX.out], show (getX zs).g = g0 by rw [HGX.out], show (getX zs).s = s0 by rw [HGX.out]] at HPT
      go_wp2_with fail
      rw [← HW14.out]
      refine HPT.out.mono ?_
      rintro e w15 ⟨a15, c15, rfl, hr15⟩
      have HPL : Hid ((putF (getX zs)).length = 64 * k) := Lib.hid (HXL.out HNB.out HLY.out).2
      dsimp only at hr15 ⊢
      have HO15 := Lib.hid (owns_at hr15.1).2.1
      rw [HPL.out]
      have HX15 := Lib.hid (HX14.out.below hr15.2.1)
      have HN15 := Lib.hid (HN14.out.below hr15.2.1)
      have HF15 := Lib.hid (HF14.out.below hr15.2.1)
      have HB15 : Hid (Below w.heap.size w w15) := Lib.hid (below_step HB14.out hr15.2.1)
      have HR15 : Hid (w15.ownsRow 0 5 1 (.slice a13 nn c13) nn (body.map (Value.int .u8))) := Lib.hid (ownsRow_same HO14.out (fun x hx => hr15.2.1.block x (HO14.out.lt x hx).2))
      clear hr15 HPT HX13 HN13 HF13 HX14 HN14 HF14 HO13 HO14 HW14 HK14 f0 f1 f2 f3 n0 n1 n2 n3 y0 y1 y2 y3
      have HL15 : Hid (IntsAt .u8 w15 (some ⟨bb, bo, none⟩) (zs.take (64 * k))) := Lib.hid ((ints_below HZ.out HB15.out).take (64 * k))
      have HTL : Hid ((zs.take (64 * k)).length = 64 * k) := Lib.hid (by rw [List.length_take]; have := HLY.out; omega)
      have HBE := Lib.hid (bytes_eq a15 (some ⟨bb, bo, none⟩) (putF (getX zs)) (zs.take (64 * k)) (64 * k) (64 * k) c15 c w15 HPL.out HTL.out HO15.out HL15.out (putF_inB (by rw [HGX.out]; exact HBI.out)) (inB_take HB.out _))
      have HGE2 := Lib.hid (HGE.out HNB.out HLY.out)
      obtain ⟨M, hM⟩ : ∃ M, M = 64 * k := ⟨_, rfl⟩
      have HMK := Lib.hid hM
      rw [← hM] at HBE HPL HGE2 ⊢
      have e0 : (0 : Int) ≤ (M : Int) := by omega
      have e1 : (M : Int) ≤ (c : Int) := by have := HLY.out; have := HLN.out; have := HC.out.1; omega
      have e2 : 64 * (k : Int) = (M : Int) := by omega
      have e3 : wrap64 (M : Int) = (M : Int) := by have := HKK.out; unfold wrap64; omega
      clear hM g2
      go_wp2_with fail
      refine HBE.out.mono ?_
      rintro e w16 ⟨rfl, rfl⟩
      rename World => w15
      cases hq : eqB (putF (getX zs)) (zs.take M)
      · have HG : Hid (getF zs = (noF, 0, 2)) := Lib.hid (by
          rw [HGE2.out, if_neg]
          unfold eqB at hq
          simpa using hq)
        clear hq
        obtain ⟨f0, f1, f2, f3⟩ := HX15.out.free
        obtain ⟨n0, n1, n2, n3⟩ := HX15.out.cells
        obtain ⟨y0, y1, y2, y3⟩ := HN15.out.cells
        go_wp2_with fail
        rw [show (((w15.setCell ⟨w.heap.size, 0, none⟩ (.int .i64 0)).setCell ⟨w.heap.size, 1, none⟩ (.int .i64 0)).setCell ⟨w.heap.size, 2, none⟩ (.int .i64 0)).setCell ⟨w.heap.size, 3, none⟩ (.slice none 0 0) = fillB w15 w.heap.size 0 0 0 (.slice none 0 0) from rfl]
        obtain ⟨q0, q1, q2, q3⟩ := (HX15.out.fill 0 0 0 (.slice none 0 0)).cells
        refine bodyPost_ret (v := .tuple #[.agg #[.int .i64 0, .int .i64 0, .int .i64 0, .slice none 0 0], .int .i64 0, .int .i64 2]) (by simp [results, Try.results20, go_sem, q0, q1, q2, q3]) rfl ?_
        rw [HG.out]
        exact rget_none HB15.out (Nat.le_refl _)
      have HG : Hid (getF zs = (getX zs, (k : Int), 0)) := Lib.hid (by
        rw [HGE2.out, if_pos]
        unfold eqB at hq
        simpa using hq)
      clear hq HGE HGE2 HBE
      obtain ⟨f0, f1, f2, f3⟩ := HX15.out.free
      obtain ⟨n0, n1, n2, n3⟩ := HX15.out.cells
      obtain ⟨y0, y1, y2, y3⟩ := HF15.out.cells
      go_wp2_with fail
      obtain ⟨wF, hwF⟩ : ∃ wF, wF = fillB w15 w.heap.size k0 g0 s0 (.slice a13 nn c13) := ⟨_, rfl⟩
      rw [show (((w15.setCell ⟨w.heap.size, 0, none⟩ (.int .i64 k0)).setCell ⟨w.heap.size, 1, none⟩ (.int .i64 g0)).setCell ⟨w.heap.size, 2, none⟩ (.int .i64 s0)).setCell ⟨w.heap.size, 3, none⟩ (.slice a13 nn c13) = wF from hwF.symm]
      have HKF : Hid (Keeps (fun i => i = w.heap.size) w15 wF) := Lib.hid (by rw [hwF]; exact fillB_keeps _ _ _ _ _ _)
      have HXF : Hid (FBox wF w.heap.size k0 g0 s0 (.slice a13 nn c13)) := Lib.hid (by rw [hwF]; exact HX15.out.fill _ _ _ _)
      clear hwF f0 f1 f2 f3 n0 n1 n2 n3 y0 y1 y2 y3
      obtain ⟨q0, q1, q2, q3⟩ := HXF.out.cells
      refine bodyPost_ret (v := .tuple #[.agg #[.int .i64 k0, .int .i64 g0, .int .i64 s0, .slice a13 nn c13], .int .i64 k, .int .i64 0]) (by simp [results, Try.results20, go_sem, q0, q1, q2, q3]) rfl ?_
      rw [HG.out, HGX.out]
      refine ⟨a13, c13, ?_, ?_, below_fp HB15.out HKF.out (fun i hi => by omega), fun x hx => ?_⟩
      · dsimp only; rw [HBL.out]
      · dsimp only
        rw [HBL.out]
        exact ownsRow_same HR15.out (fun x hx => HKF.out.block x (HR15.out.lt x hx).2 (by have := (HG13.out x hx).2; omega))
      · dsimp only at hx
        rw [HBL.out] at hx
        have := (HG13.out x hx).2
        omega

set_option maxRecDepth 100000 in
set_option maxHeartbeats 2000000 in
theorem sameFrame_any (F : FR) (ao bo : Option Addr) (c d : Nat) (w : World) (hx : IntsAt .u8 w ao F.b) (hy : IntsAt .u8 w bo F.b) (hB : InB F.b) :
    Calls Try.prog 21 #[.agg #[.int .i64 F.k, .int .i64 F.g, .int .i64 F.s, .slice ao F.b.length c], .agg #[.int .i64 F.k, .int .i64 F.g, .int .i64 F.s, .slice bo F.b.length d]] w fun e w' => e = .returned (.bool true) ∧ Below w.heap.size w w' := by
  obtain ⟨k, g, s, b⟩ := F
  dsimp only at hx hy hB ⊢
  obtain ⟨w1, hw1⟩ : ∃ w1, w1 = (w.alloc (.cells #[.int .i64 k, .int .i64 g, .int .i64 s, .slice ao b.length c] 24)).alloc (.cells #[.int .i64 k, .int .i64 g, .int .i64 s, .slice bo b.length d] 24) := ⟨_, rfl⟩
  have HX1 : Hid (FBox w1 w.heap.size k g s (.slice ao b.length c)) := Lib.hid (by rw [hw1]; exact (Below.heap_alloc _ _ _ (by simp)).trans (heap_alloc_new w _))
  have HN1 : Hid (FBox w1 (w.heap.size + 1) k g s (.slice bo b.length d)) := Lib.hid (by rw [hw1]; have h := heap_alloc_new (w.alloc (.cells #[.int .i64 k, .int .i64 g, .int .i64 s, .slice ao b.length c] 24)) (.cells #[.int .i64 k, .int .i64 g, .int .i64 s, .slice bo b.length d] 24); simpa [FBox] using h)
  have HB1 : Hid (Below w.heap.size w w1) := Lib.hid (by rw [hw1]; exact ((Below.refl _ _).alloc (Nat.le_refl _) _).alloc (by simp) _)
  have HBE := Lib.hid (bytes_eq ao bo b b b.length b.length c d w1 rfl rfl (ints_below hx HB1.out) (ints_below hy HB1.out) hB hB)
  rw [eqB_self] at HBE
  obtain ⟨y0, y1, y2, y3⟩ := HX1.out.cells
  obtain ⟨n0, n1, n2, n3⟩ := HN1.out.cells
  rw [hw1] at y0 y1 y2 y3 n0 n1 n2 n3
  have HW1 := Lib.hid hw1
  clear hx hy hB hw1
  go_enter Try.func21, Try.ntmps21
  go_wp2_with fail
  rw [← HW1.out]
  refine HBE.out.mono ?_
  rintro e w2 ⟨rfl, rfl⟩
  go_wp2
  go_ret
  exact ⟨rfl, HB1.out⟩

end Go.Proofs.Yteabnagdfecleaa
