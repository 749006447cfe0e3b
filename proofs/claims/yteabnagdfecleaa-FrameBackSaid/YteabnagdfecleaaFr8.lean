/- Package frame: Get, walked. -/
import Derived.Test.YteabnagdfecleaaFr6
namespace Go.Proofs.Yteabnagdfecleaa
open Go.RowKit
set_option linter.unusedVariables false
set_option linter.unusedSimpArgs false

/-- A decoder under way since a world. -/
def DI (T : TypeId) (w0 : World) (p g : Nat) (zs : List Int) (w : World) : Prop := DecAt T w p g zs 0 ∧ Below w0.heap.size w0 w ∧ w0.heap.size ≤ p
theorem DI.num {w0 w : World} {p g : Nat} {zs : List Int} (h : DI 100 w0 p g zs w) (hB : InB zs) (s : Nat) (h1 : 1 ≤ s ∧ s ≤ 7) (hl : s ≤ zs.length) :
    Calls Try.prog 35 #[.pointer (some ⟨p, 0, none⟩), .int .i64 (s : Int)] w fun en w' => en = .returned (.int .i64 (valB (zs.take s))) ∧ DI 100 w0 p g (zs.drop s) w' ∧ Keeps (fun k => k = p) w w' := by
  refine (dec_num p g zs 0 s w h.1).mono ?_
  rintro en w' ⟨rfl, hd, hk⟩
  rw [decNum_ok hB s h1 hl] at hd ⊢
  exact ⟨rfl, ⟨hd, below_fp h.2.1 hk (fun i hi => by have := h.2.2; omega), h.2.2⟩, hk⟩
theorem DI.later {T : TypeId} {w0 w w' : World} {p g : Nat} {zs : List Int} (h : DI T w0 p g zs w) (hb : Below w.heap.size w w') : DI T w0 p g zs w' :=
  ⟨h.1.keep (S := fun _ => False) (Keeps.of_below hb) (fun h => h) (Or.inr (fun h => h)), below_step h.2.1 hb, h.2.2⟩
theorem DI.keep {T : TypeId} {w0 w w' : World} {p g : Nat} {zs : List Int} {S : Nat → Prop} (h : DI T w0 p g zs w) (hk : Keeps S w w') (hp : ¬ S p) (hg : ¬ S g) (hS : ∀ i, S i → w0.heap.size ≤ i) : DI T w0 p g zs w' :=
  ⟨h.1.keep hk hp (Or.inr hg), below_fp h.2.1 hk hS, h.2.2⟩
theorem getF_no1 {zs : List Int} (h : (liftF zs 1).2 = false) : getF zs = (noF, 0, 2) := by
  unfold getF
  rw [if_pos]
  unfold liftF at h
  by_cases h1 : zs.length < 64
  · exact Or.inl h1
  · rw [if_neg (by omega)] at h
    by_cases h2 : zs.getD 0 0 = 1
    · have hm : markOk zs 1 = true := by show (true && (zs.getD (64 * 0) 0 == markI 0)) = true; rw [Nat.mul_zero, h2]; rfl
      rw [if_pos hm] at h
      cases h
    · exact Or.inr (Or.inl h2)
theorem getF_yes1 {zs : List Int} (h : (liftF zs 1).2 = true) : liftF zs 1 = (catS zs 1, true) ∧ 64 ≤ zs.length ∧ zs.getD 0 0 = 1 := by
  unfold liftF at h ⊢
  by_cases h1 : zs.length < 64 * 1
  · rw [if_pos h1] at h; cases h
  · rw [if_neg h1] at h ⊢
    by_cases h2 : markOk zs 1 = true
    · rw [if_pos h2]
      refine ⟨rfl, by omega, ?_⟩
      have h3 : (true && (zs.getD (64 * 0) 0 == markI 0)) = true := h2
      rw [Nat.mul_zero] at h3
      simpa [markI] using h3
    · rw [if_neg h2] at h; cases h
theorem getF_no2 {zs : List Int} (hB : InB zs) (h0 : 64 ≤ zs.length) (hn : getN zs ≤ 60000) (h : (liftF zs (getK zs)).2 = false) : getF zs = (noF, 0, 2) := by
  unfold getF
  by_cases hc : zs.length < 64 ∨ zs.getD 0 0 ≠ 1 ∨ 60000 < getN zs ∨ zs.length < 64 * getK zs
  · rw [if_pos hc]
  · rw [if_neg hc, if_neg]
    intro hp
    have hk : 64 * getK zs ≤ zs.length := by
      have := mt (fun h => Or.inr (Or.inr (Or.inr h))) hc; omega
    have hx := getX_len hB h0 hn hk
    have hm := mark_of_put hx.2.1 hp (getK zs) (Nat.le_refl _)
    unfold liftF at h
    rw [if_neg (by omega), if_pos hm] at h
    cases h
theorem lift_yes {zs : List Int} {k : Nat} (h : (liftF zs k).2 = true) : liftF zs k = (catS zs k, true) ∧ 64 * k ≤ zs.length := by
  unfold liftF at h ⊢
  by_cases h1 : zs.length < 64 * k
  · rw [if_pos h1] at h; cases h
  · rw [if_neg h1] at h ⊢
    by_cases h2 : markOk zs k = true
    · rw [if_pos h2]; exact ⟨rfl, by omega⟩
    · rw [if_neg h2] at h; cases h
theorem getF_big {zs : List Int} (h : 60000 < getN zs) : getF zs = (noF, 0, 2) := by
  unfold getF
  rw [if_pos (Or.inr (Or.inr (Or.inl h)))]
theorem getF_end {zs : List Int} (h0 : 64 ≤ zs.length) (h1 : zs.getD 0 0 = 1) (hn : getN zs ≤ 60000) (hk : 64 * getK zs ≤ zs.length) : getF zs = if putF (getX zs) = zs.take (64 * getK zs) then (getX zs, secN (getN zs), 0) else (noF, 0, 2) := by
  unfold getF
  rw [if_neg]
  rintro (h | h | h | h)
  · omega
  · exact h h1
  · omega
  · omega

set_option maxRecDepth 100000 in
set_option maxHeartbeats 4000000 in
theorem get_any (tb : Nat) (ao : Option Addr) (zs : List Int) (m c : Nat) (w : World) (ht : TabOk w tb) (hl : Lie tb w ao zs m c) (hm : m ≤ 1000000) :
    Calls Try.prog 19 #[.pointer (some ⟨tb, 0, none⟩), .slice ao m c] w fun e w' => GetPost w tb (getF zs) e w' := by
  have HT := Lib.hid ht
  have HTL := Lib.hid ht.lt
  have HL := Lib.hid hl
  have HM := Lib.hid hm
  obtain ⟨w1, hw1⟩ : ∃ w1, w1 = w.alloc (.cells #[.int .i64 0, .int .i64 0, .int .i64 0, .slice none 0 0] 24) := ⟨_, rfl⟩
  have HR1 : Hid (FBox w1 w.heap.size 0 0 0 (.slice none 0 0)) := Lib.hid (by rw [hw1]; exact FBox.new _ _ _ _ _)
  have HB1 : Hid (Below w.heap.size w w1) := Lib.hid (by rw [hw1]; exact (Below.refl _ _).alloc (Nat.le_refl _) _)
  have HW1 := Lib.hid hw1
  have HSW : Hid (w.heap.size < w1.heap.size) := Lib.hid HR1.out.lt
  have HLF := Lib.hid (lifts_any ao zs m c 1 w1 hl.len (ints_below hl.ints HB1.out) hl.inb hl.cap hl.cm (by omega))
  clear ht hl hm hw1
  go_enter Try.func19, Try.ntmps19
  go_wp2_with fail
  rw [← HW1.out]
  refine HLF.out.mono ?_
  rintro e w2 ⟨a2, c2, rfl, hr2⟩
  have HR2 := Lib.hid hr2
  have HX2 := Lib.hid (HR1.out.below hr2.2.1)
  have HB2 : Hid (Below w.heap.size w w2) := Lib.hid (below_step HB1.out hr2.2.1)
  clear hr2 HLF
  cases hq : (liftF zs 1).2
  · have HG := Lib.hid (getF_no1 hq)
    clear hq
    obtain ⟨f0, f1, f2, f3⟩ := HX2.out.free
    obtain ⟨n0, n1, n2, n3⟩ := HX2.out.cells
    go_wp2_with fail
    rw [show (((w2.setCell ⟨w.heap.size, 0, none⟩ (.int .i64 0)).setCell ⟨w.heap.size, 1, none⟩ (.int .i64 0)).setCell ⟨w.heap.size, 2, none⟩ (.int .i64 0)).setCell ⟨w.heap.size, 3, none⟩ (.slice none 0 0) = fillB w2 w.heap.size 0 0 0 (.slice none 0 0) from rfl]
    obtain ⟨q0, q1, q2, q3⟩ := (HX2.out.fill 0 0 0 (.slice none 0 0)).cells
    refine bodyPost_ret (v := .tuple #[.agg #[.int .i64 0, .int .i64 0, .int .i64 0, .slice none 0 0], .int .i64 0, .int .i64 2]) (by simp [results, Try.results19, go_sem, q0, q1, q2, q3]) rfl ?_
    rw [HG.out]
    exact get_none (Keeps.of_below HB2.out) (HT.out.below HB2.out) (Nat.le_refl _) HTL.out HX2.out
  · have HY := Lib.hid (getF_yes1 hq)
    clear hq
    rw [HY.out.1] at HR2 ⊢
    dsimp only at HR2 ⊢
    have HS1 : Hid ((catS zs 1).length = 63) := Lib.hid (catS_len zs 1 (by have := HY.out.2.1; omega))
    rw [HS1.out]
    rw [HS1.out] at HR2
    have HI2 : Hid (IntsAt .u8 w2 a2 (catS zs 1)) := Lib.hid (by have h := HR2.out.1; rw [HS1.out] at h; exact (owns_at h).2.1)
    have HND := Lib.hid (newDec a2 (catS zs 1) 63 c2 w2 HS1.out HI2.out (catS_inB HL.out.inb 1) (by omega))
    go_wp2_with fail
    refine HND.out.mono ?_
    rintro e w3 ⟨p, g, rfl, hd3, hb3, hp3, hg3⟩
    have HD3 : Hid (DI 100 w2 p g (catS zs 1) w3) := Lib.hid ⟨hd3, hb3, hp3⟩
    have HX3 := Lib.hid (HX2.out.below hb3)
    have HPG : Hid (w2.heap.size ≤ p ∧ w2.heap.size ≤ g ∧ w.heap.size < w2.heap.size) := Lib.hid ⟨hp3, hg3, HX2.out.lt⟩
    clear hd3 hb3 hp3 hg3 HND HR2 HI2
    obtain ⟨S, hS⟩ : ∃ S, S = catS zs 1 := ⟨_, rfl⟩
    have HHD : Hid (∀ i s, i + s ≤ 63 → valB ((S.drop i).take s) = hdF zs (i + 1) s) := Lib.hid (fun i s h => by rw [hS, hd_cat HY.out.2.1 i s h]; rfl)
    have HBB : Hid (∀ i, InB (S.drop i)) := Lib.hid (fun i => by rw [hS]; exact inB_drop (catS_inB HL.out.inb 1) i)
    have HSN : Hid (S.length = 63) := Lib.hid (by rw [hS]; exact HS1.out)
    rw [← hS] at HD3
    clear hS HS1
    have HE0 : Hid (S = S.drop 0) := Lib.hid (by rw [List.drop_zero])
    rw [HE0.out] at HD3
    have HC3 := Lib.hid (HD3.out.num (HBB.out 0) 2 (by omega) (by rw [List.length_drop, HSN.out]; omega))
    rw [List.drop_drop, HHD.out 0 2 (by omega)] at HC3
    generalize hdF zs (0 + 1) 2 = x0 at HC3
    go_wp2_with fail
    refine HC3.out.mono ?_
    rintro e w4 ⟨rfl, hd4, hk4⟩
    have HD4 := Lib.hid hd4
    have HX4 := Lib.hid (HX3.out.keep hk4 (by have := HPG.out; omega))
    clear hd4 hk4 HC3 HD3 HX3
    have HC4 := Lib.hid (HD4.out.num (HBB.out (0 + 2)) 1 (by omega) (by rw [List.length_drop, HSN.out]; omega))
    rw [List.drop_drop, HHD.out 2 1 (by omega)] at HC4
    go_wp2_with fail
    refine HC4.out.mono ?_
    rintro e w5 ⟨rfl, hd5, hk5⟩
    have HD5 := Lib.hid hd5
    have HX5 := Lib.hid (HX4.out.keep hk5 (by have := HPG.out; omega))
    clear hd5 hk5 HC4 HD4 HX4
    obtain ⟨k0, hk0⟩ : ∃ k0, k0 = hdF zs (2 + 1) 1 := ⟨_, rfl⟩
    rw [← hk0]
    have HK0 := Lib.hid hk0
    clear hk0
    have HC5 := Lib.hid (fun (wx : World) (h : DI 100 w2 p g (S.drop (2 + 1)) wx) => h.num (HBB.out (2 + 1)) 1 (by omega) (by rw [List.length_drop, HSN.out]; omega))
    rw [List.drop_drop, HHD.out (2 + 1) 1 (by omega)] at HC5
    obtain ⟨w6, hw6⟩ : ∃ w6, w6 = w5.alloc (.cells #[.int .i64 k0, .int .i64 0, .int .i64 0, .slice none 0 0] 24) := ⟨_, rfl⟩
    have HF6 : Hid (FBox w6 w5.heap.size k0 0 0 (.slice none 0 0)) := Lib.hid (by rw [hw6]; exact FBox.new _ _ _ _ _)
    have HB6 : Hid (Below w5.heap.size w5 w6) := Lib.hid (by rw [hw6]; exact (Below.refl _ _).alloc (Nat.le_refl _) _)
    have HW6 := Lib.hid hw6
    have HD6 := Lib.hid (HD5.out.later HB6.out)
    have HX6 := Lib.hid (HX5.out.below HB6.out)
    have HPX : Hid (p < w5.heap.size ∧ w.heap.size < w5.heap.size ∧ w2.heap.size ≤ w5.heap.size ∧ g < w5.heap.size) := Lib.hid ⟨HD5.out.1.lt, HX5.out.lt, HD5.out.2.1.size, HD5.out.1.glt.resolve_left (fun h => by have h2 := congrArg List.length h; rw [List.length_drop, HSN.out] at h2; simp at h2)⟩
    have HC6 := Lib.hid (HC5.out w6 HD6.out)
    generalize hdF zs (2 + 1 + 1) 1 = x1 at HC6
    clear hw6 HC5 HD5 HX5
    go_wp2_with fail
    rw [← HW6.out]
    generalize w5.heap.size = X at *
    refine HC6.out.mono ?_
    rintro e w7 ⟨rfl, hd7, hk7⟩
    have HD7 := Lib.hid hd7
    have HX7 := Lib.hid (HX6.out.keep hk7 (by have := HPG.out; omega))
    have HF7 := Lib.hid (HF6.out.keep hk7 (by have := HPX.out; omega))
    clear hd7 hk7 HC6 HD6 HX6 HF6 HW6 HB6
    have HHX : Hid (hdF zs 3 1 = k0) := Lib.hid HK0.out.symm
    clear HK0
    obtain ⟨g0, hg0⟩ : ∃ g0, g0 = hdF zs 5 4 := ⟨_, rfl⟩
    obtain ⟨s0, hs0⟩ : ∃ s0, s0 = hdF zs 9 4 := ⟨_, rfl⟩
    have HGS : Hid (hdF zs 5 4 = g0 ∧ hdF zs 9 4 = s0) := Lib.hid ⟨hg0.symm, hs0.symm⟩
    clear hg0 hs0
    have HC7 := Lib.hid (HD7.out.num (HBB.out 4) 4 (by omega) (by rw [List.length_drop, HSN.out]; omega))
    rw [List.drop_drop, HHD.out 4 4 (by omega), show hdF zs (4 + 1) 4 = g0 from HGS.out.1] at HC7
    go_wp2_with fail
    refine HC7.out.mono ?_
    rintro e w8 ⟨rfl, hd8, hk8⟩
    have HD8 := Lib.hid hd8
    have HX8 := Lib.hid (HX7.out.keep hk8 (by have := HPG.out; omega))
    have HF8 := Lib.hid (HF7.out.keep hk8 (by have := HPX.out; omega))
    clear hd8 hk8 HC7 HD7 HX7 HF7
    have HC8 := Lib.hid (HD8.out.num (HBB.out (4 + 4)) 4 (by omega) (by rw [List.length_drop, HSN.out]; omega))
    rw [List.drop_drop, HHD.out (4 + 4) 4 (by omega), show hdF zs (4 + 4 + 1) 4 = s0 from HGS.out.2] at HC8
    go_wp2_with fail
    refine HC8.out.mono ?_
    rintro e w9 ⟨rfl, hd9, hk9⟩
    have HD9 := Lib.hid hd9
    have HX9 := Lib.hid (HX8.out.keep hk9 (by have := HPG.out; omega))
    have HF9 := Lib.hid (HF8.out.keep hk9 (by have := HPX.out; omega))
    clear hd9 hk9 HC8 HD8 HX8 HF8
    obtain ⟨w10, hw10⟩ : ∃ w10, w10 = (w9.setCell ⟨X, 1, none⟩ (.int .i64 g0)).setCell ⟨X, 2, none⟩ (.int .i64 s0) := ⟨_, rfl⟩
    have HF10 : Hid (FBox w10 X k0 g0 s0 (.slice none 0 0)) := Lib.hid (by rw [hw10]; exact (HF9.out.set1 g0).set2 s0)
    have HK10 : Hid (Keeps (fun i => i = X) w9 w10) := Lib.hid (by rw [hw10]; exact ((Keeps.refl (fun i => i = X) w9).setCell (p := ⟨X, 1, none⟩) (Or.inl rfl) _).setCell (p := ⟨X, 2, none⟩) (Or.inl rfl) _)
    have HX10 := Lib.hid (HX9.out.keep HK10.out (by have := HPX.out; omega))
    have HD10 := Lib.hid (HD9.out.keep HK10.out (by have := HPX.out; omega) (by have := HPX.out; omega) (fun i hi => by have := HPX.out; omega))
    have HW10 := Lib.hid hw10
    obtain ⟨f0, f1, f2, f3⟩ := HF9.out.free
    obtain ⟨n0, n1, n2, n3⟩ := HF9.out.cells
    have HC10 := Lib.hid (HD10.out.num (HBB.out (4 + 4 + 4)) 4 (by omega) (by rw [List.length_drop, HSN.out]; omega))
    have HNI := Lib.hid (getN_in HL.out.inb HY.out.2.1)
    obtain ⟨nn, hnn⟩ : ∃ nn : Nat, getN zs = (nn : Int) := ⟨(getN zs).toNat, by have := HNI.out; omega⟩
    rw [List.drop_drop, HHD.out (4 + 4 + 4) 4 (by omega), show hdF zs (4 + 4 + 4 + 1) 4 = (nn : Int) from hnn] at HC10
    have HNN := Lib.hid hnn
    clear hw10 hnn
    go_wp2_with fail
    rw [← HW10.out]
    refine HC10.out.mono ?_
    rintro e w11 ⟨rfl, hd11, hk11⟩
    have HB11 : Hid (Below w.heap.size w w11) := Lib.hid (below_step HB2.out hd11.2.1)
    have HX11 := Lib.hid (HX10.out.keep hk11 (by have := HPG.out; omega))
    have HF11 := Lib.hid (HF10.out.keep hk11 (by have := HPX.out; omega))
    clear hd11 hk11 HC10 HD10 HX10 HF10 HD9 HX9 HF9 HW10 HK10 f0 f1 f2 f3 n0 n1 n2 n3
    have HKK : Hid (secN (nn : Int) = (getK zs : Int) ∧ getK zs ≤ 953) := Lib.hid (by
      have h1 := secN_in (nn : Int)
      unfold getK
      rw [HNN.out]
      omega)
    have HKP : Hid (nn ≤ 60000 → 1 ≤ getK zs ∧ 24 + nn ≤ 63 * getK zs) := Lib.hid (fun h => by
      have h1 := secN_pos (n := (nn : Int)) (by omega) (by omega)
      have := HKK.out
      omega)
    have HGB : Hid (60000 < nn → getF zs = (noF, 0, 2)) := Lib.hid (fun h => getF_big (by rw [HNN.out]; omega))
    have HG2 : Hid (nn ≤ 60000 → (liftF zs (getK zs)).2 = false → getF zs = (noF, 0, 2)) := Lib.hid (fun h => getF_no2 HL.out.inb HY.out.2.1 (by rw [HNN.out]; omega))
    have HGE : Hid (nn ≤ 60000 → 64 * getK zs ≤ zs.length → getF zs = if putF (getX zs) = zs.take (64 * getK zs) then (getX zs, (getK zs : Int), 0) else (noF, 0, 2)) := Lib.hid (fun h hk => by
      rw [getF_end HY.out.2.1 HY.out.2.2 (by rw [HNN.out]; omega) hk, HNN.out, HKK.out.1])
    have HGX : Hid (getX zs = ⟨k0, g0, s0, ((catS zs (getK zs)).drop 24).take nn⟩) := Lib.hid (by
      unfold getX
      rw [HHX.out, HGS.out.1, HGS.out.2, HNN.out, Int.toNat_natCast])
    have HXO := Lib.hid (getX_ok HL.out.inb HY.out.2.1)
    have HXL : Hid (nn ≤ 60000 → 64 * getK zs ≤ zs.length → (getX zs).b.length = nn ∧ (putF (getX zs)).length = 64 * getK zs) := Lib.hid (fun h hk => by
      have h1 := getX_len HL.out.inb HY.out.2.1 (by rw [HNN.out]; omega) hk
      rw [HNN.out] at h1
      exact ⟨by omega, by rw [putF_len, h1.2.1]⟩)
    generalize getK zs = K at *
    go_wp2_with fail
    refine (sectors_any (nn : Int) w11).mono ?_
    rintro e w12 ⟨rfl, rfl⟩
    rename World => w11
    rw [HKK.out.1]
    have HLK := Lib.hid (lifts_any ao zs m c K w11 HL.out.len (ints_below HL.out.ints HB11.out) HL.out.inb HL.out.cap HL.out.cm HKK.out.2)
    go_wp2_with fail
    refine HLK.out.mono ?_
    rintro e w12 ⟨a12, c12, rfl, hr12⟩
    have HB12 : Hid (Below w.heap.size w w12) := Lib.hid (below_step HB11.out hr12.2.1)
    have HX12 := Lib.hid (HX11.out.below hr12.2.1)
    have HF12 := Lib.hid (HF11.out.below hr12.2.1)
    have HT12 := Lib.hid (HT.out.below HB12.out)
    have HR12 := Lib.hid hr12.1
    clear hr12 HLK HX11 HF11 HB11
    by_cases hbig : (60000 : Int) < (nn : Int)
    · have HG := Lib.hid (HGB.out (by omega))
      obtain ⟨f0, f1, f2, f3⟩ := HX12.out.free
      obtain ⟨n0, n1, n2, n3⟩ := HX12.out.cells
      go_wp2_with fail
      rw [show (((w12.setCell ⟨w.heap.size, 0, none⟩ (.int .i64 0)).setCell ⟨w.heap.size, 1, none⟩ (.int .i64 0)).setCell ⟨w.heap.size, 2, none⟩ (.int .i64 0)).setCell ⟨w.heap.size, 3, none⟩ (.slice none 0 0) = fillB w12 w.heap.size 0 0 0 (.slice none 0 0) from rfl]
      obtain ⟨q0, q1, q2, q3⟩ := (HX12.out.fill 0 0 0 (.slice none 0 0)).cells
      refine bodyPost_ret (v := .tuple #[.agg #[.int .i64 0, .int .i64 0, .int .i64 0, .slice none 0 0], .int .i64 0, .int .i64 2]) (by simp [results, Try.results19, go_sem, q0, q1, q2, q3]) rfl ?_
      rw [HG.out]
      exact get_none (Keeps.of_below HB12.out) HT12.out (Nat.le_refl _) HTL.out HX12.out
    have HNB : Hid (nn ≤ 60000) := Lib.hid (by omega)
    cases hq : (liftF zs K).2
    · have HG := Lib.hid (HG2.out HNB.out hq)
      clear hq
      obtain ⟨f0, f1, f2, f3⟩ := HX12.out.free
      obtain ⟨n0, n1, n2, n3⟩ := HX12.out.cells
      go_wp2_with fail
      rw [show (((w12.setCell ⟨w.heap.size, 0, none⟩ (.int .i64 0)).setCell ⟨w.heap.size, 1, none⟩ (.int .i64 0)).setCell ⟨w.heap.size, 2, none⟩ (.int .i64 0)).setCell ⟨w.heap.size, 3, none⟩ (.slice none 0 0) = fillB w12 w.heap.size 0 0 0 (.slice none 0 0) from rfl]
      obtain ⟨q0, q1, q2, q3⟩ := (HX12.out.fill 0 0 0 (.slice none 0 0)).cells
      refine bodyPost_ret (v := .tuple #[.agg #[.int .i64 0, .int .i64 0, .int .i64 0, .slice none 0 0], .int .i64 0, .int .i64 2]) (by simp [results, Try.results19, go_sem, q0, q1, q2, q3]) rfl ?_
      rw [HG.out]
      exact get_none (Keeps.of_below HB12.out) HT12.out (Nat.le_refl _) HTL.out HX12.out
    have HLY := Lib.hid (lift_yes hq)
    clear hq HGB HG2
    rw [HLY.out.1] at HR12 ⊢
    dsimp only at HR12 ⊢
    have HKL := Lib.hid (HKP.out HNB.out)
    have HCL : Hid ((catS zs K).length = 63 * K) := Lib.hid (catS_len zs K HLY.out.2)
    rw [HCL.out] at HR12 ⊢
    have hia := owns_at HR12.out
    obtain ⟨b12, o12, rfl⟩ : ∃ b off, a12 = some ⟨b, off, none⟩ := by
      rcases hia.2.1 with h | ⟨b, off, h, _⟩
      · have h1 := HCL.out; have h2 := HKL.out; rw [h] at h1; simp at h1; omega
      · exact ⟨b, off, h⟩
    have HI12 : Hid (IntsAt .u8 w12 (some ⟨b12, o12 + 24, none⟩) (((catS zs K).drop 24).take nn)) := Lib.hid ((hia.2.1.drop 24).take nn)
    have HCC : Hid (63 * K ≤ c12 ∧ c12 ≤ maxLen) := Lib.hid ⟨hia.2.2.1, hia.2.2.2⟩
    clear hia HR12
    have HBL : Hid ((((catS zs K).drop 24).take nn).length = nn) := Lib.hid (by rw [List.length_take, List.length_drop, HCL.out]; have := HKL.out; omega)
    have HBI : Hid (InB (((catS zs K).drop 24).take nn)) := Lib.hid (inB_take (inB_drop (catS_inB HL.out.inb K) 24) nn)
    generalize ((catS zs K).drop 24).take nn = body at *
    have HCN := Lib.hid (bclone_u8 (some ⟨b12, o12 + 24, none⟩) body nn (c12 - 24) w12 HBL.out HI12.out (by have := HNB.out; omega))
    have e1 : wrap64 (24 + (nn : Int)) = 24 + (nn : Int) := by unfold wrap64; omega
    have e2 : (24 + (nn : Int)).toNat = 24 + nn := by omega
    have e3 : 24 + nn - 24 = nn := by omega
    have e4 : (24 : Int) ≤ 24 + (nn : Int) := by omega
    have e5 : 24 + (nn : Int) ≤ (c12 : Int) := by have := HCC.out; have := HKL.out; omega
    have e6 : ¬ c12 = 24 := by have := HCC.out; have := HKL.out; omega
    go_wp2_with fail
    refine HCN.out.mono ?_
    rintro e w13 ⟨a13, c13, rfl, hr13⟩
    rw [HBL.out] at hr13 ⊢
    have HO13 : Hid (Own tb w13 a13 body nn c13) := Lib.hid (RowAt.own hr13 (by have := HTL.out; have := HB12.out.size; omega) HBL.out HBI.out)
    have HX13 := Lib.hid (HX12.out.below hr13.2.1)
    have HF13 := Lib.hid (HF12.out.below hr13.2.1)
    have HB13 : Hid (Below w.heap.size w w13) := Lib.hid (below_step HB12.out hr13.2.1)
    have HG13 : Hid (∀ x, (Value.slice a13 nn c13).ownBlock = some x → x ≠ X ∧ w.heap.size < x) := Lib.hid (fun x hx => by have := hr13.2.2 x hx; have := HF12.out.lt; have := HX12.out.lt; omega)
    clear hr13 HCN HX12 HF12 HI12 HT12 HB12 e1 e2 e3 e4 e5 e6
    obtain ⟨w14, hw14⟩ : ∃ w14, w14 = w13.setCell ⟨X, 3, none⟩ (.slice a13 nn c13) := ⟨_, rfl⟩
    have HF14 : Hid (FBox w14 X k0 g0 s0 (.slice a13 nn c13)) := Lib.hid (by rw [hw14]; exact HF13.out.set3 _)
    have HK14 : Hid (Keeps (fun i => i = X) w13 w14) := Lib.hid (by rw [hw14]; exact (Keeps.refl (fun i => i = X) w13).setCell (p := ⟨X, 3, none⟩) (Or.inl rfl) _)
    have HX14 := Lib.hid (HX13.out.keep HK14.out (by have := HPX.out; omega))
    have HB14 : Hid (Below w.heap.size w w14) := Lib.hid (below_fp HB13.out HK14.out (fun i hi => by have := HPX.out; omega))
    have HO14 : Hid (Own tb w14 a13 body nn c13) := Lib.hid ⟨ownsRow_same HO13.out.row (fun x hx => HK14.out.block x (HO13.out.row.lt x hx).2 (HG13.out x hx).1), HO13.out.len, HO13.out.inb, HO13.out.off⟩
    have HT14 := Lib.hid (HT.out.below HB14.out)
    have HW14 := Lib.hid hw14
    have HPT := Lib.hid (put_any2 tb ⟨k0, g0, s0, body⟩ a13 nn c13 w14 HT14.out HBL.out HO14.out.lie.ints HBI.out HO14.out.lie.off)
    rw [← HGX.out] at HPT
    have HPR : Hid (putR (getX zs) = (putF (getX zs), 0)) := Lib.hid (by
      unfold putR
      have h1 := HXL.out HNB.out HLY.out.2
      rw [if_neg (by rw [h1.1]; have := HNB.out; omega), if_pos HXO.out])
    rw [HPR.out] at HPT
    obtain ⟨f0, f1, f2, f3⟩ := HF13.out.free
    obtain ⟨n0, n1, n2, n3⟩ := HF13.out.cells
    obtain ⟨y0, y1, y2, y3⟩ := HF14.out.cells
    rw [hw14] at y0 y1 y2 y3
    clear hw14
    rw [show (getX zs).k = k0 by rw [HGX.out], show (getX zs).g = g0 by rw [HGX.out], show (getX zs).s = s0 by rw [HGX.out]] at HPT
    go_wp2_with fail
    rw [← HW14.out]
    refine HPT.out.mono ?_
    rintro e w15 ⟨a15, c15, rfl, hr15⟩
    have HPL : Hid ((putF (getX zs)).length = 64 * K) := Lib.hid (HXL.out HNB.out HLY.out.2).2
    dsimp only at hr15 ⊢
    have HO15 : Hid (Own tb w15 a15 (putF (getX zs)) (64 * K) c15) := Lib.hid (by
      rw [HPL.out] at hr15
      exact RowT.own hr15 HT14.out.lt HPL.out (putF_inB (by rw [HGX.out]; exact HBI.out)))
    rw [HPL.out]
    have HT15 := Lib.hid hr15.1
    have HX15 := Lib.hid (HX14.out.keep hr15.2.2.1 (by have := HTL.out; omega))
    have HF15 := Lib.hid (HF14.out.keep hr15.2.2.1 (by have := HTL.out; have := HPX.out; omega))
    have HK15 : Hid (Keeps (fun i => i = tb) w w15) := Lib.hid ((Keeps.of_below HB14.out).trans hr15.2.2.1 (fun i hi => Or.inl hi))
    have HR15 := Lib.hid (HO14.out.step hr15.2.2.1)
    clear hr15 HPT HX13 HF13 HX14 HF14 HO13 HO14 HW14 HK14 HT14 f0 f1 f2 f3 n0 n1 n2 n3 y0 y1 y2 y3
    have HL15 := Lib.hid ((HL.out.step HK15.out).take (64 * K) (by rw [← HL.out.len]; exact HLY.out.2))
    have HBE := Lib.hid (bytes_equal a15 ao (putF (getX zs)) (zs.take (64 * K)) (64 * K) (64 * K) c15 c w15 HPL.out HL15.out.len HO15.out.lie.ints HL15.out.ints HO15.out.inb HL15.out.inb)
    have HGE2 := Lib.hid (HGE.out HNB.out HLY.out.2)
    obtain ⟨bb, bo, rfl⟩ : ∃ b off, ao = some ⟨b, off, none⟩ := by
      rcases HL.out.ints with h | ⟨b, off, h, _⟩
      · have := HY.out.2.1; rw [h] at this; simp at this
      · exact ⟨b, off, h⟩
    obtain ⟨M, hM⟩ : ∃ M, M = 64 * K := ⟨_, rfl⟩
    have HMK := Lib.hid hM
    rw [← hM] at HBE HPL HO15 HGE2 ⊢
    clear hM
    have e0 : (0 : Int) ≤ (M : Int) := by omega
    have e1 : (M : Int) ≤ (c : Int) := by have := HMK.out; have := HLY.out.2; have := HL.out.len; have := HL.out.cap; omega
    go_wp2_with fail
    refine HBE.out.mono ?_
    rintro e w16 ⟨rfl, rfl⟩
    rename World => w15
    cases hq : eqB (putF (getX zs)) (zs.take M)
    · have HG : Hid (getF zs = (noF, 0, 2)) := Lib.hid (by
        rw [HGE2.out, if_neg]
        unfold eqB at hq
        simpa using hq)
      clear hq
      obtain ⟨f0, f1, f2, f3⟩ := HX15.out.free
      obtain ⟨n0, n1, n2, n3⟩ := HX15.out.cells
      go_wp2_with fail
      rw [show (((w15.setCell ⟨w.heap.size, 0, none⟩ (.int .i64 0)).setCell ⟨w.heap.size, 1, none⟩ (.int .i64 0)).setCell ⟨w.heap.size, 2, none⟩ (.int .i64 0)).setCell ⟨w.heap.size, 3, none⟩ (.slice none 0 0) = fillB w15 w.heap.size 0 0 0 (.slice none 0 0) from rfl]
      obtain ⟨q0, q1, q2, q3⟩ := (HX15.out.fill 0 0 0 (.slice none 0 0)).cells
      refine bodyPost_ret (v := .tuple #[.agg #[.int .i64 0, .int .i64 0, .int .i64 0, .slice none 0 0], .int .i64 0, .int .i64 2]) (by simp [results, Try.results19, go_sem, q0, q1, q2, q3]) rfl ?_
      rw [HG.out]
      exact get_none HK15.out HT15.out (Nat.le_refl _) HTL.out HX15.out
    have HG : Hid (getF zs = (getX zs, (K : Int), 0)) := Lib.hid (by
      rw [HGE2.out, if_pos]
      unfold eqB at hq
      simpa using hq)
    clear hq HGE HGE2 HBE
    go_upto_region 17 with fail
    obtain ⟨f0, f1, f2, f3⟩ := HX15.out.free
    obtain ⟨n0, n1, n2, n3⟩ := HX15.out.cells
    obtain ⟨y0, y1, y2, y3⟩ := HF15.out.cells
    have HSE := Lib.hid (sectors_any (nn : Int) w15.drew)
    rw [HKK.out.1] at HSE
    refine wp_region_held_drew (S := fun w' => w'.cell? ⟨X, 0, none⟩ = some (.int .i64 k0) ∧ w'.cell? ⟨X, 1, none⟩ = some (.int .i64 g0) ∧ w'.cell? ⟨X, 2, none⟩ = some (.int .i64 s0) ∧ w'.cell? ⟨X, 3, none⟩ = some (.slice a13 nn c13)) (by kernel_rfl) ?_ (fun hHeld => ?_)
    · exact ⟨y0, y1, y2, y3⟩
    refine take_at (i := 0) (d := 78) (v := ?_) rfl rfl (by kernel_rfl) (by kernel_rfl) (by kernel_rfl) (fun _ _ _ h => h) (Or.inl ⟨by rfl, by intro w' hSw; (try dsimp only at hSw); go_simp; try with_reducible rfl⟩) (by assumption) ?_
    simp only [List.setIfInBounds_toArray, List.set_cons_zero, List.set_cons_succ]
    refine take_at (i := 1) (d := 79) (v := ?_) rfl rfl (by kernel_rfl) (by kernel_rfl) (by kernel_rfl) (fun _ _ _ h => h) (Or.inl ⟨by rfl, by intro w' hSw; (try dsimp only at hSw); go_simp; try with_reducible rfl⟩) (by assumption) ?_
    simp only [List.setIfInBounds_toArray, List.set_cons_zero, List.set_cons_succ]
    refine wpAnyH_ready (rs := [2]) (by kernel_rfl) (by simp) ?_
    refine AllReadyH.cons rfl (fun K hK => ?_) AllReadyH.nil
    go_simp
    go_at_call 17
    refine HSE.out.mono ?_
    rintro e w16 ⟨rfl, rfl⟩
    dsimp only
    go_wp2_with fail
    refine hK.out _ _ ?_ (fun hHeld => ?_)
    · exact ⟨y0, y1, y2, y3⟩
    clear hK K
    try simp only [Act.put, List.getElem_toArray, List.getElem_cons_succ, List.getElem_cons_zero]
    try simp only [List.setIfInBounds_toArray, List.set_cons_zero, List.set_cons_succ]
    refine wpAnyH_ready (rs := [3]) (by kernel_rfl) (by simp) ?_
    refine AllReadyH.cons rfl (fun K hK => ?_) AllReadyH.nil
    go_simp
    go_wp2_with fail
    refine hK.out _ _ ?_ (fun hHeld => ?_)
    · exact (FBox.keep (w := w15.drew) HF15.out (fillB_keeps w15.drew w.heap.size k0 g0 s0 (.slice a13 nn c13)) (by have := HPX.out; omega)).cells
    clear hK K
    try simp only [Act.put, List.getElem_toArray, List.getElem_cons_succ, List.getElem_cons_zero]
    try simp only [List.setIfInBounds_toArray, List.set_cons_zero, List.set_cons_succ]
    refine take_at (i := 4) (d := 5) (v := ?_) rfl rfl (by kernel_rfl) (by kernel_rfl) (by kernel_rfl) (fun _ _ _ h => h) (Or.inl ⟨by rfl, by intro w' hSw; (try dsimp only at hSw); go_simp; try with_reducible rfl⟩) (by assumption) ?_
    simp only [List.setIfInBounds_toArray, List.set_cons_zero, List.set_cons_succ]
    refine take_at (i := 5) (d := 6) (v := ?_) rfl rfl (by kernel_rfl) (by kernel_rfl) (by kernel_rfl) (fun _ _ _ h => h) (Or.inl ⟨by rfl, by intro w' hSw; (try dsimp only at hSw); go_simp; try with_reducible rfl⟩) (by assumption) ?_
    simp only [List.setIfInBounds_toArray, List.set_cons_zero, List.set_cons_succ]
    refine wpAnyH_done (by kernel_rfl) ?_ _
    clear hHeld
    obtain ⟨wF, hwF⟩ : ∃ wF, wF = fillB w15 w.heap.size k0 g0 s0 (.slice a13 nn c13) := ⟨_, rfl⟩
    rw [show (((w15.setCell ⟨w.heap.size, 0, none⟩ (.int .i64 k0)).setCell ⟨w.heap.size, 1, none⟩ (.int .i64 g0)).setCell ⟨w.heap.size, 2, none⟩ (.int .i64 s0)).setCell ⟨w.heap.size, 3, none⟩ (.slice a13 nn c13) = wF from hwF.symm]
    have HKF : Hid (Keeps (fun i => i = w.heap.size) w15 wF) := Lib.hid (by rw [hwF]; exact fillB_keeps _ _ _ _ _ _)
    have HXF : Hid (FBox wF w.heap.size k0 g0 s0 (.slice a13 nn c13)) := Lib.hid (by rw [hwF]; exact HX15.out.fill _ _ _ _)
    clear hwF f0 f1 f2 f3 n0 n1 n2 n3 y0 y1 y2 y3
    obtain ⟨q0, q1, q2, q3⟩ := HXF.out.cells
    go_wp2_with fail
    refine bodyPost_ret (v := .tuple #[.agg #[.int .i64 k0, .int .i64 g0, .int .i64 s0, .slice a13 nn c13], .int .i64 K, .int .i64 0]) (by simp [results, Try.results19, go_sem, q0, q1, q2, q3]) rfl ?_
    rw [HG.out, HGX.out]
    have HTF : Hid (TabOk wF tb) := Lib.hid (tab_keep HT15.out HKF.out (by have := HTL.out; omega))
    refine ⟨a13, c13, ?_, HTF.out, ?_, (HK15.out.trans HKF.out (fun i hi => Or.inr (by omega))).drew, fun x hx => ?_⟩
    · dsimp only; rw [HBL.out]
    · dsimp only
      rw [HBL.out]
      exact ownsRow_same HR15.out.row (fun x hx => HKF.out.block x (HR15.out.row.lt x hx).2 (by have := (HG13.out x hx).2; omega))
    · dsimp only at hx
      rw [HBL.out] at hx
      have := (HG13.out x hx).2
      omega

end Go.Proofs.Yteabnagdfecleaa
