/- SealPeeks is true for every input, and its arguments read behind the call as before; no condition: the walk. -/
import Derived.Test.YteabnagdfecleaaSf
namespace Go.Proofs.Yteabnagdfecleaa
open Go.RowKit
set_option linter.unusedVariables false
set_option linter.unusedSimpArgs false

set_option maxRecDepth 100000 in
set_option maxHeartbeats 4000000 in
theorem speeks_core (W : World) (ko : Option Addr) (key : List Int) (kn kc : Nat) (hkn : key.length = kn) (hkz : IntsAt .u8 W ko key) (hkB : InB key) (hkc : kn ≤ kc) (hkm : kc ≤ maxLen) (ao : Option Addr) (zs : List Int) (m c : Nat) (hm : zs.length = m) (hz : IntsAt .u8 W ao zs) (hB : InB zs) (hc : m ≤ c) (hcm : c ≤ maxLen) (cut : Int) :
    Calls Try.prog 11 #[.slice ko kn kc, .slice ao m c, .int .i64 cut] W fun e w' => e = .returned (.bool true) ∧ Below W.heap.size W w' := by
  have HKA : Hid (key.length = kn ∧ IntsAt .u8 W ko key ∧ InB key ∧ kn ≤ kc ∧ kc ≤ maxLen) := Lib.hid ⟨hkn, hkz, hkB, hkc, hkm⟩
  have HA : Hid (zs.length = m ∧ IntsAt .u8 W ao zs ∧ InB zs ∧ m ≤ c ∧ c ≤ maxLen) := Lib.hid ⟨hm, hz, hB, hc, hcm⟩
  clear hkn hkz hkB hkc hkm hm hz hB hc hcm
  go_enter Try.func11, Try.ntmps11
  go_wp2_with fail
  (with_reducible refine (first14_any W).mono ?_)
  rintro e w1 ⟨rfl, hb1⟩
  have HB1 := Lib.hid hb1
  clear hb1
  by_cases hbig : (2000 : Int) < (m : Int)
  · go_wp2_with fail
    (with_reducible refine (first14_any w1).mono ?_)
    rintro e w2 ⟨rfl, hb2⟩
    have HB2 : Hid (Below W.heap.size W w2) := Lib.hid (below_step HB1.out hb2)
    clear hb2
    go_wp2
    go_ret
    exact ⟨rfl, HB2.out⟩
  by_cases hbk : (200 : Int) < (kn : Int)
  · go_wp2_with fail
    (with_reducible refine (first14_any w1).mono ?_)
    rintro e w2 ⟨rfl, hb2⟩
    have HB2 : Hid (Below W.heap.size W w2) := Lib.hid (below_step HB1.out hb2)
    clear hb2
    go_wp2
    go_ret
    exact ⟨rfl, HB2.out⟩
  have HML : Hid (m ≤ 2000 ∧ kn ≤ 200) := Lib.hid (by omega)
  go_wp2_with fail
  (with_reducible refine (newTable_any w1).mono ?_)
  rintro e w2 ⟨rfl, ht2, hb2⟩
  have HS2 : Hid (St W w1.heap.size w2) := Lib.hid ⟨ht2, below_step HB1.out hb2, HB1.out.size⟩
  clear ht2 hb2
  generalize w1.heap.size = tb at *
  have HPK : Hid (∀ (wx : World) (h : St W tb wx) (k : Nat), k ≤ m → Calls Try.prog 27 #[.slice ao k c] wx fun e w' => e = .returned (.tuple #[.int .i64 (splitF (zs.take k)).1.p, .int .i64 (splitF (zs.take k)).1.l, .int .i64 (splitF (zs.take k)).1.w, .int .i64 (splitF (zs.take k)).2]) ∧ Below wx.heap.size wx w') := Lib.hid (fun wx h k hk => by
    have hl := (Lie.arg (c := c) HA.out.1 HA.out.2.1 HA.out.2.2.1 HA.out.2.2.2.1 HA.out.2.2.2.2 h).take k hk
    exact peek_any ao (zs.take k) k c wx hl.len hl.ints hl.inb hl.cap hl.cm (by have := HML.out; omega))
  have HP0 := Lib.hid (HPK.out w2 HS2.out m (Nat.le_refl _))
  have HTK : Hid (zs.take m = zs) := Lib.hid (by rw [← HA.out.1, List.take_length])
  rw [HTK.out] at HP0
  have HOPN := Lib.hid (fun (wx : World) (h : St W tb wx) => open_st h ko key kn kc ao zs m c (Lie.arg HKA.out.1 HKA.out.2.1 HKA.out.2.2.1 HKA.out.2.2.2.1 HKA.out.2.2.2.2 h) (Lie.arg HA.out.1 HA.out.2.1 HA.out.2.2.1 HA.out.2.2.2.1 HA.out.2.2.2.2 h) (by have := HML.out; omega) (by have := HML.out; omega))
  by_cases her : (splitF zs).2 = 0
  case neg =>
    have HN := Lib.hid (openF_no (key := key) her)
    rw [(splitF_err zs).resolve_left her] at HP0
    rw [HN.out] at HOPN
    dsimp only at HP0 HOPN
    rw [show noN.p = 0 from rfl, show noN.l = 0 from rfl, show noN.w = 0 from rfl] at HP0
    clear her
    go_wp2_with fail
    (with_reducible refine HP0.out.mono ?_)
    rintro e w3 ⟨rfl, hb3⟩
    have HS3 := Lib.hid (HS2.out.below hb3)
    have HO3 := Lib.hid (HOPN.out w3 HS3.out)
    clear hb3 HOPN HP0
    go_wp2_with fail
    (with_reducible refine HO3.out.mono ?_)
    rintro e w4 ⟨a4, k4, rfl, hs4, hk4, ho4⟩
    obtain ⟨w5, hw5⟩ : ∃ w5, w5 = w4.alloc (.cells #[.int .i64 noN.p, .int .i64 noN.l, .int .i64 noN.w, .int .i64 noN.s, .slice a4 noN.b.length k4] 46) := ⟨_, rfl⟩
    have hb5 : Below w4.heap.size w4 w5 := by rw [hw5]; exact (Below.refl _ _).alloc (Nat.le_refl _) _
    have HS5 := Lib.hid (hs4.below hb5)
    have HW5 := Lib.hid hw5
    clear hs4 hk4 ho4 hw5 hb5 HO3
    by_cases t1 : cut < 0
    · go_wp2_with fail
      rw [← HW5.out]
      (with_reducible refine (first14_any w5).mono ?_)
      rintro e w6 ⟨rfl, hb6⟩
      have HS6 := Lib.hid (HS5.out.below hb6)
      clear hb6
      go_wp2
      go_ret
      exact ⟨rfl, HS6.out.bel⟩
    by_cases t2 : (m : Int) ≤ cut
    · go_wp2_with fail
      rw [← HW5.out]
      (with_reducible refine (first14_any w5).mono ?_)
      rintro e w6 ⟨rfl, hb6⟩
      have HS6 := Lib.hid (HS5.out.below hb6)
      clear hb6
      go_wp2
      go_ret
      exact ⟨rfl, HS6.out.bel⟩
    go_wp2_with fail
    rw [← HW5.out]
    (with_reducible refine (first14_any w5).mono ?_)
    rintro e w6 ⟨rfl, hb6⟩
    have HS6 := Lib.hid (HS5.out.below hb6)
    clear hb6
    go_wp2
    go_ret
    exact ⟨rfl, HS6.out.bel⟩
  case pos =>
  have HCUT := Lib.hid (fun k hk => split_cut her k hk)
  have HSK := Lib.hid (splitF_ok her)
  have HLN := Lib.hid (splitF_len her)
  have HOE : Hid ((openF key zs).2 = 0 → openF key zs = ((splitF zs).1, 0) ∧ 1 ≤ (splitF zs).1.s) := Lib.hid (fun h => by
    have h1 := openF_ok h
    refine ⟨h1.2.1, ?_⟩
    have h2 : (splitF zs).1.s = hdF zs 4 4 := by rw [HSK.out.2.2]
    have h3 := hdF_4 HA.out.2.2.1 4 (by have := HSK.out.1; omega)
    have := h1.2.2
    omega)
  have HM44 : Hid (44 ≤ m) := Lib.hid (by rw [← HA.out.1]; exact HSK.out.1)
  rw [her] at HP0
  clear her
  obtain ⟨bb, bo, rfl⟩ : ∃ b off, ao = some ⟨b, off, none⟩ := by
    rcases HA.out.2.1 with h | ⟨b, off, h, _⟩
    · have h1 := HA.out.1; have := HM44.out; rw [h] at h1; simp at h1; omega
    · exact ⟨b, off, h⟩
  generalize (splitF zs).1 = N at *
  obtain ⟨O, hO⟩ : ∃ O, O = openF key zs := ⟨_, rfl⟩
  rw [← hO] at HOPN HOE
  clear hO HSK
  obtain ⟨ON, oe⟩ := O
  dsimp only at HOPN HOE
  go_wp2_with fail
  (with_reducible refine HP0.out.mono ?_)
  rintro e w3 ⟨rfl, hb3⟩
  have HS3 := Lib.hid (HS2.out.below hb3)
  have HO3 := Lib.hid (HOPN.out w3 HS3.out)
  clear hb3 HOPN HP0
  go_wp2_with fail
  (with_reducible refine HO3.out.mono ?_)
  rintro e w4 ⟨a4, k4, rfl, hs4, hk4, ho4⟩
  obtain ⟨bn, hbn⟩ : ∃ bn, bn = ON.b.length := ⟨_, rfl⟩
  have HBN := Lib.hid hbn
  rw [← hbn]
  obtain ⟨w5, hw5⟩ : ∃ w5, w5 = w4.alloc (.cells #[.int .i64 ON.p, .int .i64 ON.l, .int .i64 ON.w, .int .i64 ON.s, .slice a4 bn k4] 46) := ⟨_, rfl⟩
  have hb5 : Below w4.heap.size w4 w5 := by rw [hw5]; exact (Below.refl _ _).alloc (Nat.le_refl _) _
  have HS5 := Lib.hid (hs4.below hb5)
  have HX5 : Hid (NBox w5 w4.heap.size ON.p ON.l ON.w ON.s (.slice a4 bn k4)) := Lib.hid (by rw [hw5]; exact NBox.new _ _ _ _ _ _)
  have HW5 := Lib.hid hw5
  obtain ⟨y0, y1, y2, y3, y4⟩ := HX5.out.cells
  rw [hw5] at y0 y1 y2 y3 y4
  clear hs4 hk4 ho4 hw5 hb5 HO3 hbn
  have HWM : Hid (wrap64 ((m : Int) - 44) = (m : Int) - 44) := Lib.hid (by have := HML.out; have := HM44.out; unfold wrap64; omega)
  by_cases hoe : oe = 0
  · have h1 := HOE.out hoe
    have hON : ON = N := congrArg Prod.fst h1.1
    have HONE := Lib.hid hON
    have hs1 : ¬ ON.s < 1 := by rw [hON]; have := h1.2; omega
    have hbl : ((bn : Int) != (m : Int) - 44) = false := by rw [bne_eq_false_iff_eq, HBN.out, hON, HLN.out, HA.out.1]; have := HM44.out; omega
    have HOB := Lib.hid hoe
    have e1 : (ON.p != N.p) = false := by rw [hON]; simp
    have e2 : (ON.l != N.l) = false := by rw [hON]; simp
    have e3 : (ON.w != N.w) = false := by rw [hON]; simp
    clear h1 hON
    subst hoe
    obtain wm := HWM.out
    go_upto_region 12 with fail
    clear wm hs1 hbl e1 e2 e3
    rw [← HW5.out]
    clear y0 y1 y2 y3 y4
    by_cases u1 : cut < 0
    · go_wp2_with fail
      (with_reducible refine (first14_any w5).mono ?_)
      rintro e w6 ⟨rfl, hb6⟩
      have HS6 := Lib.hid (HS5.out.below hb6)
      clear hb6
      go_wp2
      go_ret
      exact ⟨rfl, HS6.out.bel⟩
    by_cases u2 : (m : Int) ≤ cut
    · go_wp2_with fail
      (with_reducible refine (first14_any w5).mono ?_)
      rintro e w6 ⟨rfl, hb6⟩
      have HS6 := Lib.hid (HS5.out.below hb6)
      clear hb6
      go_wp2
      go_ret
      exact ⟨rfl, HS6.out.bel⟩
    obtain ⟨k, rfl⟩ : ∃ k : Nat, cut = (k : Int) := ⟨cut.toNat, by omega⟩
    have HPC := Lib.hid (HPK.out w5 HS5.out k (by omega))
    rw [HCUT.out k (by rw [HA.out.1]; omega)] at HPC
    dsimp only at HPC
    have u3 : (k : Int) ≤ (c : Int) := by have := HA.out.2.2.2.1; omega
    go_wp2_with fail
    (with_reducible refine HPC.out.mono ?_)
    rintro e w6 ⟨rfl, hb6⟩
    have HS6 := Lib.hid (HS5.out.below hb6)
    clear hb6
    go_wp2_with fail
    (with_reducible refine (first14_any w6).mono ?_)
    rintro e w7 ⟨rfl, hb7⟩
    have HS7 := Lib.hid (HS6.out.below hb7)
    clear hb7
    go_wp2
    go_ret
    exact ⟨rfl, HS7.out.bel⟩
  · have hb : (oe == (0 : Int)) = false := by simp [hoe]
    clear hoe
    go_upto_region 12 with fail
    clear hb
    rw [← HW5.out]
    clear y0 y1 y2 y3 y4
    by_cases u1 : cut < 0
    · go_wp2_with fail
      (with_reducible refine (first14_any w5).mono ?_)
      rintro e w6 ⟨rfl, hb6⟩
      have HS6 := Lib.hid (HS5.out.below hb6)
      clear hb6
      go_wp2
      go_ret
      exact ⟨rfl, HS6.out.bel⟩
    by_cases u2 : (m : Int) ≤ cut
    · go_wp2_with fail
      (with_reducible refine (first14_any w5).mono ?_)
      rintro e w6 ⟨rfl, hb6⟩
      have HS6 := Lib.hid (HS5.out.below hb6)
      clear hb6
      go_wp2
      go_ret
      exact ⟨rfl, HS6.out.bel⟩
    obtain ⟨k, rfl⟩ : ∃ k : Nat, cut = (k : Int) := ⟨cut.toNat, by omega⟩
    have HPC := Lib.hid (HPK.out w5 HS5.out k (by omega))
    rw [HCUT.out k (by rw [HA.out.1]; omega)] at HPC
    dsimp only at HPC
    have u3 : (k : Int) ≤ (c : Int) := by have := HA.out.2.2.2.1; omega
    go_wp2_with fail
    (with_reducible refine HPC.out.mono ?_)
    rintro e w6 ⟨rfl, hb6⟩
    have HS6 := Lib.hid (HS5.out.below hb6)
    clear hb6
    go_wp2_with fail
    (with_reducible refine (first14_any w6).mono ?_)
    rintro e w7 ⟨rfl, hb7⟩
    have HS7 := Lib.hid (HS6.out.below hb7)
    clear hb7
    go_wp2
    go_ret
    exact ⟨rfl, HS7.out.bel⟩

theorem walk_sealPeeks (W : World) (ko : Option Addr) (key : List Int) (kc : Nat) (hkz : IntsAt .u8 W ko key) (hkc : key.length ≤ kc) (kwf : kc ≤ maxLen ∧ ∀ n ∈ key, (Lit.int .u8 n).wf = true) (ao : Option Addr) (zs : List Int) (c : Nat) (hz : IntsAt .u8 W ao zs) (hc : zs.length ≤ c) (wf : c ≤ maxLen ∧ ∀ n ∈ zs, (Lit.int .u8 n).wf = true) (cut : Int) (hcut : (Lit.int .i64 cut).wf = true) :
    Calls Try.prog 11 #[.slice ko key.length kc, .slice ao zs.length c, .int .i64 cut] W fun e w' => e = .returned (.bool true) ∧ Below W.heap.size W w' :=
  speeks_core W ko key key.length kc rfl hkz (inB_of_wf kwf.2) hkc kwf.1 ao zs zs.length c rfl hz (inB_of_wf wf.2) hc wf.1 cut

end Go.Proofs.Yteabnagdfecleaa
