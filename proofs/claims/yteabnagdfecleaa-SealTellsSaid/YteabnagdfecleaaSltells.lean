/- SealTells is true for every input, and its arguments read behind the call as before; no condition: the walk. -/
import Derived.Test.YteabnagdfecleaaSf
import Derived.Test.YteabnagdfecleaaSlA
import Derived.Test.YteabnagdfecleaaSl6
namespace Go.Proofs.Yteabnagdfecleaa
open Go.RowKit
set_option linter.unusedVariables false
set_option linter.unusedSimpArgs false

set_option maxRecDepth 100000 in
set_option maxHeartbeats 4000000 in
theorem sltells_core (W : World) (N : NR) (ao : Option Addr) (m c : Nat) (hm : N.b.length = m) (hz : IntsAt .u8 W ao N.b) (hB : InB N.b) (hc : m ≤ c) (hcm : c ≤ maxLen) (ko : Option Addr) (key : List Int) (kn kc : Nat) (hkn : key.length = kn) (hkz : IntsAt .u8 W ko key) (hkB : InB key) (hkc : kn ≤ kc) (hkm : kc ≤ maxLen)
    (bo : Option Addr) (zs : List Int) (m2 d : Nat) (hm2 : zs.length = m2) (hz2 : IntsAt .u8 W bo zs) (hB2 : InB zs) (hc2 : m2 ≤ d) (hcm2 : d ≤ maxLen) :
    Calls Try.prog 9 #[.agg #[.int .i64 N.p, .int .i64 N.l, .int .i64 N.w, .int .i64 N.s, .slice ao m c], .slice ko kn kc, .slice bo m2 d] W fun e w' => e = .returned (.bool true) ∧ Below W.heap.size W w' := by
  have HKA : Hid (key.length = kn ∧ IntsAt .u8 W ko key ∧ InB key ∧ kn ≤ kc ∧ kc ≤ maxLen) := Lib.hid ⟨hkn, hkz, hkB, hkc, hkm⟩
  have HA : Hid (N.b.length = m ∧ IntsAt .u8 W ao N.b ∧ InB N.b ∧ m ≤ c ∧ c ≤ maxLen) := Lib.hid ⟨hm, hz, hB, hc, hcm⟩
  have HZ : Hid (zs.length = m2 ∧ IntsAt .u8 W bo zs ∧ InB zs ∧ m2 ≤ d ∧ d ≤ maxLen) := Lib.hid ⟨hm2, hz2, hB2, hc2, hcm2⟩
  obtain ⟨w0, hw0⟩ : ∃ w0, w0 = W.alloc (.cells #[.int .i64 N.p, .int .i64 N.l, .int .i64 N.w, .int .i64 N.s, .slice ao m c] 46) := ⟨_, rfl⟩
  have HX0 : Hid (NBox w0 W.heap.size N.p N.l N.w N.s (.slice ao m c)) := Lib.hid (by rw [hw0]; exact NBox.new _ _ _ _ _ _)
  have HB0 : Hid (Below W.heap.size W w0) := Lib.hid (by rw [hw0]; exact (Below.refl _ _).alloc (Nat.le_refl _) _)
  have HW0 := Lib.hid hw0
  clear hkn hkz hkB hkc hkm hm hz hB hc hcm hm2 hz2 hB2 hc2 hcm2 hw0
  go_enter Try.func9, Try.ntmps9
  go_wp2_with fail
  rw [← HW0.out]
  (with_reducible refine (first14_any w0).mono ?_)
  rintro e w1 ⟨rfl, hb1⟩
  have HB1 : Hid (Below W.heap.size W w1) := Lib.hid (below_step HB0.out hb1)
  have HX1 := Lib.hid (HX0.out.below hb1)
  have HBX : Hid (W.heap.size < w1.heap.size) := Lib.hid HX1.out.lt
  clear hb1 HX0
  obtain ⟨x0, x1, x2, x3, x4⟩ := HX1.out.cells
  by_cases hb1 : (70000 : Int) < (m : Int)
  · go_wp2_with fail
    (with_reducible refine (first14_any w1).mono ?_)
    rintro e w2 ⟨rfl, hb2⟩
    have HB2 : Hid (Below W.heap.size W w2) := Lib.hid (below_step HB1.out hb2)
    clear hb2
    go_wp2
    go_ret
    exact ⟨rfl, HB2.out⟩
  by_cases hb2 : (1000 : Int) < (kn : Int)
  · go_wp2_with fail
    (with_reducible refine (first14_any w1).mono ?_)
    rintro e w2 ⟨rfl, hb2'⟩
    have HB2 : Hid (Below W.heap.size W w2) := Lib.hid (below_step HB1.out hb2')
    clear hb2'
    go_wp2
    go_ret
    exact ⟨rfl, HB2.out⟩
  by_cases hb3 : (70000 : Int) < (m2 : Int)
  · go_wp2_with fail
    (with_reducible refine (first14_any w1).mono ?_)
    rintro e w2 ⟨rfl, hb2'⟩
    have HB2 : Hid (Below W.heap.size W w2) := Lib.hid (below_step HB1.out hb2')
    clear hb2'
    go_wp2
    go_ret
    exact ⟨rfl, HB2.out⟩
  have HML : Hid (m ≤ 70000 ∧ m2 ≤ 70000 ∧ kn ≤ 1000) := Lib.hid (by omega)
  go_wp2_with fail
  (with_reducible refine (newTable_any w1).mono ?_)
  rintro e w2 ⟨rfl, ht2, hb2'⟩
  have HS2 : Hid (St W w1.heap.size w2) := Lib.hid ⟨ht2, below_step HB1.out hb2', HB1.out.size⟩
  have HX2 := Lib.hid (HX1.out.below hb2')
  clear ht2 hb2' x0 x1 x2 x3 x4 HX1
  generalize w1.heap.size = tb at *
  obtain ⟨x0, x1, x2, x3, x4⟩ := HX2.out.cells
  have HKL := Lib.hid (fun (wx : World) (h : St W tb wx) => Lie.arg (c := kc) HKA.out.1 HKA.out.2.1 HKA.out.2.2.1 HKA.out.2.2.2.1 HKA.out.2.2.2.2 h)
  have HZL := Lib.hid (fun (wx : World) (h : St W tb wx) => Lie.arg (c := d) HZ.out.1 HZ.out.2.1 HZ.out.2.2.1 HZ.out.2.2.2.1 HZ.out.2.2.2.2 h)
  have HS1 := Lib.hid (seal_st HS2.out ko key kn kc N ao m c (HKL.out w2 HS2.out) (Lie.arg HA.out.1 HA.out.2.1 HA.out.2.2.1 HA.out.2.2.2.1 HA.out.2.2.2.2 HS2.out) (by have := HML.out; omega))
  have HRS := Lib.hid (fun (wx : World) (h : St W tb wx) => rseal_any ko key kn kc N ao m c wx HKA.out.1 (ints_below HKA.out.2.1 h.bel) HKA.out.2.2.1 (by have := HML.out; omega) HA.out.1 (ints_below HA.out.2.1 h.bel) HA.out.2.2.1)
  have HPE := Lib.hid (fun (wx : World) (h : St W tb wx) => peek_any bo zs m2 d wx HZ.out.1 (ints_below HZ.out.2.1 h.bel) HZ.out.2.2.1 HZ.out.2.2.2.1 HZ.out.2.2.2.2 (by have := HML.out; omega))
  have HRP := Lib.hid (fun (wx : World) (h : St W tb wx) => rpeek_any bo zs m2 d wx HZ.out.1 (ints_below HZ.out.2.1 h.bel) HZ.out.2.2.1 HZ.out.2.2.2.1 HZ.out.2.2.2.2 (by have := HML.out; omega))
  have HOP := Lib.hid (fun (wx : World) (h : St W tb wx) => open_st h ko key kn kc bo zs m2 d (HKL.out wx h) (HZL.out wx h) (by have := HML.out; omega) (by have := HML.out; omega))
  have HRO := Lib.hid (fun (wx : World) (h : St W tb wx) => ropen_any ko key kn kc bo zs m2 d wx HKA.out.1 (ints_below HKA.out.2.1 h.bel) HKA.out.2.2.1 (by have := HML.out; omega) HZ.out.1 (ints_below HZ.out.2.1 h.bel) HZ.out.2.2.1 HZ.out.2.2.2.1 HZ.out.2.2.2.2 (by have := HML.out; omega))
  have HAI := Lib.hid (sealR_inB key HA.out.2.2.1)
  have HOI := Lib.hid (openF_inB (key := key) HZ.out.2.2.1)
  unfold PeekR at HRP
  unfold ROpenPost at HRO
  unfold RowPost2 at HRS
  generalize sealR key N = R at *
  generalize splitF zs = P at *
  generalize openF key zs = O at *
  obtain ⟨A, er⟩ := R
  obtain ⟨PN, pe⟩ := P
  obtain ⟨ON, oe⟩ := O
  dsimp only at HS1 HRS HPE HRP HOP HRO HAI HOI
  obtain ⟨la, hla⟩ : ∃ la, la = A.length := ⟨_, rfl⟩
  rw [← hla] at HS1 HRS
  have HLA : Hid (A.length = la) := Lib.hid hla.symm
  clear hla
  go_wp2_with fail
  (with_reducible refine HS1.out.mono ?_)
  rintro e w3 ⟨a3, k3, rfl, hs3, hk3, ho3⟩
  have HS3 := Lib.hid hs3
  have HO3 := Lib.hid ho3
  have HX3 := Lib.hid (HX2.out.keep hk3 (by have := HBX.out; omega))
  have HQ := Lib.hid (HRS.out w3 hs3)
  clear hs3 hk3 ho3 x0 x1 x2 x3 x4 HS1 HRS HX2
  obtain ⟨x0, x1, x2, x3, x4⟩ := HX3.out.cells
  go_wp2_with fail
  (with_reducible refine HQ.out.mono ?_)
  rintro e w4 ⟨a4, k4, rfl, hr4⟩
  have HS4 := Lib.hid (HS3.out.below hr4.2.1)
  have HO4 := Lib.hid (HO3.out.below hr4.2.1)
  have HP4 : Hid (Own tb w4 a4 A la k4) := Lib.hid (RowAt.own hr4 HS3.out.lt HLA.out HAI.out)
  have HQ2 := Lib.hid (HPE.out w4 HS4.out)
  clear hr4 HQ x0 x1 x2 x3 x4 HX3 HO3 HPE
  go_wp2_with fail
  (with_reducible refine HQ2.out.mono ?_)
  rintro e w5 ⟨rfl, hb5⟩
  have HS5 := Lib.hid (HS4.out.below hb5)
  have HO5 := Lib.hid (HO4.out.below hb5)
  have HP5 := Lib.hid (HP4.out.below hb5)
  have HQ3 := Lib.hid (HRP.out w5 HS5.out)
  clear hb5 HQ2 HRP HO4 HP4
  go_wp2_with fail
  (with_reducible refine HQ3.out.mono ?_)
  rintro e w6 ⟨rfl, hb6⟩
  have HS6 := Lib.hid (HS5.out.below hb6)
  have HO6 := Lib.hid (HO5.out.below hb6)
  have HP6 := Lib.hid (HP5.out.below hb6)
  have HQ4 := Lib.hid (HOP.out w6 HS6.out)
  clear hb6 HQ3 HOP HO5 HP5
  go_wp2_with fail
  (with_reducible refine HQ4.out.mono ?_)
  rintro e w7 ⟨a7, k7, rfl, hs7, hk7, ho7⟩
  obtain ⟨w8, hw8⟩ : ∃ w8, w8 = w7.alloc (.cells #[.int .i64 ON.p, .int .i64 ON.l, .int .i64 ON.w, .int .i64 ON.s, .slice a7 ON.b.length k7] 46) := ⟨_, rfl⟩
  have hb8 : Below w7.heap.size w7 w8 := by rw [hw8]; exact (Below.refl _ _).alloc (Nat.le_refl _) _
  have HS8 := Lib.hid (hs7.below hb8)
  have HO8 := Lib.hid ((HO6.out.step hk7).below hb8)
  have HP8 := Lib.hid ((HP6.out.step hk7).below hb8)
  have HY8 : Hid (NBox w8 w7.heap.size ON.p ON.l ON.w ON.s (.slice a7 ON.b.length k7)) := Lib.hid (by rw [hw8]; exact NBox.new _ _ _ _ _ _)
  have HI8 : Hid (IntsAt .u8 w8 a7 ON.b) := Lib.hid (ints_below ho7.lie.ints hb8)
  have HW8 := Lib.hid hw8
  have HQ5 := Lib.hid (HRO.out w8 HS8.out)
  clear hs7 hk7 ho7 hb8 hw8 HQ4 HRO HO6 HP6
  go_wp2_with fail
  rw [← HW8.out]
  generalize w7.heap.size = Y at *
  (with_reducible refine HQ5.out.mono ?_)
  rintro e w9 ⟨a9, k9, rfl, hr9⟩
  obtain ⟨w10, hw10⟩ : ∃ w10, w10 = w9.alloc (.cells #[.int .i64 ON.p, .int .i64 ON.l, .int .i64 ON.w, .int .i64 ON.s, .slice a9 ON.b.length k9] 46) := ⟨_, rfl⟩
  have hb10 : Below w9.heap.size w9 w10 := by rw [hw10]; exact (Below.refl _ _).alloc (Nat.le_refl _) _
  have HS10 := Lib.hid ((HS8.out.below hr9.2.1).below hb10)
  have HO10 := Lib.hid ((HO8.out.below hr9.2.1).below hb10)
  have HP10 := Lib.hid ((HP8.out.below hr9.2.1).below hb10)
  have HY10 := Lib.hid ((HY8.out.below hr9.2.1).below hb10)
  have HI10 := Lib.hid (ints_below (ints_below HI8.out hr9.2.1) hb10)
  have HZ10 : Hid (NBox w10 w9.heap.size ON.p ON.l ON.w ON.s (.slice a9 ON.b.length k9)) := Lib.hid (by rw [hw10]; exact NBox.new _ _ _ _ _ _)
  have HJ10 : Hid (IntsAt .u8 w10 a9 ON.b) := Lib.hid (ints_below (owns_at hr9.1).2.1 hb10)
  have HW10 := Lib.hid hw10
  clear hr9 hb10 hw10 HQ5 HO8 HP8 HY8 HI8 HW8
  go_wp2_with fail
  rw [← HW10.out]
  generalize w9.heap.size = Z at *
  (with_reducible refine (first14_any w10).mono ?_)
  rintro e w11 ⟨rfl, hb11⟩
  have HS11 := Lib.hid (HS10.out.below hb11)
  have HY11 := Lib.hid (HY10.out.below hb11)
  have HZ11 := Lib.hid (HZ10.out.below hb11)
  have HBE := Lib.hid (bytes_eq a3 a4 A A la la k3 k4 w11 HLA.out HLA.out (HO10.out.below hb11).lie.ints (HP10.out.below hb11).lie.ints HAI.out HAI.out)
  rw [eqB_self] at HBE
  have HSN := Lib.hid (sameNote_any ON a7 a9 k7 k9 w11 (ints_below HI10.out hb11) (ints_below HJ10.out hb11) HOI.out)
  clear hb11 HY10 HZ10 HI10 HJ10 HO10 HP10 HW10
  obtain ⟨x0, x1, x2, x3, x4⟩ := HY11.out.cells
  obtain ⟨y0, y1, y2, y3, y4⟩ := HZ11.out.cells
  go_wp2_with fail
  (with_reducible refine HBE.out.mono ?_)
  rintro e w12 ⟨rfl, rfl⟩
  rename World => w11
  go_wp2_with fail
  (with_reducible refine HSN.out.mono ?_)
  rintro e w12 ⟨rfl, hb12⟩
  have HS12 := Lib.hid (HS11.out.below hb12)
  clear hb12
  go_wp2
  go_ret
  exact ⟨rfl, HS12.out.bel⟩

theorem walk_sealTells (W : World) (N : NR) (ao : Option Addr) (m c : Nat) (hm : N.b.length = m) (hz : IntsAt .u8 W ao N.b) (hB : InB N.b) (hc : m ≤ c) (hcm : c ≤ maxLen) (ko : Option Addr) (key : List Int) (kc : Nat) (hkz : IntsAt .u8 W ko key) (hkc : key.length ≤ kc) (kwf : kc ≤ maxLen ∧ ∀ n ∈ key, (Lit.int .u8 n).wf = true) (bo : Option Addr) (zs : List Int) (d : Nat) (hz2 : IntsAt .u8 W bo zs) (hc2 : zs.length ≤ d) (wf2 : d ≤ maxLen ∧ ∀ n ∈ zs, (Lit.int .u8 n).wf = true) :
    Calls Try.prog 9 #[.agg #[.int .i64 N.p, .int .i64 N.l, .int .i64 N.w, .int .i64 N.s, .slice ao m c], .slice ko key.length kc, .slice bo zs.length d] W fun e w' => e = .returned (.bool true) ∧ Below W.heap.size W w' :=
  sltells_core W N ao m c hm hz hB hc hcm ko key key.length kc rfl hkz (inB_of_wf kwf.2) hkc kwf.1 bo zs zs.length d rfl hz2 (inB_of_wf wf2.2) hc2 wf2.1

end Go.Proofs.Yteabnagdfecleaa
