/- SealBack is true for every input, and its arguments read behind the call as before; no condition: the walk. -/
import Derived.Test.YteabnagdfecleaaSf
import Derived.Test.YteabnagdfecleaaSlA
import Derived.Test.YteabnagdfecleaaSl6
import Derived.Test.YteabnagdfecleaaRowb
namespace Go.Proofs.Yteabnagdfecleaa
open Go.RowKit
set_option linter.unusedVariables false
set_option linter.unusedSimpArgs false

set_option maxRecDepth 100000 in
set_option maxHeartbeats 4000000 in
theorem slback_core (W : World) (N : NR) (ao : Option Addr) (m c : Nat) (hm : N.b.length = m) (hz : IntsAt .u8 W ao N.b) (hB : InB N.b) (hc : m ≤ c) (hcm : c ≤ maxLen) (ko : Option Addr) (key : List Int) (kn kc : Nat) (hkn : key.length = kn) (hkz : IntsAt .u8 W ko key) (hkB : InB key) (hkc : kn ≤ kc) (hkm : kc ≤ maxLen)
    (bo : Option Addr) (zs : List Int) (m2 d : Nat) (hm2 : zs.length = m2) (hz2 : IntsAt .u8 W bo zs) (hB2 : InB zs) (hc2 : m2 ≤ d) (hcm2 : d ≤ maxLen) (at' turn : Int) (hturn : 0 ≤ turn ∧ turn < 256) :
    Calls Try.prog 10 #[.agg #[.int .i64 N.p, .int .i64 N.l, .int .i64 N.w, .int .i64 N.s, .slice ao m c], .slice ko kn kc, .slice bo m2 d, .int .i64 at', .int .u8 turn] W fun e w' => e = .returned (.bool true) ∧ Below W.heap.size W w' := by
  have HTU := Lib.hid hturn
  clear hturn
  have HKA : Hid (key.length = kn ∧ IntsAt .u8 W ko key ∧ InB key ∧ kn ≤ kc ∧ kc ≤ maxLen) := Lib.hid ⟨hkn, hkz, hkB, hkc, hkm⟩
  have HA : Hid (N.b.length = m ∧ IntsAt .u8 W ao N.b ∧ InB N.b ∧ m ≤ c ∧ c ≤ maxLen) := Lib.hid ⟨hm, hz, hB, hc, hcm⟩
  have HZ : Hid (zs.length = m2 ∧ IntsAt .u8 W bo zs ∧ InB zs ∧ m2 ≤ d ∧ d ≤ maxLen) := Lib.hid ⟨hm2, hz2, hB2, hc2, hcm2⟩
  obtain ⟨w0, hw0⟩ : ∃ w0, w0 = W.alloc (.cells #[.int .i64 N.p, .int .i64 N.l, .int .i64 N.w, .int .i64 N.s, .slice ao m c] 46) := ⟨_, rfl⟩
  have HX0 : Hid (NBox w0 W.heap.size N.p N.l N.w N.s (.slice ao m c)) := Lib.hid (by rw [hw0]; exact NBox.new _ _ _ _ _ _)
  have HB0 : Hid (Below W.heap.size W w0) := Lib.hid (by rw [hw0]; exact (Below.refl _ _).alloc (Nat.le_refl _) _)
  have HW0 := Lib.hid hw0
  clear hkn hkz hkB hkc hkm hm hz hB hc hcm hm2 hz2 hB2 hc2 hcm2 hw0
  go_enter Try.func10, Try.ntmps10
  go_wp2_with fail
  rw [← HW0.out]
  (with_reducible refine (first14_any w0).mono ?_)
  rintro e w1 ⟨rfl, hb1⟩
  have HB1 : Hid (Below W.heap.size W w1) := Lib.hid (below_step HB0.out hb1)
  have HX1 := Lib.hid (HX0.out.below hb1)
  have HBX : Hid (W.heap.size < w1.heap.size) := Lib.hid HX1.out.lt
  clear hb1 HX0
  obtain ⟨x0, x1, x2, x3, x4⟩ := HX1.out.cells
  by_cases hb1 : (2000 : Int) < (m : Int)
  · go_wp2_with fail
    (with_reducible refine (first14_any w1).mono ?_)
    rintro e w2 ⟨rfl, hb2⟩
    have HB2 : Hid (Below W.heap.size W w2) := Lib.hid (below_step HB1.out hb2)
    clear hb2
    go_wp2
    go_ret
    exact ⟨rfl, HB2.out⟩
  by_cases hb2 : (200 : Int) < (kn : Int)
  · go_wp2_with fail
    (with_reducible refine (first14_any w1).mono ?_)
    rintro e w2 ⟨rfl, hb2'⟩
    have HB2 : Hid (Below W.heap.size W w2) := Lib.hid (below_step HB1.out hb2')
    clear hb2'
    go_wp2
    go_ret
    exact ⟨rfl, HB2.out⟩
  by_cases hb3 : (200 : Int) < (m2 : Int)
  · go_wp2_with fail
    (with_reducible refine (first14_any w1).mono ?_)
    rintro e w2 ⟨rfl, hb2'⟩
    have HB2 : Hid (Below W.heap.size W w2) := Lib.hid (below_step HB1.out hb2')
    clear hb2'
    go_wp2
    go_ret
    exact ⟨rfl, HB2.out⟩
  have HML : Hid (m ≤ 2000 ∧ m2 ≤ 200 ∧ kn ≤ 200) := Lib.hid (by omega)
  go_wp2_with fail
  (with_reducible refine (newTable_any w1).mono ?_)
  rintro e w2 ⟨rfl, ht2, hb2'⟩
  have HS2 : Hid (St W w1.heap.size w2) := Lib.hid ⟨ht2, below_step HB1.out hb2', HB1.out.size⟩
  have HX2 := Lib.hid (HX1.out.below hb2')
  clear ht2 hb2' x0 x1 x2 x3 x4 HX1
  generalize w1.heap.size = tb at *
  obtain ⟨x0, x1, x2, x3, x4⟩ := HX2.out.cells
  have HKL := Lib.hid (fun (wx : World) (h : St W tb wx) => Lie.arg (c := kc) HKA.out.1 HKA.out.2.1 HKA.out.2.2.1 HKA.out.2.2.2.1 HKA.out.2.2.2.2 h)
  have HZL := Lib.hid (fun (wx : World) (h : St W tb wx) => Lie.arg (c := d) HZ.out.1 HZ.out.2.1 HZ.out.2.2.1 HZ.out.2.2.2.1 HZ.out.2.2.2.2 h)
  have HS1 := Lib.hid (seal_st HS2.out ko key kn kc N ao m c (HKL.out w2 HS2.out) (Lie.arg HA.out.1 HA.out.2.1 HA.out.2.2.1 HA.out.2.2.2.1 HA.out.2.2.2.2 HS2.out) (by have := HML.out; omega))
  by_cases her : (sealR key N).2 = 0
  case neg =>
    have HN := Lib.hid (sealR_no her)
    have hb : ((sealR key N).2 != 0) = true := by simp [her]
    rw [HN.out] at HS1
    generalize (sealR key N).2 = er at *
    clear her
    go_wp2_with fail
    (with_reducible refine HS1.out.mono ?_)
    rintro e w3 ⟨a3, k3, rfl, hs3, hk3, ho3⟩
    have HS3 := Lib.hid hs3
    clear hs3 hk3 ho3
    go_wp2_with fail
    (with_reducible refine (first14_any w3).mono ?_)
    rintro e w4 ⟨rfl, hb4⟩
    have HB4 : Hid (Below W.heap.size W w4) := Lib.hid (HS3.out.below hb4).bel
    clear hb4
    go_wp2
    go_ret
    exact ⟨rfl, HB4.out⟩
  case pos =>
  have HOK := Lib.hid (sealR_ok her)
  clear her
  rw [HOK.out.2.2] at HS1
  have HSP := Lib.hid (split_seal (key := key) HOK.out.1 HOK.out.2.1)
  have HOS := Lib.hid (open_seal (key := key) HOK.out.1 HOK.out.2.1)
  have HLL : Hid ((sealF key N).length = 44 + m) := Lib.hid (by rw [sealF_len, HA.out.1])
  have HLI := Lib.hid (sealF_inB key HA.out.2.2.1)
  dsimp only at HS1
  rw [HLL.out] at HS1
  generalize sealF key N = L at *
  obtain ⟨la, hla⟩ : ∃ la, la = 44 + m := ⟨_, rfl⟩
  have HLA : Hid (la = 44 + m) := Lib.hid hla
  rw [← hla] at HS1 HLL
  clear hla
  have HLB : Hid (la ≤ 2044 ∧ 44 ≤ la) := Lib.hid (by have := HLA.out; have := HML.out; omega)
  go_wp2_with fail
  (with_reducible refine HS1.out.mono ?_)
  rintro e w3 ⟨a3, k3, rfl, hs3, hk3, ho3⟩
  have HS3 := Lib.hid hs3
  have HO3 := Lib.hid ho3
  have HX3 := Lib.hid (HX2.out.keep hk3 (by have := HBX.out; omega))
  clear hs3 hk3 ho3 x0 x1 x2 x3 x4 HS1 HX2
  obtain ⟨pb, rfl⟩ := row_addr HO3.out.row (by have := HLB.out; omega)
  have HOP := Lib.hid (open_st HS3.out ko key kn kc (some ⟨pb, 0, none⟩) L la k3 (HKL.out w3 HS3.out) HO3.out.lie (by have := HML.out; omega) (by have := HLB.out; omega))
  rw [HOS.out] at HOP
  dsimp only at HOP
  rw [HA.out.1] at HOP
  go_wp2_with fail
  (with_reducible refine HOP.out.mono ?_)
  rintro e w4 ⟨a4, k4, rfl, hs4, hk4, ho4⟩
  obtain ⟨w5, hw5⟩ : ∃ w5, w5 = w4.alloc (.cells #[.int .i64 N.p, .int .i64 N.l, .int .i64 N.w, .int .i64 N.s, .slice a4 m k4] 46) := ⟨_, rfl⟩
  have hb5 : Below w4.heap.size w4 w5 := by rw [hw5]; exact (Below.refl _ _).alloc (Nat.le_refl _) _
  have HS5 := Lib.hid (hs4.below hb5)
  have HO5 := Lib.hid ((HO3.out.step hk4).below hb5)
  have HX5 := Lib.hid ((HX3.out.keep hk4 (by have := HBX.out; omega)).below hb5)
  have HY5 : Hid (NBox w5 w4.heap.size N.p N.l N.w N.s (.slice a4 m k4)) := Lib.hid (by rw [hw5]; exact NBox.new _ _ _ _ _ _)
  have HI5 : Hid (IntsAt .u8 w5 a4 N.b) := Lib.hid (ints_below ho4.lie.ints hb5)
  have HW5 := Lib.hid hw5
  have HPK := Lib.hid (peek_any (some ⟨pb, 0, none⟩) L la k3 w5 HLL.out HO5.out.lie.ints HLI.out HO5.out.lie.cap HO5.out.lie.cm (by have := HLB.out; omega))
  rw [HSP.out] at HPK
  dsimp only at HPK
  clear hs4 hk4 ho4 hb5 hw5 HOP HO3 HX3
  go_wp2_with fail
  rw [← HW5.out]
  generalize w4.heap.size = Y at *
  (with_reducible refine HPK.out.mono ?_)
  rintro e w6 ⟨rfl, hb6⟩
  have HS6 := Lib.hid (HS5.out.below hb6)
  have HO6 := Lib.hid (HO5.out.below hb6)
  have HX6 := Lib.hid (HX5.out.below hb6)
  have HY6 := Lib.hid (HY5.out.below hb6)
  have HSN := Lib.hid (sameNote_any N a4 ao k4 c w6 (ints_below HI5.out hb6) (ints_below HA.out.2.1 HS6.out.bel) HA.out.2.2.1)
  rw [HA.out.1] at HSN
  clear hb6 HPK HO5 HX5 HY5 HI5 HW5
  obtain ⟨x0, x1, x2, x3, x4⟩ := HX6.out.cells
  obtain ⟨y0, y1, y2, y3, y4⟩ := HY6.out.cells
  go_wp2_with fail
  (with_reducible refine HSN.out.mono ?_)
  rintro e w7 ⟨rfl, hb7⟩
  have HS7 := Lib.hid (HS6.out.below hb7)
  have HO7 := Lib.hid (HO6.out.below hb7)
  have HX7 := Lib.hid (HX6.out.below hb7)
  clear hb7 x0 x1 x2 x3 x4 y0 y1 y2 y3 y4 HSN HX6 HY6 HO6
  obtain ⟨x0, x1, x2, x3, x4⟩ := HX7.out.cells
  go_upto_region 13 with fail
  clear x0 x1 x2 x3 x4
  have HOP := Lib.hid (open_st HS7.out bo zs m2 d (some ⟨pb, 0, none⟩) L la k3 (HZL.out w7 HS7.out) HO7.out.lie (by have := HML.out; omega) (by have := HLB.out; omega))
  have HRO := Lib.hid (fun (wx : World) (h : St W tb wx) (g : IntsAt .u8 wx (some ⟨pb, 0, none⟩) L) => ropen_any bo zs m2 d (some ⟨pb, 0, none⟩) L la k3 wx HZ.out.1 (ints_below HZ.out.2.1 h.bel) HZ.out.2.2.1 (by have := HML.out; omega) HLL.out g HLI.out HO7.out.lie.cap HO7.out.lie.cm (by have := HLB.out; omega))
  unfold ROpenPost at HRO
  generalize openF zs L = O at *
  obtain ⟨ON, oe⟩ := O
  dsimp only at HOP HRO
  go_wp2_with fail
  (with_reducible refine HOP.out.mono ?_)
  rintro e w8 ⟨a8, k8, rfl, hs8, hk8, ho8⟩
  obtain ⟨w9, hw9⟩ : ∃ w9, w9 = w8.alloc (.cells #[.int .i64 ON.p, .int .i64 ON.l, .int .i64 ON.w, .int .i64 ON.s, .slice a8 ON.b.length k8] 46) := ⟨_, rfl⟩
  have hb9 : Below w8.heap.size w8 w9 := by rw [hw9]; exact (Below.refl _ _).alloc (Nat.le_refl _) _
  have HS9 := Lib.hid (hs8.below hb9)
  have HO9 := Lib.hid ((HO7.out.step hk8).below hb9)
  have HW9 := Lib.hid hw9
  have HQ := Lib.hid (HRO.out w9 HS9.out HO9.out.lie.ints)
  clear hs8 hk8 ho8 hb9 hw9 HOP HRO HO7 HX7
  go_wp2_with fail
  rw [← HW9.out]
  (with_reducible refine HQ.out.mono ?_)
  rintro e w10 ⟨a10, k10, rfl, hr10⟩
  obtain ⟨w11, hw11⟩ : ∃ w11, w11 = w10.alloc (.cells #[.int .i64 ON.p, .int .i64 ON.l, .int .i64 ON.w, .int .i64 ON.s, .slice a10 ON.b.length k10] 46) := ⟨_, rfl⟩
  have hb11 : Below w10.heap.size w10 w11 := by rw [hw11]; exact (Below.refl _ _).alloc (Nat.le_refl _) _
  have HS11 := Lib.hid ((HS9.out.below hr10.2.1).below hb11)
  have HO11 := Lib.hid ((HO9.out.below hr10.2.1).below hb11)
  have HW11 := Lib.hid hw11
  clear hr10 hb11 hw11 HQ HO9 HW9
  by_cases hoe : oe = 0
  · subst hoe
    go_upto_region 17 with fail
    rw [← HW11.out]
    by_cases ha0 : at' < 0
    · go_wp2_with fail
      (with_reducible refine (first14_any w11).mono ?_)
      rintro e w12 ⟨rfl, hb12⟩
      have HS12 := Lib.hid (HS11.out.below hb12)
      clear hb12
      go_wp2
      go_ret
      exact ⟨rfl, HS12.out.bel⟩
    by_cases ha1 : (la : Int) ≤ at'
    · go_wp2_with fail
      (with_reducible refine (first14_any w11).mono ?_)
      rintro e w12 ⟨rfl, hb12⟩
      have HS12 := Lib.hid (HS11.out.below hb12)
      clear hb12
      go_wp2
      go_ret
      exact ⟨rfl, HS12.out.bel⟩
    by_cases ht0 : turn = 0
    · have hb : (turn == (0 : Int)) = true := by simp [ht0]
      clear ht0
      go_wp2_with fail
      (with_reducible refine (first14_any w11).mono ?_)
      rintro e w12 ⟨rfl, hb12⟩
      have HS12 := Lib.hid (HS11.out.below hb12)
      clear hb12
      go_wp2
      go_ret
      exact ⟨rfl, HS12.out.bel⟩
    have hbt : (turn == (0 : Int)) = false := by simp [ht0]
    clear ht0
    obtain ⟨at2, rfl⟩ : ∃ n : Nat, at' = (n : Int) := ⟨at'.toNat, by omega⟩
    have HAL : Hid (at2 < la) := Lib.hid (by omega)
    have HCB := Lib.hid (copyBytes (some ⟨pb, 0, none⟩) L la k3 w11 HLL.out HO11.out.lie.ints (by have := HLB.out; omega))
    go_wp2_with fail
    (with_reducible refine HCB.out.mono ?_)
    rintro e w12 ⟨ca, cc, rfl, hr12⟩
    rw [HLL.out] at hr12 ⊢
    have HS12 := Lib.hid (HS11.out.below hr12.2.1)
    have HR12 : Hid (w12.ownsRow 0 5 1 (.slice ca la cc) la (L.map (Value.int .u8))) := Lib.hid (by have h := hr12.1; rw [HLL.out] at h; exact h)
    obtain ⟨cb, rfl⟩ := row_addr HR12.out (by have := HLB.out; omega)
    have HCN : Hid (w11.heap.size ≤ cb ∧ tb < w11.heap.size ∧ W.heap.size ≤ w11.heap.size) := Lib.hid ⟨hr12.2.2 cb rfl, HS11.out.lt, HS11.out.bel.size⟩
    obtain ⟨b1, b1f⟩ := row_cell HR12.out at2 HAL.out
    generalize L.getD at2 0 = z1 at *
    clear hr12 HCB hbt
    have e1 : at2 < la := HAL.out
    have e2 : (at2 : Int) < (la : Int) := by omega
    go_upto_region 21 with fail
    obtain ⟨V, hV⟩ : ∃ V, V = bits .xor .u8 z1 turn := ⟨_, rfl⟩
    have HVB : Hid (0 ≤ V ∧ V ≤ 255) := Lib.hid (by rw [hV]; have := xor_in8 z1 turn; omega)
    rw [← hV]
    obtain ⟨w13, hw13⟩ : ∃ w13, w13 = w12.setCell ⟨cb, at2, none⟩ (.int .u8 V) := ⟨_, rfl⟩
    rw [← hw13]
    obtain ⟨L', hL'⟩ : ∃ L', L' = L.set at2 V := ⟨_, rfl⟩
    have HR13 : Hid (w13.ownsRow 0 5 1 (.slice (some ⟨cb, 0, none⟩) la cc) la (L'.map (Value.int .u8))) := Lib.hid (by rw [hw13, hL']; exact row_set HR12.out at2 V)
    have HL' : Hid (L'.length = la) := Lib.hid (by rw [hL', List.length_set, HLL.out])
    have HI' : Hid (InB L') := Lib.hid (by rw [hL']; exact inB_set HLI.out at2 HVB.out)
    have HK13 : Hid (Keeps (fun i => i = cb) w12 w13) := Lib.hid (by rw [hw13]; exact (Keeps.refl (fun i => i = cb) w12).setCell (p := ⟨cb, at2, none⟩) (Or.inl rfl) _)
    have HST : Hid (St W tb w13) := Lib.hid ⟨tab_keep HS12.out.tab HK13.out (by have := HCN.out; omega), below_fp HS12.out.bel HK13.out (fun i hi => by have := HCN.out; omega), HS12.out.own⟩
    have HOC : Hid (Own tb w13 (some ⟨cb, 0, none⟩) L' la cc) := Lib.hid ⟨HR13.out, HL'.out, HI'.out, fun a ha e => by cases ha; have := HCN.out; dsimp only at e; omega⟩
    clear hV hw13 hL' b1 b1f e1 e2 HK13
    have HOP := Lib.hid (open_st HST.out ko key kn kc (some ⟨cb, 0, none⟩) L' la cc (HKL.out w13 HST.out) HOC.out.lie (by have := HML.out; omega) (by have := HLB.out; omega))
    have HRO := Lib.hid (fun (wx : World) (h : St W tb wx) (g : IntsAt .u8 wx (some ⟨cb, 0, none⟩) L') => ropen_any ko key kn kc (some ⟨cb, 0, none⟩) L' la cc wx HKA.out.1 (ints_below HKA.out.2.1 h.bel) HKA.out.2.2.1 (by have := HML.out; omega) HL'.out g HI'.out HOC.out.lie.cap HOC.out.lie.cm (by have := HLB.out; omega))
    unfold ROpenPost at HRO
    generalize openF key L' = O2 at *
    obtain ⟨QN, qe⟩ := O2
    dsimp only at HOP HRO
    go_wp2_with fail
    (with_reducible refine HOP.out.mono ?_)
    rintro e w14 ⟨a14, k14, rfl, hs14, hk14, ho14⟩
    obtain ⟨w15, hw15⟩ : ∃ w15, w15 = w14.alloc (.cells #[.int .i64 QN.p, .int .i64 QN.l, .int .i64 QN.w, .int .i64 QN.s, .slice a14 QN.b.length k14] 46) := ⟨_, rfl⟩
    have hb15 : Below w14.heap.size w14 w15 := by rw [hw15]; exact (Below.refl _ _).alloc (Nat.le_refl _) _
    have HS15 := Lib.hid (hs14.below hb15)
    have HOC15 := Lib.hid ((HOC.out.step hk14).below hb15)
    have HW15 := Lib.hid hw15
    have HQ := Lib.hid (HRO.out w15 HS15.out HOC15.out.lie.ints)
    clear hs14 hk14 ho14 hb15 hw15 HOP HRO
    go_wp2_with fail
    rw [← HW15.out]
    (with_reducible refine HQ.out.mono ?_)
    rintro e w16 ⟨a16, k16, rfl, hr16⟩
    obtain ⟨w17, hw17⟩ : ∃ w17, w17 = w16.alloc (.cells #[.int .i64 QN.p, .int .i64 QN.l, .int .i64 QN.w, .int .i64 QN.s, .slice a16 QN.b.length k16] 46) := ⟨_, rfl⟩
    have hb17 : Below w16.heap.size w16 w17 := by rw [hw17]; exact (Below.refl _ _).alloc (Nat.le_refl _) _
    have HS17 := Lib.hid ((HS15.out.below hr16.2.1).below hb17)
    have HW17 := Lib.hid hw17
    clear hr16 hb17 hw17 HQ
    go_wp2_with fail
    rw [← HW17.out]
    (with_reducible refine (first14_any w17).mono ?_)
    rintro e w18 ⟨rfl, hb18⟩
    have HS18 := Lib.hid (HS17.out.below hb18)
    clear hb18
    by_cases hqe : qe = 0
    · subst hqe
      go_wp2
      go_ret
      exact ⟨rfl, HS18.out.bel⟩
    · have hq1 : (qe != (0 : Int)) = true := by simp [hqe]
      clear hqe
      go_wp2
      go_ret
      exact ⟨rfl, HS18.out.bel⟩
  · have ho1 : (oe == (0 : Int)) = false := by simp [hoe]
    have ho2 : (oe != (0 : Int)) = true := by simp [hoe]
    clear hoe
    go_upto_region 17 with fail
    rw [← HW11.out]
    clear ho1 ho2
    by_cases ha0 : at' < 0
    · go_wp2_with fail
      (with_reducible refine (first14_any w11).mono ?_)
      rintro e w12 ⟨rfl, hb12⟩
      have HS12 := Lib.hid (HS11.out.below hb12)
      clear hb12
      go_wp2
      go_ret
      exact ⟨rfl, HS12.out.bel⟩
    by_cases ha1 : (la : Int) ≤ at'
    · go_wp2_with fail
      (with_reducible refine (first14_any w11).mono ?_)
      rintro e w12 ⟨rfl, hb12⟩
      have HS12 := Lib.hid (HS11.out.below hb12)
      clear hb12
      go_wp2
      go_ret
      exact ⟨rfl, HS12.out.bel⟩
    by_cases ht0 : turn = 0
    · have hb : (turn == (0 : Int)) = true := by simp [ht0]
      clear ht0
      go_wp2_with fail
      (with_reducible refine (first14_any w11).mono ?_)
      rintro e w12 ⟨rfl, hb12⟩
      have HS12 := Lib.hid (HS11.out.below hb12)
      clear hb12
      go_wp2
      go_ret
      exact ⟨rfl, HS12.out.bel⟩
    have hbt : (turn == (0 : Int)) = false := by simp [ht0]
    clear ht0
    obtain ⟨at2, rfl⟩ : ∃ n : Nat, at' = (n : Int) := ⟨at'.toNat, by omega⟩
    have HAL : Hid (at2 < la) := Lib.hid (by omega)
    have HCB := Lib.hid (copyBytes (some ⟨pb, 0, none⟩) L la k3 w11 HLL.out HO11.out.lie.ints (by have := HLB.out; omega))
    go_wp2_with fail
    (with_reducible refine HCB.out.mono ?_)
    rintro e w12 ⟨ca, cc, rfl, hr12⟩
    rw [HLL.out] at hr12 ⊢
    have HS12 := Lib.hid (HS11.out.below hr12.2.1)
    have HR12 : Hid (w12.ownsRow 0 5 1 (.slice ca la cc) la (L.map (Value.int .u8))) := Lib.hid (by have h := hr12.1; rw [HLL.out] at h; exact h)
    obtain ⟨cb, rfl⟩ := row_addr HR12.out (by have := HLB.out; omega)
    have HCN : Hid (w11.heap.size ≤ cb ∧ tb < w11.heap.size ∧ W.heap.size ≤ w11.heap.size) := Lib.hid ⟨hr12.2.2 cb rfl, HS11.out.lt, HS11.out.bel.size⟩
    obtain ⟨b1, b1f⟩ := row_cell HR12.out at2 HAL.out
    generalize L.getD at2 0 = z1 at *
    clear hr12 HCB hbt
    have e1 : at2 < la := HAL.out
    have e2 : (at2 : Int) < (la : Int) := by omega
    go_upto_region 21 with fail
    obtain ⟨V, hV⟩ : ∃ V, V = bits .xor .u8 z1 turn := ⟨_, rfl⟩
    have HVB : Hid (0 ≤ V ∧ V ≤ 255) := Lib.hid (by rw [hV]; have := xor_in8 z1 turn; omega)
    rw [← hV]
    obtain ⟨w13, hw13⟩ : ∃ w13, w13 = w12.setCell ⟨cb, at2, none⟩ (.int .u8 V) := ⟨_, rfl⟩
    rw [← hw13]
    obtain ⟨L', hL'⟩ : ∃ L', L' = L.set at2 V := ⟨_, rfl⟩
    have HR13 : Hid (w13.ownsRow 0 5 1 (.slice (some ⟨cb, 0, none⟩) la cc) la (L'.map (Value.int .u8))) := Lib.hid (by rw [hw13, hL']; exact row_set HR12.out at2 V)
    have HL' : Hid (L'.length = la) := Lib.hid (by rw [hL', List.length_set, HLL.out])
    have HI' : Hid (InB L') := Lib.hid (by rw [hL']; exact inB_set HLI.out at2 HVB.out)
    have HK13 : Hid (Keeps (fun i => i = cb) w12 w13) := Lib.hid (by rw [hw13]; exact (Keeps.refl (fun i => i = cb) w12).setCell (p := ⟨cb, at2, none⟩) (Or.inl rfl) _)
    have HST : Hid (St W tb w13) := Lib.hid ⟨tab_keep HS12.out.tab HK13.out (by have := HCN.out; omega), below_fp HS12.out.bel HK13.out (fun i hi => by have := HCN.out; omega), HS12.out.own⟩
    have HOC : Hid (Own tb w13 (some ⟨cb, 0, none⟩) L' la cc) := Lib.hid ⟨HR13.out, HL'.out, HI'.out, fun a ha e => by cases ha; have := HCN.out; dsimp only at e; omega⟩
    clear hV hw13 hL' b1 b1f e1 e2 HK13
    have HOP := Lib.hid (open_st HST.out ko key kn kc (some ⟨cb, 0, none⟩) L' la cc (HKL.out w13 HST.out) HOC.out.lie (by have := HML.out; omega) (by have := HLB.out; omega))
    have HRO := Lib.hid (fun (wx : World) (h : St W tb wx) (g : IntsAt .u8 wx (some ⟨cb, 0, none⟩) L') => ropen_any ko key kn kc (some ⟨cb, 0, none⟩) L' la cc wx HKA.out.1 (ints_below HKA.out.2.1 h.bel) HKA.out.2.2.1 (by have := HML.out; omega) HL'.out g HI'.out HOC.out.lie.cap HOC.out.lie.cm (by have := HLB.out; omega))
    unfold ROpenPost at HRO
    generalize openF key L' = O2 at *
    obtain ⟨QN, qe⟩ := O2
    dsimp only at HOP HRO
    go_wp2_with fail
    (with_reducible refine HOP.out.mono ?_)
    rintro e w14 ⟨a14, k14, rfl, hs14, hk14, ho14⟩
    obtain ⟨w15, hw15⟩ : ∃ w15, w15 = w14.alloc (.cells #[.int .i64 QN.p, .int .i64 QN.l, .int .i64 QN.w, .int .i64 QN.s, .slice a14 QN.b.length k14] 46) := ⟨_, rfl⟩
    have hb15 : Below w14.heap.size w14 w15 := by rw [hw15]; exact (Below.refl _ _).alloc (Nat.le_refl _) _
    have HS15 := Lib.hid (hs14.below hb15)
    have HOC15 := Lib.hid ((HOC.out.step hk14).below hb15)
    have HW15 := Lib.hid hw15
    have HQ := Lib.hid (HRO.out w15 HS15.out HOC15.out.lie.ints)
    clear hs14 hk14 ho14 hb15 hw15 HOP HRO
    go_wp2_with fail
    rw [← HW15.out]
    (with_reducible refine HQ.out.mono ?_)
    rintro e w16 ⟨a16, k16, rfl, hr16⟩
    obtain ⟨w17, hw17⟩ : ∃ w17, w17 = w16.alloc (.cells #[.int .i64 QN.p, .int .i64 QN.l, .int .i64 QN.w, .int .i64 QN.s, .slice a16 QN.b.length k16] 46) := ⟨_, rfl⟩
    have hb17 : Below w16.heap.size w16 w17 := by rw [hw17]; exact (Below.refl _ _).alloc (Nat.le_refl _) _
    have HS17 := Lib.hid ((HS15.out.below hr16.2.1).below hb17)
    have HW17 := Lib.hid hw17
    clear hr16 hb17 hw17 HQ
    go_wp2_with fail
    rw [← HW17.out]
    (with_reducible refine (first14_any w17).mono ?_)
    rintro e w18 ⟨rfl, hb18⟩
    have HS18 := Lib.hid (HS17.out.below hb18)
    clear hb18
    by_cases hqe : qe = 0
    · subst hqe
      go_wp2
      go_ret
      exact ⟨rfl, HS18.out.bel⟩
    · have hq1 : (qe != (0 : Int)) = true := by simp [hqe]
      clear hqe
      go_wp2
      go_ret
      exact ⟨rfl, HS18.out.bel⟩

theorem walk_sealBack (W : World) (N : NR) (ao : Option Addr) (m c : Nat) (hm : N.b.length = m) (hz : IntsAt .u8 W ao N.b) (hB : InB N.b) (hc : m ≤ c) (hcm : c ≤ maxLen) (ko : Option Addr) (key : List Int) (kc : Nat) (hkz : IntsAt .u8 W ko key) (hkc : key.length ≤ kc) (kwf : kc ≤ maxLen ∧ ∀ n ∈ key, (Lit.int .u8 n).wf = true) (bo : Option Addr) (zs : List Int) (d : Nat) (hz2 : IntsAt .u8 W bo zs) (hc2 : zs.length ≤ d) (wf2 : d ≤ maxLen ∧ ∀ n ∈ zs, (Lit.int .u8 n).wf = true) (at' : Int) (hat : (Lit.int .i64 at').wf = true) (turn : Int) (hturn : (Lit.int .u8 turn).wf = true) :
    Calls Try.prog 10 #[.agg #[.int .i64 N.p, .int .i64 N.l, .int .i64 N.w, .int .i64 N.s, .slice ao m c], .slice ko key.length kc, .slice bo zs.length d, .int .i64 at', .int .u8 turn] W fun e w' => e = .returned (.bool true) ∧ Below W.heap.size W w' :=
  slback_core W N ao m c hm hz hB hc hcm ko key key.length kc rfl hkz (inB_of_wf kwf.2) hkc kwf.1 bo zs zs.length d rfl hz2 (inB_of_wf wf2.2) hc2 wf2.1 at' turn (by simp [Lit.wf] at hturn; have e1 : IntKind.u8.min = 0 := rfl; have e2 : IntKind.u8.max = 255 := rfl; omega)

end Go.Proofs.Yteabnagdfecleaa
