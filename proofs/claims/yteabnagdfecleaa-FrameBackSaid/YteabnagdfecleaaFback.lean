/- FrameBack is true for every input, and its arguments read behind the call as before; no condition: the walk. -/
import Derived.Test.YteabnagdfecleaaFreads
import Derived.Test.YteabnagdfecleaaRowb
import Derived.Laws.BitsAllLaws
namespace Go.Proofs.Yteabnagdfecleaa
open Go.RowKit
set_option linter.unusedVariables false
set_option linter.unusedSimpArgs false

set_option maxRecDepth 100000 in
set_option maxHeartbeats 4000000 in
theorem fback_core (W : World) (F : FR) (ao : Option Addr) (m c : Nat) (hm : F.b.length = m) (hz : IntsAt .u8 W ao F.b) (hB : InB F.b) (hc : m ≤ c) (hcm : c ≤ maxLen) (ao2 : Option Addr) (zs2 : List Int) (n2 d2 : Nat) (hn2 : zs2.length = n2) (hz2 : IntsAt .u8 W ao2 zs2) (hB2 : InB zs2) (hc2 : n2 ≤ d2) (hcm2 : d2 ≤ maxLen) (at' : Int) (bit : Int) (hat : -9223372036854775808 ≤ at' ∧ at' ≤ 9223372036854775807) (hbit : 0 ≤ bit ∧ bit < 18446744073709551616) :
    Calls Try.prog 5 #[.agg #[.int .i64 F.k, .int .i64 F.g, .int .i64 F.s, .slice ao m c], .slice ao2 n2 d2, .int .i64 at', .int .u64 bit] W fun e w' => e = .returned (.bool true) ∧ Below W.heap.size W w' := by
  have HM := Lib.hid hm
  have HZ := Lib.hid hz
  have HB := Lib.hid hB
  have HC := Lib.hid (And.intro hc hcm)
  have H2 : Hid (zs2.length = n2 ∧ IntsAt .u8 W ao2 zs2 ∧ InB zs2 ∧ n2 ≤ d2 ∧ d2 ≤ maxLen) := Lib.hid ⟨hn2, hz2, hB2, hc2, hcm2⟩
  have HAT := Lib.hid (And.intro hat hbit)
  obtain ⟨sh, HSHE, HSHB⟩ : ∃ sh : Int, Hid (bits .and .u64 bit 7 = sh) ∧ Hid (0 ≤ sh ∧ sh ≤ 8) := ⟨((bit.toNat &&& 7 : Nat) : Int), Lib.hid (u64_and bit 7 hbit.1 hbit.2 (by decide) (by decide)), Lib.hid (by rw [nat_mask3]; omega)⟩
  obtain ⟨w0, hw0⟩ : ∃ w0, w0 = W.alloc (.cells #[.int .i64 F.k, .int .i64 F.g, .int .i64 F.s, .slice ao m c] 24) := ⟨_, rfl⟩
  have HX0 : Hid (BoxF w0 W.heap.size F ao m c) := Lib.hid (by rw [hw0]; exact heap_alloc_new _ _)
  have HB0 : Hid (Below W.heap.size W w0) := Lib.hid (by rw [hw0]; exact (Below.refl _ _).alloc (Nat.le_refl _) _)
  have HW0 := Lib.hid hw0
  clear hm hz hB hc hcm hw0 hn2 hz2 hB2 hc2 hcm2 hat hbit
  go_enter Try.func5, Try.ntmps5
  go_wp2_with fail
  rw [← HW0.out]
  refine (first7_any w0).mono ?_
  rintro e w1 ⟨rfl, hb1⟩
  have HX1 := Lib.hid (HX0.out.below hb1)
  have HB1 : Hid (Below W.heap.size W w1) := Lib.hid (below_step HB0.out hb1)
  have HBX : Hid (W.heap.size < w1.heap.size) := Lib.hid (blk_lt HX1.out)
  clear hb1
  go_wp2_with fail
  refine (newTable_any w1).mono ?_
  rintro e w2 ⟨rfl, ht2, hb2⟩
  have HS2 : Hid (St W w1.heap.size w2) := Lib.hid ⟨ht2, below_step HB1.out hb2, HB1.out.size⟩
  have HX2 := Lib.hid (HX1.out.below hb2)
  clear ht2 hb2
  generalize w1.heap.size = tb at *
  obtain ⟨c0, c1, c2, c3⟩ := HX2.out.cells
  by_cases hbig : (2000 : Int) < (m : Int)
  · go_wp2_with fail
    refine (first7_any w2).mono ?_
    rintro e w3 ⟨rfl, hb3⟩
    have HB3 : Hid (Below W.heap.size W w3) := Lib.hid (HS2.out.below hb3).bel
    clear hb3
    go_wp2
    go_ret
    exact ⟨rfl, HB3.out⟩
  by_cases hbig2 : (2000 : Int) < (n2 : Int)
  · go_wp2_with fail
    refine (first7_any w2).mono ?_
    rintro e w3 ⟨rfl, hb3⟩
    have HB3 : Hid (Below W.heap.size W w3) := Lib.hid (HS2.out.below hb3).bel
    clear hb3
    go_wp2
    go_ret
    exact ⟨rfl, HB3.out⟩
  have HNL2 : Hid (n2 ≤ 2000) := Lib.hid (by omega)
  have HML : Hid (m ≤ 2000) := Lib.hid (by omega)
  have HPT := Lib.hid (put_st HS2.out F ao m c (Lie.arg HM.out HZ.out HB.out HC.out.1 HC.out.2 HS2.out))
  have HPI := Lib.hid (putR_inB HB.out)
  by_cases her : (putR F).2 = 0
  case neg =>
    have HN := Lib.hid (putR_no her)
    have hb : ((putR F).2 != 0) = true := by simp [her]
    rw [HN.out] at HPT
    generalize (putR F).2 = er at *
    clear her
    go_wp2_with fail
    refine HPT.out.mono ?_
    rintro e w3 ⟨a3, k3, rfl, hs3, hk3, ho3⟩
    have HS3 := Lib.hid hs3
    clear hs3 hk3 ho3
    go_wp2_with fail
    refine (first7_any w3).mono ?_
    rintro e w4 ⟨rfl, hb4⟩
    have HB4 : Hid (Below W.heap.size W w4) := Lib.hid (HS3.out.below hb4).bel
    clear hb4
    go_wp2
    go_ret
    exact ⟨rfl, HB4.out⟩
  case pos =>
  have HOK := Lib.hid (putR_ok her)
  clear her
  rw [HOK.out.2.2] at HPT HPI
  have HOK2 := Lib.hid (And.intro HOK.out.1 HOK.out.2.1)
  have HAT2 : Hid (∀ j, j < (m + 86) / 63 → (getF ((putF F).drop (64 * j))).2.2 = (if j = 0 then 0 else 2) ∧ (putF F).getD (64 * j) 0 = markI j) := Lib.hid (fun j hj => getF_at F HOK.out.2.1 HOK.out.1 j (by rw [HM.out]; exact hj))
  have HSN := Lib.hid (secN_nat F.b.length HOK.out.2.1)
  have HGA := Lib.hid (fun rest => getF_put (F := F) HOK.out.2.1 HOK.out.1 rest)
  obtain ⟨K, hK⟩ : ∃ K, K = (m + 86) / 63 := ⟨_, rfl⟩
  rw [HM.out, ← hK] at HSN
  rw [← hK] at HAT2
  have HPL : Hid ((putF F).length = 64 * K) := Lib.hid (by rw [putF_len, HM.out, hK])
  have HKB : Hid (1 ≤ K ∧ K ≤ 34) := Lib.hid (by rw [hK]; have := HML.out; omega)
  obtain ⟨L, hL⟩ : ∃ L, L = putF F := ⟨_, rfl⟩
  rw [← hL] at HPT HPI HPL HAT2
  have HGA2 : Hid (getF (L ++ zs2) = (F, (K : Int), 0)) := Lib.hid (by rw [hL, HGA.out, HM.out, HSN.out])
  dsimp only at HPT HPI
  rw [HPL.out] at HPT
  obtain ⟨M, hM⟩ : ∃ M, M = 64 * K := ⟨_, rfl⟩
  have HMK := Lib.hid hM
  rw [← hM] at HPT HPL
  clear hL hK hM HGA
  go_wp2_with fail
  refine HPT.out.mono ?_
  rintro e w3 ⟨a3, k3, rfl, hs3, hk3, ho3⟩
  have HS3 := Lib.hid hs3
  have HO3 := Lib.hid ho3
  have HX3 := Lib.hid (HX2.out.step hk3 (by have := HBX.out; omega))
  clear hs3 hk3 ho3 HPT c0 c1 c2 c3 HX2 HX1 HX0 HW0
  obtain ⟨pb, rfl⟩ := row_addr HO3.out.row (by have := HMK.out; have := HKB.out; omega)
  have HML2 : Hid (M ≤ 2176 ∧ 64 ≤ M) := Lib.hid (by have := HMK.out; have := HKB.out; omega)
  have HCB := Lib.hid (copyBytes (some ⟨pb, 0, none⟩) L M k3 w3 HPL.out HO3.out.lie.ints (by have := HML2.out; omega))
  go_wp2_with fail
  (with_reducible refine HCB.out.mono ?_)
  rintro e w4 ⟨a4, k4, rfl, hr4⟩
  rw [HPL.out] at hr4 ⊢
  have HR4 : Hid (w4.ownsRow 0 5 1 (.slice a4 M k4) M (L.map (Value.int .u8))) := Lib.hid (by have h := hr4.1; rw [HPL.out] at h; exact h)
  have HF4 : Hid (∀ g, (Value.slice a4 M k4).ownBlock = some g → w3.heap.size ≤ g) := Lib.hid (fun g hg => hr4.2.2 g hg)
  have HB4 : Hid (Below w3.heap.size w3 w4) := Lib.hid hr4.2.1
  clear hr4 HCB
  have H24 := Lib.hid (ints_below H2.out.2.1 (HS3.out.below HB4.out).bel)
  obtain ⟨i0, hi, hz0, hz1, hz2⟩ := info_parts Try_infoU8
  go_wp2_with (at_builtin; refine wpList_append_any rfl _ _ 22 rfl 5 i0 (.int .u8 0) 1 1 Try.underlying22 hi hz0 hz1 hz2 rfl (by decide) (.slice a4 M k4) M _ rfl HR4.out ao2 n2 d2 (zs2.map (Value.int .u8)) rfl ?c1 ?c2 ?c3 (ints_one _ _) ?c5 ?c6 ?_)
  case c1 => rw [List.length_map, H2.out.1, Nat.mul_one]
  case c2 => intro e; have h := H24.out; rw [e] at h; have := ints_none h; have := H2.out.1; omega
  case c3 => exact src_ints H24.out
  case c5 => have := HML2.out; have := HNL2.out; unfold maxLen; omega
  case c6 => have := HML2.out; have := HNL2.out; omega
  intro ao5 cap5 w5 hown hgrow hat hnn
  rw [← List.map_append] at hown
  have HB5 : Hid (Below w3.heap.size w3 w5) := Lib.hid (below_fp HB4.out ((Keeps.refl _ w4).grown hgrow (fun i hi => Or.inl hi)) (fun i hi => HF4.out i hi))
  have HLZ : Hid ((L ++ zs2).length = M + n2) := Lib.hid (by rw [List.length_append, HPL.out, H2.out.1])
  have HG5 : Hid (Own tb w5 ao5 (L ++ zs2) (M + n2) cap5) := Lib.hid ⟨hown, HLZ.out, inB_app HPI.out H2.out.2.2.1, fun a ha e => by
    have hlt := HS3.out.lt
    rcases hat a.block (by rw [ha]; rfl) with h | h
    · have := HF4.out a.block h; omega
    · have := HB4.out.size; omega⟩
  have HS5 := Lib.hid (HS3.out.below HB5.out)
  have HO5 := Lib.hid (HO3.out.below HB5.out)
  have HX5 := Lib.hid (HX3.out.below (HB5.out))
  clear hown hgrow hat hnn HB4 HR4 HF4 H24
  have HGT := Lib.hid (get_st HS5.out _ (L ++ zs2) (M + n2) cap5 HG5.out.lie (by have := HML2.out; have := HNL2.out; omega))
  rw [HGA2.out] at HGT
  dsimp only at HGT
  rw [HM.out] at HGT
  go_wp2_with fail
  (with_reducible refine HGT.out.mono ?_)
  rintro e w6 ⟨a6, k6, rfl, hs6, hk6, ho6⟩
  obtain ⟨w7, hw7⟩ : ∃ w7, w7 = w6.alloc (.cells #[.int .i64 F.k, .int .i64 F.g, .int .i64 F.s, .slice a6 m k6] 24) := ⟨_, rfl⟩
  have hb7 : Below w6.heap.size w6 w7 := by rw [hw7]; exact (Below.refl _ _).alloc (Nat.le_refl _) _
  have HS7 := Lib.hid (hs6.below hb7)
  have HO7 := Lib.hid ((HO5.out.step hk6).below hb7)
  have HX7 := Lib.hid ((HX5.out.step hk6 (by have := HBX.out; omega)).below hb7)
  have HY7 : Hid (FBox w7 w6.heap.size F.k F.g F.s (.slice a6 m k6)) := Lib.hid (by rw [hw7]; exact FBox.new _ _ _ _ _)
  have HI7 := Lib.hid (ho6.lie.ints)
  have HI7' := Lib.hid (ints_below HI7.out hb7)
  have HW7 := Lib.hid hw7
  obtain ⟨c0, c1, c2, c3⟩ := HX7.out.cells
  obtain ⟨y0, y1, y2, y3⟩ := HY7.out.cells
  rw [hw7] at c0 c1 c2 c3 y0 y1 y2 y3
  have HSE : Hid (∀ wx : World, Calls Try.prog 17 #[.int .i64 (m : Int)] wx fun e w' => e = .returned (.int .i64 (K : Int)) ∧ w' = wx) := Lib.hid (fun wx => by have h := sectors_any (m : Int) wx; rw [HSN.out] at h; exact h)
  have HSF := Lib.hid (sameFrame_any F a6 ao k6 c w7 HI7'.out (ints_below HZ.out HS7.out.bel) HB.out)
  rw [HM.out] at HSF
  clear hs6 hk6 ho6 hb7 hw7 HGT HI7
  have q1 : 64 * (K : Int) = (M : Int) := by have := HMK.out; omega
  have q2 : wrap64 (M : Int) = (M : Int) := by have := HML2.out; unfold wrap64; omega
  go_wp2_with fail
  rw [← HW7.out]
  (with_reducible refine (HSE.out w7).mono ?_)
  rintro e w8 ⟨rfl, rfl⟩
  rename World => w7
  rw [HW7.out]
  go_wp2_with fail
  rw [← HW7.out]
  (with_reducible refine HSF.out.mono ?_)
  rintro e w8 ⟨rfl, hb8⟩
  have HS8 := Lib.hid (HS7.out.below hb8)
  have HO8 := Lib.hid (HO7.out.below hb8)
  clear hb8 c0 c1 c2 c3 y0 y1 y2 y3 q1 q2 HY7 HX7 HSF HI7'
  go_wp2_with fail
  go_loopw [16] (fun i wr => ∃ j : Nat, 1 ≤ j ∧ j ≤ K ∧ i = .int .i64 ((64 * j : Nat) : Int) ∧ St W tb wr ∧ Keeps (fun i => i = tb) w8 wr) (fun i _ => 64 * K - (intOf i).toNat)
  case atStart => exact ⟨1, Nat.le_refl _, HKB.out.1, rfl, HS8.out, Keeps.refl _ _⟩
  case round =>
    obtain ⟨j, hj1, hj, rfl, hs, hk⟩ := hrel
    have HSR := Lib.hid hs
    have HKR := Lib.hid hk
    have HP8 := Lib.hid (HO8.out.step hk)
    clear hs hk
    by_cases hlt : j < K
    · obtain ⟨I, hI⟩ : ∃ I, I = 64 * j := ⟨_, rfl⟩
      have HI := Lib.hid hI
      have HA := Lib.hid (HAT2.out j hlt).1
      rw [← hI, if_neg (by omega)] at HA
      rw [← hI]
      have d1 : (I : Int) < (M : Int) := by have := HMK.out; omega
      have d0 : (0 : Int) ≤ (I : Int) := by omega
      have d2 : I < M := by omega
      have HIK : Hid (M ≤ k3) := Lib.hid HP8.out.lie.cap
      have d3 : ¬ k3 = I := by have := HIK.out; omega
      have d4 : (M : Int) ≤ (k3 : Int) := by have := HIK.out; omega
      have d5 : (I : Int) ≤ (M : Int) := by omega
      have d6 : I ≤ M := by omega
      have HDL := Lib.hid (Lie.drop HP8.out.lie I d6)
      rw [Nat.zero_add] at HDL
      have HGT := Lib.hid (get_st HSR.out _ (L.drop I) (M - I) (k3 - I) HDL.out (by have := HML2.out; omega))
      have HJL : Hid (j < K) := Lib.hid hlt
      clear hI hlt
      obtain ⟨X, hX⟩ : ∃ X, X = getF (L.drop I) := ⟨_, rfl⟩
      rw [← hX] at HA HGT
      obtain ⟨XF, xk, xe⟩ := X
      clear hX
      dsimp only at HA HGT
      obtain rfl : xe = 2 := HA.out
      go_wp2_with fail
      (with_reducible refine HGT.out.mono ?_)
      rintro e w9 ⟨a9, k9, rfl, hs9, hk9, ho9⟩
      obtain ⟨w10, hw10⟩ : ∃ w10, w10 = w9.alloc (.cells #[.int .i64 XF.k, .int .i64 XF.g, .int .i64 XF.s, .slice a9 XF.b.length k9] 24) := ⟨_, rfl⟩
      have hb10 : Below w9.heap.size w9 w10 := by rw [hw10]; exact (Below.refl _ _).alloc (Nat.le_refl _) _
      have HW10 := Lib.hid hw10
      have HS10 := Lib.hid (hs9.below hb10)
      have HK10 : Hid (Keeps (fun i => i = tb) w8 w10) := Lib.hid ((HKR.out.trans hk9 (fun i hi => Or.inl hi)).step hb10)
      clear hs9 hk9 ho9 hw10 hb10
      have w64 : wrap64 ((I : Int) + 64) = (I : Int) + 64 := by have := HI.out; have := HKB.out; have := HJL.out; unfold wrap64; omega
      have HW64 := Lib.hid w64
      go_wp2_with fail
      rw [← HW10.out, HW64.out]
      have hke : ((64 * (j + 1) : Nat) : Int) = (I : Int) + 64 := by have := HI.out; omega
      refine ⟨⟨j + 1, by omega, by have := HJL.out; omega, by rw [hke], HS10.out, HK10.out⟩, ?_⟩
      simp only [intOf]
      have := HJL.out
      have := HI.out
      omega
    · obtain rfl : j = K := by omega
      have d1 : ¬ ((64 * j : Nat) : Int) < (M : Int) := by have := HMK.out; omega
      have HAR := Lib.hid HAT.out.1
      by_cases ha0 : at' < 0
      · go_wp2_with fail
        (with_reducible refine (first7_any wr).mono ?_)
        rintro e w9 ⟨rfl, hb9⟩
        have HS9 := Lib.hid (HSR.out.below hb9)
        clear hb9
        go_wp2
        go_ret
        exact ⟨rfl, HS9.out.bel⟩
      by_cases ha1 : (M : Int) ≤ at'
      · go_wp2_with fail
        (with_reducible refine (first7_any wr).mono ?_)
        rintro e w9 ⟨rfl, hb9⟩
        have HS9 := Lib.hid (HSR.out.below hb9)
        clear hb9
        go_wp2
        go_ret
        exact ⟨rfl, HS9.out.bel⟩
      obtain ⟨at2, rfl⟩ : ∃ n : Nat, at' = (n : Int) := ⟨at'.toNat, by omega⟩
      have HAL : Hid (at2 < M) := Lib.hid (by omega)
      have HCB := Lib.hid (copyBytes (some ⟨pb, 0, none⟩) L M k3 wr HPL.out HP8.out.lie.ints (by have := HML2.out; omega))
      go_wp2_with fail
      (with_reducible refine HCB.out.mono ?_)
      rintro e w9 ⟨ca, cc, rfl, hr9⟩
      rw [HPL.out] at hr9 ⊢
      have HS9 := Lib.hid (HSR.out.below hr9.2.1)
      have HR9 : Hid (w9.ownsRow 0 5 1 (.slice ca M cc) M (L.map (Value.int .u8))) := Lib.hid (by have h := hr9.1; rw [HPL.out] at h; exact h)
      obtain ⟨cb, rfl⟩ := row_addr HR9.out (by have := HML2.out; omega)
      have HCN : Hid (wr.heap.size ≤ cb ∧ tb < wr.heap.size ∧ W.heap.size ≤ wr.heap.size) := Lib.hid ⟨hr9.2.2 cb rfl, HSR.out.lt, HSR.out.bel.size⟩
      obtain ⟨b1, b1f⟩ := row_cell HR9.out at2 HAL.out
      have HZ1 := Lib.hid (inB_getD HPI.out at2)
      generalize L.getD at2 0 = z1 at *
      clear hr9 HCB
      have e1 : at2 < M := HAL.out
      have e2 : (at2 : Int) < (M : Int) := by omega
      have e3 : bits .and .u64 bit 7 = sh := HSHE.out
      have e4 : 0 ≤ sh := HSHB.out.1
      have e5 : sh ≤ 8 := HSHB.out.2
      go_upto_region 23 with fail
      obtain ⟨V, hV⟩ : ∃ V, V = bits .xor .u8 z1 (2 ^ sh.toNat % 256) := ⟨_, rfl⟩
      have HVB : Hid (0 ≤ V ∧ V ≤ 255) := Lib.hid (by rw [hV]; have := xor_in8 z1 (2 ^ sh.toNat % 256); omega)
      rw [← hV]
      obtain ⟨w10, hw10⟩ : ∃ w10, w10 = w9.setCell ⟨cb, at2, none⟩ (.int .u8 V) := ⟨_, rfl⟩
      rw [← hw10]
      obtain ⟨L', hL'⟩ : ∃ L', L' = L.set at2 V := ⟨_, rfl⟩
      have HR10 : Hid (w10.ownsRow 0 5 1 (.slice (some ⟨cb, 0, none⟩) M cc) M (L'.map (Value.int .u8))) := Lib.hid (by rw [hw10, hL']; exact row_set HR9.out at2 V)
      have HL' : Hid (L'.length = M) := Lib.hid (by rw [hL', List.length_set, HPL.out])
      have HI' : Hid (InB L') := Lib.hid (by rw [hL']; exact inB_set HPI.out at2 HVB.out)
      have HK10 : Hid (Keeps (fun i => i = cb) w9 w10) := Lib.hid (by rw [hw10]; exact (Keeps.refl (fun i => i = cb) w9).setCell (p := ⟨cb, at2, none⟩) (Or.inl rfl) _)
      have HST : Hid (St W tb w10) := Lib.hid ⟨tab_keep HS9.out.tab HK10.out (by have := HCN.out; omega), below_fp HS9.out.bel HK10.out (fun i hi => by have := HCN.out; omega), HS9.out.own⟩
      have HOC : Hid (Own tb w10 (some ⟨cb, 0, none⟩) L' M cc) := Lib.hid ⟨HR10.out, HL'.out, HI'.out, fun a ha e => by cases ha; have := HCN.out; dsimp only at e; omega⟩
      clear hV hw10 hL' b1 b1f e1 e2 e3 e4 e5 HK10
      have HGT := Lib.hid (get_st HST.out _ L' M cc HOC.out.lie (by have := HML2.out; omega))
      have HRG := Lib.hid (fun (wx : World) (h : IntsAt .u8 wx (some ⟨cb, 0, none⟩) L') => rget_any (some ⟨cb, 0, none⟩) L' M cc wx HL'.out h HI'.out HOC.out.lie.cap HOC.out.lie.cm (by have := HML2.out; omega))
      have HER := Lib.hid (getF_err L')
      generalize getF L' = G at *
      obtain ⟨GF, gk, er⟩ := G
      dsimp only at HGT HRG HER
      unfold RGetPost at HRG
      dsimp only at HRG
      go_wp2_with fail
      (with_reducible refine HGT.out.mono ?_)
      rintro e w11 ⟨a11, k11, rfl, hs11, hk11, ho11⟩
      obtain ⟨w12, hw12⟩ : ∃ w12, w12 = w11.alloc (.cells #[.int .i64 GF.k, .int .i64 GF.g, .int .i64 GF.s, .slice a11 GF.b.length k11] 24) := ⟨_, rfl⟩
      have hb12 : Below w11.heap.size w11 w12 := by rw [hw12]; exact (Below.refl _ _).alloc (Nat.le_refl _) _
      have HS12 := Lib.hid (hs11.below hb12)
      have HOC12 := Lib.hid ((HOC.out.step hk11).below hb12)
      have HW12 := Lib.hid hw12
      have HR12 := Lib.hid (HRG.out w12 HOC12.out.lie.ints)
      clear hs11 hk11 ho11 hb12 hw12 HGT HRG
      go_wp2_with fail
      rw [← HW12.out]
      (with_reducible refine HR12.out.mono ?_)
      rintro e w13 ⟨a13, k13, rfl, hr13⟩
      obtain ⟨w14, hw14⟩ : ∃ w14, w14 = w13.alloc (.cells #[.int .i64 GF.k, .int .i64 GF.g, .int .i64 GF.s, .slice a13 GF.b.length k13] 24) := ⟨_, rfl⟩
      have hb14 : Below w13.heap.size w13 w14 := by rw [hw14]; exact (Below.refl _ _).alloc (Nat.le_refl _) _
      have HS14 := Lib.hid ((HS12.out.below hr13.2.1).below hb14)
      have HW14 := Lib.hid hw14
      clear hr13 hb14 hw14 HR12 HS12
      go_wp2_with fail
      rw [← HW14.out]
      (with_reducible refine (first7_any w14).mono ?_)
      rintro e w15 ⟨rfl, hb15⟩
      have HS15 := Lib.hid (HS14.out.below hb15)
      clear hb15
      rcases HER.out with he | he
      · subst he
        go_wp2
        go_ret
        exact ⟨rfl, HS15.out.bel⟩
      · subst he
        go_wp2
        go_ret
        exact ⟨rfl, HS15.out.bel⟩

theorem walk_frameBack (W : World) (F : FR) (ao : Option Addr) (m c : Nat) (hm : F.b.length = m) (hz : IntsAt .u8 W ao F.b) (hB : InB F.b) (hc : m ≤ c) (hcm : c ≤ maxLen) (ao2 : Option Addr) (zs2 : List Int) (d2 : Nat) (hz2 : IntsAt .u8 W ao2 zs2) (hc2 : zs2.length ≤ d2) (wf2 : d2 ≤ maxLen ∧ ∀ n ∈ zs2, (Lit.int .u8 n).wf = true) (at' : Int) (hat : (Lit.int .i64 at').wf = true) (bit : Int) (hbit : (Lit.int .u64 bit).wf = true) :
    Calls Try.prog 5 #[.agg #[.int .i64 F.k, .int .i64 F.g, .int .i64 F.s, .slice ao m c], .slice ao2 zs2.length d2, .int .i64 at', .int .u64 bit] W fun e w' => e = .returned (.bool true) ∧ Below W.heap.size W w' :=
  fback_core W F ao m c hm hz hB hc hcm ao2 zs2 zs2.length d2 rfl hz2 (inB_of_wf wf2.2) hc2 wf2.1 at' bit (by simp [Lit.wf, IntKind.wrap_i64] at hat; have e1 : IntKind.i64.min = -9223372036854775808 := rfl; have e2 : IntKind.i64.max = 9223372036854775807 := rfl; omega) (by simp [Lit.wf, IntKind.wrap_u64] at hbit; have e1 : IntKind.u64.min = 0 := rfl; have e2 : IntKind.u64.max = 18446744073709551615 := rfl; omega)

end Go.Proofs.Yteabnagdfecleaa
