/- FrameCuts is true for every input, and its arguments read behind the call as before; no condition: the walk. -/
import Derived.Test.YteabnagdfecleaaFreads
import Derived.Test.YteabnagdfecleaaRowb
namespace Go.Proofs.Yteabnagdfecleaa
open Go.RowKit
set_option linter.unusedVariables false
set_option linter.unusedSimpArgs false

theorem getF_self (F : FR) (hl : F.b.length ≤ 60000) (hF : F.ok) : getF (putF F) = (F, secN F.b.length, 0) := by
  have := getF_put hl hF []
  rwa [List.append_nil] at this

set_option maxRecDepth 100000 in
set_option maxHeartbeats 1000000 in
theorem fcuts_core (W : World) (F : FR) (ao : Option Addr) (m c : Nat) (ii kk : Int) (hm : F.b.length = m) (hz : IntsAt .u8 W ao F.b) (hB : InB F.b) (hc : m ≤ c) (hcm : c ≤ maxLen) (hii : ii ≤ 9223372036854775807) (hkk : kk ≤ 9223372036854775807) :
    Calls Try.prog 7 #[.agg #[.int .i64 F.k, .int .i64 F.g, .int .i64 F.s, .slice ao m c], .int .i64 ii, .int .i64 kk] W fun e w' => e = .returned (.bool true) ∧ Below W.heap.size W w' := by
  have HM := Lib.hid hm
  have HZ := Lib.hid hz
  have HB := Lib.hid hB
  have HC := Lib.hid (And.intro hc hcm)
  have HIK := Lib.hid (And.intro hii hkk)
  obtain ⟨w0, hw0⟩ : ∃ w0, w0 = W.alloc (.cells #[.int .i64 F.k, .int .i64 F.g, .int .i64 F.s, .slice ao m c] 24) := ⟨_, rfl⟩
  have HX0 : Hid (BoxF w0 W.heap.size F ao m c) := Lib.hid (by rw [hw0]; exact heap_alloc_new _ _)
  have HB0 : Hid (Below W.heap.size W w0) := Lib.hid (by rw [hw0]; exact (Below.refl _ _).alloc (Nat.le_refl _) _)
  have HW0 := Lib.hid hw0
  clear hm hz hB hc hcm hw0 hii hkk
  go_enter Try.func7, Try.ntmps7
  go_wp2_with fail
  rw [← HW0.out]
  refine (first7_any w0).mono ?_
  rintro e w1 ⟨rfl, hb1⟩
  have HX1 := Lib.hid (HX0.out.below hb1)
  have HB1 : Hid (Below W.heap.size W w1) := Lib.hid (below_step HB0.out hb1)
  have HBX : Hid (W.heap.size < w1.heap.size) := Lib.hid (blk_lt HX1.out)
  clear hb1
  go_wp2_with fail
  refine (newTable_any w1).mono ?_
  rintro e w2 ⟨rfl, ht2, hb2⟩
  have HS2 : Hid (St W w1.heap.size w2) := Lib.hid ⟨ht2, below_step HB1.out hb2, HB1.out.size⟩
  have HX2 := Lib.hid (HX1.out.below hb2)
  clear ht2 hb2
  generalize w1.heap.size = tb at *
  obtain ⟨c0, c1, c2, c3⟩ := HX2.out.cells
  by_cases hbig : (2000 : Int) < (m : Int)
  · go_wp2_with fail
    refine (first7_any w2).mono ?_
    rintro e w3 ⟨rfl, hb3⟩
    have HB3 : Hid (Below W.heap.size W w3) := Lib.hid (HS2.out.below hb3).bel
    clear hb3
    go_wp2
    go_ret
    exact ⟨rfl, HB3.out⟩
  by_cases hni : ii < 0
  · go_wp2_with fail
    refine (first7_any w2).mono ?_
    rintro e w3 ⟨rfl, hb3⟩
    have HB3 : Hid (Below W.heap.size W w3) := Lib.hid (HS2.out.below hb3).bel
    clear hb3
    go_wp2
    go_ret
    exact ⟨rfl, HB3.out⟩
  by_cases hnk : kk < 0
  · go_wp2_with fail
    refine (first7_any w2).mono ?_
    rintro e w3 ⟨rfl, hb3⟩
    have HB3 : Hid (Below W.heap.size W w3) := Lib.hid (HS2.out.below hb3).bel
    clear hb3
    go_wp2
    go_ret
    exact ⟨rfl, HB3.out⟩
  have HML : Hid (m ≤ 2000) := Lib.hid (by omega)
  have HPT := Lib.hid (put_st HS2.out F ao m c (Lie.arg HM.out HZ.out HB.out HC.out.1 HC.out.2 HS2.out))
  have HPI := Lib.hid (putR_inB HB.out)
  by_cases her : (putR F).2 = 0
  case neg =>
    have HN := Lib.hid (putR_no her)
    have hb : ((putR F).2 != 0) = true := by simp [her]
    rw [HN.out] at HPT
    generalize (putR F).2 = er at *
    clear her
    go_wp2_with fail
    refine HPT.out.mono ?_
    rintro e w3 ⟨a3, k3, rfl, hs3, hk3, ho3⟩
    have HS3 := Lib.hid hs3
    clear hs3 hk3 ho3
    go_wp2_with fail
    refine (first7_any w3).mono ?_
    rintro e w4 ⟨rfl, hb4⟩
    have HB4 : Hid (Below W.heap.size W w4) := Lib.hid (HS3.out.below hb4).bel
    clear hb4
    go_wp2
    go_ret
    exact ⟨rfl, HB4.out⟩
  case pos =>
  have HOK := Lib.hid (putR_ok her)
  clear her
  rw [HOK.out.2.2] at HPT HPI
  have HSF := Lib.hid (getF_self F HOK.out.2.1 HOK.out.1)
  have HCU := Lib.hid (fun n hn => getF_short (F := F) HOK.out.2.1 n hn)
  obtain ⟨K, hK⟩ : ∃ K, K = (m + 86) / 63 := ⟨_, rfl⟩
  have HPL : Hid ((putF F).length = 64 * K) := Lib.hid (by rw [putF_len, HM.out, hK])
  have HKB : Hid (1 ≤ K ∧ K ≤ 34) := Lib.hid (by rw [hK]; have := HML.out; omega)
  obtain ⟨L, hL⟩ : ∃ L, L = putF F := ⟨_, rfl⟩
  rw [← hL] at HPT HPI HPL HSF HCU
  dsimp only at HPT HPI
  rw [HPL.out] at HPT
  obtain ⟨M, hM⟩ : ∃ M, M = 64 * K := ⟨_, rfl⟩
  have HMK := Lib.hid hM
  rw [← hM] at HPT HPL
  clear hL hK hM
  have q0 : (0 : Int) ≤ (M : Int) := by omega
  have q1 : ((M : Int) % 64 != 0) = false := by rw [bne_eq_false_iff_eq]; have := HMK.out; omega
  have q2 : ¬ (M : Int) < 64 := by have := HMK.out; have := HKB.out; omega
  have q3 : (M : Int) / 64 = (K : Int) := by have := HMK.out; omega
  go_wp2_with fail
  refine HPT.out.mono ?_
  rintro e w3 ⟨a3, k3, rfl, hs3, hk3, ho3⟩
  have HS3 := Lib.hid hs3
  have HO3 := Lib.hid ho3
  clear hs3 hk3 ho3 HPT c0 c1 c2 c3 HX2 HX1 HX0 HW0
  obtain ⟨pb, rfl⟩ := row_addr HO3.out.row (by have := HMK.out; have := HKB.out; omega)
  have HC3 : Hid (M ≤ k3) := Lib.hid HO3.out.lie.cap
  obtain ⟨A, hA⟩ : ∃ A, A = M - 64 := ⟨_, rfl⟩
  obtain ⟨B, hB⟩ : ∃ B, B = M - 1 := ⟨_, rfl⟩
  have HAB : Hid (A + 64 = M ∧ B + 1 = M) := Lib.hid (by have := HMK.out; have := HKB.out; omega)
  have H56 : Hid (wrap64 (A : Int) = (A : Int) ∧ wrap64 (B : Int) = (B : Int)) := Lib.hid (by have := HAB.out; have := HMK.out; have := HKB.out; constructor <;> (unfold wrap64; omega))
  have q7 : (A : Int) ≤ (k3 : Int) := by have := HC3.out; omega
  have q8 : (B : Int) ≤ (k3 : Int) := by have := HC3.out; omega
  have q4 : (0 : Int) ≤ (A : Int) := by omega
  have q11 : (0 : Int) ≤ (B : Int) := by omega
  have q9 : (M : Int) - 64 = (A : Int) := by have := HAB.out; omega
  have q10 : (M : Int) - 1 = (B : Int) := by have := HAB.out; omega
  clear hA hB
  have HGT := Lib.hid (get_st HS3.out _ (L.take A) A k3 (HO3.out.lie.take A (by have := HAB.out; omega)) (by have := HMK.out; have := HKB.out; have := HAB.out; omega))
  rw [HCU.out A (by rw [HPL.out]; have := HAB.out; omega)] at HGT
  have H39 := Lib.hid (And.intro q3 (And.intro q9 q10))
  clear q3 q9 q10
  go_upto_region 9 with fail
  clear q1 q2
  obtain ⟨q3, q9, q10⟩ := H39.out
  go_upto_region 10 with fail
  clear q3
  obtain ⟨q5, q6⟩ := H56.out
  go_wp2_with fail
  (with_reducible refine HGT.out.mono ?_)
  rintro e w4 ⟨a4, k4, rfl, hs4, hk4, ho4⟩
  have HS4 := Lib.hid hs4
  have HO4 := Lib.hid (HO3.out.step hk4)
  clear hs4 hk4 ho4 HGT
  obtain ⟨w5, hw5⟩ : ∃ w5, w5 = w4.alloc (.cells #[.int .i64 noF.k, .int .i64 noF.g, .int .i64 noF.s, .slice a4 noF.b.length k4] 24) := ⟨_, rfl⟩
  have hb5 : Below w4.heap.size w4 w5 := by rw [hw5]; exact (Below.refl _ _).alloc (Nat.le_refl _) _
  have HS5 := Lib.hid (HS4.out.below hb5)
  have HO5 := Lib.hid (HO4.out.below hb5)
  have HW5 := Lib.hid hw5
  clear hw5 hb5
  clear q5 q6
  have HGT := Lib.hid (get_st HS5.out _ (L.take B) B k3 (HO5.out.lie.take B (by have := HAB.out; omega)) (by have := HMK.out; have := HKB.out; have := HAB.out; omega))
  rw [HCU.out B (by rw [HPL.out]; have := HAB.out; omega)] at HGT
  obtain ⟨q5, q6⟩ := H56.out
  dsimp only
  go_wp2_with fail
  rw [← HW5.out]
  (with_reducible refine HGT.out.mono ?_)
  rintro e w6 ⟨a6, k6, rfl, hs6, hk6, ho6⟩
  have HS6 := Lib.hid hs6
  have HO6 := Lib.hid (HO5.out.step hk6)
  clear hs6 hk6 ho6 HGT HS4 HO4 HS5 HO5 HW5
  obtain ⟨w7, hw7⟩ : ∃ w7, w7 = w6.alloc (.cells #[.int .i64 noF.k, .int .i64 noF.g, .int .i64 noF.s, .slice a6 noF.b.length k6] 24) := ⟨_, rfl⟩
  have hb7 : Below w6.heap.size w6 w7 := by rw [hw7]; exact (Below.refl _ _).alloc (Nat.le_refl _) _
  have HS7 := Lib.hid (HS6.out.below hb7)
  have HO7 := Lib.hid (HO6.out.below hb7)
  have HW7 := Lib.hid hw7
  clear hw7 hb7 q4 q5 q6 q7 q8 q9 q10 q11
  dsimp only
  go_upto_region 14 with fail
  rw [← HW7.out]
  have hwk : wrap64 (K : Int) = (K : Int) := by have := HKB.out; unfold wrap64; omega
  rw [hwk]
  clear hwk
  obtain ⟨x, hx⟩ : ∃ x : Nat, (x : Int) = ii % (K : Int) := ⟨(ii % (K : Int)).toNat, by have := Int.emod_nonneg ii (show (K : Int) ≠ 0 by have := HKB.out; omega); omega⟩
  obtain ⟨y, hy⟩ : ∃ y : Nat, (y : Int) = kk % (K : Int) := ⟨(kk % (K : Int)).toNat, by have := Int.emod_nonneg kk (show (K : Int) ≠ 0 by have := HKB.out; omega); omega⟩
  have HXY : Hid (x < K ∧ y < K) := Lib.hid (by
    have h0 : (0 : Int) < (K : Int) := by have := HKB.out; omega
    have h1 := Int.emod_lt_of_pos ii h0
    have h2 := Int.emod_lt_of_pos kk h0
    omega)
  have t1 : ii.tmod (K : Int) = (x : Int) := by rw [Int.tmod_eq_emod_of_nonneg hni, hx]
  have t2 : kk.tmod (K : Int) = (y : Int) := by rw [Int.tmod_eq_emod_of_nonneg hnk, hy]
  have t3 : ¬ (K : Int) = 0 := by have := HKB.out; omega
  have t4 : ¬ K = 0 := by have := HKB.out; omega
  have H5 : Hid (IntKind.i64.wrap (x : Int) = (x : Int) ∧ IntKind.i64.wrap (y : Int) = (y : Int)) := Lib.hid (by have := HXY.out; have := HKB.out; constructor <;> (rw [IntKind.wrap_i64]; omega))
  clear hx hy
  obtain ⟨t5, t6⟩ := H5.out
  go_quiet (fail)
  clear t1 t2 t3 t4 t5 t6 hni hnk hbig
  have HS8 : Hid (St W tb (w7.drewN nq)) := Lib.hid ⟨HS7.out.tab, ((Keeps.of_below (S := fun _ => False) HS7.out.bel).drewN nq).below (Nat.le_refl _) (fun _ h => h.elim), HS7.out.own⟩
  have HO8 : Hid (Own tb (w7.drewN nq) (some ⟨pb, 0, none⟩) L M k3) := Lib.hid ⟨HO7.out.row, HO7.out.len, HO7.out.inb, HO7.out.off⟩
  generalize w7.drewN nq = wd at *
  have HML2 : Hid (M ≤ 2176) := Lib.hid (by have := HMK.out; have := HKB.out; omega)
  have HCB := Lib.hid (copyBytes (some ⟨pb, 0, none⟩) L M k3 wd HPL.out HO8.out.lie.ints (by have := HML2.out; omega))
  clear HS7 HO7 HW7 HS6 HO6
  go_wp2_with fail
  (with_reducible refine HCB.out.mono ?_)
  rintro e w8 ⟨ca, cc, rfl, hr8⟩
  rw [HPL.out] at hr8 ⊢
  have HS9 := Lib.hid (HS8.out.below hr8.2.1)
  have HO9 := Lib.hid (HO8.out.below hr8.2.1)
  have HR9 : Hid (w8.ownsRow 0 5 1 (.slice ca M cc) M (L.map (Value.int .u8))) := Lib.hid (by have h := hr8.1; rw [HPL.out] at h; exact h)
  obtain ⟨cb, rfl⟩ := row_addr HR9.out (by have := HMK.out; have := HKB.out; omega)
  have HCN : Hid (wd.heap.size ≤ cb ∧ pb < wd.heap.size ∧ tb < wd.heap.size ∧ W.heap.size ≤ wd.heap.size) := Lib.hid ⟨hr8.2.2 cb rfl, (HO8.out.row.lt pb rfl).2, HS8.out.lt, HS8.out.bel.size⟩
  clear hr8 HCB HS8 HO8
  go_wp2_with fail
  go_loopw [20] (fun i wr => ∃ (j : Nat) (L' : List Int), j ≤ 64 ∧ i = .int .i64 (j : Int) ∧ L'.length = M ∧ InB L' ∧ wr.ownsRow 0 5 1 (.slice (some ⟨cb, 0, none⟩) M cc) M (L'.map (Value.int .u8)) ∧ Keeps (fun i => i = cb) w8 wr) (fun i _ => 64 - (intOf i).toNat)
  case atStart => exact ⟨0, L, Nat.zero_le _, rfl, HPL.out, HPI.out, HR9.out, Keeps.refl _ _⟩
  case round =>
    obtain ⟨j, L', hj, rfl, hl', hi', hr', hk'⟩ := hrel
    have HL' := Lib.hid hl'
    have HI' := Lib.hid hi'
    have HR' := Lib.hid hr'
    have HK' := Lib.hid hk'
    clear hl' hi' hr' hk'
    have HOB : Hid (wr.ownsRow 0 5 1 (.slice (some ⟨pb, 0, none⟩) M k3) M (L.map (Value.int .u8))) := Lib.hid (ownsRow_same HO9.out.row (fun g hg => HK'.out.block g (HO9.out.row.lt g hg).2 (by have h : pb = g := (by simpa [Value.ownBlock] using hg); have := HCN.out; omega)))
    by_cases hlt : j < 64
    · obtain ⟨X0, hX0⟩ : ∃ X0, X0 = 64 * x := ⟨_, rfl⟩
      obtain ⟨Y0, hY0⟩ : ∃ Y0, Y0 = 64 * y := ⟨_, rfl⟩
      obtain ⟨I1, hI1⟩ : ∃ I1, I1 = X0 + j := ⟨_, rfl⟩
      obtain ⟨I2, hI2⟩ : ∃ I2, I2 = Y0 + j := ⟨_, rfl⟩
      have HIB : Hid (I1 < M ∧ I2 < M) := Lib.hid (by have := HXY.out; have := HMK.out; omega)
      obtain ⟨b1, b1f⟩ := row_cell HOB.out I1 HIB.out.1
      obtain ⟨b2, b2f⟩ := row_cell HOB.out I2 HIB.out.2
      obtain ⟨d1, d1f⟩ := row_cell HR'.out I1 HIB.out.1
      have HZ1 := Lib.hid (inB_getD HPI.out I1)
      have HZ2 := Lib.hid (inB_getD HPI.out I2)
      generalize L.getD I1 0 = z1 at *
      generalize L.getD I2 0 = z2 at *
      obtain ⟨w9, hw9⟩ : ∃ w9, w9 = wr.setCell ⟨cb, I1, none⟩ (.int .u8 z2) := ⟨_, rfl⟩
      have HR10 : Hid (w9.ownsRow 0 5 1 (.slice (some ⟨cb, 0, none⟩) M cc) M ((L'.set I1 z2).map (Value.int .u8))) := Lib.hid (by rw [hw9]; exact row_set HR'.out I1 z2)
      have HK10 : Hid (Keeps (fun i => i = cb) wr w9) := Lib.hid (by rw [hw9]; exact (Keeps.refl (fun i => i = cb) wr).setCell (p := ⟨cb, I1, none⟩) (Or.inl rfl) _)
      have HOB9 : Hid (w9.ownsRow 0 5 1 (.slice (some ⟨pb, 0, none⟩) M k3) M (L.map (Value.int .u8))) := Lib.hid (ownsRow_same HOB.out (fun g hg => HK10.out.block g (HOB.out.lt g hg).2 (by have h : pb = g := (by simpa [Value.ownBlock] using hg); have := HCN.out; omega)))
      obtain ⟨w10, hw10⟩ : ∃ w10, w10 = w9.setCell ⟨cb, I2, none⟩ (.int .u8 z1) := ⟨_, rfl⟩
      have HR11 : Hid (w10.ownsRow 0 5 1 (.slice (some ⟨cb, 0, none⟩) M cc) M (((L'.set I1 z2).set I2 z1).map (Value.int .u8))) := Lib.hid (by rw [hw10]; exact row_set HR10.out I2 z1)
      have HK11 : Hid (Keeps (fun i => i = cb) w8 w10) := Lib.hid (HK'.out.trans (HK10.out.trans (by rw [hw10]; exact (Keeps.refl (fun i => i = cb) w9).setCell (p := ⟨cb, I2, none⟩) (Or.inl rfl) _) (fun i hi => Or.inl hi)) (fun i hi => Or.inl hi))
      have HI11 : Hid (InB ((L'.set I1 z2).set I2 z1)) := Lib.hid (inB_set (inB_set HI'.out I1 (by have := HZ2.out; omega)) I2 (by have := HZ1.out; omega))
      have HL11 : Hid (((L'.set I1 z2).set I2 z1).length = M) := Lib.hid (by rw [List.length_set, List.length_set, HL'.out])
      have HW9 := Lib.hid hw9
      have HW10 := Lib.hid hw10
      obtain ⟨p1, p1f⟩ := row_cell HR10.out I2 HIB.out.2
      generalize (L'.set I1 z2).getD I2 0 = q2 at *
      have HPW : Hid (pb < wr.heap.size ∧ pb ≠ cb) := Lib.hid ⟨(HOB.out.lt pb rfl).2, by have := HCN.out; omega⟩
      have H9C : Hid (w9.cell? ⟨pb, I2, none⟩ = some (.int .u8 z2) ∧ w9.cell? ⟨pb, I1, none⟩ = some (.int .u8 z1)) := Lib.hid ⟨(World.cell?_of_block (a := ⟨pb, I2, none⟩) (HK10.out.block pb HPW.out.1 HPW.out.2)).trans b2, (World.cell?_of_block (a := ⟨pb, I1, none⟩) (HK10.out.block pb HPW.out.1 HPW.out.2)).trans b1⟩
      have HAC : Hid (w10.cell? ⟨pb, I2, none⟩ = some (.int .u8 z2) ∧ w10.cell? ⟨pb, I1, none⟩ = some (.int .u8 z1)) := Lib.hid (by rw [hw10]; exact ⟨(World.cell?_of_block (a := ⟨pb, I2, none⟩) (Below.heap_setCell _ _ _ _ HPW.out.2)).trans H9C.out.1, (World.cell?_of_block (a := ⟨pb, I1, none⟩) (Below.heap_setCell _ _ _ _ HPW.out.2)).trans H9C.out.2⟩)
      clear hw9 hw10
      have e1 : 64 * (x : Int) = (X0 : Int) := by omega
      have e2 : 64 * (y : Int) = (Y0 : Int) := by omega
      have e3 : (X0 : Int) + (j : Int) = (I1 : Int) := by omega
      have e4 : (Y0 : Int) + (j : Int) = (I2 : Int) := by omega
      have e5 : (I1 : Int) < (M : Int) := by have := HIB.out; omega
      have e6 : (I2 : Int) < (M : Int) := by have := HIB.out; omega
      have e7 : I1 < M := HIB.out.1
      have e8 : I2 < M := HIB.out.2
      have HJL : Hid (j < 64) := Lib.hid hlt
      have HWR : Hid (IntKind.i64.wrap (X0 : Int) = (X0 : Int) ∧ IntKind.i64.wrap (Y0 : Int) = (Y0 : Int) ∧ IntKind.i64.wrap (I1 : Int) = (I1 : Int) ∧ IntKind.i64.wrap (I2 : Int) = (I2 : Int)) := Lib.hid (by have := HML2.out; refine ⟨?_, ?_, ?_, ?_⟩ <;> (rw [IntKind.wrap_i64]; omega))
      clear hX0 hY0 hI1 hI2
      go_upto_region 19 with fail
      obtain ⟨g1, g2, g3, g4⟩ := HWR.out
      refine wp_region_held_drew (S := fun w' => w'.cell? ⟨pb, I2, none⟩ = some (.int .u8 z2) ∧ w'.cell? ⟨pb, I1, none⟩ = some (.int .u8 z1)) (by kernel_rfl) ?_ (fun hHeld => ?_)
      · exact ⟨b2, b1⟩
      refine take_at (i := 0) (d := 110) (v := ?_) rfl rfl (by kernel_rfl) (by kernel_rfl) (by kernel_rfl) (fun _ _ _ h => h) (Or.inl ⟨by rfl, by intro w' hSw; (try dsimp only at hSw); go_simp; try with_reducible rfl⟩) (by assumption) ?_
      simp only [List.setIfInBounds_toArray, List.set_cons_zero, List.set_cons_succ]
      refine take_at (i := 1) (d := 111) (v := ?_) rfl rfl (by kernel_rfl) (by kernel_rfl) (by kernel_rfl) (fun _ _ _ h => h) (Or.inl ⟨by rfl, by intro w' hSw; (try dsimp only at hSw); go_simp; try with_reducible rfl⟩) (by assumption) ?_
      simp only [List.setIfInBounds_toArray, List.set_cons_zero, List.set_cons_succ]
      refine take_at (i := 2) (d := 112) (v := ?_) rfl rfl (by kernel_rfl) (by kernel_rfl) (by kernel_rfl) (fun _ _ _ h => h) (Or.inl ⟨by rfl, by intro w' hSw; (try dsimp only at hSw); go_simp; try with_reducible rfl⟩) (by assumption) ?_
      simp only [List.setIfInBounds_toArray, List.set_cons_zero, List.set_cons_succ]
      refine take_at (i := 3) (d := 113) (v := ?_) rfl rfl (by kernel_rfl) (by kernel_rfl) (by kernel_rfl) (fun _ _ _ h => h) (Or.inl ⟨by rfl, by intro w' hSw; (try dsimp only at hSw); go_simp; try with_reducible rfl⟩) (by assumption) ?_
      simp only [List.setIfInBounds_toArray, List.set_cons_zero, List.set_cons_succ]
      refine take_at (i := 4) (d := 114) (v := ?_) rfl rfl (by kernel_rfl) (by kernel_rfl) (by kernel_rfl) (fun _ _ _ h => h) (Or.inl ⟨by rfl, by intro w' hSw; (try dsimp only at hSw); go_simp; try with_reducible rfl⟩) (by assumption) ?_
      simp only [List.setIfInBounds_toArray, List.set_cons_zero, List.set_cons_succ]
      refine take_at (i := 5) (d := 115) (v := ?_) rfl rfl (by kernel_rfl) (by kernel_rfl) (by kernel_rfl) (fun _ _ _ h => h) (Or.inl ⟨by rfl, by intro w' hSw; (try dsimp only at hSw); go_simp; try with_reducible rfl⟩) (by assumption) ?_
      simp only [List.setIfInBounds_toArray, List.set_cons_zero, List.set_cons_succ]
      refine take_at (i := 6) (d := 116) (v := ?_) rfl rfl (by kernel_rfl) (by kernel_rfl) (by kernel_rfl) (fun _ _ _ h => h) (Or.inl ⟨by rfl, by intro w' hSw; (try dsimp only at hSw); go_simp; try with_reducible rfl⟩) (by assumption) ?_
      simp only [List.setIfInBounds_toArray, List.set_cons_zero, List.set_cons_succ]
      refine take_at (i := 7) (d := 117) (v := ?_) rfl rfl (by kernel_rfl) (by kernel_rfl) (by kernel_rfl) (fun _ _ _ h => h) (Or.inl ⟨by rfl, by intro w' hSw; (try dsimp only at hSw); go_simp; try with_reducible rfl⟩) (by assumption) ?_
      simp only [List.setIfInBounds_toArray, List.set_cons_zero, List.set_cons_succ]
      refine take_at (i := 8) (d := 118) (v := ?_) rfl rfl (by kernel_rfl) (by kernel_rfl) (by kernel_rfl) (fun _ _ _ h => h) (Or.inl ⟨by rfl, by intro w' hSw; (try dsimp only at hSw); go_simp; try with_reducible rfl⟩) (by assumption) ?_
      simp only [List.setIfInBounds_toArray, List.set_cons_zero, List.set_cons_succ]
      refine take_at (i := 9) (d := 119) (v := ?_) rfl rfl (by kernel_rfl) (by kernel_rfl) (by kernel_rfl) (fun _ _ _ h => h) (Or.inl ⟨by rfl, by intro w' hSw; (try dsimp only at hSw); go_simp; try with_reducible rfl⟩) (by assumption) ?_
      simp only [List.setIfInBounds_toArray, List.set_cons_zero, List.set_cons_succ]
      refine take_at (i := 10) (d := 120) (v := ?_) rfl rfl (by kernel_rfl) (by kernel_rfl) (by kernel_rfl) (fun _ _ _ h => h) (Or.inl ⟨by rfl, by intro w' hSw; (try dsimp only at hSw); go_simp; try with_reducible rfl⟩) (by assumption) ?_
      simp only [List.setIfInBounds_toArray, List.set_cons_zero, List.set_cons_succ]
      refine take_at (i := 11) (d := 121) (v := ?_) rfl rfl (by kernel_rfl) (by kernel_rfl) (by kernel_rfl) (fun _ _ _ h => h) (Or.inl ⟨by rfl, by intro w' hSw; (try dsimp only at hSw); go_simp; try with_reducible rfl⟩) (by assumption) ?_
      simp only [List.setIfInBounds_toArray, List.set_cons_zero, List.set_cons_succ]
      refine take_at (i := 12) (d := 122) (v := ?_) rfl rfl (by kernel_rfl) (by kernel_rfl) (by kernel_rfl) (fun _ _ _ h => h) (Or.inl ⟨by rfl, by intro w' hSw; (try dsimp only at hSw); go_simp; try with_reducible rfl⟩) (by assumption) ?_
      simp only [List.setIfInBounds_toArray, List.set_cons_zero, List.set_cons_succ]
      refine take_at (i := 13) (d := 123) (v := ?_) rfl rfl (by kernel_rfl) (by kernel_rfl) (by kernel_rfl) (fun _ _ _ h => h) (Or.inl ⟨by rfl, by intro w' hSw; (try dsimp only at hSw); go_simp; try with_reducible rfl⟩) (by assumption) ?_
      simp only [List.setIfInBounds_toArray, List.set_cons_zero, List.set_cons_succ]
      refine take_at (i := 14) (d := 124) (v := ?_) rfl rfl (by kernel_rfl) (by kernel_rfl) (by kernel_rfl) (fun _ _ _ h => h) (Or.inl ⟨by rfl, by intro w' hSw; (try dsimp only at hSw); go_simp; try with_reducible rfl⟩) (by assumption) ?_
      simp only [List.setIfInBounds_toArray, List.set_cons_zero, List.set_cons_succ]
      refine take_at (i := 15) (d := 125) (v := ?_) rfl rfl (by kernel_rfl) (by kernel_rfl) (by kernel_rfl) (fun _ _ _ h => h) (Or.inl ⟨by rfl, by intro w' hSw; (try dsimp only at hSw); go_simp; try with_reducible rfl⟩) (by assumption) ?_
      simp only [List.setIfInBounds_toArray, List.set_cons_zero, List.set_cons_succ]
      refine take_at (i := 16) (d := 126) (v := ?_) rfl rfl (by kernel_rfl) (by kernel_rfl) (by kernel_rfl) (fun _ _ _ h => h) (Or.inl ⟨by rfl, by intro w' hSw; (try dsimp only at hSw); go_simp; try with_reducible rfl⟩) (by assumption) ?_
      simp only [List.setIfInBounds_toArray, List.set_cons_zero, List.set_cons_succ]
      refine take_at (i := 17) (d := 127) (v := ?_) rfl rfl (by kernel_rfl) (by kernel_rfl) (by kernel_rfl) (fun _ _ _ h => h) (Or.inl ⟨by rfl, by intro w' hSw; (try dsimp only at hSw); go_simp; try with_reducible rfl⟩) (by assumption) ?_
      simp only [List.setIfInBounds_toArray, List.set_cons_zero, List.set_cons_succ]
      refine take_at (i := 18) (d := 128) (v := ?_) rfl rfl (by kernel_rfl) (by kernel_rfl) (by kernel_rfl) (fun _ _ _ h => h) (Or.inl ⟨by rfl, by intro w' hSw; (try dsimp only at hSw); go_simp; try with_reducible rfl⟩) (by assumption) ?_
      simp only [List.setIfInBounds_toArray, List.set_cons_zero, List.set_cons_succ]
      refine take_at (i := 19) (d := 129) (v := ?_) rfl rfl (by kernel_rfl) (by kernel_rfl) (by kernel_rfl) (fun _ _ _ h => h) (Or.inl ⟨by rfl, by intro w' hSw; (try dsimp only at hSw); go_simp; try with_reducible rfl⟩) (by assumption) ?_
      simp only [List.setIfInBounds_toArray, List.set_cons_zero, List.set_cons_succ]
      refine take_at (i := 20) (d := 130) (v := ?_) rfl rfl (by kernel_rfl) (by kernel_rfl) (by kernel_rfl) (fun _ _ _ h => h) (Or.inl ⟨by rfl, by intro w' hSw; (try dsimp only at hSw); go_simp; try with_reducible rfl⟩) (by assumption) ?_
      simp only [List.setIfInBounds_toArray, List.set_cons_zero, List.set_cons_succ]
      refine take_at (i := 21) (d := 131) (v := ?_) rfl rfl (by kernel_rfl) (by kernel_rfl) (by kernel_rfl) (fun _ _ _ h => h) (Or.inl ⟨by rfl, by intro w' hSw; (try dsimp only at hSw); go_simp; try with_reducible rfl⟩) (by assumption) ?_
      simp only [List.setIfInBounds_toArray, List.set_cons_zero, List.set_cons_succ]
      refine take_at (i := 22) (d := 132) (v := ?_) rfl rfl (by kernel_rfl) (by kernel_rfl) (by kernel_rfl) (fun _ _ _ h => h) (Or.inl ⟨by rfl, by intro w' hSw; (try dsimp only at hSw); go_simp; try with_reducible rfl⟩) (by assumption) ?_
      simp only [List.setIfInBounds_toArray, List.set_cons_zero, List.set_cons_succ]
      refine take_at (i := 23) (d := 133) (v := ?_) rfl rfl (by kernel_rfl) (by kernel_rfl) (by kernel_rfl) (fun _ _ _ h => h) (Or.inl ⟨by rfl, by intro w' hSw; (try dsimp only at hSw); go_simp; try with_reducible rfl⟩) (by assumption) ?_
      simp only [List.setIfInBounds_toArray, List.set_cons_zero, List.set_cons_succ]
      refine take_at (i := 24) (d := 134) (v := ?_) rfl rfl (by kernel_rfl) (by kernel_rfl) (by kernel_rfl) (fun _ _ _ h => h) (Or.inl ⟨by rfl, by intro w' hSw; (try dsimp only at hSw); go_simp; try with_reducible rfl⟩) (by assumption) ?_
      simp only [List.setIfInBounds_toArray, List.set_cons_zero, List.set_cons_succ]
      refine wpAnyH_ready (rs := [25]) (by kernel_rfl) (by simp) ?_
      refine AllReadyH.cons rfl (fun K hK => ?_) AllReadyH.nil
      go_simp
      go_wp2_with fail
      refine hK.out _ _ ?_ (fun hHeld => ?_)
      · exact (by rw [← HW9.out]; exact H9C.out)
      clear hK K
      try simp only [Act.put, List.getElem_toArray, List.getElem_cons_succ, List.getElem_cons_zero]
      try simp only [List.setIfInBounds_toArray, List.set_cons_zero, List.set_cons_succ]
      refine take_at (i := 26) (d := 135) (v := ?_) rfl rfl (by kernel_rfl) (by kernel_rfl) (by kernel_rfl) (fun _ _ _ h => h) (Or.inl ⟨by rfl, by intro w' hSw; (try dsimp only at hSw); go_simp; try with_reducible rfl⟩) (by assumption) ?_
      simp only [List.setIfInBounds_toArray, List.set_cons_zero, List.set_cons_succ]
      rw [← HW9.out]
      refine wpAnyH_ready (rs := [27]) (by kernel_rfl) (by simp) ?_
      refine AllReadyH.cons rfl (fun K hK => ?_) AllReadyH.nil
      go_simp
      go_wp2_with fail
      refine hK.out _ _ ?_ (fun hHeld => ?_)
      · exact (by rw [← HW10.out]; exact HAC.out)
      clear hK K
      try simp only [Act.put, List.getElem_toArray, List.getElem_cons_succ, List.getElem_cons_zero]
      try simp only [List.setIfInBounds_toArray, List.set_cons_zero, List.set_cons_succ]
      refine wpAnyH_done (by kernel_rfl) ?_ _
      rw [← HW10.out]
      clear hHeld g1 g2 g3 g4 e1 e2 e3 e4
      have hke : ((j + 1 : Nat) : Int) = (j : Int) + 1 := by omega
      have hwj : wrap64 ((j : Int) + 1) = (j : Int) + 1 := by have := HJL.out; unfold wrap64; omega
      have HWJ := Lib.hid hwj
      go_wp2_with fail
      try rw [HWJ.out]
      have HK12 : Hid (Keeps (fun i => i = cb) w8 w10.drew) := Lib.hid HK11.out.drew
      have r : ∃ (j2 : Nat) (L2 : List Int), j2 ≤ 64 ∧ (.int .i64 ((j : Int) + 1) : Value) = .int .i64 (j2 : Int) ∧ L2.length = M ∧ InB L2 ∧ w10.drew.ownsRow 0 5 1 (.slice (some ⟨cb, 0, none⟩) M cc) M (L2.map (Value.int .u8)) ∧ Keeps (fun i => i = cb) w8 w10.drew := ⟨j + 1, _, by have := HJL.out; omega, by rw [hke], HL11.out, HI11.out, HR11.out, HK12.out⟩
      refine ⟨by first | exact r | ((repeat apply Exists.intro); refine ⟨?_, rfl⟩; exact r), ?_⟩
      simp only [intOf]
      have := HJL.out
      omega
    · obtain rfl : j = 64 := by omega
      have HST : Hid (St W tb wr) := Lib.hid ⟨tab_keep HS9.out.tab HK'.out (by have := HCN.out; omega), below_fp HS9.out.bel HK'.out (fun i hi => by have := HCN.out; omega), HS9.out.own⟩
      have HOC : Hid (Own tb wr (some ⟨cb, 0, none⟩) L' M cc) := Lib.hid ⟨HR'.out, HL'.out, HI'.out, fun a ha e => by cases ha; have := HCN.out; dsimp only at e; omega⟩
      have HOD : Hid (Own tb wr (some ⟨pb, 0, none⟩) L M k3) := Lib.hid ⟨HOB.out, HPL.out, HPI.out, HO9.out.off⟩
      have HGT := Lib.hid (get_st HST.out _ L' M cc HOC.out.lie (by have := HML2.out; omega))
      have HRG := Lib.hid (fun (wx : World) (h : IntsAt .u8 wx (some ⟨cb, 0, none⟩) L') => rget_any (some ⟨cb, 0, none⟩) L' M cc wx HL'.out h HI'.out HOC.out.lie.cap HOC.out.lie.cm (by have := HML2.out; omega))
      have HER := Lib.hid (getF_err L')
      have HNE : Hid ((getF L').2.2 = 2 → eqB L L' = false) := Lib.hid (fun h => by
        unfold eqB
        rw [decide_eq_false_iff_not]
        intro e
        rw [← e, HSF.out] at h
        cases h)
      generalize getF L' = G at *
      obtain ⟨GF, gk, er⟩ := G
      dsimp only at HGT HRG HER HNE
      unfold RGetPost at HRG
      dsimp only at HRG
      go_wp2_with fail
      (with_reducible refine HGT.out.mono ?_)
      rintro e w11 ⟨a11, k11, rfl, hs11, hk11, ho11⟩
      obtain ⟨w12, hw12⟩ : ∃ w12, w12 = w11.alloc (.cells #[.int .i64 GF.k, .int .i64 GF.g, .int .i64 GF.s, .slice a11 GF.b.length k11] 24) := ⟨_, rfl⟩
      have hb12 : Below w11.heap.size w11 w12 := by rw [hw12]; exact (Below.refl _ _).alloc (Nat.le_refl _) _
      have HS12 := Lib.hid (hs11.below hb12)
      have HOC12 := Lib.hid ((HOC.out.step hk11).below hb12)
      have HOD12 := Lib.hid ((HOD.out.step hk11).below hb12)
      have HW12 := Lib.hid hw12
      have HR12 := Lib.hid (HRG.out w12 HOC12.out.lie.ints)
      clear hs11 hk11 ho11 hb12 hw12 HGT HRG
      go_wp2_with fail
      rw [← HW12.out]
      (with_reducible refine HR12.out.mono ?_)
      rintro e w13 ⟨a13, k13, rfl, hr13⟩
      obtain ⟨w14, hw14⟩ : ∃ w14, w14 = w13.alloc (.cells #[.int .i64 GF.k, .int .i64 GF.g, .int .i64 GF.s, .slice a13 GF.b.length k13] 24) := ⟨_, rfl⟩
      have hb14 : Below w13.heap.size w13 w14 := by rw [hw14]; exact (Below.refl _ _).alloc (Nat.le_refl _) _
      have HS14 := Lib.hid ((HS12.out.below hr13.2.1).below hb14)
      have HOC14 := Lib.hid ((HOC12.out.below hr13.2.1).below hb14)
      have HOD14 := Lib.hid ((HOD12.out.below hr13.2.1).below hb14)
      have HW14 := Lib.hid hw14
      clear hr13 hb14 hw14 HR12 HS12
      go_wp2_with fail
      rw [← HW14.out]
      refine (first7_any w14).mono ?_
      rintro e w15 ⟨rfl, hb15⟩
      have HS15 := Lib.hid (HS14.out.below hb15)
      have HBE := Lib.hid (bytes_eq (some ⟨pb, 0, none⟩) (some ⟨cb, 0, none⟩) L L' M M k3 cc w15 HPL.out HL'.out (HOD14.out.below hb15).lie.ints (HOC14.out.below hb15).lie.ints HPI.out HI'.out)
      clear hb15
      rcases HER.out with he | he
      · subst he
        generalize eqB L L' = bq at *
        go_wp2_with fail
        (with_reducible refine HBE.out.mono ?_)
        rintro e w16 ⟨rfl, rfl⟩
        cases bq
        · go_wp2
          go_ret
          exact ⟨rfl, HS15.out.bel⟩
        · go_wp2
          go_ret
          exact ⟨rfl, HS15.out.bel⟩
      · rw [HNE.out he] at HBE
        subst he
        go_wp2_with fail
        (with_reducible refine HBE.out.mono ?_)
        rintro e w16 ⟨rfl, rfl⟩
        go_wp2
        go_ret
        exact ⟨rfl, HS15.out.bel⟩

theorem walk_frameCuts (W : World) (F : FR) (ao : Option Addr) (m c : Nat) (hm : F.b.length = m) (hz : IntsAt .u8 W ao F.b) (hB : InB F.b) (hc : m ≤ c) (hcm : c ≤ maxLen) (ii : Int) (hii : (Lit.int .i64 ii).wf = true) (kk : Int) (hkk : (Lit.int .i64 kk).wf = true) :
    Calls Try.prog 7 #[.agg #[.int .i64 F.k, .int .i64 F.g, .int .i64 F.s, .slice ao m c], .int .i64 ii, .int .i64 kk] W fun e w' => e = .returned (.bool true) ∧ Below W.heap.size W w' :=
  fcuts_core W F ao m c ii kk hm hz hB hc hcm (by simp [Lit.wf, IntKind.wrap_i64] at hii; omega) (by simp [Lit.wf, IntKind.wrap_i64] at hkk; omega)

end Go.Proofs.Yteabnagdfecleaa
