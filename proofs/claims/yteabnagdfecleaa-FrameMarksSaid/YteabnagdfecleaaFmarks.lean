/- FrameMarks is true for every input, and its arguments read behind the call as before; no condition: the walk. -/
import Derived.Test.YteabnagdfecleaaFreads
import Derived.Test.YteabnagdfecleaaRowb
namespace Go.Proofs.Yteabnagdfecleaa
open Go.RowKit
set_option linter.unusedVariables false
set_option linter.unusedSimpArgs false

theorem putR_ok {F : FR} (h : (putR F).2 = 0) : F.ok ∧ F.b.length ≤ 60000 ∧ putR F = (putF F, 0) := by
  unfold putR at h ⊢
  by_cases h1 : 60000 < F.b.length
  · rw [if_pos h1] at h; cases h
  · rw [if_neg h1] at h ⊢
    by_cases h2 : F.ok
    · rw [if_pos h2]; exact ⟨h2, by omega, rfl⟩
    · rw [if_neg h2] at h; cases h
theorem putR_no {F : FR} (h : (putR F).2 ≠ 0) : (putR F).1 = [] := by
  unfold putR at h ⊢
  by_cases h1 : 60000 < F.b.length
  · rw [if_pos h1]
  · rw [if_neg h1] at h ⊢
    by_cases h2 : F.ok
    · rw [if_pos h2] at h; exact absurd rfl h
    · rw [if_neg h2]
theorem put_mark (F : FR) (hl : F.b.length ≤ 60000) : (putF F).getD 0 0 = 1 := by
  have h := put_mark0 (F := F) (rest := []) hl
  rwa [List.append_nil] at h
theorem getF_at (F : FR) (hl : F.b.length ≤ 60000) (hF : F.ok) (j : Nat) (hj : j < (F.b.length + 86) / 63) : (getF ((putF F).drop (64 * j))).2.2 = (if j = 0 then 0 else 2) ∧ (putF F).getD (64 * j) 0 = markI j := by
  have h1 := put_marks F [] j hj
  rw [List.append_nil] at h1
  refine ⟨?_, h1⟩
  by_cases e : j = 0
  · subst e
    have h2 := getF_put hl hF []
    rw [List.append_nil] at h2
    rw [Nat.mul_zero, List.drop_zero, h2, if_pos rfl]
  · have h2 := getF_other F [] j (by omega) hj
    rw [List.append_nil] at h2
    rw [h2, if_neg e]

set_option maxRecDepth 100000 in
set_option maxHeartbeats 4000000 in
theorem fmarks_core (W : World) (F : FR) (ao : Option Addr) (m c : Nat) (hm : F.b.length = m) (hz : IntsAt .u8 W ao F.b) (hB : InB F.b) (hc : m ≤ c) (hcm : c ≤ maxLen) :
    Calls Try.prog 6 #[.agg #[.int .i64 F.k, .int .i64 F.g, .int .i64 F.s, .slice ao m c]] W fun e w' => e = .returned (.bool true) ∧ Below W.heap.size W w' := by
  have HM := Lib.hid hm
  have HZ := Lib.hid hz
  have HB := Lib.hid hB
  have HC := Lib.hid (And.intro hc hcm)
  obtain ⟨w0, hw0⟩ : ∃ w0, w0 = W.alloc (.cells #[.int .i64 F.k, .int .i64 F.g, .int .i64 F.s, .slice ao m c] 24) := ⟨_, rfl⟩
  have HX0 : Hid (BoxF w0 W.heap.size F ao m c) := Lib.hid (by rw [hw0]; exact heap_alloc_new _ _)
  have HB0 : Hid (Below W.heap.size W w0) := Lib.hid (by rw [hw0]; exact (Below.refl _ _).alloc (Nat.le_refl _) _)
  have HW0 := Lib.hid hw0
  clear hm hz hB hc hcm hw0
  go_enter Try.func6, Try.ntmps6
  go_wp2_with fail
  rw [← HW0.out]
  refine (first7_any w0).mono ?_
  rintro e w1 ⟨rfl, hb1⟩
  have HX1 := Lib.hid (HX0.out.below hb1)
  have HB1 : Hid (Below W.heap.size W w1) := Lib.hid (below_step HB0.out hb1)
  have HBX : Hid (W.heap.size < w1.heap.size) := Lib.hid (blk_lt HX1.out)
  clear hb1
  go_wp2_with fail
  refine (newTable_any w1).mono ?_
  rintro e w2 ⟨rfl, ht2, hb2⟩
  have HS2 : Hid (St W w1.heap.size w2) := Lib.hid ⟨ht2, below_step HB1.out hb2, HB1.out.size⟩
  have HX2 := Lib.hid (HX1.out.below hb2)
  clear ht2 hb2
  generalize w1.heap.size = tb at *
  obtain ⟨c0, c1, c2, c3⟩ := HX2.out.cells
  by_cases hbig : (2000 : Int) < (m : Int)
  · go_wp2_with fail
    refine (first7_any w2).mono ?_
    rintro e w3 ⟨rfl, hb3⟩
    have HB3 : Hid (Below W.heap.size W w3) := Lib.hid (HS2.out.below hb3).bel
    clear hb3
    go_wp2
    go_ret
    exact ⟨rfl, HB3.out⟩
  have HML : Hid (m ≤ 2000) := Lib.hid (by omega)
  have HPT := Lib.hid (put_st HS2.out F ao m c (Lie.arg HM.out HZ.out HB.out HC.out.1 HC.out.2 HS2.out))
  have HPI := Lib.hid (putR_inB HB.out)
  by_cases her : (putR F).2 = 0
  case neg =>
    have HN := Lib.hid (putR_no her)
    have hb : ((putR F).2 != 0) = true := by simp [her]
    rw [HN.out] at HPT
    generalize (putR F).2 = er at *
    clear her
    go_wp2_with fail
    refine HPT.out.mono ?_
    rintro e w3 ⟨a3, k3, rfl, hs3, hk3, ho3⟩
    have HS3 := Lib.hid hs3
    clear hs3 hk3 ho3
    go_wp2_with fail
    refine (first7_any w3).mono ?_
    rintro e w4 ⟨rfl, hb4⟩
    have HB4 : Hid (Below W.heap.size W w4) := Lib.hid (HS3.out.below hb4).bel
    clear hb4
    go_wp2
    go_ret
    exact ⟨rfl, HB4.out⟩
  case pos =>
  have HOK := Lib.hid (putR_ok her)
  clear her
  rw [HOK.out.2.2] at HPT HPI
  have HPM := Lib.hid (put_mark F HOK.out.2.1)
  have HPL : Hid ((putF F).length = 64 * ((m + 86) / 63)) := Lib.hid (by rw [putF_len, HM.out])
  obtain ⟨L, hL⟩ : ∃ L, L = putF F := ⟨_, rfl⟩
  rw [← hL] at HPT HPI HPM HPL
  dsimp only at HPT HPI
  have HLL : Hid (64 ≤ L.length ∧ L.length ≤ 2176 ∧ L.length % 64 = 0) := Lib.hid (by have := HPL.out; have := HML.out; omega)
  clear hL HPL
  go_wp2_with fail
  refine HPT.out.mono ?_
  rintro e w3 ⟨a3, k3, rfl, hs3, hk3, ho3⟩
  have HS3 := Lib.hid hs3
  have HO3 := Lib.hid ho3
  have HX3 := Lib.hid (HX2.out.step hk3 (by have := HBX.out; omega))
  clear hs3 hk3 ho3 HPT c0 c1 c2 c3 HX2 HX1 HX0 HW0
  obtain ⟨Q, hQ⟩ : ∃ Q, Q = L.length := ⟨_, rfl⟩
  have HQ := Lib.hid hQ
  rw [← hQ] at HO3 HLL ⊢
  clear hQ
  have hmk : ∀ w : World, (Instr.makeSlice 22 (.int .i64 39) (.int .i64 39)).run Try.prog w = .ok (.slice (some ⟨w.heap.size, 0, none⟩) 39 39) (w.alloc (.cells (madeCells #[.int .u8 0] 39) 5)) := fun w => run_make_row' (P := Try.prog) 22 5 (.int .u8 0) 1 Try.underlying22 Try_infoU8 rfl .i64 .i64 39 (by omega) (by omega) w
  obtain ⟨w4, hw4⟩ : ∃ w4, w4 = w3.alloc (.cells (madeCells #[.int .u8 0] 39) 5) := ⟨_, rfl⟩
  obtain ⟨Z, hZ⟩ : ∃ Z, Z = List.replicate 39 (0 : Int) := ⟨_, rfl⟩
  have HR4 : Hid (RowL w4 w3.heap.size Z) := Lib.hid (by rw [hw4, hZ]; exact RowL.made w3 39)
  have HZL : Hid (Z.length = 39 ∧ InB Z) := Lib.hid (by rw [hZ]; exact ⟨by simp, inB_zeros 39⟩)
  clear hZ
  have hb4 : Below w3.heap.size w3 w4 := by rw [hw4]; exact (Below.refl _ _).alloc (Nat.le_refl _) _
  have HS4 := Lib.hid (HS3.out.below hb4)
  have HO4 := Lib.hid (HO3.out.below hb4)
  have HTW : Hid (tb < w3.heap.size) := Lib.hid HS3.out.lt
  have HOL : Hid (∀ a, a3 = some a → a.block < w3.heap.size) := Lib.hid (fun a ha => (HO3.out.row.lt a.block (by rw [ha]; rfl)).2)
  have HW4 := Lib.hid hw4
  clear hw4 hb4
  have HOW := Lib.hid (HR4.out.own 39 HZL.out.1 (by unfold maxLen; omega))
  obtain ⟨i0, hi, hz0, hz1, hz2⟩ := info_parts Try_infoU8
  go_wp2_with (at_builtin; rw [← HW4.out]; refine wpList_append_any rfl _ _ 22 rfl 5 i0 (.int .u8 0) 1 1 Try.underlying22 hi hz0 hz1 hz2 rfl (by decide) (.slice (some ⟨w3.heap.size, 0, none⟩) 39 39) 39 _ rfl HOW.out a3 Q k3 (L.map (Value.int .u8)) rfl ?c1 ?c2 ?c3 (ints_one _ _) ?c5 ?c6 ?_)
  case c1 => rw [List.length_map, HQ.out, Nat.mul_one]
  case c2 => intro e; have h := HO4.out.lie.ints; rw [e] at h; have := ints_none h; have := HQ.out; omega
  case c3 => exact src_ints HO4.out.lie.ints
  case c5 => have := HLL.out; unfold maxLen; omega
  case c6 => have := HLL.out; omega
  intro ao5 cap5 w5 hown hgrow hat hnn
  rw [← List.map_append] at hown
  obtain ⟨B, hBB⟩ : ∃ B, B = Z ++ L := ⟨_, rfl⟩
  rw [← hBB] at hown
  have HBI : Hid (InB B) := Lib.hid (by rw [hBB]; exact inB_app HZL.out.2 HPI.out)
  have HBL : Hid (B.length = 39 + Q) := Lib.hid (by rw [hBB, List.length_append, HZL.out.1, HQ.out])
  clear hBB
  have HK5 : Hid (Keeps (fun i => i = w3.heap.size) w4 w5) := Lib.hid ((Keeps.refl _ w4).grown hgrow (fun i hi => Or.inl (by cases hi; rfl)))
  have HB5 : Hid (Below w3.heap.size w3 w5) := Lib.hid (below_fp (by rw [HW4.out]; exact (Below.refl _ _).alloc (Nat.le_refl _) _) HK5.out (fun i hi => by omega))
  have HS5 := Lib.hid (HS3.out.below HB5.out)
  have HO5 := Lib.hid (HO3.out.below HB5.out)
  have HG5 : Hid (Own tb w5 ao5 B (39 + Q) cap5) := Lib.hid ⟨hown, HBL.out, HBI.out, fun a ha e => by
    rcases hat a.block (by rw [ha]; rfl) with h | h
    · have h2 : w3.heap.size = a.block := by simpa [Value.ownBlock] using h
      have := HTW.out; omega
    · have := HB5.out.size; have h2 : w4.heap.size = w3.heap.size + 1 := by rw [HW4.out]; simp
      have := HTW.out; omega⟩
  clear hown hgrow hat hnn HK5 HR4 HOW HS4 HO4
  obtain ⟨w6, hw6⟩ : ∃ w6, w6 = w5.alloc (.cells #[.int .i64 2, .int .i64 1, .int .i64 1, .slice ao5 (39 + Q) cap5] 24) := ⟨_, rfl⟩
  have hb6 : Below w5.heap.size w5 w6 := by rw [hw6]; exact (Below.refl _ _).alloc (Nat.le_refl _) _
  have HS6 := Lib.hid (HS5.out.below hb6)
  have HO6 := Lib.hid (HO5.out.below hb6)
  have HG6 := Lib.hid (HG5.out.below hb6)
  obtain ⟨y0, y1, y2, y3⟩ := (FBox.new w5 2 1 1 (.slice ao5 (39 + Q) cap5)).cells
  have HW6 := Lib.hid hw6
  have HGP := Lib.hid (put_st HS6.out ⟨2, 1, 1, B⟩ ao5 (39 + Q) cap5 HG6.out.lie)
  obtain ⟨G, hG⟩ : ∃ G : FR, G = ⟨2, 1, 1, B⟩ := ⟨_, rfl⟩
  have HGL : Hid (G.b.length ≤ 60000 ∧ G.ok) := Lib.hid (by rw [hG]; exact ⟨by dsimp only; rw [HBL.out]; have := HLL.out; omega, by unfold FR.ok; simp⟩)
  have HGR : Hid (putR G = (putF G, 0)) := Lib.hid (by unfold putR; rw [if_neg (by have := HGL.out.1; omega), if_pos HGL.out.2])
  rw [← hG, HGR.out] at HGP
  dsimp only at HGP
  rw [show G.k = 2 by rw [hG], show G.g = 1 by rw [hG], show G.s = 1 by rw [hG]] at HGP
  have HGI : Hid (InB (putF G)) := Lib.hid (putF_inB (by rw [hG]; exact HBI.out))
  obtain ⟨K, hK⟩ : ∃ K, K = (G.b.length + 86) / 63 := ⟨_, rfl⟩
  have HKB : Hid (1 ≤ K ∧ K ≤ 953) := Lib.hid (by rw [hK]; have := HGL.out.1; omega)
  have HGN : Hid ((putF G).length = 64 * K) := Lib.hid (by rw [putF_len, hK])
  have HAT : Hid (∀ j, j < K → (getF ((putF G).drop (64 * j))).2.2 = (if j = 0 then 0 else 2) ∧ (putF G).getD (64 * j) 0 = markI j) := Lib.hid (fun j hj => getF_at G HGL.out.1 HGL.out.2 j (by rw [← hK]; exact hj))
  rw [HGN.out] at HGP
  generalize putF G = P at *
  clear hw6 hb6 hG hK
  go_wp2_with fail
  rw [← HW6.out]
  refine HGP.out.mono ?_
  rintro e w7 ⟨a7, k7, rfl, hs7, hk7, ho7⟩
  have HS7 := Lib.hid hs7
  have HO7 := Lib.hid (HO6.out.step hk7)
  have HP7 := Lib.hid ho7
  clear hs7 hk7 ho7 y0 y1 y2 y3 HGP HW6 HW4 HS6 HO6 HG6 HG5 HO5 HS5 hmk
  obtain ⟨M, hM⟩ : ∃ M, M = 64 * K := ⟨_, rfl⟩
  have HMK := Lib.hid hM
  rw [← hM] at HP7 HGN ⊢
  clear hM
  have q0 : (0 : Int) ≤ (M : Int) := by omega
  have q1 : ((M : Int) % 64 != 0) = false := by rw [bne_eq_false_iff_eq]; have := HMK.out; omega
  have q2 : (0 : Int) ≤ (Q : Int) := by omega
  have q3 : ((Q : Int) % 64 != 0) = false := by rw [bne_eq_false_iff_eq]; have := HLL.out; omega
  have q4 : ((Q : Int) == 0) = false := by have := HLL.out; simp; omega
  have q5 : ((M : Int) == 0) = false := by have := HMK.out; have := HKB.out; simp; omega
  go_upto_region 14 with fail
  clear q0 q1 q2 q3 q4 q5
  obtain ⟨pb, po, rfl⟩ : ∃ b off, a7 = some ⟨b, off, none⟩ := by
    rcases HP7.out.lie.ints with h | ⟨b, off, h, _⟩
    · have h1 := HGN.out; have := HMK.out; have := HKB.out; rw [h] at h1; simp at h1; omega
    · exact ⟨b, off, h⟩
  go_loopw [9] (fun i wr => ∃ j : Nat, j ≤ K ∧ i = .int .i64 ((64 * j : Nat) : Int) ∧ St W tb wr ∧ Keeps (fun i => i = tb) w7 wr) (fun i _ => 64 * K - (intOf i).toNat)
  case atStart => exact ⟨0, Nat.zero_le _, rfl, HS7.out, Keeps.refl _ _⟩
  case round =>
    obtain ⟨j, hj, rfl, hs, hk⟩ := hrel
    have HSR := Lib.hid hs
    have HKR := Lib.hid hk
    have HP8 := Lib.hid (HP7.out.step hk)
    clear hs hk
    by_cases hlt : j < K
    · obtain ⟨I, hI⟩ : ∃ I, I = 64 * j := ⟨_, rfl⟩
      have HI := Lib.hid hI
      have HA := Lib.hid (HAT.out j hlt)
      rw [← hI] at HA ⊢
      have c1 : (I : Int) < (M : Int) := by have := HMK.out; omega
      have c0 : (0 : Int) ≤ (I : Int) := by omega
      have c2 : I < M := by omega
      have HIK : Hid (M ≤ k7) := Lib.hid HP8.out.lie.cap
      have c3 : ¬ k7 = I := by have := HIK.out; omega
      have c4 : (M : Int) ≤ (k7 : Int) := by have := HIK.out; omega
      have c5 : (I : Int) ≤ (M : Int) := by omega
      have c6 : I ≤ M := by omega
      have HDL := Lib.hid (Lie.drop HP8.out.lie I c6)
      have HGT := Lib.hid (get_st HSR.out _ (P.drop I) (M - I) (k7 - I) HDL.out (by have := HMK.out; have := HKB.out; omega))
      have hcell : wr.cell? ⟨pb, po + I, none⟩ = some (.int .u8 (markI j)) := by
        rcases HP8.out.lie.ints with h | ⟨b', off', h, hcl⟩
        · have h1 := HGN.out; rw [h] at h1; simp at h1; omega
        · cases h; rw [← HA.out.2]; exact hcl I (by rw [HGN.out]; exact c2)
      have HHC := Lib.hid hcell
      have HJ0 : Hid (((I : Int) == 0) = decide (j = 0)) := Lib.hid (by rw [Bool.eq_iff_iff]; simp; omega)
      have HJL : Hid (j < K) := Lib.hid hlt
      clear hI hlt hcell
      obtain ⟨X, hX⟩ : ∃ X, X = getF (P.drop I) := ⟨_, rfl⟩
      rw [← hX] at HA HGT
      obtain ⟨XF, xk, xe⟩ := X
      clear hX
      dsimp only at HA HGT
      have HXE : Hid (xe = if j = 0 then 0 else 2) := Lib.hid HA.out.1
      go_upto_if 77 with fail
      go_cut [10] (fun s wx => s = .int .u8 (markI j) ∧ wr = wx)
      case first =>
        by_cases hj0 : j = 0
        · have hb : ((I : Int) == 0) = true := by rw [HJ0.out]; exact decide_eq_true hj0
          have HMK0 := Lib.hid (show markI j = 1 by unfold markI; rw [if_pos hj0])
          clear hj0
          go_wp2_with fail
          go_meet
          case rel => exact ⟨by rw [HMK0.out], rfl⟩
        · have hb : ((I : Int) == 0) = false := by rw [HJ0.out]; exact decide_eq_false hj0
          have HMK0 := Lib.hid (show markI j = 2 by unfold markI; rw [if_neg hj0])
          clear hj0
          go_wp2_with fail
          go_meet
          case rel => exact ⟨by rw [HMK0.out], rfl⟩
      case rest =>
        obtain ⟨rfl, rfl⟩ := hcut
        rename World => wr
        generalize markI j = mk at *
        go_wp2_with fail
        refine HGT.out.mono ?_
        rintro e w9 ⟨a9, k9, rfl, hs9, hk9, ho9⟩
        obtain ⟨w10, hw10⟩ : ∃ w10, w10 = w9.alloc (.cells #[.int .i64 XF.k, .int .i64 XF.g, .int .i64 XF.s, .slice a9 XF.b.length k9] 24) := ⟨_, rfl⟩
        have hb10 : Below w9.heap.size w9 w10 := by rw [hw10]; exact (Below.refl _ _).alloc (Nat.le_refl _) _
        have HW10 := Lib.hid hw10
        have HS10 := Lib.hid (hs9.below hb10)
        have HK10 : Hid (Keeps (fun i => i = tb) w7 w10) := Lib.hid ((HKR.out.trans hk9 (fun i hi => Or.inl hi)).step hb10)
        have hcell : w10.cell? ⟨pb, po + I, none⟩ = some (.int .u8 mk) := by
          have h1 := HP8.out.step hk9
          have hp : pb < wr.heap.size := World.block_lt_of_cell? wr _ HHC.out
          have hne : pb ≠ tb := HP8.out.off _ rfl
          rw [hb10.cell (p := ⟨pb, po + I, none⟩) (by have := hk9.size; dsimp only; omega)]
          exact (World.cell?_of_block (a := ⟨pb, po + I, none⟩) (hk9.block pb hp hne)).trans HHC.out
        have e1 : ((xe == 0) == ((I : Int) == 0)) = true := by
          rw [HXE.out, HJ0.out]
          by_cases hj0 : j = 0
          · rw [if_pos hj0, decide_eq_true hj0]; rfl
          · rw [if_neg hj0, decide_eq_false hj0]; rfl
        have w64 : wrap64 ((I : Int) + 64) = (I : Int) + 64 := by have := HI.out; have := HKB.out; have := HJL.out; unfold wrap64; omega
        have HW64 := Lib.hid w64
        have hw11 := hcell
        rw [hw10] at hw11
        clear hs9 hk9 ho9 hw10 hb10 hcell
        go_wp2_with fail
        rw [← HW10.out, HW64.out]
        have hke : ((64 * (j + 1) : Nat) : Int) = (I : Int) + 64 := by have := HI.out; omega
        refine ⟨⟨j + 1, by have := HJL.out; omega, by rw [hke], HS10.out, HK10.out⟩, ?_⟩
        simp only [intOf]
        have := HJL.out
        have := HI.out
        omega
    · obtain rfl : j = K := by omega
      have c1 : ¬ ((64 * j : Nat) : Int) < (M : Int) := by have := HMK.out; omega
      have HO8 := Lib.hid (HO7.out.step HKR.out)
      go_wp2_with fail
      refine (first7_any wr).mono ?_
      rintro e w9 ⟨rfl, hb9⟩
      have HS9 := Lib.hid (HSR.out.below hb9)
      have HO9 := Lib.hid (HO8.out.below hb9)
      obtain ⟨qb, rfl⟩ := row_addr HO9.out.row (by have := HLL.out; omega)
      obtain ⟨d0, d1⟩ := row_cell HO9.out.row 0 (by have := HLL.out; omega)
      rw [HPM.out] at d0
      have d2 : 0 < Q := by have := HLL.out; omega
      have d3 : (0 : Int) < (Q : Int) := by omega
      clear hb9 d1 c1
      go_wp2
      go_ret
      exact ⟨rfl, HS9.out.bel⟩

theorem walk_frameMarks (W : World) (F : FR) (ao : Option Addr) (m c : Nat) (hm : F.b.length = m) (hz : IntsAt .u8 W ao F.b) (hB : InB F.b) (hc : m ≤ c) (hcm : c ≤ maxLen) :
    Calls Try.prog 6 #[.agg #[.int .i64 F.k, .int .i64 F.g, .int .i64 F.s, .slice ao m c]] W fun e w' => e = .returned (.bool true) ∧ Below W.heap.size W w' :=
  fmarks_core W F ao m c hm hz hB hc hcm

end Go.Proofs.Yteabnagdfecleaa
