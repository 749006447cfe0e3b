/- The reference's Sectors and Put of a frame. -/
import Derived.Test.YteabnagdfecleaaFr4
import Derived.Test.YteabnagdfecleaaFrQ
namespace Go.Proofs.Yteabnagdfecleaa
open Go.RowKit
set_option linter.unusedVariables false
set_option linter.unusedSimpArgs false

set_option maxHeartbeats 1000000 in
theorem rsectors_any (n : Int) (w : World) :
    Calls Try.prog 18 #[.int .i64 n] w fun e w' => e = .returned (.int .i64 (secN n)) ∧ w' = w := by
  by_cases h0 : n < 0
  · have HS := Lib.hid (show secN n = 0 by unfold secN; rw [if_pos (by omega)])
    go_enter Try.func18, Try.ntmps18
    go_wp2
    go_ret
    exact ⟨ret_int HS.out.symm, rfl⟩
  by_cases h1 : 60000 < n
  · have HS := Lib.hid (show secN n = 0 by unfold secN; rw [if_pos (by omega)])
    go_enter Try.func18, Try.ntmps18
    go_wp2
    go_ret
    exact ⟨ret_int HS.out.symm, rfl⟩
  have HS := Lib.hid (show secN n = (n + 86) / 63 by unfold secN; rw [if_neg (by omega)])
  have HR := Lib.hid (show 0 ≤ n ∧ n ≤ 60000 by omega)
  have w1 : wrap64 (24 + n) = 24 + n := by have := HR.out; unfold wrap64; omega
  have w2 : wrap64 (24 + n + 62) = 24 + n + 62 := by have := HR.out; unfold wrap64; omega
  go_enter Try.func18, Try.ntmps18
  go_wp2
  go_ret
  exact ⟨ret_int (by rw [HS.out, show 24 + n + 62 = n + 86 by omega]), rfl⟩

set_option maxRecDepth 100000 in
set_option maxHeartbeats 4000000 in
theorem rput_any (F : FR) (ao : Option Addr) (m c : Nat) (w : World) (hm : F.b.length = m) (hz : IntsAt .u8 w ao F.b) (hB : InB F.b) :
    Calls Try.prog 15 #[.agg #[.int .i64 F.k, .int .i64 F.g, .int .i64 F.s, .slice ao m c]] w fun e w' => RowPost2 w (putR F).1 (putR F).2 e w' := by
  have HM := Lib.hid hm
  have HB := Lib.hid hB
  obtain ⟨w1, hw1⟩ : ∃ w1, w1 = w.alloc (.cells #[.int .i64 F.k, .int .i64 F.g, .int .i64 F.s, .slice ao m c] 24) := ⟨_, rfl⟩
  have HX1 : Hid (BoxF w1 w.heap.size F ao m c) := Lib.hid (by rw [hw1]; exact heap_alloc_new _ _)
  have HB1 : Hid (Below w.heap.size w w1) := Lib.hid (by rw [hw1]; exact (Below.refl _ _).alloc (Nat.le_refl _) _)
  have HW1 := Lib.hid hw1
  have HTX := Lib.hid (rtext_any F ao m c w1 hm (ints_below hz HB1.out) hB)
  clear hm hz hB hw1
  go_enter Try.func15, Try.ntmps15
  go_wp2_with fail
  rw [← HW1.out]
  refine HTX.out.mono ?_
  rintro e w2 ⟨a2, k2, rfl, ho2, hb2, hf2⟩
  have HO2 := Lib.hid ho2
  have HB2 : Hid (Below w.heap.size w w2) := Lib.hid (below_step HB1.out hb2)
  clear ho2 hb2 hf2 HTX
  have HNIL : Hid (RowAt w (.slice none 0 0) [] w2) := Lib.hid ⟨World.ownsRow_nil _ _ _ _, HB2.out, fun g (h : (Value.slice none 0 0).ownBlock = some g) => by cases h⟩
  by_cases hl : 60000 < F.b.length
  · have HR := Lib.hid (show putR F = ([], 3) by unfold putR; rw [if_pos hl])
    have HT := Lib.hid (show textR F = ([], 3) by unfold textR; rw [if_pos hl])
    rw [HT.out]
    clear hl
    go_wp2_with fail
    go_ret2
    rw [HR.out]
    exact ⟨none, 0, rfl, HNIL.out⟩
  by_cases hok : F.ok
  case neg =>
    have HR := Lib.hid (show putR F = ([], 1) by unfold putR; rw [if_neg hl, if_neg hok])
    have HT := Lib.hid (show textR F = ([], 1) by unfold textR; rw [if_neg hl, if_neg hok])
    rw [HT.out]
    clear hl hok
    go_wp2_with fail
    go_ret2
    rw [HR.out]
    exact ⟨none, 0, rfl, HNIL.out⟩
  case pos =>
  have HR := Lib.hid (show putR F = (putF F, 0) by unfold putR; rw [if_neg hl, if_pos hok])
  have HT := Lib.hid (show textR F = (textF F, 0) by unfold textR; rw [if_neg hl, if_pos hok])
  rw [HT.out] at HO2 ⊢
  dsimp only at HO2 ⊢
  have HML : Hid (m ≤ 60000) := Lib.hid (by have := HM.out; omega)
  have HTN : Hid ((textF F).length = 24 + m) := Lib.hid (by rw [textF_len, HM.out])
  have HTB := Lib.hid (textF_inB HB.out)
  obtain ⟨K, hK⟩ : ∃ K, K + 1 = (m + 86) / 63 := ⟨(m + 86) / 63 - 1, by omega⟩
  have HPF : Hid (putF F = layF (textF F) (K + 1)) := Lib.hid (by unfold putF; rw [HM.out, hK])
  have HKB : Hid (K ≤ 953 ∧ 24 + m ≤ 63 * (K + 1) ∧ 63 * K < 24 + m) := Lib.hid (by have := HML.out; omega)
  obtain ⟨T, hT⟩ : ∃ T, T = textF F := ⟨_, rfl⟩
  rw [← hT] at HTN HTB HPF HO2 ⊢
  rw [HTN.out] at HO2 ⊢
  have HI2 := Lib.hid (owns_at HO2.out)
  obtain ⟨tg, toff, rfl⟩ : ∃ b off, a2 = some ⟨b, off, none⟩ := by
    rcases HI2.out.2.1 with h | ⟨b, off, h, _⟩
    · have := HTN.out; rw [h] at this; simp at this; omega
    · exact ⟨b, off, h⟩
  clear hl hok hT hK HNIL HT
  obtain ⟨N, hN⟩ : ∃ N, N = 24 + m := ⟨_, rfl⟩
  rw [← hN] at HTN HKB HI2 HO2 ⊢
  have HNM : Hid (24 ≤ N ∧ N ≤ 60024) := Lib.hid (by have := HML.out; omega)
  clear hN
  go_wp2_with fail
  go_loopw [6, 7, 8] (fun s t u wr => ∃ (j : Nat) (oa : Option Addr) (n oc : Nat), j ≤ K + 1 ∧ t = .int .i64 ((63 * j : Nat) : Int) ∧ s = .slice oa n oc ∧ n = (layR T j).length ∧ wr.ownsRow 0 5 1 (.slice oa n oc) n ((layR T j).map (Value.int .u8)) ∧ (∀ g, (Value.slice oa n oc).ownBlock = some g → w2.heap.size ≤ g) ∧ Below w2.heap.size w2 wr) (fun _ t _ _ => 63 * (K + 1) - (intOf t).toNat)
  case atStart => exact ⟨0, none, 0, 0, Nat.zero_le _, rfl, rfl, rfl, World.ownsRow_nil _ _ _ _, (fun g (hg : (Value.slice none 0 0).ownBlock = some g) => by cases hg), Below.refl _ _⟩
  case round =>
    obtain ⟨j, oa, n, oc, hj, rfl, rfl, hn, ho, hf, hb⟩ := hrel
    have HLN := Lib.hid hn
    have HO := Lib.hid ho
    have HF := Lib.hid hf
    have HBR := Lib.hid hb
    clear hn ho hf hb
    by_cases hlt : j < K + 1
    · obtain ⟨I, hI⟩ : ∃ I, I = 63 * j := ⟨_, rfl⟩
      have HI := Lib.hid hI
      rw [← hI]
      clear hI
      have b0 : (I : Int) < (N : Int) := by have := HI.out; have := HKB.out; omega
      have HJ : Hid ((I : Int) == 0 ↔ j = 0) := Lib.hid (by have := HI.out; simp; omega)
      go_upto_if 24 with fail
      go_cut [8] (fun s wx => s = .int .u8 (markI j) ∧ wr = wx)
      case first =>
        by_cases hj0 : j = 0
        · have hb1 : ((I : Int) == 0) = true := HJ.out.2 hj0
          have HMK : Hid (markI j = 1) := Lib.hid (by unfold markI; rw [if_pos hj0])
          clear hj0
          go_wp2_with fail
          go_meet
          case rel => exact ⟨by rw [HMK.out], rfl⟩
        · have hb1 : ((I : Int) == 0) = false := by
            cases hq : ((I : Int) == 0)
            · rfl
            · exact absurd (HJ.out.1 hq) hj0
          have HMK : Hid (markI j = 2) := Lib.hid (by unfold markI; rw [if_neg hj0])
          clear hj0
          go_wp2_with fail
          go_meet
          case rel => exact ⟨by rw [HMK.out], rfl⟩
      case rest =>
        obtain ⟨rfl, rfl⟩ := hcut
        have HSTEP : Hid (layR T (j + 1) = layR T j ++ (markI j :: (T.drop (63 * j)).take 63)) := Lib.hid rfl
        rw [← HI.out] at HSTEP
        have HMI : Hid (0 ≤ markI j ∧ markI j ≤ 2) := Lib.hid (by unfold markI; split <;> omega)
        generalize markI j = mk at *
        obtain ⟨E, hE⟩ : ∃ E, E = min (I + 63) N := ⟨_, rfl⟩
        have HE := Lib.hid hE
        have w1' : wrap64 ((I : Int) + 63) = (I : Int) + 63 := by have := HI.out; have := HKB.out; unfold wrap64; omega
        have w2' : min ((I : Int) + 63) (N : Int) = (E : Int) := by rw [hE]; omega
        have d0 : (0 : Int) ≤ (I : Int) := by omega
        have d1 : (I : Int) ≤ (E : Int) := by rw [hE]; omega
        have d2 : I ≤ E := by rw [hE]; omega
        have d3 : (E : Int) ≤ (k2 : Int) := by have := HI2.out.2.2.1; rw [hE]; omega
        have d4 : E ≤ k2 := by have := HI2.out.2.2.1; rw [hE]; omega
        clear hE
        have HLT : Hid (n ≤ 61100) := Lib.hid (by rw [HLN.out, layR_len]; have := HKB.out; have := HNM.out; omega)
        obtain ⟨i0, hi, hz0, hz1, hz2⟩ := info_parts Try_infoU8
        rename World => wr
        have HB4 := Lib.hid HBR.out
        have HOA : Hid ((wr.drew.alloc (.cells #[.int .u8 mk] 5)).ownsRow 0 5 1 (.slice oa n oc) n ((layR T j).map (Value.int .u8))) := Lib.hid (World.ownsRow.alloc (w := wr.drew) HO.out _)
        have d5 : ¬ k2 = I := by have h1 := b0; omega
        obtain ⟨SV, hSV⟩ : ∃ SV, SV = (T.drop (63 * j)).take 63 := ⟨_, rfl⟩
        have w5' : IntKind.i64.wrap ((I : Int) + 63) = (I : Int) + 63 := by have := HI.out; have := HKB.out; rw [IntKind.wrap_i64]; omega
        have w4' : (if (N : Int) < (I : Int) + 63 then (N : Int) else (I : Int) + 63) = (E : Int) := by rw [HE.out]; split <;> omega
        have HLE : Hid (E - I ≤ 63) := Lib.hid (by have := HE.out; omega)
        have HSVL : Hid (SV.length = E - I) := Lib.hid (by rw [hSV, List.length_take, List.length_drop, HTN.out, HE.out, ← HI.out]; omega)
        have HSVI : Hid (∀ wx, IntsAt .u8 wx (some ⟨tg, toff, none⟩) T → IntsAt .u8 wx (some ⟨tg, toff + I, none⟩) SV) := Lib.hid (fun wx h => by rw [hSV, ← HI.out]; exact (h.drop I).take 63)
        have HST : Hid (layR T (j + 1) = layR T j ++ (mk :: SV)) := Lib.hid (by rw [HSTEP.out, hSV, HI.out])
        clear hSV
        go_upto_region 11 with fail
        refine wp_region_held_drew (S := fun w' => True) (by kernel_rfl) ?_ (fun hHeld => ?_)
        · exact trivial
        refine take_at (i := 0) (d := 25) (v := ?_) rfl rfl (by kernel_rfl) (by kernel_rfl) (by kernel_rfl) (fun _ _ _ h => h) (Or.inl ⟨by rfl, by intro w' hSw; (try dsimp only at hSw); go_simp; try with_reducible rfl⟩) (by assumption) ?_
        simp only [List.setIfInBounds_toArray, List.set_cons_zero, List.set_cons_succ]
        refine take_at (i := 1) (d := 26) (v := ?_) rfl rfl (by kernel_rfl) (by kernel_rfl) (by kernel_rfl) (fun _ _ _ h => h) (Or.inl ⟨by rfl, by intro w' hSw; (try dsimp only at hSw); go_simp; try with_reducible rfl⟩) (by assumption) ?_
        simp only [List.setIfInBounds_toArray, List.set_cons_zero, List.set_cons_succ]
        refine take_at (i := 4) (d := 29) (v := ?_) rfl rfl (by kernel_rfl) (by kernel_rfl) (by kernel_rfl) (fun _ _ _ h => h) (Or.inl ⟨by rfl, by intro w' hSw; (try dsimp only at hSw); go_simp; try with_reducible rfl⟩) (by assumption) ?_
        simp only [List.setIfInBounds_toArray, List.set_cons_zero, List.set_cons_succ]
        refine take_at (i := 5) (d := 30) (v := ?_) rfl rfl (by kernel_rfl) (by kernel_rfl) (by kernel_rfl) (fun _ _ _ h => h) (Or.inl ⟨by rfl, by intro w' hSw; (try dsimp only at hSw); go_simp; try with_reducible rfl⟩) (by assumption) ?_
        simp only [List.setIfInBounds_toArray, List.set_cons_zero, List.set_cons_succ]
        refine take_at (i := 6) (d := 31) (v := ?_) rfl rfl (by kernel_rfl) (by kernel_rfl) (by kernel_rfl) (fun _ _ _ h => h) (Or.inl ⟨by rfl, by intro w' hSw; (try dsimp only at hSw); go_simp; try with_reducible rfl⟩) (by assumption) ?_
        simp only [List.setIfInBounds_toArray, List.set_cons_zero, List.set_cons_succ]
        refine take_at (i := 7) (d := 32) (v := ?_) rfl rfl (by kernel_rfl) (by kernel_rfl) (by kernel_rfl) (fun _ _ _ h => h) (Or.inl ⟨by rfl, by intro w' hSw; (try dsimp only at hSw); go_simp; try with_reducible rfl⟩) (by assumption) ?_
        simp only [List.setIfInBounds_toArray, List.set_cons_zero, List.set_cons_succ]
        refine take_at (i := 8) (d := 33) (v := ?_) rfl rfl (by kernel_rfl) (by kernel_rfl) (by kernel_rfl) (fun _ _ _ h => h) (Or.inl ⟨by rfl, by intro w' hSw; (try dsimp only at hSw); go_simp; try with_reducible rfl⟩) (by assumption) ?_
        simp only [List.setIfInBounds_toArray, List.set_cons_zero, List.set_cons_succ]
        refine take_at (i := 9) (d := 34) (v := ?_) rfl rfl (by kernel_rfl) (by kernel_rfl) (by kernel_rfl) (fun _ _ _ h => h) (Or.inl ⟨by rfl, by intro w' hSw; (try dsimp only at hSw); go_simp; try with_reducible rfl⟩) (by assumption) ?_
        simp only [List.setIfInBounds_toArray, List.set_cons_zero, List.set_cons_succ]
        refine take_at (i := 10) (d := 35) (v := ?_) rfl rfl (by kernel_rfl) (by kernel_rfl) (by kernel_rfl) (fun _ _ _ h => h) (Or.inl ⟨by rfl, by intro w' hSw; (try dsimp only at hSw); go_simp; try with_reducible rfl⟩) (by assumption) ?_
        simp only [List.setIfInBounds_toArray, List.set_cons_zero, List.set_cons_succ]
        refine take_at (i := 11) (d := 36) (v := ?_) rfl rfl (by kernel_rfl) (by kernel_rfl) (by kernel_rfl) (fun _ _ _ h => h) (Or.inl ⟨by rfl, by intro w' hSw; (try dsimp only at hSw); go_simp; try with_reducible rfl⟩) (by assumption) ?_
        simp only [List.setIfInBounds_toArray, List.set_cons_zero, List.set_cons_succ]
        refine wpAnyH_ready (rs := [2]) (by kernel_rfl) (by simp) ?_
        refine AllReadyH.cons rfl (fun K hK => ?_) AllReadyH.nil
        go_simp
        go_wp2_with fail
        refine hK.out _ _ ?_ (fun hHeld => ?_)
        · exact trivial
        clear hK K
        try simp only [Act.put, List.getElem_toArray, List.getElem_cons_succ, List.getElem_cons_zero]
        try simp only [List.setIfInBounds_toArray, List.set_cons_zero, List.set_cons_succ]
        refine wpAnyH_ready (rs := [3]) (by kernel_rfl) (by simp) ?_
        refine AllReadyH.cons rfl (fun K hK => ?_) AllReadyH.nil
        refine step_append_any (by rfl) _ _ 22 (by rfl) 5 i0 (.int .u8 0) 1 1 Try.underlying22 hi hz0 hz1 hz2 rfl (by decide) (.slice oa n oc) n ((layR T j).map (Value.int .u8)) (by rfl) HOA.out (some ⟨wr.heap.size, 0, none⟩) 1 1 [.int .u8 mk] (by rfl) (by rfl) (fun e => by cases e) (fun ad had => by cases had; exact World.news_of_block (heap_alloc_new _ _)) (by simp [Value.oneCell']) (by have := HLT.out; unfold maxLen; omega) (by have := HLT.out; omega) ?_
        intro ao11 cap11 w11 hown hgrow hat hnn
        have HO11 : Hid (w11.ownsRow 0 5 1 (.slice ao11 (n + 1) cap11) (n + 1) ((layR T j ++ [mk]).map (Value.int .u8))) := Lib.hid (by rw [List.map_append]; exact hown)
        have HK11 : Hid (Keeps (fun i => (Value.slice oa n oc).ownBlock = some i) wr w11) := Lib.hid (((Keeps.refl _ wr).drew.alloc _).grown hgrow (fun i hi => Or.inl hi))
        have HF11 : Hid (∀ g, (Value.slice ao11 (n + 1) cap11).ownBlock = some g → w2.heap.size ≤ g) := Lib.hid (fun g hg => by
          rcases hat g hg with h | h
          · exact HF.out g h
          · have := HBR.out.size; have h2 : g = wr.heap.size + 1 := by simpa using h
            omega)
        have HB11 : Hid (Below w2.heap.size w2 w11) := Lib.hid (below_fp HBR.out HK11.out (fun i hi => HF.out i hi))
        have HS11 := Lib.hid (HSVI.out w11 (ints_below HI2.out.2.1 HB11.out))
        clear hown hgrow hat hnn
        go_wp2_with fail
        refine hK.out _ _ ?_ (fun hHeld => ?_)
        · exact trivial
        clear hK K
        try simp only [Act.put, List.getElem_toArray, List.getElem_cons_succ, List.getElem_cons_zero]
        try simp only [List.setIfInBounds_toArray, List.set_cons_zero, List.set_cons_succ]
        refine wpAnyH_ready (rs := [12]) (by kernel_rfl) (by simp) ?_
        refine AllReadyH.cons rfl (fun K hK => ?_) AllReadyH.nil
        refine step_append_any (by rfl) _ _ 22 (by rfl) 5 i0 (.int .u8 0) 1 1 Try.underlying22 hi hz0 hz1 hz2 rfl (by decide) (.slice ao11 (n + 1) cap11) (n + 1) ((layR T j ++ [mk]).map (Value.int .u8)) (by rfl) HO11.out (some ⟨tg, toff + I, none⟩) (E - I) (k2 - I) (SV.map (Value.int .u8)) (by rfl) (by rw [List.length_map, HSVL.out, Nat.mul_one]) (fun e => by cases e) (src_ints HS11.out) (ints_one _ _) (by have := HLT.out; have := HLE.out; unfold maxLen; omega) (by have := HLT.out; have := HLE.out; omega) ?_
        intro ao12 cap12 w12 hown hgrow hat hnn
        have HO12 : Hid (w12.ownsRow 0 5 1 (.slice ao12 (n + 1 + (E - I)) cap12) (n + 1 + (E - I)) ((layR T (j + 1)).map (Value.int .u8))) := Lib.hid (by rw [HST.out]; rw [← List.map_append] at hown; simpa using hown)
        have HF12 : Hid (∀ g, (Value.slice ao12 (n + 1 + (E - I)) cap12).ownBlock = some g → w2.heap.size ≤ g) := Lib.hid (fun g hg => by
          rcases hat g hg with h | h
          · exact HF11.out g h
          · have := HB11.out.size; omega)
        have HB12 : Hid (Below w2.heap.size w2 w12) := Lib.hid (below_fp HB11.out ((Keeps.refl _ w11).grown hgrow (fun i hi => Or.inl hi)) (fun i hi => HF11.out i hi))
        clear hown hgrow hat hnn
        go_wp2_with fail
        refine hK.out _ _ ?_ (fun hHeld => ?_)
        · exact trivial
        clear hK K
        try simp only [Act.put, List.getElem_toArray, List.getElem_cons_succ, List.getElem_cons_zero]
        try simp only [List.setIfInBounds_toArray, List.set_cons_zero, List.set_cons_succ]
        refine take_at (i := 13) (d := 6) (v := ?_) rfl rfl (by kernel_rfl) (by kernel_rfl) (by kernel_rfl) (fun _ _ _ h => h) (Or.inl ⟨by rfl, by intro w' hSw; (try dsimp only at hSw); go_simp; try with_reducible rfl⟩) (by assumption) ?_
        simp only [List.setIfInBounds_toArray, List.set_cons_zero, List.set_cons_succ]
        refine wpAnyH_done (by kernel_rfl) ?_ _
        have HN12 : Hid (n + 1 + (E - I) = (layR T (j + 1)).length) := Lib.hid (by rw [HST.out, List.length_append, List.length_cons, ← HLN.out, HSVL.out]; omega)
        have hke : ((63 * (j + 1) : Nat) : Int) = (I : Int) + 63 := by have := HI.out; omega
        have HJL : Hid (j < K + 1) := Lib.hid hlt
        have HIB := Lib.hid HI.out
        clear hHeld w4' w5' w2'
        go_wp2_with fail
        rw [w1']
        refine ⟨⟨j + 1, ao12, n + 1 + (E - I), cap12, by omega, by rw [hke], rfl, HN12.out, HO12.out, HF12.out, HB12.out⟩, ?_⟩
        simp only [intOf]
        have := HI.out
        omega
    · obtain rfl : j = K + 1 := by omega
      obtain ⟨J, hJ⟩ : ∃ J, J = 63 * (K + 1) := ⟨_, rfl⟩
      have HJ := Lib.hid hJ
      have b0 : ¬ (((63 * (K + 1) : Nat) : Int) < (N : Int)) := by have := HKB.out; omega
      have HLAST := Lib.hid (layR_last T K (by have := HKB.out; have := HTN.out; omega) (by have := HKB.out; have := HTN.out; omega))
      rw [HTN.out, ← hJ] at HLAST
      rw [← hJ] at b0 ⊢
      have HNL : Hid (n = K + 1 + N) := Lib.hid (by rw [HLN.out, layR_len]; have := HKB.out; have := HTN.out; omega)
      have HJB : Hid (N ≤ J ∧ J < N + 63 ∧ J = 63 * (K + 1)) := Lib.hid (by have := HKB.out; omega)
      generalize layR T (K + 1) = R at *
      clear hJ HKB
      obtain ⟨i0, hi, hz0, hz1, hz2⟩ := info_parts Try_infoU8
      rename World => wr
      go_wp2_with fail
      go_loopw [6] (fun s wq => ∃ (z : Nat) (a1 : Option Addr) (q c1 : Nat), z ≤ J - N ∧ q = n + z ∧ s = .slice a1 q c1 ∧ wq.ownsRow 0 5 1 (.slice a1 q c1) q ((R ++ List.replicate z 0).map (Value.int .u8)) ∧ (∀ g, (Value.slice a1 q c1).ownBlock = some g → w2.heap.size ≤ g) ∧ Below w2.heap.size w2 wq) (fun s _ => n + (J - N) - sliceLen s)
      case atStart => exact ⟨0, oa, n, oc, Nat.zero_le _, rfl, rfl, by rw [List.replicate_zero, List.append_nil]; exact HO.out, HF.out, HBR.out⟩
      case round =>
        obtain ⟨z, a1, q, c1, hzz, hq, rfl, ho, hf, hb⟩ := hrel
        have HQ := Lib.hid hq
        have HOQ := Lib.hid ho
        have HFQ := Lib.hid hf
        have HBQ := Lib.hid hb
        clear hq ho hf hb
        rename World => wq
        have q0 : (0 : Int) ≤ (q : Int) := by omega
        by_cases hlt2 : z < J - N
        · have hne : ((q : Int) % 64 != 0) = true := by
            have h1 := HQ.out
            have h2 := HJB.out
            have h3 := HNL.out
            rw [bne_iff_ne]; omega
          have HQL : Hid (q ≤ 62000) := Lib.hid (by have := HQ.out; have := HNL.out; have := HJB.out; have := HNM.out; omega)
          go_wp2_with (at_builtin; refine wpList_append_any rfl _ _ 22 rfl 5 i0 (.int .u8 0) 1 1 Try.underlying22 hi hz0 hz1 hz2 rfl (by decide) (.slice a1 q c1) q _ rfl (HOQ.out.alloc _) (some ⟨wq.heap.size, 0, none⟩) 1 1 [.int .u8 0] rfl rfl ?c2 (fun ad had => by cases had; exact World.news_of_block (heap_alloc_new _ _)) (by simp [Value.oneCell']) ?c5 ?c6 ?_)
          case c2 => intro e; cases e
          case c5 => have := HQL.out; unfold maxLen; omega
          case c6 => have := HQL.out; omega
          intro ao5 cap5 w5 hown hgrow hat hnn
          have HO5 : Hid (w5.ownsRow 0 5 1 (.slice ao5 (q + 1) cap5) (q + 1) ((R ++ List.replicate (z + 1) 0).map (Value.int .u8))) := Lib.hid (by
            simpa [List.replicate_succ'] using hown)
          have HB5 : Hid (Below w2.heap.size w2 w5) := Lib.hid (below_fp HBQ.out (((Keeps.refl _ wq).alloc _).grown hgrow (fun i hi => Or.inl hi)) (fun i hi => HFQ.out i hi))
          have HF5 : Hid (∀ g, (Value.slice ao5 (q + 1) cap5).ownBlock = some g → w2.heap.size ≤ g) := Lib.hid (fun g hg => by
            rcases hat g hg with h | h
            · exact HFQ.out g h
            · have := HBQ.out.size; omega)
          clear hown hgrow hat hnn hne q0
          have HZL := Lib.hid hlt2
          go_wp2_with fail
          refine ⟨⟨z + 1, ao5, q + 1, cap5, by have := HZL.out; omega, by rw [HQ.out]; rfl, rfl, HO5.out, HF5.out, HB5.out⟩, ?_⟩
          simp only [sliceLen]
          have := HZL.out
          have := HQ.out
          omega
        · obtain rfl : z = J - N := by omega
          have hne : ((q : Int) % 64 != 0) = false := by
            have h1 := HQ.out
            have h2 := HJB.out
            have h3 := HNL.out
            rw [bne_eq_false_iff_eq]; omega
          have HPL : Hid ((putF F).length = q) := Lib.hid (by rw [HPF.out, layF_len, HQ.out, HNL.out]; have := HJB.out; omega)
          have HPO : Hid (wq.ownsRow 0 5 1 (.slice a1 q c1) q ((putF F).map (Value.int .u8))) := Lib.hid (by rw [HPF.out, ← HLAST.out]; exact HOQ.out)
          go_wp2_with fail
          go_ret2
          rw [HR.out]
          refine ⟨a1, c1, ?_, ?_, below_step HB2.out HBQ.out, fun g hg => ?_⟩
          · dsimp only; rw [HPL.out]; rfl
          · dsimp only; rw [HPL.out]; exact HPO.out
          · dsimp only at hg; rw [HPL.out] at hg; exact Nat.le_trans HB2.out.size (HFQ.out g hg)

end Go.Proofs.Yteabnagdfecleaa
