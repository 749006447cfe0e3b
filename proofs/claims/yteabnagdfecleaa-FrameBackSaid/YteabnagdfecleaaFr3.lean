/- Package frame: Put. -/
import Derived.Test.YteabnagdfecleaaFr2
namespace Go.Proofs.Yteabnagdfecleaa
open Go.RowKit
set_option linter.unusedVariables false
set_option linter.unusedSimpArgs false

/-- What Put hands back. -/
def PutPost (w : World) (tb : Nat) (r : List Int × Int) (e : Ending) (w' : World) : Prop := ∃ ao cap, e = .returned (.tuple #[.slice ao r.1.length cap, .int .i64 r.2]) ∧ RowT w tb r.1 (.slice ao r.1.length cap) w'

set_option maxRecDepth 100000 in
set_option maxHeartbeats 4000000 in
theorem put_any2 (tb : Nat) (F : FR) (ao : Option Addr) (m c : Nat) (w : World) (ht : TabOk w tb) (hm : F.b.length = m) (hz : IntsAt .u8 w ao F.b) (hB : InB F.b) (hd : F.b = [] ∨ ∀ a, ao = some a → a.block ≠ tb) :
    Calls Try.prog 13 #[.pointer (some ⟨tb, 0, none⟩), .agg #[.int .i64 F.k, .int .i64 F.g, .int .i64 F.s, .slice ao m c]] w fun e w' => PutPost w tb (putR F) e w' := by
  have HT := Lib.hid ht
  have HTL := Lib.hid ht.lt
  have HM := Lib.hid hm
  have HZ := Lib.hid hz
  have HB := Lib.hid hB
  have HD := Lib.hid hd
  obtain ⟨w1, hw1⟩ : ∃ w1, w1 = w.alloc (.cells #[.int .i64 F.k, .int .i64 F.g, .int .i64 F.s, .slice ao m c] 24) := ⟨_, rfl⟩
  have HX1 : Hid (BoxF w1 w.heap.size F ao m c) := Lib.hid (by rw [hw1]; exact heap_alloc_new _ _)
  have HB1 : Hid (Below w.heap.size w w1) := Lib.hid (by rw [hw1]; exact (Below.refl _ _).alloc (Nat.le_refl _) _)
  have HT1 := Lib.hid (ht.below HB1.out)
  have HW1 := Lib.hid hw1
  have HTX := Lib.hid (fun hok hl => text_any tb F ao m c w1 HT1.out hok hm hl (ints_below hz HB1.out) hB hd)
  clear ht hm hz hB hd
  obtain ⟨c0, c1, c2, c3⟩ := HX1.out.cells
  rw [hw1] at c0 c1 c2 c3
  clear hw1
  have HNIL : Hid (RowT w tb [] (.slice none 0 0) w1) := Lib.hid ⟨HT1.out, World.ownsRow_nil _ _ _ _, Keeps.of_below HB1.out, fun g (h : (Value.slice none 0 0).ownBlock = some g) => by cases h⟩
  by_cases hl : (60000 : Int) < (m : Int)
  · have HR := Lib.hid (show putR F = ([], 3) by unfold putR; rw [if_pos (by have := HM.out; omega)])
    go_enter Try.func13, Try.ntmps13
    go_wp2_with fail
    rw [← HW1.out]
    go_ret2
    rw [HR.out]
    exact ⟨none, 0, rfl, HNIL.out⟩
  by_cases hok : F.ok
  · have HOK := Lib.hid hok
    have HR := Lib.hid (show putR F = (putF F, 0) by unfold putR; rw [if_neg (by have := HM.out; omega), if_pos hok])
    have HTX1 := Lib.hid (HTX.out hok (by omega))
    have HTB := Lib.hid (textF_inB HB.out)
    have HTN := Lib.hid (textF_len F)
    have HML : Hid (m ≤ 60000) := Lib.hid (by omega)
    have HSN := Lib.hid (secN_nat m (by omega))
    have HPF : Hid (putF F = layF (textF F) ((m + 86) / 63)) := Lib.hid (by unfold putF; rw [HM.out])
    obtain ⟨⟨o1, o2⟩, ⟨o3, o4⟩, ⟨o5, o6⟩⟩ := hok
    have n1 : ¬ F.k < 0 := by omega
    have n2 : ¬ 255 < F.k := by omega
    have n3 : ¬ F.g < 0 := by omega
    have n4 : ¬ 4294967295 < F.g := by omega
    have n5 : ¬ F.s < 0 := by omega
    have n6 : ¬ 4294967295 < F.s := by omega
    clear o1 o2 o3 o4 o5 o6 HTX
    go_enter Try.func13, Try.ntmps13
    go_upto_region 5 with fail
    rw [← HW1.out]
    clear c0 c1 c2 c3 n1 n2 n3 n4 n5 n6 HW1
    obtain ⟨c0, c1, c2, c3⟩ := HX1.out.cells
    go_wp2_with fail
    refine HTX1.out.mono ?_
    rintro e w2 ⟨a2, k2, rfl, ht2, ho2, hk2, hf2⟩
    rw [HTN.out, HM.out] at ho2 hf2 ⊢
    have HT2 := Lib.hid ht2
    have HO2 := Lib.hid ho2
    have HX2 := Lib.hid (HX1.out.keep hk2 (by have := HTL.out; omega))
    have HF2 := Lib.hid hf2
    have HK2 : Hid (Keeps (fun i => i = tb) w w2) := Lib.hid ((Keeps.of_below HB1.out).trans hk2 (fun i h => Or.inl h))
    have HWL : Hid (w.heap.size < w1.heap.size) := Lib.hid (blk_lt HX1.out)
    clear ht2 ho2 hk2 hf2 c0 c1 c2 c3 HTX1 HX1 HT1
    obtain ⟨c0, c1, c2, c3⟩ := HX2.out.cells
    obtain ⟨K, hK⟩ : ∃ K, K = (m + 86) / 63 := ⟨_, rfl⟩
    rw [← hK] at HSN HPF
    have HKB : Hid (1 ≤ K ∧ K ≤ 954 ∧ 24 + m ≤ 63 * K ∧ 63 * (K - 1) < 24 + m) := Lib.hid (by have := HML.out; omega)
    have HTNM : Hid ((textF F).length = 24 + m) := Lib.hid (by rw [HTN.out, HM.out])
    obtain ⟨T, hT⟩ : ∃ T, T = textF F := ⟨_, rfl⟩
    rw [← hT] at HTB HTNM HPF HO2
    clear hT hK HTN
    have hmk : ∀ w : World, (Instr.makeSlice 22 (.int .i64 (64 * (K : Int))) (.int .i64 (64 * (K : Int)))).run Try.prog w = .ok (.slice (some ⟨w.heap.size, 0, none⟩) (64 * K) (64 * K)) (w.alloc (.cells (madeCells #[.int .u8 0] (64 * K)) 5)) := fun w => by
      have h := run_make_row' (P := Try.prog) 22 5 (.int .u8 0) 1 Try.underlying22 Try_infoU8 rfl .i64 .i64 (64 * K) (by have := HKB.out; omega) (by have := HKB.out; omega) w
      rw [Int.natCast_mul] at h
      exact h
    have hw64 : wrap64 (64 * (K : Int)) = 64 * (K : Int) := by have := HKB.out; unfold wrap64; omega
    go_wp2_with fail
    refine (sectors_any m w2).mono ?_
    rintro e w3 ⟨rfl, rfl⟩
    rename World => w2
    rw [HSN.out]
    go_upto_region 7 with fail
    obtain ⟨w4, hw4⟩ : ∃ w4, w4 = w2.alloc (.cells (madeCells #[.int .u8 0] (64 * K)) 5) := ⟨_, rfl⟩
    have hb4 : Below w2.heap.size w2 w4 := by rw [hw4]; exact (Below.refl _ _).alloc (Nat.le_refl _) _
    have HR4 : Hid (RowL w4 w2.heap.size (layN T 0 ++ List.replicate (64 * (K - 0)) 0)) := Lib.hid (by rw [hw4]; exact RowL.made w2 (64 * K))
    have HT4 := Lib.hid (HT2.out.below hb4)
    have HO4 : Hid (w4.ownsRow 0 5 1 (.slice a2 (24 + m) k2) (24 + m) (T.map (Value.int .u8))) := Lib.hid (ownsRow_same HO2.out (fun g hg => hb4.block g (HO2.out.lt g hg).2))
    have HK4 : Hid (Keeps (fun i => i = tb) w w4) := Lib.hid (HK2.out.trans (Keeps.of_below (S := fun _ => False) hb4) (fun _ h => h.elim))
    have HOL : Hid (∀ g, (Value.slice a2 (24 + m) k2).ownBlock = some g → g < w2.heap.size) := Lib.hid (fun g hg => (HO2.out.lt g hg).2)
    have HGL : Hid (w.heap.size ≤ w2.heap.size ∧ tb < w2.heap.size) := Lib.hid ⟨HK2.out.size, HT2.out.lt⟩
    have HSZ : Hid (w4.heap.size = w2.heap.size + 1) := Lib.hid (by rw [hw4]; simp)
    rw [← hw4]
    clear hw4 hb4 hmk hw64 HT2 HO2 HX2 HK2 c0 c1 c2 c3
    generalize w2.heap.size = g at *
    have HI4 := Lib.hid (owns_at HO4.out)
    obtain ⟨tg, toff, rfl⟩ : ∃ b off, a2 = some ⟨b, off, none⟩ := by
      rcases HI4.out.2.1 with h | ⟨b, off, h, _⟩
      · have := HTNM.out; rw [h] at this; simp at this; omega
      · exact ⟨b, off, h⟩
    obtain ⟨M, hM⟩ : ∃ M, M = 64 * K := ⟨_, rfl⟩
    rw [← hM]
    have HMK := Lib.hid hM
    clear hM
    go_wp2_with fail
    go_loopw [6, 8] (fun s t wr => ∃ (j : Nat) (off n c : Nat), j ≤ K ∧ t = .int .i64 ((64 * j : Nat) : Int) ∧ s = .slice (some ⟨tg, off, none⟩) n c ∧ n = (T.drop (63 * j)).length ∧ n ≤ c ∧ c ≤ maxLen ∧ IntsAt .u8 wr (some ⟨tg, off, none⟩) (T.drop (63 * j)) ∧ RowL wr g (layN T j ++ List.replicate (64 * (K - j)) 0) ∧ Keeps (fun i => i = g) w4 wr) (fun _ t _ => 64 * K - (intOf t).toNat)
    case atStart => exact ⟨0, toff, 24 + m, k2, Nat.zero_le _, rfl, rfl, by rw [Nat.mul_zero, List.drop_zero, HTNM.out], HI4.out.2.2.1, HI4.out.2.2.2, by rw [Nat.mul_zero, List.drop_zero]; exact HI4.out.2.1, HR4.out, Keeps.refl _ _⟩
    case round =>
      obtain ⟨j, off, n, cc, hj, rfl, rfl, hn, hnc, hcm, hi, hr, hk⟩ := hrel
      have HN := Lib.hid hn
      have HNC := Lib.hid hnc
      have HCM := Lib.hid hcm
      have HI := Lib.hid hi
      have HRW := Lib.hid hr
      have HK := Lib.hid hk
      clear hn hnc hcm hi hr hk
      by_cases hlt : j < K
      · obtain ⟨I, hI⟩ : ∃ I, I = 64 * j := ⟨_, rfl⟩
        have HI64 := Lib.hid hI
        rw [← hI]
        clear hI
        have HLL : Hid ((layN T j ++ List.replicate (64 * (K - j)) 0).length = M) := Lib.hid (by rw [List.length_append, layN_len, List.length_replicate, HMK.out]; omega)
        obtain ⟨cc0, cf0⟩ := HRW.out.cell I (by rw [HLL.out, HMK.out, HI64.out]; omega)
        have HS := Lib.hid (HRW.out.set I 2)
        have HLS := Lib.hid (lay_step T K j hlt)
        rw [← HI64.out] at HLS
        generalize (layN T j ++ List.replicate (64 * (K - j)) 0).getD I 0 = z0 at *
        obtain ⟨L63, hL⟩ : ∃ L63, L63 = min n 63 := ⟨_, rfl⟩
        have HL63 := Lib.hid hL
        clear hL
        obtain ⟨cs, hcs⟩ : ∃ cs, cs = ((T.drop (63 * j)).take 63).map (Value.int .u8) := ⟨_, rfl⟩
        have HCSL : Hid (cs.length = L63) := Lib.hid (by rw [hcs, List.length_map, List.length_take, HL63.out, HN.out, Nat.min_comm])
        have HCS := Lib.hid hcs
        clear hcs
        obtain ⟨ws, hws⟩ : ∃ ws, ws = wr.setCell ⟨g, I, none⟩ (.int .u8 2) := ⟨_, rfl⟩
        rw [← hws] at HS
        have HKS : Hid (Keeps (fun i => i = g) w4 ws) := Lib.hid (by rw [hws]; exact HK.out.setCell (p := ⟨g, I, none⟩) (Or.inl rfl) _)
        have HIS : Hid (IntsAt .u8 ws (some ⟨tg, off, none⟩) (T.drop (63 * j))) := Lib.hid (HI.out.same (fun a ha hl => by rw [hws]; exact Below.heap_setCell _ _ _ _ (by cases ha; have := HOL.out tg rfl; show tg ≠ g; omega)))
        have HWS := Lib.hid hws
        clear hws
        obtain ⟨cur, hcur⟩ : ∃ cur, cur = ((layN T j ++ List.replicate (64 * (K - j)) 0).set I 2).map (Value.int .u8) := ⟨_, rfl⟩
        have HG : Hid (ws.heap[g]? = some (.cells cur.toArray 5 (0, 0))) := Lib.hid (by rw [hcur]; exact HS.out)
        have HCUL : Hid (cur.length = M) := Lib.hid (by rw [hcur, List.length_map, List.length_set, HLL.out])
        have HCUR := Lib.hid hcur
        clear hcur
        have b0 : (0 : Int) ≤ (I : Int) := by omega
        have b1 : (I : Int) < (M : Int) := by have := HMK.out; have := HI64.out; omega
        have b2 : (I : Int) + 64 ≤ (M : Int) := by have := HMK.out; have := HI64.out; omega
        have b3 : (I : Int) + 1 ≤ (I : Int) + 64 := by omega
        have b4 : (0 : Int) ≤ (I : Int) + 1 := by omega
        have b5 : ((I : Int) + 1).toNat = I + 1 := by omega
        have b6 : ((I : Int) + 64).toNat = I + 64 := by omega
        have b7 : I + 64 - (I + 1) = 63 := by omega
        have hMB : M ≤ 61056 := by have := HMK.out; have := HKB.out; omega
        have w1' : wrap64 ((I : Int) + 1) = (I : Int) + 1 := by unfold wrap64; omega
        have w2' : wrap64 ((I : Int) + 64) = (I : Int) + 64 := by unfold wrap64; omega
        clear hMB
        have d1 : (L63 : Int) ≤ (n : Int) := by have := HL63.out; omega
        have d2 : L63 ≤ n := by have := HL63.out; omega
        have d3 : L63 ≤ cc := by have := HNC.out; omega
        have d4 : (n : Int) ≤ (cc : Int) := by have := HNC.out; omega
        have d5 : n ≤ cc := HNC.out
        go_wp2_with (rw [← HWS.out]; refine wpList_copy_splice rfl _ _ 22 22 rfl 5 Try.underlying22 (by kernel_rfl) (some ⟨g, I + 1, none⟩) (some ⟨tg, off, none⟩) 63 (M - (I + 1)) n cc rfl rfl g (I + 1) cur 5 HG.out cs ?c1 ?c2 ?c3 ?c4 g ws (Below.refl _ _) (Nat.le_refl _) ?_)
        case c1 => exact HCSL.out.trans HL63.out
        case c2 =>
          intro _ j' v hj'
          rw [HCS.out] at hj'
          have h1 := src_ints (HIS.out.take 63) _ rfl j' v hj'
          rwa [addr_add] at h1
        case c3 => rw [HCSL.out, HCUL.out]; have := HL63.out; omega
        case c4 => rw [HCS.out]; exact ints_one _ _
        intro w6 hg6 hb6
        have HR6 : Hid (RowL w6 g (layN T (j + 1) ++ List.replicate (64 * (K - (j + 1))) 0)) := Lib.hid (by
          have h1 := hg6.out
          rw [HCUR.out, HCS.out, splice_map, HLS.out] at h1
          exact h1)
        have HK6 : Hid (Keeps (fun i => i = g) w4 w6) := Lib.hid (HKS.out.trans (⟨hb6.os, hb6.tape, hb6.output, hb6.size, fun i hi hn => hb6.block i (by omega)⟩ : Keeps (fun i => g ≤ i) ws w6) (fun i hi => by have := HSZ.out; omega))
        have HI6 : Hid (IntsAt .u8 w6 (some ⟨tg, off, none⟩) (T.drop (63 * j))) := Lib.hid (HIS.out.same (fun a ha hl => hb6.block a.block (by cases ha; exact HOL.out tg rfl)))
        have HDR : Hid (T.drop (63 * (j + 1)) = (T.drop (63 * j)).drop 63) := Lib.hid (by rw [List.drop_drop]; congr 1)
        have HQ : Hid (∃ off', (if cc = L63 then (some ⟨tg, off, none⟩ : Option Addr) else some ⟨tg, off + L63, none⟩) = some ⟨tg, off', none⟩ ∧ IntsAt .u8 w6 (some ⟨tg, off', none⟩) (T.drop (63 * (j + 1)))) := Lib.hid (by
          by_cases h63 : n ≤ 63
          · have hnil : T.drop (63 * (j + 1)) = [] := by rw [HDR.out]; exact List.drop_eq_nil_of_le (by rw [← HN.out]; exact h63)
            by_cases hcc : cc = L63
            · exact ⟨off, by rw [if_pos hcc], Or.inl hnil⟩
            · exact ⟨off + L63, by rw [if_neg hcc], Or.inl hnil⟩
          · have h1 : L63 = 63 := by have := HL63.out; omega
            have h2 : ¬ cc = L63 := by omega
            exact ⟨off + L63, by rw [if_neg h2], by rw [HDR.out, h1]; exact HI6.out.drop 63⟩)
        have HN6 : Hid (n - L63 = (T.drop (63 * (j + 1))).length) := Lib.hid (by rw [HDR.out, List.length_drop, ← HN.out]; have := HL63.out; omega)
        clear hg6 hb6 cc0 cf0 HWS HRW
        rw [HCSL.out]
        have hw64 : wrap64 ((I : Int) + 64) = (I : Int) + 64 := w2'
        have hke : ((64 * (j + 1) : Nat) : Int) = (I : Int) + 64 := by have := HI64.out; omega
        go_wp2_with fail
        obtain ⟨off', hif, hI'⟩ := HQ.out
        rw [hif, hw64]
        refine ⟨⟨j + 1, off', n - L63, cc - L63, by omega, by rw [hke], rfl, HN6.out, by omega, by have := HCM.out; omega, hI', HR6.out, HK6.out⟩, ?_⟩
        simp only [intOf]
        have := HI64.out
        omega
      · obtain rfl : j = K := by omega
        rw [Nat.sub_self, Nat.mul_zero, List.replicate_zero, List.append_nil] at HRW
        have HLL := Lib.hid (layN_len T j)
        obtain ⟨cc0, cf0⟩ := HRW.out.cell 0 (by rw [HLL.out]; have := HKB.out; omega)
        have HS := Lib.hid (HRW.out.set 0 1)
        generalize (layN T j).getD 0 0 = z0 at *
        have b0 : (0 : Int) < (M : Int) := by have := HMK.out; have := HKB.out; omega
        have b1 : ((64 * j : Nat) : Int) = (M : Int) := by rw [HMK.out]
        have b2 : ¬ (M : Int) < (M : Int) := by omega
        have HPP : Hid (RowT w tb (putF F) (.slice (some ⟨g, 0, none⟩) (putF F).length M) (wr.setCell ⟨g, 0, none⟩ (.int .u8 1))) := Lib.hid (by
          have hks : Keeps (fun i => i = g) w4 (wr.setCell ⟨g, 0, none⟩ (.int .u8 1)) := HK.out.setCell (p := ⟨g, 0, none⟩) (Or.inl rfl) _
          have hl : (putF F).length = M := by rw [HPF.out, layF_len, HMK.out]
          rw [hl]
          refine ⟨tab_keep HT4.out hks (by have := HGL.out; omega), ?_, HK4.out.trans hks (fun i hi => Or.inr (by have := HGL.out; omega)), fun x hx => by cases hx; exact HGL.out.1⟩
          rw [HPF.out]
          have h2 : RowL (wr.setCell ⟨g, 0, none⟩ (.int .u8 1)) g (layF T j) := HS.out
          have h3 := h2.own M (by rw [layF_len, HMK.out]) (by have := HMK.out; have := HKB.out; unfold maxLen; omega)
          rw [layF_len, ← HMK.out]
          exact h3)
        have HPL : Hid ((putF F).length = M) := Lib.hid (by rw [HPF.out, layF_len, HMK.out])
        rw [b1]
        go_wp2_with fail
        go_ret2
        refine ⟨some ⟨g, 0, none⟩, M, ?_, ?_⟩
        · rw [HR.out]; show _ = Ending.returned (.tuple #[.slice (some ⟨g, 0, none⟩) (putF F).length M, .int .i64 0]); rw [HPL.out]; rfl
        · rw [HR.out]; exact HPP.out
  · have HR := Lib.hid (show putR F = ([], 1) by unfold putR; rw [if_neg (by have := HM.out; omega), if_neg hok])
    have HOK := Lib.hid hok
    have HL2 := Lib.hid hl
    clear hok
    go_enter Try.func13, Try.ntmps13
    by_cases q0 : F.k < 0
    · go_wp2_with fail
      rw [← HW1.out]
      go_ret2
      rw [HR.out]
      exact ⟨none, 0, rfl, HNIL.out⟩
    by_cases q1 : 255 < F.k
    · go_wp2_with fail
      rw [← HW1.out]
      go_ret2
      rw [HR.out]
      exact ⟨none, 0, rfl, HNIL.out⟩
    by_cases q2 : F.g < 0
    · go_wp2_with fail
      rw [← HW1.out]
      go_ret2
      rw [HR.out]
      exact ⟨none, 0, rfl, HNIL.out⟩
    by_cases q3 : 4294967295 < F.g
    · go_wp2_with fail
      rw [← HW1.out]
      go_ret2
      rw [HR.out]
      exact ⟨none, 0, rfl, HNIL.out⟩
    by_cases q4 : F.s < 0
    · go_wp2_with fail
      rw [← HW1.out]
      go_ret2
      rw [HR.out]
      exact ⟨none, 0, rfl, HNIL.out⟩
    by_cases q5 : 4294967295 < F.s
    · go_wp2_with fail
      rw [← HW1.out]
      go_ret2
      rw [HR.out]
      exact ⟨none, 0, rfl, HNIL.out⟩
    · exact absurd ⟨⟨by omega, by omega⟩, ⟨by omega, by omega⟩, ⟨by omega, by omega⟩⟩ HOK.out

end Go.Proofs.Yteabnagdfecleaa
