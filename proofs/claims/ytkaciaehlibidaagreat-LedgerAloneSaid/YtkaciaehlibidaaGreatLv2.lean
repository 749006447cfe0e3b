/- The ledger: Save. -/
import Derived.Test.YtkaciaehlibidaaGreatLv1
namespace Go.Proofs.YtkaciaehlibidaaGreat
open Go.RowKit
set_option linter.unusedVariables false
set_option linter.unusedSimpArgs false

section
variable {Sb : Nat → Prop} {W w : World} {n m : Nat} {E : Int} {s : LS} {T : Nat → Int} {A B tb q : Nat} {v : Value}
set_option maxRecDepth 100000 in
set_option maxHeartbeats 4000000 in
theorem ledger_save (h : LDat Sb W w n m E s T A B tb q v) (hI : LInv n m E s T) (hO : LOk n s) :
    Calls Tryz.prog 19 #[.pointer (some ⟨A, 0, none⟩)] w (EncBPost w (saveB s, 0)) := by
  obtain ⟨lo, lc, rfl, _, _⟩ := own_shape h.row
  obtain ⟨ln, hln⟩ : ∃ ln, ln = s.es.length := ⟨_, rfl⟩
  have H := Lib.hid h
  have HO := Lib.hid hO
  have HI := Lib.hid hI
  have HL : Hid (s.es.length = ln ∧ ln ≤ 400) := Lib.hid ⟨hln.symm, by rw [hln]; exact hI.len.2.1⟩
  have hn16 := hI.bi.good.n16
  have HN16 := Lib.hid hn16
  have HCK := Lib.hid (fits_c hI.tick.1 hI.tick.2)
  have HLF : Hid (fitsB (ln : Int) 2 = true) := Lib.hid (fits_len2 ln (by have := HL.out; omega))
  have HCE := Lib.hid (fun w' (hb : Below w.heap.size w w') => (h.below hb).cells)
  have HDN := Lib.hid (fun w' (hb : Below w.heap.size w w') (i : Nat) (hi : i < s.es.length) => (h.below hb).dn i hi)
  rw [← hln] at HCE
  obtain ⟨i0, hi0, hz0, hz1, hz2⟩ := info_parts Try_infoU8
  clear h hO hI hln hn16
  go_enter Tryz.func19, Tryz.ntmps19
  go_wp2_with fail
  refine (newEnc _).mono ?_
  rintro en w1 ⟨rfl, hw1⟩
  have HE1 : Hid (EN w w1 w.heap.size []) := Lib.hid (by rw [hw1]; exact en_new (Below.refl _ _))
  obtain ⟨P, hP⟩ : ∃ P, P = w.heap.size := ⟨_, rfl⟩
  rw [← hP] at HE1 ⊢
  clear hw1 hP
  obtain ⟨_, _, c3, c4⟩ := HCE.out w1 HE1.out.bel
  go_wp2_with fail
  refine (HE1.out.num s.ck 8 HCK.out (by simp)).mono ?_
  rintro en w2 ⟨rfl, he2⟩
  have HE2 := Lib.hid he2
  clear he2 c3 c4
  obtain ⟨_, _, c3, c4⟩ := HCE.out w2 HE2.out.bel
  go_wp2_with fail
  refine (HE2.out.num (ln : Int) 2 HLF.out (by simp [putB_length])).mono ?_
  rintro en w3 ⟨rfl, he3⟩
  have HE3 : Hid (EN w w3 P (headB s)) := Lib.hid (by unfold headB; rw [HL.out.1]; exact he3)
  clear he3 c3 c4
  go_wp2_with fail
  refine (HE3.out.done (by rw [headB_len]; omega)).mono ?_
  rintro en w4 ⟨ho, hc, rfl, hr4⟩
  have HR4 : Hid (RowAt w (.slice ho (saveK s 0).length hc) (saveK s 0) w4) := Lib.hid (by rw [saveK_zero]; exact hr4)
  have HHL : Hid ((headB s).length = (saveK s 0).length) := Lib.hid (by rw [saveK_zero])
  rw [HHL.out]
  clear hr4
  obtain ⟨_, _, _, c4⟩ := HCE.out w4 HR4.out.2.1
  go_wp2_with fail
  clear c4
  go_loopw [4, 36] (fun b i wr => ∃ k : Nat, k ≤ ln ∧ i = .int .i64 (k : Int) ∧ ∃ ao c, b = .slice ao (saveK s k).length c ∧ RowAt w (.slice ao (saveK s k).length c) (saveK s k) wr) (fun _ i _ => ln - (intOf i).toNat)
  case atStart => exact ⟨0, by omega, rfl, ho, hc, rfl, HR4.out⟩
  case round =>
    obtain ⟨k, hk, rfl, ao, c, rfl, hrow⟩ := hrel
    have HROW := Lib.hid hrow
    clear hrow
    by_cases hlt : k < ln
    · have k0 : (0 : Int) ≤ (k : Int) := by omega
      have k1 : (k : Int) < (ln : Int) := by omega
      have hkl : k < s.es.length := by rw [HL.out.1]; exact hlt
      have HKL : Hid (k < ln) := Lib.hid hlt
      obtain ⟨g, hlo, hc⟩ := HDN.out wr HROW.out.2.1 k hkl
      subst hlo
      have HSK := Lib.hid (saveK_succ s k hkl)
      have HOD := Lib.hid (HO.out s.es[k] (List.getElem_mem hkl))
      have HSL := Lib.hid (saveK_len HO.out k (by omega))
      generalize s.es[k] = d at *
      have e0 := hc 0 (by omega)
      have e1 := hc 1 (by omega)
      have e2 := hc 2 (by omega)
      have e3 := hc 3 (by omega)
      have e4 := hc 4 (by omega)
      have e5 := hc 5 (by omega)
      have e6 := hc 6 (by omega)
      have e7 := hc 7 (by omega)
      have e8 := hc 8 (by omega)
      have e9 := hc 9 (by omega)
      have e10 := hc 10 (by omega)
      simp only [DN.cells, List.getElem?_toArray, List.getElem?_cons_zero, List.getElem?_cons_succ, Nat.add_zero] at e0 e1 e2 e3 e4 e5 e6 e7 e8 e9 e10
      obtain ⟨w5, hw5⟩ : ∃ w5, w5 = wr.alloc (.cells d.cells 106) := ⟨_, rfl⟩
      obtain ⟨V, hV⟩ : ∃ V, V = wr.heap.size := ⟨_, rfl⟩
      have hb5 : Below wr.heap.size wr w5 := by rw [hw5]; exact (Below.refl _ _).alloc (Nat.le_refl _) _
      have HX5 : Hid (DnB w5 V d) := Lib.hid (by rw [hw5, hV]; exact heap_alloc_new _ _)
      have HR5 := Lib.hid (HROW.out.below hb5)
      have HW5 := Lib.hid hw5
      have HV := Lib.hid hV
      have HDC : Hid (∀ w', Below w5.heap.size w5 w' → DnB w' V d) := Lib.hid (fun w' hb => (hb.block V (blk_lt HX5.out)).trans HX5.out)
      unfold DN.cells at HW5
      have HML : Hid (ln - (k + 1) < ln - k) := Lib.hid (by omega)
      clear hc hw5 hb5 hV hk hlt hkl
      go_upto_region 9 with fail
      rw [← HW5.out, ← HV.out]
      clear e0 e1 e2 e3 e4 e5 e6 e7 e8 e9 e10 HW5
      go_wp2_with fail
      refine (newEnc _).mono ?_
      rintro en w6 ⟨rfl, hw6⟩
      have HE6 : Hid (EN w5 w6 w5.heap.size []) := Lib.hid (by rw [hw6]; exact en_new (Below.refl _ _))
      obtain ⟨Q, hQ⟩ : ∃ Q, Q = w5.heap.size := ⟨_, rfl⟩
      rw [← hQ] at HE6 ⊢
      clear hw6 hQ
      obtain ⟨q0, q1, q2, q3, q4, q5, q6, q7, q8, q9, q10⟩ := (HDC.out w6 HE6.out.bel).all
      go_wp2_with fail
      refine (HE6.out.num d.p 1 (fits_p HOD.out.2.1 (by have := HOD.out.2.2.1; have := HN16.out; omega)) (by simp)).mono ?_
      rintro en w7 ⟨rfl, he7⟩
      have HE7 := Lib.hid he7
      clear he7 q0 q1 q2 q3 q4 q5 q6 q7 q8 q9 q10
      obtain ⟨q0, q1, q2, q3, q4, q5, q6, q7, q8, q9, q10⟩ := (HDC.out w7 HE7.out.bel).all
      go_wp2_with fail
      refine (HE7.out.num d.c 8 (fits_c HOD.out.2.2.2.1 HOD.out.2.2.2.2) (by simp [putB_length])).mono ?_
      rintro en w8 ⟨rfl, he8⟩
      have HE8 : Hid (EN w5 w8 Q (hdD d)) := Lib.hid he8
      clear he8 q0 q1 q2 q3 q4 q5 q6 q7 q8 q9 q10
      go_wp2_with fail
      refine (HE8.out.done (by unfold hdD; simp [putB_length])).mono ?_
      rintro en w9 ⟨do_, dc, rfl, hr9⟩
      have HR9 := Lib.hid hr9
      have HDL : Hid ((hdD d).length = 9) := Lib.hid (by unfold hdD; simp [putB_length])
      rw [HDL.out]
      rw [HDL.out] at HR9
      clear hr9
      obtain ⟨q0, q1, q2, q3, q4, q5, q6, q7, q8, q9, q10⟩ := (HDC.out w9 HR9.out.2.1).all
      obtain ⟨x, hx⟩ : ∃ x, x = d.e := ⟨_, rfl⟩
      rw [← hx] at q2 q3 q4 q5 q6 q7 q8 q9 q10 HSK
      have hok : okE true x = true := by rw [hx]; exact HOD.out.1
      have HCL := Lib.hid (chunkE_len hok)
      have HEE := Lib.hid (encodeEvent x w9 (by have := okE_size hok; omega))
      rw [evF_eq, if_pos hok] at HEE
      unfold EV.cells at HEE
      clear hx hok
      go_wp2_with fail
      refine HEE.out.mono ?_
      rintro en wa ⟨eo, ec, rfl, hia, hba, hna, hca, hcm⟩
      obtain ⟨L, hL⟩ : ∃ L, L = (chunkE true x).length := ⟨_, rfl⟩
      dsimp only at hia hca ⊢
      rw [← hL] at hca ⊢
      have HEI := Lib.hid hia
      have HEN := Lib.hid hna
      have HLL := Lib.hid hL
      have HRa := Lib.hid ((HR5.out.below HR9.out.2.1).below hba)
      have HHa := Lib.hid (ints_below (owns_at HR9.out.1).2.1 hba)
      have HB9 := Lib.hid HR9.out.2.1
      have HL128 : Hid (L ≤ 128) := Lib.hid (by rw [hL]; exact HCL.out)
      clear hia hba hna hca hcm hL q0 q1 q2 q3 q4 q5 q6 q7 q8 q9 q10
      obtain ⟨N, hN⟩ : ∃ N, N = (saveK s k).length := ⟨_, rfl⟩
      rw [← hN] at HRa HSL ⊢
      have hN6 : N ≤ 60000 := by have := HSL.out; have := HKL.out; have := HL.out.2; omega
      have HNN := Lib.hid hN
      clear hN
      have HRW : Hid (wa.ownsRow 0 5 1 (.slice ao N c) N ((saveK s k).map (Value.int .u8))) := Lib.hid (by have h := HRa.out.1; rw [← HNN.out] at h; exact h)
      have HN1 : Hid (do_ = none → (9 : Nat) = 0) := Lib.hid (fun e => by have h := ints_none (e ▸ HHa.out); rw [HDL.out] at h; exact h)
      have HN2 : Hid (eo = none → L = 0) := Lib.hid (fun e => by have h := ints_none (e ▸ HEI.out); rw [← HLL.out] at h; exact h)
      go_wp2_with (at_builtin; refine wpList_append_any rfl _ _ 62 rfl 5 i0 (.int .u8 0) 1 1 Tryz.underlying62 hi0 hz0 hz1 hz2 rfl (by decide) (.slice ao N c) N ((saveK s k).map (Value.int .u8)) rfl HRW.out do_ 9 dc ((hdD d).map (Value.int .u8)) rfl ?c1 (fun e => HN1.out e) (src_ints HHa.out) (ints_one _ _) ?c5 ?c6 ?_)
      case c1 => simp [HDL.out]
      case c5 => unfold maxLen; omega
      case c6 => omega
      intro ap cp wb hown hgrow hat hnn
      have HRWb : Hid (wb.ownsRow 0 5 1 (.slice ap (N + 9) cp) (N + 9) ((saveK s k ++ hdD d).map (Value.int .u8))) := Lib.hid (by rw [List.map_append]; exact hown)
      have HKb : Hid (Keeps (fun i => (Value.slice ao N c).ownBlock = some i) wa wb) := Lib.hid ((Keeps.refl (fun i => (Value.slice ao N c).ownBlock = some i) _).grown hgrow (fun i hi => Or.inl hi))
      have HAb : Hid (∀ g, (Value.slice ap (N + 9) cp).ownBlock = some g → w.heap.size ≤ g) := Lib.hid (fun g hg => by
        rcases hat g hg with h | h
        · exact HRa.out.2.2 g h
        · have := HRa.out.2.1.size; omega)
      have HBb : Hid (Below w.heap.size w wb) := Lib.hid (below_fp HRa.out.2.1 HKb.out (fun i hi => HRa.out.2.2 i hi))
      have HEb : Hid (IntsAt .u8 wb eo (chunkE true x)) := Lib.hid (HEI.out.same (fun a ha hl => HKb.out.block a.block hl (fun e => by
        have h1 := HEN.out a ha
        have h2 := (HR5.out.1.lt a.block (by rw [← HNN.out]; exact e)).2
        have h3 := HB9.out.size
        omega)))
      clear hown hgrow hat hnn
      go_wp2_with (at_builtin; refine wpList_append_any rfl _ _ 62 rfl 5 i0 (.int .u8 0) 1 1 Tryz.underlying62 hi0 hz0 hz1 hz2 rfl (by decide) (.slice ap (N + 9) cp) (N + 9) ((saveK s k ++ hdD d).map (Value.int .u8)) rfl HRWb.out eo L ec ((chunkE true x).map (Value.int .u8)) rfl ?c1 (fun e => HN2.out e) (src_ints HEb.out) (ints_one _ _) ?c5 ?c6 ?_)
      case c1 => simp [HLL.out]
      case c5 => have := HL128.out; unfold maxLen; omega
      case c6 => have := HL128.out; omega
      intro aq cq wc hown hgrow hat hnn
      have HRc : Hid (RowAt w (.slice aq (saveK s (k + 1)).length cq) (saveK s (k + 1)) wc ∧ (saveK s (k + 1)).length = N + 9 + L) := Lib.hid (by
        have hl : (saveK s (k + 1)).length = N + 9 + L := by rw [HSK.out, List.length_append, List.length_append, HDL.out, ← HLL.out, ← HNN.out]
        refine ⟨⟨?_, ?_, ?_⟩, hl⟩
        · rw [hl, HSK.out]; simpa only [List.map_append, List.append_assoc] using hown
        · exact below_fp HBb.out ((Keeps.refl (fun i => (Value.slice ap (N + 9) cp).ownBlock = some i) _).grown hgrow (fun i hi => Or.inl hi)) (fun i hi => HAb.out i hi)
        · intro g hg
          rw [hl] at hg
          rcases hat g hg with h | h
          · exact HAb.out g h
          · have := HBb.out.size; omega)
      clear hown hgrow hat hnn
      have hln := HL.out.2
      go_wp2
      go_roundw
      case rel => exact ⟨k + 1, HKL.out, by go_num, aq, cq, by rw [HRc.out.2], HRc.out.1⟩
      case measure => simpa [intOf] using HML.out
    · obtain rfl : k = ln := by omega
      have HSA : Hid (saveK s k = saveB s) := Lib.hid (by have := saveK_all s; rw [HL.out.1] at this; exact this)
      rw [HSA.out] at HROW ⊢
      clear hlt hk
      go_wp2
      go_ret2
      exact ⟨ao, c, rfl, (owns_at HROW.out.1).2.1, HROW.out.2.1, fun a ha => HROW.out.2.2 a.block (own_blk HROW.out.1 a ha), (owns_at HROW.out.1).2.2⟩
end

end Go.Proofs.YtkaciaehlibidaaGreat
