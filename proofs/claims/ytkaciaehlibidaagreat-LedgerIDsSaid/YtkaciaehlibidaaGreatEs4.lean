/- Package escrow: Lock. -/
import Derived.Test.YtkaciaehlibidaaGreatLgE
namespace Go.Proofs.YtkaciaehlibidaaGreat
open Go.RowKit
set_option linter.unusedVariables false
set_option linter.unusedSimpArgs false

theorem Try_infoX : (Tryz.prog.info? 57).map (fun i => (i.zero, i.size, i.bytes)) = some (some (.agg noX.cells), 8, 80) := by kernel_rfl
section
variable {w w' : World} {Sp : Nat → Prop} {B tb q n m : Nat} {b : Nat → Nat → Int} {l : List XR} {v : Value} {T : Nat → Int}
theorem MayL_no {n m : Nat} {fr tt a amt d ck : Int} (h : (decide (0 ≤ fr ∧ fr < n) && (decide (0 ≤ tt ∧ tt < n) && (decide (0 ≤ a ∧ a < m) && (amtB amt && (!(amt == 0) && (tickB d && tickB ck)))))) = false) : mayL n m fr tt a amt d ck = false := h
/-- The purse turned. -/
theorem BK.purse {w w' : World} {b' : Nat → Nat → Int} (h : BK w Sp B tb q n m b l v) (hp : PPost 133 w q Sp n m b' w') : BK w' Sp B tb q n m b' l v :=
  ⟨(hp.2.block B (blk_lt h.box) h.nB).trans h.box, ownsRow_same h.row (fun g hg => hp.2.block g (h.row.lt g hg).2 (h.nv g hg)), hp.1, h.nB, h.nv⟩

set_option maxRecDepth 100000 in
set_option maxHeartbeats 4000000 in
theorem book_lock (h : BK w Sp B tb q n m b l v) (hI : BInv n m b l T) (fr tt a amt : Int) (s : ByteArray) (d ck : Int) :
    Calls Tryz.prog 63 #[.pointer (some ⟨B, 0, none⟩), .int .i64 fr, .int .i64 tt, .int .i64 a, .int .i64 amt, .string s, .int .i64 d, .int .i64 ck] w fun e w' =>
      e = .returned (.tuple #[.int .i64 (lockI n m b l fr tt a amt s d ck), .int .i64 (lockE n m b fr tt a amt s d ck)]) ∧ BPost w Sp B tb q n m v (lockB n m b fr tt a amt s d ck) (lockL n m b l fr tt a amt s d ck) w' := by
  have H := Lib.hid h
  have HI := Lib.hid hI
  have HT1 := Lib.hid (book_there h fr)
  have HT2 := Lib.hid (book_there h tt)
  have HAS := Lib.hid (pur_assets q n m Sp b w h.pu)
  obtain ⟨_, c1, _, _⟩ := h.cells
  have HM : Hid (mayL n m fr tt a amt d ck = (decide (0 ≤ fr ∧ fr < n) && (decide (0 ≤ tt ∧ tt < n) && (decide (0 ≤ a ∧ a < m) && (amtB amt && (!(amt == 0) && (tickB d && tickB ck))))))) := Lib.hid rfl
  have HE : Hid (lockE n m b fr tt a amt s d ck = if mayL n m fr tt a amt d ck = true then (if s.size = 32 then (if fr = tt then 14 else if d ≤ ck then 11 else takeE n m b fr a amt) else 2) else 1) := Lib.hid rfl
  have HBL : Hid (lockB n m b fr tt a amt s d ck = if lockE n m b fr tt a amt s d ck = 0 then takeN n m b fr a amt else b) := Lib.hid rfl
  have HLL : Hid (lockL n m b l fr tt a amt s d ck = if lockE n m b fr tt a amt s d ck = 0 then l ++ [⟨fr, tt, a, amt, d, 0, s, ⟨#[]⟩⟩] else l) := Lib.hid rfl
  have HIL : Hid (lockI n m b l fr tt a amt s d ck = if lockE n m b fr tt a amt s d ck = 0 then (l.length : Int) else 0) := Lib.hid rfl
  have HTK := Lib.hid (pur_take q n m Sp b w h.pu hI.good fr a amt)
  generalize lockE n m b fr tt a amt s d ck = E at *
  generalize lockB n m b fr tt a amt s d ck = B' at *
  generalize lockL n m b l fr tt a amt s d ck = L' at *
  generalize lockI n m b l fr tt a amt s d ck = I' at *
  generalize mayL n m fr tt a amt d ck = M at *
  -- a refusal
  have HNO : Hid (∀ (k : Int) (wx : World), E = k → k ≠ 0 → w = wx → (Ending.returned (.tuple #[.int .i64 0, .int .i64 k]) = Ending.returned (.tuple #[.int .i64 I', .int .i64 E]) ∧ BPost w Sp B tb q n m v B' L' wx)) := Lib.hid (fun k wx he hk hw => by
    subst hw
    rw [he] at HBL HLL HIL
    refine ⟨by rw [HIL.out, if_neg hk, he], ?_⟩
    rw [HBL.out, HLL.out, if_neg hk, if_neg hk]
    exact BPost.refl H.out (Below.refl _ _))
  clear h hI
  go_enter Tryz.func63, Tryz.ntmps63
  go_upto_region 1 with fail
  go_cut [19] (fun x wx => x = .bool (!M) ∧ w = wx)
  case first =>
    have HD1 : Hid (decide (0 ≤ fr ∧ fr < (n : Int)) = decide (0 ≤ fr ∧ fr < (n : Int))) := Lib.hid rfl
    generalize hB1 : decide (0 ≤ fr ∧ fr < (n : Int)) = B1 at *
    generalize hB2 : decide (0 ≤ tt ∧ tt < (n : Int)) = B2 at *
    have HB1 := Lib.hid hB1
    have HB2 := Lib.hid hB2
    clear hB1 hB2 HD1
    go_wp2_with fail
    refine HT1.out.mono ?_
    rintro e wx ⟨rfl, rfl⟩
    cases B1 with
    | false =>
      go_wp2_with fail
      go_meet
      case rel => exact ⟨by rw [HM.out]; rfl, rfl⟩
    | true =>
    go_wp2_with fail
    refine HT2.out.mono ?_
    rintro e wx ⟨rfl, rfl⟩
    cases B2 with
    | false =>
      go_wp2_with fail
      go_meet
      case rel => exact ⟨by rw [HM.out]; rfl, rfl⟩
    | true =>
    by_cases h3 : a < 0
    · have HD3 : Hid (decide (0 ≤ a ∧ a < (m : Int)) = false) := Lib.hid (decide_eq_false (fun h => by omega))
      go_wp2_with fail
      go_meet
      case rel => exact ⟨by rw [HM.out, HD3.out]; rfl, rfl⟩
    go_wp2_with fail
    refine HAS.out.mono ?_
    rintro e wx ⟨rfl, rfl⟩
    by_cases h4 : (m : Int) ≤ a
    · have HD3 : Hid (decide (0 ≤ a ∧ a < (m : Int)) = false) := Lib.hid (decide_eq_false (fun h => by omega))
      go_wp2_with fail
      go_meet
      case rel => exact ⟨by rw [HM.out, HD3.out]; rfl, rfl⟩
    have HD3 : Hid (decide (0 ≤ a ∧ a < (m : Int)) = true) := Lib.hid (decide_eq_true (by omega))
    go_wp2_with fail
    refine (amount_any amt w).mono ?_
    rintro e wx ⟨rfl, rfl⟩
    generalize amtB amt = B5 at *
    cases B5 with
    | false =>
      go_wp2_with fail
      go_meet
      case rel => exact ⟨by rw [HM.out, HD3.out]; rfl, rfl⟩
    | true =>
    cases hB6 : amt == 0
    case true =>
      have HD6 := Lib.hid hB6
      go_wp2_with fail
      go_meet
      case rel => exact ⟨by rw [HM.out, HD3.out, HD6.out]; rfl, rfl⟩
    have HD6 := Lib.hid hB6
    go_wp2_with fail
    refine (tick_any d w).mono ?_
    rintro e wx ⟨rfl, rfl⟩
    generalize tickB d = B7 at *
    cases B7 with
    | false =>
      go_wp2_with fail
      go_meet
      case rel => exact ⟨by rw [HM.out, HD3.out, HD6.out]; rfl, rfl⟩
    | true =>
    go_wp2_with fail
    refine (tick_any ck w).mono ?_
    rintro e wx ⟨rfl, rfl⟩
    generalize tickB ck = B8 at *
    cases B8 with
    | false =>
      go_wp2_with fail
      go_meet
      case rel => exact ⟨by rw [HM.out, HD3.out, HD6.out]; rfl, rfl⟩
    | true =>
      have HD9 : Hid ((decide (a < 0) || decide ((m : Int) ≤ a)) = false) := Lib.hid (by simp; omega)
      go_wp2_with fail
      go_meet
      case rel => exact ⟨by rw [HM.out, HD3.out, HD6.out, HD9.out]; rfl, rfl⟩
  case rest =>
    obtain ⟨rfl, rfl⟩ := hcut
    rename World => w
    cases M with
    | false =>
      have HQ := Lib.hid (HNO.out 1 w (by rw [HE.out]; rfl) (by omega) rfl)
      go_wp2
      go_ret2
      exact HQ.out
    | true =>
    rw [if_pos rfl] at HE
    by_cases hs : s.size = 32
    case neg =>
      have hb : ((s.size : Int) != 32) = true := by simp; omega
      have HQ := Lib.hid (HNO.out 2 w (by rw [HE.out, if_neg hs]) (by omega) rfl)
      clear hs
      go_wp2
      go_ret2
      exact HQ.out
    rw [if_pos hs] at HE
    have hb32 : ((s.size : Int) != 32) = false := by simp; omega
    clear hs
    by_cases hft : fr = tt
    · have hb : (fr == tt) = true := by simp [hft]
      have HQ := Lib.hid (HNO.out 14 w (by rw [HE.out, if_pos hft]) (by omega) rfl)
      clear hft
      go_wp2
      go_ret2
      exact HQ.out
    rw [if_neg hft] at HE
    have hb14 : (fr == tt) = false := by simp [hft]
    clear hft
    by_cases hdc : d ≤ ck
    · have HQ := Lib.hid (HNO.out 11 w (by rw [HE.out, if_pos hdc]) (by omega) rfl)
      go_wp2
      go_ret2
      exact HQ.out
    rw [if_neg hdc] at HE
    have HTN : Hid (takeE n m b fr a amt ≠ 0 → takeN n m b fr a amt = b) := Lib.hid (fun h => by unfold takeN; rw [if_neg h])
    have HFW := Lib.hid HI.out.few
    generalize takeE n m b fr a amt = te at *
    generalize takeN n m b fr a amt = bt at *
    go_wp2_with fail
    refine HTK.out.mono ?_
    rintro e w1 ⟨rfl, hp⟩
    have HP := Lib.hid hp
    have H1 := Lib.hid (H.out.purse hp)
    clear hp c1 hdc hb14 hb32 HTK HT1 HT2 HAS
    by_cases hte : te = 0
    case neg =>
      have hb : (te == 0) = false := by simp [hte]
      have hb' : (te != 0) = true := by simp [hte]
      have HBB := Lib.hid (HTN.out hte)
      have HR : Hid (E = te ∧ I' = 0 ∧ B' = b ∧ L' = l) := Lib.hid (by
        have h : E ≠ 0 := by rw [HE.out]; exact hte
        exact ⟨HE.out, by rw [HIL.out, if_neg h], by rw [HBL.out, if_neg h], by rw [HLL.out, if_neg h]⟩)
      clear hte
      go_wp2
      go_ret2
      rw [HR.out.1, HR.out.2.1, HR.out.2.2.1, HR.out.2.2.2]
      rw [HBB.out] at H1
      exact ⟨rfl, v, H1.out, HP.out.2.mono (fun i _ h => Or.inr (Or.inr h)), fun g hg => Or.inl hg⟩
    have HR : Hid (E = 0 ∧ I' = (l.length : Int) ∧ B' = bt ∧ L' = l ++ [⟨fr, tt, a, amt, d, 0, s, ⟨#[]⟩⟩]) := Lib.hid (by
      have h : E = 0 := by rw [HE.out]; exact hte
      exact ⟨h, by rw [HIL.out, if_pos h], by rw [HBL.out, if_pos h], by rw [HLL.out, if_pos h]⟩)
    subst hte
    have hb0 : ((0 : Int) != 0) = false := rfl
    obtain ⟨ao, c, rfl, _, _⟩ := H1.out.shape
    obtain ⟨_, _, c2, f2⟩ := H1.out.cells
    obtain ⟨ln, hln⟩ : ∃ ln, ln = l.length := ⟨_, rfl⟩
    have HLN : Hid (l.length = ln ∧ ln ≤ 100000) := Lib.hid ⟨hln.symm, by have := HFW.out; omega⟩
    rw [← hln] at c2
    obtain ⟨X, hX⟩ : ∃ X : XR, X = ⟨fr, tt, a, amt, d, 0, s, ⟨#[]⟩⟩ := ⟨_, rfl⟩
    rw [← hX] at HR
    have HX := Lib.hid hX
    have HROW : Hid (w1.ownsRow 0 57 8 (.slice ao ln c) ln (l.flatMap XR.list)) := Lib.hid (by have h := H1.out.row; rw [HLN.out.1] at h; exact h)
    clear hX hln
    obtain ⟨i0, hi0, hz0, hz1, hz2⟩ := info_parts Try_infoX
    have HPA : Hid ((w1.alloc (.cells X.cells 57)).ownsRow 0 57 8 (.slice ao ln c) ln (l.flatMap XR.list)) := Lib.hid (ownsRow_same HROW.out (fun g hg => Below.heap_alloc _ _ _ (by simpa using (HROW.out.lt g hg).2)))
    have HNW : Hid (∀ ad, some (⟨w1.heap.size, 0, none⟩ : Addr) = some ad → ∀ j u, (X.list)[j]? = some u → (w1.alloc (.cells X.cells 57)).cell? (ad.add j) = some u) := Lib.hid (fun ad had => by cases had; exact World.news_of_block (heap_alloc_new _ _))
    have HX1 : Hid (∀ u ∈ X.list, u.oneCell' = true) := Lib.hid (by
      intro u hu
      simp only [XR.list, XR.cells, List.mem_cons, List.not_mem_nil, or_false] at hu
      rcases hu with e | e | e | e | e | e | e | e <;> rw [e] <;> rfl)
    have hk2 : Below w1.heap.size w1 (w1.alloc (.cells X.cells 57)) := (Below.refl _ _).alloc (Nat.le_refl _) _
    have H2 := Lib.hid (H1.out.below hk2)
    rw [HX.out] at HPA HNW H2 hk2
    unfold XR.cells at HPA HNW H2 hk2
    dsimp only at HPA HNW H2 hk2
    have HK2 := Lib.hid hk2
    clear hk2
    go_wp2_with (at_builtin; refine wpList_append_any rfl _ _ 125 rfl 57 i0 _ 8 80 Tryz.underlying125 hi0 hz0 hz1 hz2 rfl (by decide) (.slice ao ln c) ln _ rfl HPA.out (some ⟨w1.heap.size, 0, none⟩) 1 1 X.list rfl ?q1 ?q2 ?q3 ?q4 ?q5 ?q6 ?_)
    case q1 => rfl
    case q2 => intro e; cases e
    case q3 => rw [HX.out]; exact HNW.out
    case q4 => exact HX1.out
    case q5 => have := HLN.out; unfold maxLen; omega
    case q6 => have := HLN.out; omega
    intro ao3 cap3 w3 hown hgrow hat hnn
    generalize (w1.alloc (.cells #[.int .i64 fr, .int .i64 tt, .int .i64 a, .int .i64 amt, .int .i64 d, .int .i64 0, .string s, .string ⟨#[]⟩] 57)) = w2 at *
    have HG3 : Hid (Keeps (fun i => (Value.slice ao ln c).ownBlock = some i) w2 w3) := Lib.hid ((Keeps.refl _ w2).grown hgrow (fun i hi => Or.inl hi))
    have HO3 := Lib.hid hown
    have HA3 : Hid (∀ g, (Value.slice ao3 (ln + 1) cap3).ownBlock = some g → (Value.slice ao ln c).ownBlock = some g ∨ w1.heap.size ≤ g) := Lib.hid (fun g hg => (hat g hg).imp id (fun e => by omega))
    clear hown hgrow hat hnn
    have HBL : Hid (B < w2.heap.size ∧ (∀ g, (Value.slice ao ln c).ownBlock = some g → g ≠ B ∧ ¬ Sp g) ∧ w.heap.size ≤ w1.heap.size ∧ w1.heap.size ≤ w2.heap.size ∧ B < w1.heap.size) := Lib.hid (by
      have hb := H1.out.lt B (Or.inl rfl)
      refine ⟨by have := HK2.out.size; omega, fun g hg => ?_, HP.out.2.size, HK2.out.size, hb⟩
      have hg' : (Value.slice ao l.length c).ownBlock = some g := by rw [HLN.out.1]; exact hg
      exact ⟨H1.out.vB g hg', H1.out.nv g hg'⟩)
    have HBX3 : Hid (w3.heap[B]? = some (.cells #[.pointer (some ⟨tb, 0, none⟩), .pointer (some ⟨q, 0, none⟩), .slice ao ln c] 136 (0, 0))) := Lib.hid (by
      have h := (HG3.out.block B HBL.out.1 (fun e => (HBL.out.2.1 B e).1 rfl)).trans H2.out.box
      rw [HLN.out.1] at h
      exact h)
    have d2 : w3.cell? ⟨B, 2, none⟩ = some (.slice ao ln c) := blk_cell HBX3.out 2
    have g2 : w3.frozen? ⟨B, 2, none⟩ = false := blk_frozen HBX3.out 2
    clear c2 f2
    go_upto_region 13 with fail
    obtain ⟨w4, hw4⟩ : ∃ w4, w4 = w3.setCell ⟨B, 2, none⟩ (.slice ao3 (ln + 1) cap3) := ⟨_, rfl⟩
    rw [← hw4]
    have HBX4 : Hid (w4.heap[B]? = some (.cells #[.pointer (some ⟨tb, 0, none⟩), .pointer (some ⟨q, 0, none⟩), .slice ao3 (ln + 1) cap3] 136 (0, 0))) := Lib.hid (by rw [hw4]; have h := blk_set HBX3.out 2 (.slice ao3 (ln + 1) cap3); simpa using h)
    have HG4 : Hid (Keeps (fun i => i = B) w3 w4) := Lib.hid (by rw [hw4]; exact (Keeps.refl (fun i => i = B) w3).setCell (p := ⟨B, 2, none⟩) (Or.inl rfl) _)
    clear hw4 d2 g2
    have d2 : w4.cell? ⟨B, 2, none⟩ = some (.slice ao3 (ln + 1) cap3) := blk_cell HBX4.out 2
    have HW : Hid (wrap64 (((ln + 1 : Nat) : Int) - 1) = (ln : Int)) := Lib.hid (by have := HLN.out; unfold wrap64; omega)
    have HWL : Hid (wrap64 (ln : Int) = (ln : Int)) := Lib.hid (by have := HLN.out; unfold wrap64; omega)
    have hw : wrap64 (((ln + 1 : Nat) : Int) - 1) = (ln : Int) := HW.out
    go_wp2
    go_ret2
    rw [HR.out.1, HR.out.2.1, HR.out.2.2.1, HR.out.2.2.2]
    refine ⟨?_, .slice ao3 (ln + 1) cap3, ⟨?_, ?_, ?_, H.out.nB, fun g hg hs => ?_⟩, ?_, fun g hg => ?_⟩
    · first | (rw [HLN.out.1]; rfl) | (rw [HLN.out.1, HW.out]; rfl) | (simp [HLN.out.1, HWL.out])
    · exact HBX4.out
    · have h : w3.ownsRow 0 57 8 (.slice ao3 (ln + 1) cap3) (ln + 1) ((l ++ [X]).flatMap XR.list) := by
        rw [List.flatMap_append]
        simp only [List.flatMap_cons, List.flatMap_nil, List.append_nil]
        exact HO3.out
      rw [show (l ++ [X]).length = ln + 1 by rw [List.length_append, HLN.out.1]; rfl]
      refine ownsRow_same h (fun g hg => HG4.out.block g (h.lt g hg).2 ?_)
      rcases HA3.out g hg with e | e
      · exact (HBL.out.2.1 g e).1
      · have := HBL.out; omega
    · refine (H2.out.pu.keep HG3.out (fun k hk e => (HBL.out.2.1 k e).2 hk)).keep HG4.out (fun k hk e => ?_)
      rw [e] at hk
      exact H.out.nB hk
    · rcases HA3.out g hg with e | e
      · exact (HBL.out.2.1 g e).2 hs
      · have h1 := H.out.lt g (Or.inr (Or.inr hs))
        have := HBL.out
        omega
    · have hk1 : Keeps (fpK Sp B (.slice ao l.length c)) w w2 := (HP.out.2.mono (fun i _ h => Or.inr (Or.inr h))).step HK2.out
      exact (hk1.trans HG3.out (fun i hi => Or.inl (Or.inr (Or.inl (by rw [HLN.out.1]; exact hi))))).trans HG4.out (fun i hi => Or.inl (Or.inl hi))
    · rcases HA3.out g hg with e | e
      · exact Or.inl (by rw [HLN.out.1]; exact e)
      · exact Or.inr (by have := HBL.out; omega)
end

end Go.Proofs.YtkaciaehlibidaaGreat
