/- Parts of the proof: Ex3 Ex4 Ex5 Rsum. -/
import Derived.Test.YtkaciaehlibidaaGreatZ01
import Derived.Test.YtkaciaehlibidaaGreatZ07
import Derived.Test.YtkaciaehlibidaaGreatZ08
import Derived.Test.YtkaciaehlibidaaGreatZ09
import Derived.Test.YtkaciaehlibidaaGreatZ14
namespace Go.Proofs.YtkaciaehlibidaaGreat
open Go.RowKit
set_option linter.unusedVariables false
set_option linter.unusedSimpArgs false
section
variable {w w' : World} {Sp : Nat → Prop} {B q n m : Nat} {b : Nat → Nat → Int} {l : List XR} {v : Value} {T : Nat → Int}
theorem mayL_is (n m : Nat) (fr tt a amt d ck : Int) : mayL n m fr tt a amt d ck = (hasB n m fr a && (hasB n m tt a && (amtB amt && (!(amt == 0) && (tickB d && tickB ck))))) := by
 unfold mayL hasB
 rw [Bool.eq_iff_iff]
 simp only [Bool.and_eq_true, decide_eq_true_eq]
 constructor
 · rintro ⟨h1, h2, h3, h4⟩; exact ⟨⟨h1.1, h1.2, h3.1, h3.2⟩, ⟨h2.1, h2.2, h3.1, h3.2⟩, h4⟩
 · rintro ⟨⟨h1, h2, h3, h4⟩, ⟨h5, h6, _, _⟩, h7⟩; exact ⟨⟨h1, h2⟩, ⟨h5, h6⟩, ⟨h3, h4⟩, h7⟩
theorem XK.purse {b' : Nat → Nat → Int} (h : XK w Sp B q n m b l v) (hp : PPost 159 w q Sp n m b' w') : XK w' Sp B q n m b' l v :=
 ⟨(hp.2.block B (blk_lt h.box) h.nB).trans h.box, ownsRow_same h.row (fun g hg => hp.2.block g (h.row.lt g hg).2 (h.nv g hg)), hp.1, h.nB, h.nv⟩
set_option maxRecDepth 100000 in
set_option maxHeartbeats 4000000 in
theorem xbook_lock (h : XK w Sp B q n m b l v) (hI : BInv n m b l T) (fr tt a amt : Int) (s : ByteArray) (d ck : Int) :
 Calls Tryz.prog 88 #[.pointer (some ⟨B, 0, none⟩), .int .i64 fr, .int .i64 tt, .int .i64 a, .int .i64 amt, .string s, .int .i64 d, .int .i64 ck] w fun e w' =>
  e = .returned (.tuple #[.int .i64 (lockI n m b l fr tt a amt s d ck), .int .i64 (lockE n m b fr tt a amt s d ck)]) ∧ XPost w Sp B q n m v (lockB n m b fr tt a amt s d ck) (lockL n m b l fr tt a amt s d ck) w' := by
 have H := Lib.hid h
 have HI := Lib.hid hI
 have HT1 := Lib.hid (ref9_is q n m Sp b w h.pu fr a)
 have HT2 := Lib.hid (ref9_is q n m Sp b w h.pu tt a)
 obtain ⟨c0, c1, _⟩ := h.cells
 have HM : Hid (mayL n m fr tt a amt d ck = (hasB n m fr a && (hasB n m tt a && (amtB amt && (!(amt == 0) && (tickB d && tickB ck)))))) := Lib.hid (mayL_is n m fr tt a amt d ck)
 have HE : Hid (lockE n m b fr tt a amt s d ck = if mayL n m fr tt a amt d ck = true then (if s.size = 32 then (if fr = tt then 14 else if d ≤ ck then 11 else takeE n m b fr a amt) else 2) else 1) := Lib.hid rfl
 have HBL : Hid (lockB n m b fr tt a amt s d ck = if lockE n m b fr tt a amt s d ck = 0 then takeN n m b fr a amt else b) := Lib.hid rfl
 have HLL : Hid (lockL n m b l fr tt a amt s d ck = if lockE n m b fr tt a amt s d ck = 0 then l ++ [⟨fr, tt, a, amt, d, 0, s, ⟨#[]⟩⟩] else l) := Lib.hid rfl
 have HIL : Hid (lockI n m b l fr tt a amt s d ck = if lockE n m b fr tt a amt s d ck = 0 then (l.length : Int) else 0) := Lib.hid rfl
 have HTK := Lib.hid (ref9_take q n m Sp b w h.pu hI.good fr a amt)
 generalize lockE n m b fr tt a amt s d ck = E at *
 generalize lockB n m b fr tt a amt s d ck = B' at *
 generalize lockL n m b l fr tt a amt s d ck = L' at *
 generalize lockI n m b l fr tt a amt s d ck = I' at *
 generalize mayL n m fr tt a amt d ck = M at *
 -- a refusal
 have HNO : Hid (∀ (k : Int) (wx : World), E = k → k ≠ 0 → w = wx → (Ending.returned (.tuple #[.int .i64 0, .int .i64 k]) = Ending.returned (.tuple #[.int .i64 I', .int .i64 E]) ∧ XPost w Sp B q n m v B' L' wx)) := Lib.hid (fun k wx he hk hw => by
  subst hw
  rw [he] at HBL HLL HIL
  refine ⟨by rw [HIL.out, if_neg hk, he], ?_⟩
  rw [HBL.out, HLL.out, if_neg hk, if_neg hk]
  exact XPost.refl H.out (Below.refl _ _))
 clear h hI
 go_enter Tryz.func88, Tryz.ntmps88
 go_upto_region 1 with fail
 go_cut [19] (fun x wx => x = .bool (!M) ∧ w = wx)
 case first =>
  generalize hasB n m fr a = B1 at *
  generalize hasB n m tt a = B2 at *
  go_wp2_with fail
  refine HT1.out.mono ?_
  rintro e wx ⟨rfl, rfl⟩
  cases B1 with
  | false =>
    go_wp2_with fail
    go_meet
    case rel => exact ⟨by rw [HM.out]; rfl, rfl⟩
  | true =>
  go_wp2_with fail
  refine HT2.out.mono ?_
  rintro e wx ⟨rfl, rfl⟩
  cases B2 with
  | false =>
    go_wp2_with fail
    go_meet
    case rel => exact ⟨by rw [HM.out]; rfl, rfl⟩
  | true =>
  go_wp2_with fail
  refine (ramount_any amt w).mono ?_
  rintro e wx ⟨rfl, rfl⟩
  generalize amtB amt = B5 at *
  cases B5 with
  | false =>
    go_wp2_with fail
    go_meet
    case rel => exact ⟨by rw [HM.out]; rfl, rfl⟩
  | true =>
  cases hB6 : amt == 0
  case true =>
   have HD6 := Lib.hid hB6
   go_wp2_with fail
   go_meet
   case rel => exact ⟨by rw [HM.out, HD6.out]; rfl, rfl⟩
  have HD6 := Lib.hid hB6
  go_wp2_with fail
  refine (rtick_any d w).mono ?_
  rintro e wx ⟨rfl, rfl⟩
  generalize tickB d = B7 at *
  cases B7 with
  | false =>
    go_wp2_with fail
    go_meet
    case rel => exact ⟨by rw [HM.out, HD6.out]; rfl, rfl⟩
  | true =>
  go_wp2_with fail
  refine (rtick_any ck w).mono ?_
  rintro e wx ⟨rfl, rfl⟩
  generalize tickB ck = B8 at *
  cases B8 with
  | false =>
    go_wp2_with fail
    go_meet
    case rel => exact ⟨by rw [HM.out, HD6.out]; rfl, rfl⟩
  | true =>
    go_wp2_with fail
    go_meet
    case rel => exact ⟨by rw [HM.out, HD6.out]; rfl, rfl⟩
 case rest =>
  obtain ⟨rfl, rfl⟩ := hcut
  rename World => w
  cases M with
  | false =>
    have HQ := Lib.hid (HNO.out 1 w (by rw [HE.out]; rfl) (by omega) rfl)
    go_wp2
    go_ret2
    exact HQ.out
  | true =>
  rw [if_pos rfl] at HE
  by_cases hs : s.size = 32
  case neg =>
   have hb : ((s.size : Int) != 32) = true := by simp; omega
   have HQ := Lib.hid (HNO.out 2 w (by rw [HE.out, if_neg hs]) (by omega) rfl)
   clear hs
   go_wp2
   go_ret2
   exact HQ.out
  rw [if_pos hs] at HE
  have hb32 : ((s.size : Int) != 32) = false := by simp; omega
  clear hs
  by_cases hft : fr = tt
  · have hb : (fr == tt) = true := by simp [hft]
    have HQ := Lib.hid (HNO.out 14 w (by rw [HE.out, if_pos hft]) (by omega) rfl)
    clear hft
    go_wp2
    go_ret2
    exact HQ.out
  rw [if_neg hft] at HE
  have hb14 : (fr == tt) = false := by simp [hft]
  clear hft
  by_cases hdc : d ≤ ck
  · have HQ := Lib.hid (HNO.out 11 w (by rw [HE.out, if_pos hdc]) (by omega) rfl)
    go_wp2
    go_ret2
    exact HQ.out
  rw [if_neg hdc] at HE
  have HTN : Hid (takeE n m b fr a amt ≠ 0 → takeN n m b fr a amt = b) := Lib.hid (fun h => by unfold takeN; rw [if_neg h])
  have HFW := Lib.hid HI.out.few
  generalize takeE n m b fr a amt = te at *
  generalize takeN n m b fr a amt = bt at *
  go_wp2_with fail
  refine HTK.out.mono ?_
  rintro e w1 ⟨rfl, hp⟩
  have HP := Lib.hid hp
  have H1 := Lib.hid (H.out.purse hp)
  clear hp c0 c1 hdc hb14 hb32 HTK HT1 HT2
  by_cases hte : te = 0
  case neg =>
   have hb : (te == 0) = false := by simp [hte]
   have hb' : (te != 0) = true := by simp [hte]
   have HBB := Lib.hid (HTN.out hte)
   have HR : Hid (E = te ∧ I' = 0 ∧ B' = b ∧ L' = l) := Lib.hid (by
    have h : E ≠ 0 := by rw [HE.out]; exact hte
    exact ⟨HE.out, by rw [HIL.out, if_neg h], by rw [HBL.out, if_neg h], by rw [HLL.out, if_neg h]⟩)
   clear hte
   go_wp2
   go_ret2
   rw [HR.out.1, HR.out.2.1, HR.out.2.2.1, HR.out.2.2.2]
   rw [HBB.out] at H1
   exact ⟨rfl, v, H1.out, HP.out.2.mono (fun i _ h => Or.inr (Or.inr h)), fun g hg => Or.inl hg⟩
  have HR : Hid (E = 0 ∧ I' = (l.length : Int) ∧ B' = bt ∧ L' = l ++ [⟨fr, tt, a, amt, d, 0, s, ⟨#[]⟩⟩]) := Lib.hid (by
   have h : E = 0 := by rw [HE.out]; exact hte
   exact ⟨h, by rw [HIL.out, if_pos h], by rw [HBL.out, if_pos h], by rw [HLL.out, if_pos h]⟩)
  subst hte
  have hb0 : ((0 : Int) != 0) = false := rfl
  obtain ⟨ao, c, rfl, _, _⟩ := H1.out.shape
  obtain ⟨_, c2, f2⟩ := H1.out.cells
  obtain ⟨ln, hln⟩ : ∃ ln, ln = l.length := ⟨_, rfl⟩
  have HLN : Hid (l.length = ln ∧ ln ≤ 100000) := Lib.hid ⟨hln.symm, by have := HFW.out; omega⟩
  rw [← hln] at c2
  obtain ⟨X, hX⟩ : ∃ X : XR, X = ⟨fr, tt, a, amt, d, 0, s, ⟨#[]⟩⟩ := ⟨_, rfl⟩
  rw [← hX] at HR
  have HX := Lib.hid hX
  have HROW : Hid (w1.ownsRow 0 57 8 (.slice ao ln c) ln (l.flatMap XR.list)) := Lib.hid (by have h := H1.out.row; rw [HLN.out.1] at h; exact h)
  clear hX hln
  obtain ⟨i0, hi0, hz0, hz1, hz2⟩ := info_parts Try_infoX
  have HPA : Hid ((w1.alloc (.cells X.cells 57)).ownsRow 0 57 8 (.slice ao ln c) ln (l.flatMap XR.list)) := Lib.hid (ownsRow_same HROW.out (fun g hg => Below.heap_alloc _ _ _ (by simpa using (HROW.out.lt g hg).2)))
  have HNW : Hid (∀ ad, some (⟨w1.heap.size, 0, none⟩ : Addr) = some ad → ∀ j u, (X.list)[j]? = some u → (w1.alloc (.cells X.cells 57)).cell? (ad.add j) = some u) := Lib.hid (fun ad had => by cases had; exact World.news_of_block (heap_alloc_new _ _))
  have HX1 : Hid (∀ u ∈ X.list, u.oneCell' = true) := Lib.hid (by
   intro u hu
   simp only [XR.list, XR.cells, List.mem_cons, List.not_mem_nil, or_false] at hu
   rcases hu with e | e | e | e | e | e | e | e <;> rw [e] <;> rfl)
  have hk2 : Below w1.heap.size w1 (w1.alloc (.cells X.cells 57)) := (Below.refl _ _).alloc (Nat.le_refl _) _
  have H2 := Lib.hid (H1.out.below hk2)
  rw [HX.out] at HPA HNW H2 hk2
  unfold XR.cells at HPA HNW H2 hk2
  dsimp only at HPA HNW H2 hk2
  have HK2 := Lib.hid hk2
  clear hk2
  go_wp2_with (at_builtin; refine wpList_append_any rfl _ _ 125 rfl 57 i0 _ 8 80 Tryz.underlying125 hi0 hz0 hz1 hz2 rfl (by decide) (.slice ao ln c) ln _ rfl HPA.out (some ⟨w1.heap.size, 0, none⟩) 1 1 X.list rfl ?q1 ?q2 ?q3 ?q4 ?q5 ?q6 ?_)
  case q1 => rfl
  case q2 => intro e; cases e
  case q3 => rw [HX.out]; exact HNW.out
  case q4 => exact HX1.out
  case q5 => have := HLN.out; unfold maxLen; omega
  case q6 => have := HLN.out; omega
  intro ao3 cap3 w3 hown hgrow hat hnn
  generalize (w1.alloc (.cells #[.int .i64 fr, .int .i64 tt, .int .i64 a, .int .i64 amt, .int .i64 d, .int .i64 0, .string s, .string ⟨#[]⟩] 57)) = w2 at *
  have HG3 : Hid (Keeps (fun i => (Value.slice ao ln c).ownBlock = some i) w2 w3) := Lib.hid ((Keeps.refl _ w2).grown hgrow (fun i hi => Or.inl hi))
  have HO3 := Lib.hid hown
  have HA3 : Hid (∀ g, (Value.slice ao3 (ln + 1) cap3).ownBlock = some g → (Value.slice ao ln c).ownBlock = some g ∨ w1.heap.size ≤ g) := Lib.hid (fun g hg => (hat g hg).imp id (fun e => by omega))
  clear hown hgrow hat hnn
  have HBL : Hid (B < w2.heap.size ∧ (∀ g, (Value.slice ao ln c).ownBlock = some g → g ≠ B ∧ ¬ Sp g) ∧ w.heap.size ≤ w1.heap.size ∧ w1.heap.size ≤ w2.heap.size ∧ B < w1.heap.size) := Lib.hid (by
   have hb := H1.out.lt B (Or.inl rfl)
   refine ⟨by have := HK2.out.size; omega, fun g hg => ?_, HP.out.2.size, HK2.out.size, hb⟩
   have hg' : (Value.slice ao l.length c).ownBlock = some g := by rw [HLN.out.1]; exact hg
   exact ⟨H1.out.vB g hg', H1.out.nv g hg'⟩)
  have HBX3 : Hid (w3.heap[B]? = some (.cells #[.pointer (some ⟨q, 0, none⟩), .slice ao ln c] 127 (0, 0))) := Lib.hid (by
   have h := (HG3.out.block B HBL.out.1 (fun e => (HBL.out.2.1 B e).1 rfl)).trans H2.out.box
   rw [HLN.out.1] at h
   exact h)
  have d2 : w3.cell? ⟨B, 1, none⟩ = some (.slice ao ln c) := blk_cell HBX3.out 1
  have g2 : w3.frozen? ⟨B, 1, none⟩ = false := blk_frozen HBX3.out 1
  clear c2 f2
  go_upto_region 13 with fail
  obtain ⟨w4, hw4⟩ : ∃ w4, w4 = w3.setCell ⟨B, 1, none⟩ (.slice ao3 (ln + 1) cap3) := ⟨_, rfl⟩
  rw [← hw4]
  have HBX4 : Hid (w4.heap[B]? = some (.cells #[.pointer (some ⟨q, 0, none⟩), .slice ao3 (ln + 1) cap3] 127 (0, 0))) := Lib.hid (by rw [hw4]; have h := blk_set HBX3.out 1 (.slice ao3 (ln + 1) cap3); simpa using h)
  have HG4 : Hid (Keeps (fun i => i = B) w3 w4) := Lib.hid (by rw [hw4]; exact (Keeps.refl (fun i => i = B) w3).setCell (p := ⟨B, 1, none⟩) (Or.inl rfl) _)
  clear hw4 d2 g2
  have d2 : w4.cell? ⟨B, 1, none⟩ = some (.slice ao3 (ln + 1) cap3) := blk_cell HBX4.out 1
  have HW : Hid (wrap64 (((ln + 1 : Nat) : Int) - 1) = (ln : Int)) := Lib.hid (by have := HLN.out; unfold wrap64; omega)
  have HWL : Hid (wrap64 (ln : Int) = (ln : Int)) := Lib.hid (by have := HLN.out; unfold wrap64; omega)
  have hw : wrap64 (((ln + 1 : Nat) : Int) - 1) = (ln : Int) := HW.out
  go_wp2
  go_ret2
  rw [HR.out.1, HR.out.2.1, HR.out.2.2.1, HR.out.2.2.2]
  refine ⟨?_, .slice ao3 (ln + 1) cap3, ⟨?_, ?_, ?_, H.out.nB, fun g hg hs => ?_⟩, ?_, fun g hg => ?_⟩
  · first | (rw [HLN.out.1]; rfl) | (rw [HLN.out.1, HW.out]; rfl) | (simp [HLN.out.1, HWL.out])
  · exact HBX4.out
  · have h : w3.ownsRow 0 57 8 (.slice ao3 (ln + 1) cap3) (ln + 1) ((l ++ [X]).flatMap XR.list) := by
     rw [List.flatMap_append]
     simp only [List.flatMap_cons, List.flatMap_nil, List.append_nil]
     exact HO3.out
    rw [show (l ++ [X]).length = ln + 1 by rw [List.length_append, HLN.out.1]; rfl]
    refine ownsRow_same h (fun g hg => HG4.out.block g (h.lt g hg).2 ?_)
    rcases HA3.out g hg with e | e
    · exact (HBL.out.2.1 g e).1
    · have := HBL.out; omega
  · refine (H2.out.pu.keep HG3.out (fun k hk e => (HBL.out.2.1 k e).2 hk)).keep HG4.out (fun k hk e => ?_)
    rw [e] at hk
    exact H.out.nB hk
  · rcases HA3.out g hg with e | e
    · exact (HBL.out.2.1 g e).2 hs
    · have h1 := H.out.lt g (Or.inr (Or.inr hs))
      have := HBL.out
      omega
  · have hk1 : Keeps (fpX Sp B (.slice ao l.length c)) w w2 := (HP.out.2.mono (fun i _ h => Or.inr (Or.inr h))).step HK2.out
    exact (hk1.trans HG3.out (fun i hi => Or.inl (Or.inr (Or.inl (by rw [HLN.out.1]; exact hi))))).trans HG4.out (fun i hi => Or.inl (Or.inl hi))
  · rcases HA3.out g hg with e | e
    · exact Or.inl (by rw [HLN.out.1]; exact e)
    · exact Or.inr (by have := HBL.out; omega)
end
theorem flatX_set1 (st : Int) : ∀ (l : List XR) (k : Nat) (h : k < l.length), (l.flatMap XR.list).set (k * 8 + 5) (.int .i64 st) = (l.set k (l[k].close st l[k].x)).flatMap XR.list
 | [], k, h => by simp at h
 | x :: l, 0, _ => by simp [XR.list, XR.cells, XR.close]
 | x :: l, k + 1, h => by
   have ih := flatX_set1 st l k (by simpa using h)
   simp only [List.getElem_cons_succ, List.set_cons_succ, List.flatMap_cons]
   rw [← ih]
   have e1 : (k + 1) * 8 + 5 = 8 + (k * 8 + 5) := by omega
   have hl : x.list.length = 8 := rfl
   rw [e1, List.set_append_right _ _ (by omega), hl]
   simp
section
variable {w w' : World} {Sp : Nat → Prop} {B q n m : Nat} {b : Nat → Nat → Int} {l : List XR} {v : Value} {T : Nat → Int}
theorem XK.close {g c k : Nat} (h : XK w Sp B q n m b l (.slice (some ⟨g, 0, none⟩) l.length c)) (hk : k < l.length) (st : Int) (sec : ByteArray) :
 XK ((w.setCell ⟨g, k * 8 + 5, none⟩ (.int .i64 st)).setCell ⟨g, k * 8 + 7, none⟩ (.string sec)) Sp B q n m b (l.set k (l[k].close st sec)) (.slice (some ⟨g, 0, none⟩) l.length c) := by
 have hK : Keeps (fun i => i = g) w ((w.setCell ⟨g, k * 8 + 5, none⟩ (.int .i64 st)).setCell ⟨g, k * 8 + 7, none⟩ (.string sec)) := ((Keeps.refl (fun i => i = g) w).setCell (p := ⟨g, k * 8 + 5, none⟩) (Or.inl rfl) _).setCell (p := ⟨g, k * 8 + 7, none⟩) (Or.inl rfl) _
 refine ⟨(hK.block B (blk_lt h.box) (fun e => h.vB g rfl e.symm)).trans h.box, ?_, h.pu.keep hK (fun i hi e => h.nv g rfl (e ▸ hi)), h.nB, h.nv⟩
 rw [← flatX_set st sec l k hk]
 refine ⟨by simpa using h.row.1, ?_⟩
 rcases h.row.2 with ⟨hv, _⟩ | ⟨g', cap', cur, hv, hb, hh, hnc, hm, hs, ht⟩
 · cases hv
 · simp only [Value.slice.injEq, Option.some.injEq, Addr.mk.injEq] at hv
   obtain ⟨⟨rfl, _⟩, _, rfl⟩ := hv
   rw [List.length_set]
   refine Or.inr ⟨g, c, (cur.setIfInBounds (k * 8 + 5) (.int .i64 st)).setIfInBounds (k * 8 + 7) (.string sec), rfl, hb, blk_set (blk_set hh _ _) _ _, hnc, hm, by simpa using hs, ?_⟩
   rw [Array.toList_setIfInBounds, Array.toList_setIfInBounds, List.take_set, List.take_set, ht]
theorem XK.close1 {g c k : Nat} (h : XK w Sp B q n m b l (.slice (some ⟨g, 0, none⟩) l.length c)) (hk : k < l.length) (st : Int) :
 XK (w.setCell ⟨g, k * 8 + 5, none⟩ (.int .i64 st)) Sp B q n m b (l.set k (l[k].close st l[k].x)) (.slice (some ⟨g, 0, none⟩) l.length c) := by
 have hK : Keeps (fun i => i = g) w (w.setCell ⟨g, k * 8 + 5, none⟩ (.int .i64 st)) := (Keeps.refl (fun i => i = g) w).setCell (p := ⟨g, k * 8 + 5, none⟩) (Or.inl rfl) _
 refine ⟨(hK.block B (blk_lt h.box) (fun e => h.vB g rfl e.symm)).trans h.box, ?_, h.pu.keep hK (fun i hi e => h.nv g rfl (e ▸ hi)), h.nB, h.nv⟩
 rw [← flatX_set1 st l k hk]
 refine ⟨by simpa using h.row.1, ?_⟩
 rcases h.row.2 with ⟨hv, _⟩ | ⟨g', cap', cur, hv, hb, hh, hnc, hm, hs, ht⟩
 · cases hv
 · simp only [Value.slice.injEq, Option.some.injEq, Addr.mk.injEq] at hv
   obtain ⟨⟨rfl, _⟩, _, rfl⟩ := hv
   rw [List.length_set]
   refine Or.inr ⟨g, c, cur.setIfInBounds (k * 8 + 5) (.int .i64 st), rfl, hb, blk_set hh _ _, hnc, hm, by simpa using hs, ?_⟩
   rw [Array.toList_setIfInBounds, List.take_set, ht]
theorem PAt.drew {T : TypeId} {w : World} {p n m : Nat} {S : Nat → Prop} {b : Nat → Nat → Int} (h : PAt T w p S n m b) : PAt T w.drew p S n m b := h.keep ((Keeps.refl (fun _ => False) w).drew) (fun _ _ h => h)
theorem XK.drew (h : XK w Sp B q n m b l v) : XK w.drew Sp B q n m b l v := h.keep ((Keeps.refl (fun _ => False) w).drew) (fun _ _ h => h)
set_option maxRecDepth 100000 in
set_option maxHeartbeats 4000000 in
theorem xbook_claim (h : XK w Sp B q n m b l v) (hI : BInv n m b l T) (who id : Int) (sec : ByteArray) (ck : Int) :
 Calls Tryz.prog 89 #[.pointer (some ⟨B, 0, none⟩), .int .i64 who, .int .i64 id, .string sec, .int .i64 ck] w fun e w' =>
  e = .returned (.int .i64 (claimE n m b l who id sec ck)) ∧ XPost w Sp B q n m v (claimB n m b l who id sec ck) (claimL n m b l who id sec ck) w' := by
 have H := Lib.hid h
 have HG := Lib.hid hI.good
 have HE : Hid (claimE n m b l who id sec ck = if idB l id = true then (if who = (atX l id).t then (if (atX l id).s = 0 then (if tickB ck = true ∧ ck < (atX l id).d then (if sec.size = 32 then (if shaS sec = (atX l id).h then giveE n m b (atX l id).t (atX l id).a (atX l id).n else 10) else 2) else 11) else 9) else 14) else 8) := Lib.hid rfl
 have HBL : Hid (claimB n m b l who id sec ck = if claimE n m b l who id sec ck = 0 then giveN n m b (atX l id).t (atX l id).a (atX l id).n else b) := Lib.hid rfl
 have HLL : Hid (claimL n m b l who id sec ck = if claimE n m b l who id sec ck = 0 then l.set id.toNat ((atX l id).close 1 sec) else l) := Lib.hid rfl
 generalize claimE n m b l who id sec ck = E at *
 generalize claimB n m b l who id sec ck = B' at *
 generalize claimL n m b l who id sec ck = L' at *
 have HNO : Hid (∀ (k : Int) (wx : World), E = k → k ≠ 0 → Below w.heap.size w wx → (Ending.returned (.int .i64 k) = Ending.returned (.int .i64 E) ∧ XPost w Sp B q n m v B' L' wx)) := Lib.hid (fun k wx he hk hw => by
  rw [he] at HBL HLL
  refine ⟨by rw [he], ?_⟩
  rw [HBL.out, HLL.out, if_neg hk, if_neg hk]
  exact XPost.refl H.out hw)
 obtain ⟨ao, c, rfl, _, _⟩ := h.shape
 obtain ⟨c0, c1, _⟩ := h.cells
 clear h hI
 by_cases hx0 : id < 0
 · have hi : ¬ idB l id = true := fun h => by unfold idB at h; rw [decide_eq_true_eq] at h; omega
   have HQ := Lib.hid (HNO.out 8 w (by rw [HE.out, if_neg hi]) (by omega) (Below.refl _ _))
   clear hi
   go_enter Tryz.func89, Tryz.ntmps89
   go_wp2
   go_ret
   exact HQ.out
 by_cases hx1 : (l.length : Int) ≤ id
 · have hi : ¬ idB l id = true := fun h => by unfold idB at h; rw [decide_eq_true_eq] at h; omega
   have HQ := Lib.hid (HNO.out 8 w (by rw [HE.out, if_neg hi]) (by omega) (Below.refl _ _))
   clear hi
   go_enter Tryz.func89, Tryz.ntmps89
   go_wp2
   go_ret
   exact HQ.out
 have hid : idB l id = true := by unfold idB; exact decide_eq_true ⟨by omega, by omega⟩
 rw [if_pos hid] at HE
 obtain ⟨k, rfl, hk⟩ := idB_at hid
 rw [atX_at hk] at HE HBL HLL
 rw [Int.toNat_natCast] at HLL
 obtain ⟨g, rfl, hc, _⟩ := H.out.esc k hk
 have HGV := Lib.hid (fun (wx : World) (hx : PAt 159 wx q Sp n m b) => ref9_give q n m Sp b wx hx HG.out l[k].t l[k].a l[k].n)
 have HGN : Hid (giveE n m b l[k].t l[k].a l[k].n ≠ 0 → giveN n m b l[k].t l[k].a l[k].n = b) := Lib.hid (fun h => by
  unfold giveE at h; unfold giveN
  split at h
  · exact absurd rfl h
  · rename_i hh; rw [if_neg hh])
 have HCZ := Lib.hid (fun (wx : World) (b' : Nat → Nat → Int) (hx : XK wx Sp B q n m b' l (.slice (some ⟨g, 0, none⟩) l.length c)) => hx.close hk 1 sec)
 have hkl : (k : Int) < (l.length : Int) := by omega
 have HKL := Lib.hid hk
 have hk0 : (0 : Int) ≤ (k : Int) := by omega
 clear hid hx0 hx1
 generalize l[k].close 1 sec = X2 at *
 generalize l[k] = x at *
 have e0 := hc 0 (by omega)
 have e1 := hc 1 (by omega)
 have e2 := hc 2 (by omega)
 have e3 := hc 3 (by omega)
 have e4 := hc 4 (by omega)
 have e5 := hc 5 (by omega)
 have e6 := hc 6 (by omega)
 have e7 := hc 7 (by omega)
 simp only [XR.cells, lq, Nat.add_zero] at e0 e1 e2 e3 e4 e5 e6 e7
 clear hc
 obtain ⟨w1, hw1⟩ : ∃ w1, w1 = w.alloc (.cells x.cells 57) := ⟨_, rfl⟩
 have HB1 : Hid (Below w.heap.size w w1) := Lib.hid (by rw [hw1]; exact (Below.refl _ _).alloc (Nat.le_refl _) _)
 obtain ⟨V, hV⟩ : ∃ V, V = w.heap.size := ⟨_, rfl⟩
 have HX1 : Hid (w1.heap[V]? = some (.cells x.cells 57 (0, 0))) := Lib.hid (by rw [hw1, hV]; exact heap_alloc_new _ _)
 have HV := Lib.hid hV
 have HW1 := Lib.hid hw1
 unfold XR.cells at HW1
 clear hw1 hV
 go_enter Tryz.func89, Tryz.ntmps89
 go_upto_region 4 with fail
 rw [← HW1.out, ← HV.out]
 clear e0 e1 e2 e3 e4 e5 e6 e7
 obtain ⟨q0, q1, q2, q3, q4, q5, q6, q7⟩ := X_cells HX1.out
 have HQ1 := Lib.hid (fun (k : Int) (h : E = k) (h2 : k ≠ 0) => HNO.out k w1 h h2 HB1.out)
 clear HW1
 by_cases hw : who = x.t
 case neg =>
  have hb : (x.t != who) = true := by simp; exact fun e => hw e.symm
  have HQ := Lib.hid (HQ1.out 14 (by rw [HE.out, if_neg hw]) (by omega))
  clear hw
  go_wp2
  go_ret
  exact HQ.out
 rw [if_pos hw] at HE
 have hbw : (x.t != who) = false := by simp [hw]
 clear hw
 by_cases hst : x.s = 0
 case neg =>
  have hb : (x.s != 0) = true := by simp [hst]
  have HQ := Lib.hid (HQ1.out 9 (by rw [HE.out, if_neg hst]) (by omega))
  clear hst
  go_wp2
  go_ret
  exact HQ.out
 rw [if_pos hst] at HE
 have hbs : (x.s != 0) = false := by simp [hst]
 clear hst
 by_cases hdl : x.d ≤ ck
 · have HQ := Lib.hid (HQ1.out 11 (by rw [HE.out, if_neg (fun h => by omega)]) (by omega))
   go_wp2
   go_ret
   exact HQ.out
 go_wp2_with fail
 refine (rtick_any ck w1).mono ?_
 rintro e w2 ⟨rfl, rfl⟩
 cases htk : tickB ck
 case false =>
  have HQ := Lib.hid (HQ1.out 11 (by rw [HE.out, if_neg (fun h => by rw [htk] at h; exact absurd h.1 (by decide))]) (by omega))
  clear htk
  go_wp2
  go_ret
  exact HQ.out
 rw [if_pos ⟨htk, by omega⟩] at HE
 clear htk
 by_cases hsz : sec.size = 32
 case neg =>
  have hb : ((sec.size : Int) != 32) = true := by simp; omega
  have HQ := Lib.hid (HQ1.out 2 (by rw [HE.out, if_neg hsz]) (by omega))
  clear hsz
  go_wp2
  go_ret
  exact HQ.out
 rw [if_pos hsz] at HE
 have hbz : ((sec.size : Int) != 32) = false := by simp; omega
 have HSZ := Lib.hid hsz
 clear hsz
 have kc := fun (w : World) (s : ByteArray) => Lib.run_convert_string_bytes (P := Tryz.prog) w 9 62 5 s Tryz.underlying9 Tryz.underlying62 Tryz.underlying5
 rename World => w1
 go_upto_region 12 with fail
 clear hbz hbs hbw hdl
 refine wp_region_held_drew (S := fun w' => w'.cell? ⟨V, 6, none⟩ = some (.string x.h)) (by kernel_rfl) ?_ (fun hHeld => ?_)
 · exact q6
 refine tk 0 55 ?_
 simp only [lz]
 refine tk 4 59 ?_
 simp only [lz]
 refine tk 5 60 ?_
 simp only [lz]
 refine wpAnyH_ready (rs := [1]) (by kernel_rfl) (by simp) ?_
 refine AllReadyH.cons rfl (fun K hK => ?_) AllReadyH.nil
 go_simp
 have HB2 : Hid (Below w1.heap.size w1 (Lib.bytesWorld w1.drew 5 sec)) := Lib.hid (below_undrew (bytes_below w1.drew 5 sec))
 have HI2 : Hid (IntsAt .u8 (Lib.bytesWorld w1.drew 5 sec) (some ⟨w1.heap.size, 0, none⟩) (strNums sec)) := Lib.hid (bytes_ints w1.drew 5 sec)
 obtain ⟨w2, hw2⟩ : ∃ w2, w2 = Lib.bytesWorld w1.drew 5 sec := ⟨_, rfl⟩
 rw [← hw2] at HB2 HI2
 rw [← hw2]
 clear hw2
 have q62 := (World.cell?_of_block (a := ⟨V, 6, none⟩) (HB2.out.block V (blk_lt HX1.out))).trans q6
 go_wp2_with fail
 refine hK.out _ _ ?_ (fun hHeld => ?_)
 · exact q62
 clear hK K
 try simp only [Act.put, lg]
 try simp only [lz]
 refine wpAnyH_ready (rs := [2]) (by kernel_rfl) (by simp) ?_
 refine AllReadyH.cons rfl (fun K hK => ?_) AllReadyH.nil
 go_simp
 refine (rhash_any (some ⟨w1.heap.size, 0, none⟩) (strNums sec) sec.size _ w2 (strNums_length sec) HI2.out (strNums_in sec) (by have := HSZ.out; omega)).mono ?_
 rintro e w3 ⟨a3, c3, rfl, hr3⟩
 have HB3 := Lib.hid (below_step HB2.out hr3.2.1)
 have q63 := (World.cell?_of_block (a := ⟨V, 6, none⟩) (HB3.out.block V (blk_lt HX1.out))).trans q6
 have hcv := fun (wx : World) (hx : wx = w3 ∨ wx = w3.drew) => conv_u8 (P := Tryz.prog) (w := wx) c3 62 5 9 Tryz.underlying62 Tryz.underlying5 Tryz.underlying9 (show IntsAt .u8 wx a3 (shaF (strNums sec)) by rcases hx with rfl | rfl <;> exact (owns_at hr3.1).2.1) rfl
 have hcv1 := hcv _ (Or.inl rfl)
 have hcv2 := hcv _ (Or.inr rfl)
 have hsS : strOfNums (shaF (strNums sec)) = shaS sec := rfl
 rw [hsS] at hcv1 hcv2
 clear hcv hr3
 dsimp only
 go_wp2_with fail
 refine hK.out _ _ ?_ (fun hHeld => ?_)
 · exact q63
 clear hK K
 try simp only [Act.put, lg]
 try simp only [lz]
 refine wpAnyH_ready (rs := [3]) (by kernel_rfl) (by simp) ?_
 refine AllReadyH.cons rfl (fun K hK => ?_) AllReadyH.nil
 go_simp
 skip
 go_wp2_with fail
 refine hK.out _ _ ?_ (fun hHeld => ?_)
 · exact q63
 clear hK K
 try simp only [Act.put, lg]
 try simp only [lz]
 refine tk 6 61 ?_
 simp only [lz]
 refine tk 7 54 ?_
 simp only [lz]
 refine wpAnyH_done (by kernel_rfl) ?_ _
 clear hcv1 hcv2 hHeld
 rename World => w3
 have HB3w := Lib.hid (below_step HB1.out HB3.out)
 by_cases hh : shaS sec = x.h
 case neg =>
  have hb : ((shaS sec).toList == x.h.toList) = false := by rw [strEq]; simp [hh]
  rw [hb]
  have HQ := Lib.hid (HNO.out 10 w3 (by rw [HE.out, if_neg hh]) (by omega) HB3w.out)
  clear hh
  go_wp2
  go_ret
  exact HQ.out
 rw [if_pos hh] at HE
 have hb : ((shaS sec).toList == x.h.toList) = true := by rw [strEq]; simp [hh]
 rw [hb]
 clear hh q0 q1 q2 q3 q4 q5 q6 q7 q62 q63
 have HX3 : Hid (w3.heap[V]? = some (.cells x.cells 57 (0, 0))) := Lib.hid ((HB3.out.block V (blk_lt HX1.out)).trans HX1.out)
 obtain ⟨q0, q1, q2, q3, q4, q5, q6, q7⟩ := X_cells HX3.out
 have H3 := Lib.hid (H.out.below HB3w.out)
 have c03 := H3.out.cells.1
 clear c0 c1
 generalize giveE n m b x.t x.a x.n = ge at *
 generalize giveN n m b x.t x.a x.n = gb at *
 go_upto_region 14 with fail
 refine wp_region_held_drew (S := fun w' => w'.cell? ⟨B, 0, none⟩ = some (.pointer (some ⟨q, 0, none⟩)) ∧ w'.cell? ⟨V, 1, none⟩ = some (.int .i64 x.t) ∧ w'.cell? ⟨V, 2, none⟩ = some (.int .i64 x.a) ∧ w'.cell? ⟨V, 3, none⟩ = some (.int .i64 x.n)) (by kernel_rfl) ?_ (fun hHeld => ?_)
 · exact ⟨c03, q1, q2, q3⟩
 refine tk 0 62 ?_
 simp only [lz]
 refine tk 1 63 ?_
 simp only [lz]
 refine tk 2 64 ?_
 simp only [lz]
 refine tk 3 65 ?_
 simp only [lz]
 refine tk 4 66 ?_
 simp only [lz]
 refine tk 5 67 ?_
 simp only [lz]
 refine tk 6 68 ?_
 simp only [lz]
 refine tk 7 69 ?_
 simp only [lz]
 refine tk 8 70 ?_
 simp only [lz]
 refine tk 9 71 ?_
 simp only [lz]
 refine wpAnyH_ready (rs := [10]) (by kernel_rfl) (by simp) ?_
 refine AllReadyH.cons rfl (fun K hK => ?_) AllReadyH.nil
 go_simp
 refine (HGV.out w3.drew H3.out.pu.drew).mono ?_
 rintro e w4 ⟨rfl, hp⟩
 have HP := Lib.hid hp
 have H4 := Lib.hid (H3.out.drew.purse hp)
 have c04 := H4.out.cells.1
 have hvb : w4.heap[V]? = w3.heap[V]? := hp.2.block V (by simpa using blk_lt HX3.out) (fun hs => by have := H.out.lt V (Or.inr (Or.inr hs)); have := HV.out; omega)
 have p1 := (World.cell?_of_block (a := ⟨V, 1, none⟩) hvb).trans q1
 have p2 := (World.cell?_of_block (a := ⟨V, 2, none⟩) hvb).trans q2
 have p3 := (World.cell?_of_block (a := ⟨V, 3, none⟩) hvb).trans q3
 clear hp hvb
 dsimp only
 go_wp2_with fail
 refine hK.out _ _ ?_ (fun hHeld => ?_)
 · exact ⟨c04, p1, p2, p3⟩
 clear hK K
 try simp only [Act.put, lg]
 try simp only [lz]
 refine tk 11 12 ?_
 simp only [lz]
 refine wpAnyH_done (by kernel_rfl) ?_ _
 clear hHeld c03 c04 p1 p2 p3 q0 q1 q2 q3 q4 q5 q6 q7
 have HK4 : Hid (Keeps (fpX Sp B (.slice (some ⟨g, 0, none⟩) l.length c)) w w4) := Lib.hid ((Keeps.of_below HB3w.out).trans (keeps_undrew HP.out.2) (fun i hi => Or.inl (Or.inr (Or.inr hi))))
 by_cases hge : ge = 0
 case neg =>
  have hb : (ge == 0) = false := by simp [hge]
  have hb' : (ge != 0) = true := by simp [hge]
  have HR : Hid (E = ge ∧ B' = b ∧ L' = l ∧ gb = b) := Lib.hid ⟨HE.out, by rw [HBL.out, HE.out, if_neg hge], by rw [HLL.out, HE.out, if_neg hge], HGN.out hge⟩
  clear hge
  go_wp2
  go_ret
  rw [HR.out.1, HR.out.2.1, HR.out.2.2.1]
  rw [HR.out.2.2.2] at H4
  exact ⟨rfl, _, H4.out, HK4.out, fun g hg => Or.inl hg⟩
 have HR : Hid (E = 0 ∧ B' = gb ∧ L' = l.set k X2) := Lib.hid ⟨HE.out.trans hge, by rw [HBL.out, HE.out, if_pos hge], by rw [HLL.out, HE.out, if_pos hge]⟩
 subst hge
 have hb0 : ((0 : Int) != 0) = false := rfl
 have c14 := H4.out.cells.2.1
 obtain ⟨_, hgee, _, hff⟩ := H4.out.esc k HKL.out
 cases hgee
 have r5 := hff (k * 8 + 5)
 have r7 := hff (k * 8 + 7)
 have hBg : B ≠ g := fun e => H4.out.vB g rfl e.symm
 clear hff
 go_upto_region 16 with fail
 refine wp_region_held_drew (S := fun w' => w'.cell? ⟨B, 1, none⟩ = some (.slice (some ⟨g, 0, none⟩) l.length c)) (by kernel_rfl) ?_ (fun hHeld => ?_)
 · exact c14
 refine tk 0 75 ?_
 simp only [lz]
 refine tk 1 76 ?_
 simp only [lz]
 refine tk 2 77 ?_
 simp only [lz]
 refine tk 3 78 ?_
 simp only [lz]
 refine tk 4 79 ?_
 simp only [lz]
 refine tk 5 80 ?_
 simp only [lz]
 refine tk 6 81 ?_
 simp only [lz]
 refine tk 7 82 ?_
 simp only [lz]
 refine tk 8 83 ?_
 simp only [lz]
 refine tk 9 84 ?_
 simp only [lz]
 refine tk 10 85 ?_
 simp only [lz]
 refine tk 11 86 ?_
 simp only [lz]
 refine tk 12 87 ?_
 simp only [lz]
 have fw1 : w4.drew.frozen? ⟨g, k * 8 + 5, none⟩ = false := r5
 refine wpAnyH_ready (rs := [13]) (by kernel_rfl) (by simp) ?_
 refine AllReadyH.cons rfl (fun K hK => ?_) AllReadyH.nil
 go_simp
 go_wp2_with fail
 refine hK.out _ _ ?_ (fun hHeld => ?_)
 · exact (World.cell?_setCell_other _ ⟨g, k * 8 + 5, none⟩ ⟨B, 1, none⟩ _ (by first | (simp; done) | (simp; intro e; exact absurd e hBg))).trans c14
 clear hK K
 try simp only [Act.put, lg]
 try simp only [lz]
 refine tk 14 88 ?_
 simp only [lz]
 refine tk 15 89 ?_
 simp only [lz]
 have fw2 : w4.drew.frozen? ⟨g, k * 8 + 7, none⟩ = false := r7
 refine wpAnyH_ready (rs := [16]) (by kernel_rfl) (by simp) ?_
 refine AllReadyH.cons rfl (fun K hK => ?_) AllReadyH.nil
 go_simp
 go_wp2_with fail
 refine hK.out _ _ ?_ (fun hHeld => ?_)
 · exact (World.cell?_setCell_other _ ⟨g, k * 8 + 7, none⟩ ⟨B, 1, none⟩ _ (by first | (simp; done) | (simp; intro e; exact absurd e hBg))).trans ((World.cell?_setCell_other _ ⟨g, k * 8 + 5, none⟩ ⟨B, 1, none⟩ _ (by first | (simp; done) | (simp; intro e; exact absurd e hBg))).trans c14)
 clear hK K
 try simp only [Act.put, lg]
 try simp only [lz]
 refine wpAnyH_done (by kernel_rfl) ?_ _
 clear hHeld
 go_wp2
 go_ret
 rw [HR.out.1, HR.out.2.1, HR.out.2.2]
 exact ⟨rfl, _, (HCZ.out w4 gb H4.out).drew, ((HK4.out.setCell (p := ⟨g, k * 8 + 5, none⟩) (Or.inl (Or.inr (Or.inl rfl))) _).setCell (p := ⟨g, k * 8 + 7, none⟩) (Or.inl (Or.inr (Or.inl rfl))) _).drew, fun g hg => Or.inl hg⟩
set_option maxRecDepth 100000 in
set_option maxHeartbeats 4000000 in
theorem xbook_refund (h : XK w Sp B q n m b l v) (hI : BInv n m b l T) (hns : ∀ k (hk : k < l.length), l[k].s = 0 → l[k].x = ⟨#[]⟩) (who id : Int) (ck : Int) :
 Calls Tryz.prog 90 #[.pointer (some ⟨B, 0, none⟩), .int .i64 who, .int .i64 id, .int .i64 ck] w fun e w' =>
  e = .returned (.int .i64 (refundE n m b l who id ck)) ∧ XPost w Sp B q n m v (refundB n m b l who id ck) (refundL n m b l who id ck) w' := by
 have H := Lib.hid h
 have HG := Lib.hid hI.good
 have HE : Hid (refundE n m b l who id ck = if idB l id = true then (if who = (atX l id).f then (if (atX l id).s = 0 then (if tickB ck = true ∧ (atX l id).d ≤ ck then giveE n m b (atX l id).f (atX l id).a (atX l id).n else 11) else 9) else 14) else 8) := Lib.hid rfl
 have HBL : Hid (refundB n m b l who id ck = if refundE n m b l who id ck = 0 then giveN n m b (atX l id).f (atX l id).a (atX l id).n else b) := Lib.hid rfl
 have HLL : Hid (refundL n m b l who id ck = if refundE n m b l who id ck = 0 then l.set id.toNat ((atX l id).close 2 ⟨#[]⟩) else l) := Lib.hid rfl
 generalize refundE n m b l who id ck = E at *
 generalize refundB n m b l who id ck = B' at *
 generalize refundL n m b l who id ck = L' at *
 have HNO : Hid (∀ (k : Int) (wx : World), E = k → k ≠ 0 → Below w.heap.size w wx → (Ending.returned (.int .i64 k) = Ending.returned (.int .i64 E) ∧ XPost w Sp B q n m v B' L' wx)) := Lib.hid (fun k wx he hk hw => by
  rw [he] at HBL HLL
  refine ⟨by rw [he], ?_⟩
  rw [HBL.out, HLL.out, if_neg hk, if_neg hk]
  exact XPost.refl H.out hw)
 obtain ⟨ao, c, rfl, _, _⟩ := h.shape
 obtain ⟨c0, c1, _⟩ := h.cells
 have hns := hns
 clear h hI
 by_cases hx0 : id < 0
 · have hi : ¬ idB l id = true := fun h => by unfold idB at h; rw [decide_eq_true_eq] at h; omega
   have HQ := Lib.hid (HNO.out 8 w (by rw [HE.out, if_neg hi]) (by omega) (Below.refl _ _))
   clear hi
   go_enter Tryz.func90, Tryz.ntmps90
   go_wp2
   go_ret
   exact HQ.out
 by_cases hx1 : (l.length : Int) ≤ id
 · have hi : ¬ idB l id = true := fun h => by unfold idB at h; rw [decide_eq_true_eq] at h; omega
   have HQ := Lib.hid (HNO.out 8 w (by rw [HE.out, if_neg hi]) (by omega) (Below.refl _ _))
   clear hi
   go_enter Tryz.func90, Tryz.ntmps90
   go_wp2
   go_ret
   exact HQ.out
 have hid : idB l id = true := by unfold idB; exact decide_eq_true ⟨by omega, by omega⟩
 rw [if_pos hid] at HE
 obtain ⟨k, rfl, hk⟩ := idB_at hid
 rw [atX_at hk] at HE HBL HLL
 rw [Int.toNat_natCast] at HLL
 obtain ⟨g, rfl, hc, _⟩ := H.out.esc k hk
 have HGV := Lib.hid (fun (wx : World) (hx : PAt 159 wx q Sp n m b) => ref9_give q n m Sp b wx hx HG.out l[k].f l[k].a l[k].n)
 have HGN : Hid (giveE n m b l[k].f l[k].a l[k].n ≠ 0 → giveN n m b l[k].f l[k].a l[k].n = b) := Lib.hid (fun h => by
  unfold giveE at h; unfold giveN
  split at h
  · exact absurd rfl h
  · rename_i hh; rw [if_neg hh])
 have HCZ := Lib.hid (fun (wx : World) (b' : Nat → Nat → Int) (hx : XK wx Sp B q n m b' l (.slice (some ⟨g, 0, none⟩) l.length c)) => hx.close1 hk 2)
 have hkl : (k : Int) < (l.length : Int) := by omega
 have HKL := Lib.hid hk
 have hk0 : (0 : Int) ≤ (k : Int) := by omega
 clear hid hx0 hx1
 have HX2 : Hid ((l[k]'hk).s = 0 → (l[k]'hk).close 2 (l[k]'hk).x = (l[k]'hk).close 2 ⟨#[]⟩) := Lib.hid (fun h => by rw [hns k hk h])
 generalize (l[k]'hk).close 2 ⟨#[]⟩ = X2 at *
 generalize (l[k]'hk).close 2 (l[k]'hk).x = X3 at *
 clear hns
 generalize l[k] = x at *
 have e0 := hc 0 (by omega)
 have e1 := hc 1 (by omega)
 have e2 := hc 2 (by omega)
 have e3 := hc 3 (by omega)
 have e4 := hc 4 (by omega)
 have e5 := hc 5 (by omega)
 have e6 := hc 6 (by omega)
 have e7 := hc 7 (by omega)
 simp only [XR.cells, lq, Nat.add_zero] at e0 e1 e2 e3 e4 e5 e6 e7
 clear hc
 obtain ⟨w1, hw1⟩ : ∃ w1, w1 = w.alloc (.cells x.cells 57) := ⟨_, rfl⟩
 have HB1 : Hid (Below w.heap.size w w1) := Lib.hid (by rw [hw1]; exact (Below.refl _ _).alloc (Nat.le_refl _) _)
 obtain ⟨V, hV⟩ : ∃ V, V = w.heap.size := ⟨_, rfl⟩
 have HX1 : Hid (w1.heap[V]? = some (.cells x.cells 57 (0, 0))) := Lib.hid (by rw [hw1, hV]; exact heap_alloc_new _ _)
 have HV := Lib.hid hV
 have HW1 := Lib.hid hw1
 unfold XR.cells at HW1
 clear hw1 hV
 go_enter Tryz.func90, Tryz.ntmps90
 go_upto_region 4 with fail
 rw [← HW1.out, ← HV.out]
 clear e0 e1 e2 e3 e4 e5 e6 e7
 obtain ⟨q0, q1, q2, q3, q4, q5, q6, q7⟩ := X_cells HX1.out
 have HQ1 := Lib.hid (fun (k : Int) (h : E = k) (h2 : k ≠ 0) => HNO.out k w1 h h2 HB1.out)
 clear HW1
 by_cases hw : who = x.f
 case neg =>
  have hb : (x.f != who) = true := by simp; exact fun e => hw e.symm
  have HQ := Lib.hid (HQ1.out 14 (by rw [HE.out, if_neg hw]) (by omega))
  clear hw
  go_wp2
  go_ret
  exact HQ.out
 rw [if_pos hw] at HE
 have hbw : (x.f != who) = false := by simp [hw]
 clear hw
 by_cases hst : x.s = 0
 case neg =>
  have hb : (x.s != 0) = true := by simp [hst]
  have HQ := Lib.hid (HQ1.out 9 (by rw [HE.out, if_neg hst]) (by omega))
  clear hst
  go_wp2
  go_ret
  exact HQ.out
 rw [if_pos hst] at HE
 have hbs : (x.s != 0) = false := by simp [hst]
 have HXE := Lib.hid (HX2.out hst)
 clear hst
 by_cases hdl : ck < x.d
 · have HQ := Lib.hid (HQ1.out 11 (by rw [HE.out, if_neg (fun h => by omega)]) (by omega))
   go_wp2
   go_ret
   exact HQ.out
 go_wp2_with fail
 refine (rtick_any ck w1).mono ?_
 rintro e w2 ⟨rfl, rfl⟩
 cases htk : tickB ck
 case false =>
  have HQ := Lib.hid (HQ1.out 11 (by rw [HE.out, if_neg (fun h => by rw [htk] at h; exact absurd h.1 (by decide))]) (by omega))
  clear htk
  go_wp2
  go_ret
  exact HQ.out
 rw [if_pos ⟨htk, by omega⟩] at HE
 clear htk
 rename World => w3
 have HB3w := HB1
 have HX3 := HX1
 have H3 := Lib.hid (H.out.below HB3w.out)
 have c03 := H3.out.cells.1
 clear c0 c1
 generalize giveE n m b x.f x.a x.n = ge at *
 generalize giveN n m b x.f x.a x.n = gb at *
 go_upto_region 10 with fail
 refine wp_region_held_drew (S := fun w' => w'.cell? ⟨B, 0, none⟩ = some (.pointer (some ⟨q, 0, none⟩)) ∧ w'.cell? ⟨V, 0, none⟩ = some (.int .i64 x.f) ∧ w'.cell? ⟨V, 2, none⟩ = some (.int .i64 x.a) ∧ w'.cell? ⟨V, 3, none⟩ = some (.int .i64 x.n)) (by kernel_rfl) ?_ (fun hHeld => ?_)
 · exact ⟨c03, q0, q2, q3⟩
 refine tk 0 48 ?_
 simp only [lz]
 refine tk 1 49 ?_
 simp only [lz]
 refine tk 2 50 ?_
 simp only [lz]
 refine tk 3 51 ?_
 simp only [lz]
 refine tk 4 52 ?_
 simp only [lz]
 refine tk 5 53 ?_
 simp only [lz]
 refine tk 6 54 ?_
 simp only [lz]
 refine tk 7 55 ?_
 simp only [lz]
 refine tk 8 56 ?_
 simp only [lz]
 refine tk 9 57 ?_
 simp only [lz]
 refine wpAnyH_ready (rs := [10]) (by kernel_rfl) (by simp) ?_
 refine AllReadyH.cons rfl (fun K hK => ?_) AllReadyH.nil
 go_simp
 refine (HGV.out w3.drew H3.out.pu.drew).mono ?_
 rintro e w4 ⟨rfl, hp⟩
 have HP := Lib.hid hp
 have H4 := Lib.hid (H3.out.drew.purse hp)
 have c04 := H4.out.cells.1
 have hvb : w4.heap[V]? = w3.heap[V]? := hp.2.block V (by simpa using blk_lt HX3.out) (fun hs => by have := H.out.lt V (Or.inr (Or.inr hs)); have := HV.out; omega)
 have p1 := (World.cell?_of_block (a := ⟨V, 0, none⟩) hvb).trans q0
 have p2 := (World.cell?_of_block (a := ⟨V, 2, none⟩) hvb).trans q2
 have p3 := (World.cell?_of_block (a := ⟨V, 3, none⟩) hvb).trans q3
 clear hp hvb
 dsimp only
 go_wp2_with fail
 refine hK.out _ _ ?_ (fun hHeld => ?_)
 · exact ⟨c04, p1, p2, p3⟩
 clear hK K
 try simp only [Act.put, lg]
 try simp only [lz]
 refine tk 11 10 ?_
 simp only [lz]
 refine wpAnyH_done (by kernel_rfl) ?_ _
 clear hHeld c03 c04 p1 p2 p3 q0 q1 q2 q3 q4 q5 q6 q7
 have HK4 : Hid (Keeps (fpX Sp B (.slice (some ⟨g, 0, none⟩) l.length c)) w w4) := Lib.hid ((Keeps.of_below HB3w.out).trans (keeps_undrew HP.out.2) (fun i hi => Or.inl (Or.inr (Or.inr hi))))
 by_cases hge : ge = 0
 case neg =>
  have hb : (ge == 0) = false := by simp [hge]
  have hb' : (ge != 0) = true := by simp [hge]
  have HR : Hid (E = ge ∧ B' = b ∧ L' = l ∧ gb = b) := Lib.hid ⟨HE.out, by rw [HBL.out, HE.out, if_neg hge], by rw [HLL.out, HE.out, if_neg hge], HGN.out hge⟩
  clear hge
  go_wp2
  go_ret
  rw [HR.out.1, HR.out.2.1, HR.out.2.2.1]
  rw [HR.out.2.2.2] at H4
  exact ⟨rfl, _, H4.out, HK4.out, fun g hg => Or.inl hg⟩
 have HR : Hid (E = 0 ∧ B' = gb ∧ L' = l.set k X3) := Lib.hid ⟨HE.out.trans hge, by rw [HBL.out, HE.out, if_pos hge], by rw [HLL.out, HE.out, if_pos hge, HXE.out]⟩
 subst hge
 have hb0 : ((0 : Int) != 0) = false := rfl
 have c14 := H4.out.cells.2.1
 obtain ⟨_, hgee, _, hff⟩ := H4.out.esc k HKL.out
 cases hgee
 have r5 := hff (k * 8 + 5)
 clear hff
 go_wp2
 go_ret
 rw [HR.out.1, HR.out.2.1, HR.out.2.2]
 exact ⟨rfl, _, HCZ.out w4 gb H4.out, HK4.out.setCell (p := ⟨g, k * 8 + 5, none⟩) (Or.inl (Or.inr (Or.inl rfl))) _, fun g hg => Or.inl hg⟩
end
def XB (S : Nat → Prop) (W w : World) (n m : Nat) (b : Nat → Nat → Int) (l : List XR) (X p : Nat) : Prop :=
 ∃ Sp v, XK w Sp X p n m b l v ∧ Below W.heap.size W w ∧ (∀ i, S i ↔ fpX Sp X v i) ∧ ∀ i, S i → W.heap.size ≤ i
section
variable {S S' : Nat → Prop} {W w w' : World} {n m : Nat} {b b' : Nat → Nat → Int} {l l' : List XR} {T : Nat → Int} {X p : Nat}
theorem XB.new (h : XB S W w n m b l X p) : ∀ i, S i → W.heap.size ≤ i := by obtain ⟨_, _, _, _, _, h⟩ := h; exact h
theorem XB.lt (h : XB S W w n m b l X p) : ∀ i, S i → i < w.heap.size := by
 obtain ⟨Sp, v, h1, _, h3, _⟩ := h
 exact fun i hi => h1.lt i ((h3 i).1 hi)
theorem XB.keep {S2 : Nat → Prop} (h : XB S W w n m b l X p) (hk : Keeps S2 w w') (hs : ∀ i, S2 i → ¬ S i) (hn : ∀ i, S2 i → W.heap.size ≤ i) : XB S W w' n m b l X p := by
 obtain ⟨Sp, v, h1, h2, h3, h4⟩ := h
 exact ⟨Sp, v, h1.keep hk (fun i hi h => hs i h ((h3 i).2 hi)), below_fp h2 hk hn, h3, h4⟩
theorem XB.below (h : XB S W w n m b l X p) (hb : Below w.heap.size w w') : XB S W w' n m b l X p := h.keep (Keeps.of_below (S := fun _ => False) hb) (fun _ h => h.elim) (fun _ h => h.elim)
theorem XB.post {Sp : Nat → Prop} {v : Value} (h1 : XK w Sp X p n m b l v) (h2 : Below W.heap.size W w) (h3 : ∀ i, S i ↔ fpX Sp X v i) (h4 : ∀ i, S i → W.heap.size ≤ i) (hp : XPost w Sp X p n m v b' l' w') :
 ∃ S', XB S' W w' n m b' l' X p ∧ Keeps S w w' ∧ ∀ i, S' i → S i ∨ w.heap.size ≤ i := by
 obtain ⟨v', k1, k2, k3⟩ := hp
 have hk : Keeps S w w' := k2.mono (fun i _ hi => (h3 i).2 hi)
 have hn : ∀ i, fpX Sp X v' i → S i ∨ w.heap.size ≤ i := by
  rintro i (rfl | hi | hi)
  · exact Or.inl ((h3 i).2 (Or.inl rfl))
  · rcases k3 i hi with h | h
    · exact Or.inl ((h3 i).2 (Or.inr (Or.inl h)))
    · exact Or.inr h
  · exact Or.inl ((h3 i).2 (Or.inr (Or.inr hi)))
 refine ⟨fpX Sp X v', ⟨Sp, v', k1, below_fp h2 hk h4, fun i => Iff.rfl, fun i hi => ?_⟩, hk, hn⟩
 rcases hn i hi with h | h
 · exact h4 i h
 · exact Nat.le_trans h2.size h
theorem XB.make {wp w1 : World} (hb : Below W.heap.size W w) (hq : PNew 159 w n m b p wp) (h1 : w1 = wp.alloc (.cells #[.pointer (some ⟨p, 0, none⟩), .slice none 0 0] 127)) :
 ∃ S, XB S W w1 n m b [] wp.heap.size p := by
 have hb1 : Below wp.heap.size wp w1 := by rw [h1]; exact (Below.refl _ _).alloc (Nat.le_refl _) _
 have hx : XK w1 (fun k => w.heap.size ≤ k ∧ k < wp.heap.size) wp.heap.size p n m b [] (.slice none 0 0) :=
  ⟨by rw [h1]; exact heap_alloc_new _ _, World.ownsRow_nil _ _ _ _, hq.1.below hb1, fun h => by omega, fun g hg => by cases hg⟩
 refine ⟨_, _, _, hx, below_step (below_step hb hq.2) hb1, fun i => Iff.rfl, ?_⟩
 have h2 := hq.2.size
 have h3 := hb.size
 rintro i (rfl | hi | hi)
 · omega
 · cases hi
 · exact Nat.le_trans h3 hi.1
end
def NoSec (l : List XR) : Prop := ∀ k (hk : k < l.length), l[k].s = 0 → l[k].x = ⟨#[]⟩
section
variable {n m : Nat} {b : Nat → Nat → Int} {l : List XR}
theorem NoSec.nil : NoSec [] := fun k hk => by simp at hk
theorem NoSec.lock (h : NoSec l) (fr tt a amt : Int) (s : ByteArray) (d ck : Int) : NoSec (lockL n m b l fr tt a amt s d ck) := by
 unfold lockL
 split
 · intro k hk hs
   rw [List.length_append, List.length_singleton] at hk
   by_cases hkn : k < l.length
   · rw [List.getElem_append_left hkn] at hs ⊢; exact h k hkn hs
   · rw [List.getElem_append_right (by omega)]
     simp only [List.getElem_singleton]
 · exact h
theorem NoSec.set (h : NoSec l) (k : Nat) (x : XR) (hx : x.s ≠ 0) : NoSec (l.set k x) := by
 intro i hi hs
 rw [List.length_set] at hi
 by_cases e : k = i
 · subst e; rw [List.getElem_set_self] at hs; exact absurd hs hx
 · rw [List.getElem_set_ne e] at hs ⊢; exact h i hi hs
theorem NoSec.claim (h : NoSec l) (who id : Int) (sec : ByteArray) (ck : Int) : NoSec (claimL n m b l who id sec ck) := by
 unfold claimL
 split
 · exact h.set _ _ (show (1 : Int) ≠ 0 by omega)
 · exact h
theorem NoSec.refund (h : NoSec l) (who id ck : Int) : NoSec (refundL n m b l who id ck) := by
 unfold refundL
 split
 · exact h.set _ _ (show (2 : Int) ≠ 0 by omega)
 · exact h
end
def Twin (P : Nat → Prop) (W w : World) (n m : Nat) (b : Nat → Nat → Int) (l : List XR) (b2 : Nat → Nat → Int) (l2 : List XR) (T : Nat → Int) (B tb q X p : Nat) : Prop :=
 ∃ Sa Sb, EB Sa W w n m b l T B tb q ∧ XB Sb W w n m b2 l2 X p ∧ (∀ i, Sa i → ¬ Sb i) ∧ ∀ i, P i → ¬ Sa i ∧ ¬ Sb i ∧ i < w.heap.size
section
variable {P P' : Nat → Prop} {W w w' : World} {n m : Nat} {b b' b2 : Nat → Nat → Int} {l l' l2 : List XR} {T T2 : Nat → Int} {B tb q X p : Nat}
theorem Twin.grow (h : Twin P W w n m b l b2 l2 T B tb q X p) (hb : Below w.heap.size w w') (hP : ∀ i, P' i → P i ∨ (w.heap.size ≤ i ∧ i < w'.heap.size)) : Twin P' W w' n m b l b2 l2 T B tb q X p := by
 obtain ⟨Sa, Sb, h1, h2, h3, h4⟩ := h
 refine ⟨Sa, Sb, h1.below hb, h2.below hb, h3, fun i hi => ?_⟩
 have hs := hb.size
 rcases hP i hi with h | ⟨h, h'⟩
 · obtain ⟨a1, a2, a3⟩ := h4 i h
   exact ⟨a1, a2, by omega⟩
 · exact ⟨fun hh => by have := h1.lt i hh; omega, fun hh => by have := h2.lt i hh; omega, h'⟩
theorem Twin.below (h : Twin P W w n m b l b2 l2 T B tb q X p) (hb : Below w.heap.size w w') : Twin P W w' n m b l b2 l2 T B tb q X p := h.grow hb (fun i hi => Or.inl hi)
theorem Twin.a {Sa Sb : Nat → Prop} (h1 : EB Sa W w n m b l T B tb q) (h2 : XB Sb W w n m b2 l2 X p) (h3 : ∀ i, Sa i → ¬ Sb i) (h4 : ∀ i, P i → ¬ Sa i ∧ ¬ Sb i ∧ i < w.heap.size) (hp : EPost Sa W w n m b' l' T B tb q w') :
 Twin P W w' n m b' l' b2 l2 T B tb q X p ∧ ∀ i, P i → w'.heap[i]? = w.heap[i]? := by
 obtain ⟨Sc, k1, k2, k3⟩ := hp
 refine ⟨⟨Sc, Sb, k1, h2.keep k2 h3 h1.new, fun i hi hj => ?_, fun i hi => ?_⟩, fun i hi => k2.block i (h4 i hi).2.2 (h4 i hi).1⟩
 · rcases k3 i hi with h | h
   · exact h3 i h hj
   · have := h2.lt i hj; omega
 · obtain ⟨a1, a2, a3⟩ := h4 i hi
   refine ⟨fun hh => ?_, a2, Nat.lt_of_lt_of_le a3 k2.size⟩
   rcases k3 i hh with h | h
   · exact a1 h
   · omega
theorem Twin.lock (h : Twin P W w n m b l b2 l2 T B tb q X p) (hl : l.length < 100000) (fr tt a amt : Int) (s : ByteArray) (d ck : Int) :
 Calls Tryz.prog 63 #[.pointer (some ⟨B, 0, none⟩), .int .i64 fr, .int .i64 tt, .int .i64 a, .int .i64 amt, .string s, .int .i64 d, .int .i64 ck] w fun e w' =>
  e = .returned (.tuple #[.int .i64 (lockI n m b l fr tt a amt s d ck), .int .i64 (lockE n m b fr tt a amt s d ck)]) ∧ Twin P W w' n m (lockB n m b fr tt a amt s d ck) (lockL n m b l fr tt a amt s d ck) b2 l2 T B tb q X p ∧ ∀ i, P i → w'.heap[i]? = w.heap[i]? := by
 obtain ⟨Sa, Sb, h1, h2, h3, h4⟩ := h
 refine (h1.lock hl fr tt a amt s d ck).mono ?_
 rintro e w' ⟨he, hp⟩
 exact ⟨he, Twin.a h1 h2 h3 h4 hp⟩
theorem Twin.claim (h : Twin P W w n m b l b2 l2 T B tb q X p) (who id : Int) (sec : ByteArray) (ck : Int) :
 Calls Tryz.prog 64 #[.pointer (some ⟨B, 0, none⟩), .int .i64 who, .int .i64 id, .string sec, .int .i64 ck] w fun e w' =>
  e = .returned (.int .i64 (claimE n m b l who id sec ck)) ∧ Twin P W w' n m (claimB n m b l who id sec ck) (claimL n m b l who id sec ck) b2 l2 T B tb q X p ∧ ∀ i, P i → w'.heap[i]? = w.heap[i]? := by
 obtain ⟨Sa, Sb, h1, h2, h3, h4⟩ := h
 refine (h1.claim who id sec ck).mono ?_
 rintro e w' ⟨he, hp⟩
 exact ⟨he, Twin.a h1 h2 h3 h4 hp⟩
theorem Twin.refund (h : Twin P W w n m b l b2 l2 T B tb q X p) (who id ck : Int) :
 Calls Tryz.prog 65 #[.pointer (some ⟨B, 0, none⟩), .int .i64 who, .int .i64 id, .int .i64 ck] w fun e w' =>
  e = .returned (.int .i64 (refundE n m b l who id ck)) ∧ Twin P W w' n m (refundB n m b l who id ck) (refundL n m b l who id ck) b2 l2 T B tb q X p ∧ ∀ i, P i → w'.heap[i]? = w.heap[i]? := by
 obtain ⟨Sa, Sb, h1, h2, h3, h4⟩ := h
 refine (h1.refund who id ck).mono ?_
 rintro e w' ⟨he, hp⟩
 exact ⟨he, Twin.a h1 h2 h3 h4 hp⟩
theorem Twin.lt (h : Twin P W w n m b l b2 l2 T B tb q X p) : X < w.heap.size := by
 obtain ⟨_, _, _, ⟨Sp, v, x1, _⟩, _⟩ := h
 exact blk_lt x1.box
end
set_option maxHeartbeats 400000 in
theorem rsum_any (ao : Option Addr) (zs : List Int) (cap : Nat) (w : World) (h : IntsAt .i64 w ao zs) (hm : zs.length ≤ 9223372036854775807) :
 Calls Tryz.prog 80 #[.slice ao zs.length cap] w fun e w' => e = .returned (.tuple #[.int .i64 (sumV zs), .int .i64 (sumE zs)]) ∧ w = w' := by
 go_enter Tryz.func80, Tryz.ntmps80
 go_wp2
 go_loop [4, 5] (fun t i => ∃ k : Nat, k ≤ zs.length ∧ i = .int .i64 k ∧ sumE (zs.take k) = 0 ∧ t = .int .i64 (sumV (zs.take k))) (fun _ i => zs.length - (intOf i).toNat)
 case atStart => exact ⟨0, Nat.zero_le _, rfl, rfl, rfl⟩
 case round =>
  obtain ⟨k, hk, rfl, he, rfl⟩ := hrel
  by_cases hlt : k < zs.length
  · have HS := Lib.hid (sum_go zs k hlt he)
    rcases h with rfl | ⟨b, off, rfl, hc⟩
    · simp at hlt
    have hcell := hc k hlt
    clear hc he
    rcases addE_cases (sumV (zs.take k)) zs[k] with h0 | ⟨h1, hv⟩
    · go_wp2_with (go_at_call 110; refine (radd_any _ _ _).mono ?_; rintro e w' ⟨rfl, rfl⟩)
      go_round
      case rel => exact ⟨k + 1, by omega, by go_num, by rw [HS.out.2, h0], by rw [HS.out.1]⟩
      case measure => simp [intOf]; omega
    · have HT := Lib.hid (sum_stop zs (k + 1) (by rw [HS.out.2, h1]; decide))
      have HV := Lib.hid hv
      have HE := Lib.hid h1
      have h1' : (addE (sumV (zs.take k)) zs[k] != 0) = true := by rw [h1]; rfl
      clear hv h1
      go_wp2_with (go_at_call 110; refine (radd_any _ _ _).mono ?_; rintro e w' ⟨rfl, rfl⟩)
      go_ret2
      exact ⟨ret_two ((HV.out.symm.trans HS.out.1.symm).trans (congrArg Prod.fst HT.out.symm)) (HS.out.2.symm.trans (congrArg Prod.snd HT.out.symm)), rfl⟩
  · have hkk : zs.length ≤ k := by omega
    have HT := Lib.hid (List.take_of_length_le hkk)
    have HE := Lib.hid he
    clear he hlt
    go_wp2
    go_ret2
    exact ⟨ret_two (congrArg sumV HT.out) (HE.out.symm.trans (congrArg sumE HT.out)), rfl⟩
end Go.Proofs.YtkaciaehlibidaaGreat
