/- Parts of the proof: Es3 Es4 Es5 Es6 Pur3. -/
import Derived.Test.YtkaciaehlibidaaGreatZ02
import Derived.Test.YtkaciaehlibidaaGreatZ03
import Derived.Test.YtkaciaehlibidaaGreatZ07
namespace Go.Proofs.YtkaciaehlibidaaGreat
open Go.RowKit
set_option linter.unusedVariables false
set_option linter.unusedSimpArgs false
structure BInv (n m : Nat) (b : Nat → Nat → Int) (l : List XR) (T : Nat → Int) : Prop where
 good : Good n m b
 esc : ∀ x ∈ l, (0 ≤ x.f ∧ x.f < n) ∧ (0 ≤ x.t ∧ x.t < n) ∧ (0 ≤ x.a ∧ x.a < m) ∧ (0 ≤ x.n ∧ x.n ≤ MA)
 sum : ∀ j : Nat, j < m → tot b j n + lockedX l (j : Int) = T j
 max : ∀ j : Nat, j < m → T j ≤ MA
 few : l.length ≤ 100000
theorem openX_succ (l : List XR) (k : Nat) (h : k < l.length) : openX (l.take (k + 1)) = openX (l.take k) + (if l[k].s = 0 then 1 else 0) := by
 unfold openX
 rw [List.take_add_one, List.getElem?_eq_getElem h, List.filter_append, List.length_append]
 congr 1
 show (List.filter _ [l[k]]).length = _
 by_cases hs : l[k].s = 0
 · rw [if_pos hs]; simp [hs]
 · rw [if_neg hs]; simp [hs]
theorem openX_le (l : List XR) (k : Nat) : openX (l.take k) ≤ l.length := by
 unfold openX
 have h1 := List.length_filter_le (fun x : XR => x.s == 0) (l.take k)
 rw [List.length_take] at h1
 omega
theorem lockedX_app (l l' : List XR) (j : Int) : lockedX (l ++ l') j = lockedX l j + lockedX l' j := by
 unfold lockedX
 rw [List.filter_append, List.map_append, List.sum_append]
section
variable {w : World} {Sp : Nat → Prop} {B tb q n m : Nat} {b : Nat → Nat → Int} {l : List XR} {v : Value}
set_option maxRecDepth 100000 in
set_option maxHeartbeats 2000000 in
theorem book_open (h : BK w Sp B tb q n m b l v) (hl : l.length ≤ 100000) :
 Calls Tryz.prog 97 #[.pointer (some ⟨B, 0, none⟩)] w fun e w' => e = .returned (.int .i64 (openX l : Int)) ∧ Below w.heap.size w w' := by
 obtain ⟨ao, c, rfl, _, _⟩ := h.shape
 obtain ⟨_, _, c2, _⟩ := h.cells
 have H := Lib.hid h
 obtain ⟨ln, hln⟩ : ∃ ln, ln = l.length := ⟨_, rfl⟩
 have HL : Hid (l.length = ln ∧ ln ≤ 100000) := Lib.hid ⟨hln.symm, by omega⟩
 rw [← hln] at c2
 clear h hl hln
 go_enter Tryz.func97, Tryz.ntmps97
 go_wp2_with fail
 clear c2
 go_loopw [3, 11] (fun s i wr => ∃ k : Nat, k ≤ ln ∧ i = .int .i64 (k : Int) ∧ s = .int .i64 (openX (l.take k) : Int) ∧ Below w.heap.size w wr) (fun _ i _ => ln - (intOf i).toNat)
 case atStart => exact ⟨0, by omega, rfl, rfl, Below.refl _ _⟩
 case round =>
  obtain ⟨k, hk, rfl, rfl, hb⟩ := hrel
  have HB := Lib.hid hb
  have HK := Lib.hid hk
  clear hb
  by_cases hlt : k < ln
  · have i1 : (k : Int) < (ln : Int) := by omega
    have hkl : k < l.length := by rw [HL.out.1]; exact hlt
    have HKL : Hid (k < ln) := Lib.hid hlt
    have HSU := Lib.hid (openX_succ l k hkl)
    have HOL := Lib.hid (openX_le l k)
    obtain ⟨g, rfl, hc, _⟩ := (H.out.below HB.out).esc k hkl
    generalize l[k] = x at *
    have e0 := hc 0 (by omega)
    have e1 := hc 1 (by omega)
    have e2 := hc 2 (by omega)
    have e3 := hc 3 (by omega)
    have e4 := hc 4 (by omega)
    have e5 := hc 5 (by omega)
    have e6 := hc 6 (by omega)
    have e7 := hc 7 (by omega)
    simp only [XR.cells, lq, Nat.add_zero] at e0 e1 e2 e3 e4 e5 e6 e7
    obtain ⟨w1, hw1⟩ : ∃ w1, w1 = wr.alloc (.cells x.cells 57) := ⟨_, rfl⟩
    have HB1 : Hid (Below w.heap.size w w1) := Lib.hid (by rw [hw1]; exact HB.out.alloc HB.out.size _)
    have HX1 : Hid (w1.heap[wr.heap.size]? = some (.cells x.cells 57 (0, 0))) := Lib.hid (by rw [hw1]; exact heap_alloc_new _ _)
    have HW1 := Lib.hid hw1
    unfold XR.cells at HW1
    obtain ⟨s, hs⟩ : ∃ s, s = openX (l.take k) := ⟨_, rfl⟩
    rw [← hs] at HSU HOL
    rw [← hs]
    clear hc hw1 hs hk hlt
    have HW2 : Hid (wrap64 ((k : Int) + 1) = ((k + 1 : Nat) : Int)) := Lib.hid (by have := HL.out; have := HKL.out; unfold wrap64; omega)
    have HML : Hid (ln - (intOf (.int .i64 ((k + 1 : Nat) : Int))).toNat < ln - (intOf (.int .i64 (k : Int))).toNat) := Lib.hid (by simp only [intOf]; have := HKL.out; omega)
    go_upto_region 5 with fail
    rw [← HW1.out]
    clear e0 e1 e2 e3 e4 e5 e6 e7
    obtain ⟨q0, q1, q2, q3, q4, q5, q6, q7⟩ := X_cells HX1.out
    by_cases hx : x.s = 0
    · have hb : (x.s == (0 : Int)) = true := by simp [hx]
      have HS2 : Hid (openX (l.take (k + 1)) = s + 1) := Lib.hid (by rw [HSU.out, if_pos hx])
      have HW3 : Hid (wrap64 ((s : Int) + 1) = ((s + 1 : Nat) : Int)) := Lib.hid (by have := HL.out; have := HOL.out; unfold wrap64; omega)
      clear hx
      go_wp2
      try rw [HW2.out]
      try rw [HW3.out]
      exact ⟨⟨k + 1, HKL.out, rfl, by rw [HS2.out], HB1.out⟩, HML.out⟩
    · have hb : (x.s == (0 : Int)) = false := by simp [hx]
      have HS2 : Hid (openX (l.take (k + 1)) = s) := Lib.hid (by rw [HSU.out, if_neg hx]; rfl)
      clear hx
      go_wp2
      try rw [HW2.out]
      exact ⟨⟨k + 1, HKL.out, rfl, by rw [HS2.out], HB1.out⟩, HML.out⟩
  · obtain rfl : k = ln := by omega
    have i1 : ¬ (k : Int) < (k : Int) := by omega
    have HT := Lib.hid (show l.take k = l from List.take_of_length_le (by rw [HL.out.1]; exact Nat.le_refl _))
    clear hlt hk
    go_wp2
    go_ret
    rw [HT.out]
    exact ⟨rfl, HB.out⟩
end
theorem Try_infoX : (Tryz.prog.info? 57).map (fun i => (i.zero, i.size, i.bytes)) = some (some (.agg noX.cells), 8, 80) := by kernel_rfl
section
variable {w w' : World} {Sp : Nat → Prop} {B tb q n m : Nat} {b : Nat → Nat → Int} {l : List XR} {v : Value} {T : Nat → Int}
theorem BK.purse {w w' : World} {b' : Nat → Nat → Int} (h : BK w Sp B tb q n m b l v) (hp : PPost 133 w q Sp n m b' w') : BK w' Sp B tb q n m b' l v :=
 ⟨(hp.2.block B (blk_lt h.box) h.nB).trans h.box, ownsRow_same h.row (fun g hg => hp.2.block g (h.row.lt g hg).2 (h.nv g hg)), hp.1, h.nB, h.nv⟩
set_option maxRecDepth 100000 in
set_option maxHeartbeats 4000000 in
theorem book_lock (h : BK w Sp B tb q n m b l v) (hI : BInv n m b l T) (fr tt a amt : Int) (s : ByteArray) (d ck : Int) :
 Calls Tryz.prog 63 #[.pointer (some ⟨B, 0, none⟩), .int .i64 fr, .int .i64 tt, .int .i64 a, .int .i64 amt, .string s, .int .i64 d, .int .i64 ck] w fun e w' =>
  e = .returned (.tuple #[.int .i64 (lockI n m b l fr tt a amt s d ck), .int .i64 (lockE n m b fr tt a amt s d ck)]) ∧ BPost w Sp B tb q n m v (lockB n m b fr tt a amt s d ck) (lockL n m b l fr tt a amt s d ck) w' := by
 have H := Lib.hid h
 have HI := Lib.hid hI
 have HT1 := Lib.hid (book_there h fr)
 have HT2 := Lib.hid (book_there h tt)
 have HAS := Lib.hid (pur_assets q n m Sp b w h.pu)
 obtain ⟨_, c1, _, _⟩ := h.cells
 have HM : Hid (mayL n m fr tt a amt d ck = (decide (0 ≤ fr ∧ fr < n) && (decide (0 ≤ tt ∧ tt < n) && (decide (0 ≤ a ∧ a < m) && (amtB amt && (!(amt == 0) && (tickB d && tickB ck))))))) := Lib.hid rfl
 have HE : Hid (lockE n m b fr tt a amt s d ck = if mayL n m fr tt a amt d ck = true then (if s.size = 32 then (if fr = tt then 14 else if d ≤ ck then 11 else takeE n m b fr a amt) else 2) else 1) := Lib.hid rfl
 have HBL : Hid (lockB n m b fr tt a amt s d ck = if lockE n m b fr tt a amt s d ck = 0 then takeN n m b fr a amt else b) := Lib.hid rfl
 have HLL : Hid (lockL n m b l fr tt a amt s d ck = if lockE n m b fr tt a amt s d ck = 0 then l ++ [⟨fr, tt, a, amt, d, 0, s, ⟨#[]⟩⟩] else l) := Lib.hid rfl
 have HIL : Hid (lockI n m b l fr tt a amt s d ck = if lockE n m b fr tt a amt s d ck = 0 then (l.length : Int) else 0) := Lib.hid rfl
 have HTK := Lib.hid (pur_take q n m Sp b w h.pu hI.good fr a amt)
 generalize lockE n m b fr tt a amt s d ck = E at *
 generalize lockB n m b fr tt a amt s d ck = B' at *
 generalize lockL n m b l fr tt a amt s d ck = L' at *
 generalize lockI n m b l fr tt a amt s d ck = I' at *
 generalize mayL n m fr tt a amt d ck = M at *
 -- a refusal
 have HNO : Hid (∀ (k : Int) (wx : World), E = k → k ≠ 0 → w = wx → (Ending.returned (.tuple #[.int .i64 0, .int .i64 k]) = Ending.returned (.tuple #[.int .i64 I', .int .i64 E]) ∧ BPost w Sp B tb q n m v B' L' wx)) := Lib.hid (fun k wx he hk hw => by
  subst hw
  rw [he] at HBL HLL HIL
  refine ⟨by rw [HIL.out, if_neg hk, he], ?_⟩
  rw [HBL.out, HLL.out, if_neg hk, if_neg hk]
  exact BPost.refl H.out (Below.refl _ _))
 clear h hI
 go_enter Tryz.func63, Tryz.ntmps63
 go_upto_region 1 with fail
 go_cut [19] (fun x wx => x = .bool (!M) ∧ w = wx)
 case first =>
  have HD1 : Hid (decide (0 ≤ fr ∧ fr < (n : Int)) = decide (0 ≤ fr ∧ fr < (n : Int))) := Lib.hid rfl
  generalize hB1 : decide (0 ≤ fr ∧ fr < (n : Int)) = B1 at *
  generalize hB2 : decide (0 ≤ tt ∧ tt < (n : Int)) = B2 at *
  have HB1 := Lib.hid hB1
  have HB2 := Lib.hid hB2
  clear hB1 hB2 HD1
  go_wp2_with fail
  refine HT1.out.mono ?_
  rintro e wx ⟨rfl, rfl⟩
  cases B1 with
  | false =>
    go_wp2_with fail
    go_meet
    case rel => exact ⟨by rw [HM.out]; rfl, rfl⟩
  | true =>
  go_wp2_with fail
  refine HT2.out.mono ?_
  rintro e wx ⟨rfl, rfl⟩
  cases B2 with
  | false =>
    go_wp2_with fail
    go_meet
    case rel => exact ⟨by rw [HM.out]; rfl, rfl⟩
  | true =>
  by_cases h3 : a < 0
  · have HD3 : Hid (decide (0 ≤ a ∧ a < (m : Int)) = false) := Lib.hid (decide_eq_false (fun h => by omega))
    go_wp2_with fail
    go_meet
    case rel => exact ⟨by rw [HM.out, HD3.out]; rfl, rfl⟩
  go_wp2_with fail
  refine HAS.out.mono ?_
  rintro e wx ⟨rfl, rfl⟩
  by_cases h4 : (m : Int) ≤ a
  · have HD3 : Hid (decide (0 ≤ a ∧ a < (m : Int)) = false) := Lib.hid (decide_eq_false (fun h => by omega))
    go_wp2_with fail
    go_meet
    case rel => exact ⟨by rw [HM.out, HD3.out]; rfl, rfl⟩
  have HD3 : Hid (decide (0 ≤ a ∧ a < (m : Int)) = true) := Lib.hid (decide_eq_true (by omega))
  go_wp2_with fail
  refine (amount_any amt w).mono ?_
  rintro e wx ⟨rfl, rfl⟩
  generalize amtB amt = B5 at *
  cases B5 with
  | false =>
    go_wp2_with fail
    go_meet
    case rel => exact ⟨by rw [HM.out, HD3.out]; rfl, rfl⟩
  | true =>
  cases hB6 : amt == 0
  case true =>
   have HD6 := Lib.hid hB6
   go_wp2_with fail
   go_meet
   case rel => exact ⟨by rw [HM.out, HD3.out, HD6.out]; rfl, rfl⟩
  have HD6 := Lib.hid hB6
  go_wp2_with fail
  refine (tick_any d w).mono ?_
  rintro e wx ⟨rfl, rfl⟩
  generalize tickB d = B7 at *
  cases B7 with
  | false =>
    go_wp2_with fail
    go_meet
    case rel => exact ⟨by rw [HM.out, HD3.out, HD6.out]; rfl, rfl⟩
  | true =>
  go_wp2_with fail
  refine (tick_any ck w).mono ?_
  rintro e wx ⟨rfl, rfl⟩
  generalize tickB ck = B8 at *
  cases B8 with
  | false =>
    go_wp2_with fail
    go_meet
    case rel => exact ⟨by rw [HM.out, HD3.out, HD6.out]; rfl, rfl⟩
  | true =>
    have HD9 : Hid ((decide (a < 0) || decide ((m : Int) ≤ a)) = false) := Lib.hid (by simp; omega)
    go_wp2_with fail
    go_meet
    case rel => exact ⟨by rw [HM.out, HD3.out, HD6.out, HD9.out]; rfl, rfl⟩
 case rest =>
  obtain ⟨rfl, rfl⟩ := hcut
  rename World => w
  cases M with
  | false =>
    have HQ := Lib.hid (HNO.out 1 w (by rw [HE.out]; rfl) (by omega) rfl)
    go_wp2
    go_ret2
    exact HQ.out
  | true =>
  rw [if_pos rfl] at HE
  by_cases hs : s.size = 32
  case neg =>
   have hb : ((s.size : Int) != 32) = true := by simp; omega
   have HQ := Lib.hid (HNO.out 2 w (by rw [HE.out, if_neg hs]) (by omega) rfl)
   clear hs
   go_wp2
   go_ret2
   exact HQ.out
  rw [if_pos hs] at HE
  have hb32 : ((s.size : Int) != 32) = false := by simp; omega
  clear hs
  by_cases hft : fr = tt
  · have hb : (fr == tt) = true := by simp [hft]
    have HQ := Lib.hid (HNO.out 14 w (by rw [HE.out, if_pos hft]) (by omega) rfl)
    clear hft
    go_wp2
    go_ret2
    exact HQ.out
  rw [if_neg hft] at HE
  have hb14 : (fr == tt) = false := by simp [hft]
  clear hft
  by_cases hdc : d ≤ ck
  · have HQ := Lib.hid (HNO.out 11 w (by rw [HE.out, if_pos hdc]) (by omega) rfl)
    go_wp2
    go_ret2
    exact HQ.out
  rw [if_neg hdc] at HE
  have HTN : Hid (takeE n m b fr a amt ≠ 0 → takeN n m b fr a amt = b) := Lib.hid (fun h => by unfold takeN; rw [if_neg h])
  have HFW := Lib.hid HI.out.few
  generalize takeE n m b fr a amt = te at *
  generalize takeN n m b fr a amt = bt at *
  go_wp2_with fail
  refine HTK.out.mono ?_
  rintro e w1 ⟨rfl, hp⟩
  have HP := Lib.hid hp
  have H1 := Lib.hid (H.out.purse hp)
  clear hp c1 hdc hb14 hb32 HTK HT1 HT2 HAS
  by_cases hte : te = 0
  case neg =>
   have hb : (te == 0) = false := by simp [hte]
   have hb' : (te != 0) = true := by simp [hte]
   have HBB := Lib.hid (HTN.out hte)
   have HR : Hid (E = te ∧ I' = 0 ∧ B' = b ∧ L' = l) := Lib.hid (by
    have h : E ≠ 0 := by rw [HE.out]; exact hte
    exact ⟨HE.out, by rw [HIL.out, if_neg h], by rw [HBL.out, if_neg h], by rw [HLL.out, if_neg h]⟩)
   clear hte
   go_wp2
   go_ret2
   rw [HR.out.1, HR.out.2.1, HR.out.2.2.1, HR.out.2.2.2]
   rw [HBB.out] at H1
   exact ⟨rfl, v, H1.out, HP.out.2.mono (fun i _ h => Or.inr (Or.inr h)), fun g hg => Or.inl hg⟩
  have HR : Hid (E = 0 ∧ I' = (l.length : Int) ∧ B' = bt ∧ L' = l ++ [⟨fr, tt, a, amt, d, 0, s, ⟨#[]⟩⟩]) := Lib.hid (by
   have h : E = 0 := by rw [HE.out]; exact hte
   exact ⟨h, by rw [HIL.out, if_pos h], by rw [HBL.out, if_pos h], by rw [HLL.out, if_pos h]⟩)
  subst hte
  have hb0 : ((0 : Int) != 0) = false := rfl
  obtain ⟨ao, c, rfl, _, _⟩ := H1.out.shape
  obtain ⟨_, _, c2, f2⟩ := H1.out.cells
  obtain ⟨ln, hln⟩ : ∃ ln, ln = l.length := ⟨_, rfl⟩
  have HLN : Hid (l.length = ln ∧ ln ≤ 100000) := Lib.hid ⟨hln.symm, by have := HFW.out; omega⟩
  rw [← hln] at c2
  obtain ⟨X, hX⟩ : ∃ X : XR, X = ⟨fr, tt, a, amt, d, 0, s, ⟨#[]⟩⟩ := ⟨_, rfl⟩
  rw [← hX] at HR
  have HX := Lib.hid hX
  have HROW : Hid (w1.ownsRow 0 57 8 (.slice ao ln c) ln (l.flatMap XR.list)) := Lib.hid (by have h := H1.out.row; rw [HLN.out.1] at h; exact h)
  clear hX hln
  obtain ⟨i0, hi0, hz0, hz1, hz2⟩ := info_parts Try_infoX
  have HPA : Hid ((w1.alloc (.cells X.cells 57)).ownsRow 0 57 8 (.slice ao ln c) ln (l.flatMap XR.list)) := Lib.hid (ownsRow_same HROW.out (fun g hg => Below.heap_alloc _ _ _ (by simpa using (HROW.out.lt g hg).2)))
  have HNW : Hid (∀ ad, some (⟨w1.heap.size, 0, none⟩ : Addr) = some ad → ∀ j u, (X.list)[j]? = some u → (w1.alloc (.cells X.cells 57)).cell? (ad.add j) = some u) := Lib.hid (fun ad had => by cases had; exact World.news_of_block (heap_alloc_new _ _))
  have HX1 : Hid (∀ u ∈ X.list, u.oneCell' = true) := Lib.hid (by
   intro u hu
   simp only [XR.list, XR.cells, List.mem_cons, List.not_mem_nil, or_false] at hu
   rcases hu with e | e | e | e | e | e | e | e <;> rw [e] <;> rfl)
  have hk2 : Below w1.heap.size w1 (w1.alloc (.cells X.cells 57)) := (Below.refl _ _).alloc (Nat.le_refl _) _
  have H2 := Lib.hid (H1.out.below hk2)
  rw [HX.out] at HPA HNW H2 hk2
  unfold XR.cells at HPA HNW H2 hk2
  dsimp only at HPA HNW H2 hk2
  have HK2 := Lib.hid hk2
  clear hk2
  go_wp2_with (at_builtin; refine wpList_append_any rfl _ _ 125 rfl 57 i0 _ 8 80 Tryz.underlying125 hi0 hz0 hz1 hz2 rfl (by decide) (.slice ao ln c) ln _ rfl HPA.out (some ⟨w1.heap.size, 0, none⟩) 1 1 X.list rfl ?q1 ?q2 ?q3 ?q4 ?q5 ?q6 ?_)
  case q1 => rfl
  case q2 => intro e; cases e
  case q3 => rw [HX.out]; exact HNW.out
  case q4 => exact HX1.out
  case q5 => have := HLN.out; unfold maxLen; omega
  case q6 => have := HLN.out; omega
  intro ao3 cap3 w3 hown hgrow hat hnn
  generalize (w1.alloc (.cells #[.int .i64 fr, .int .i64 tt, .int .i64 a, .int .i64 amt, .int .i64 d, .int .i64 0, .string s, .string ⟨#[]⟩] 57)) = w2 at *
  have HG3 : Hid (Keeps (fun i => (Value.slice ao ln c).ownBlock = some i) w2 w3) := Lib.hid ((Keeps.refl _ w2).grown hgrow (fun i hi => Or.inl hi))
  have HO3 := Lib.hid hown
  have HA3 : Hid (∀ g, (Value.slice ao3 (ln + 1) cap3).ownBlock = some g → (Value.slice ao ln c).ownBlock = some g ∨ w1.heap.size ≤ g) := Lib.hid (fun g hg => (hat g hg).imp id (fun e => by omega))
  clear hown hgrow hat hnn
  have HBL : Hid (B < w2.heap.size ∧ (∀ g, (Value.slice ao ln c).ownBlock = some g → g ≠ B ∧ ¬ Sp g) ∧ w.heap.size ≤ w1.heap.size ∧ w1.heap.size ≤ w2.heap.size ∧ B < w1.heap.size) := Lib.hid (by
   have hb := H1.out.lt B (Or.inl rfl)
   refine ⟨by have := HK2.out.size; omega, fun g hg => ?_, HP.out.2.size, HK2.out.size, hb⟩
   have hg' : (Value.slice ao l.length c).ownBlock = some g := by rw [HLN.out.1]; exact hg
   exact ⟨H1.out.vB g hg', H1.out.nv g hg'⟩)
  have HBX3 : Hid (w3.heap[B]? = some (.cells #[.pointer (some ⟨tb, 0, none⟩), .pointer (some ⟨q, 0, none⟩), .slice ao ln c] 136 (0, 0))) := Lib.hid (by
   have h := (HG3.out.block B HBL.out.1 (fun e => (HBL.out.2.1 B e).1 rfl)).trans H2.out.box
   rw [HLN.out.1] at h
   exact h)
  have d2 : w3.cell? ⟨B, 2, none⟩ = some (.slice ao ln c) := blk_cell HBX3.out 2
  have g2 : w3.frozen? ⟨B, 2, none⟩ = false := blk_frozen HBX3.out 2
  clear c2 f2
  go_upto_region 13 with fail
  obtain ⟨w4, hw4⟩ : ∃ w4, w4 = w3.setCell ⟨B, 2, none⟩ (.slice ao3 (ln + 1) cap3) := ⟨_, rfl⟩
  rw [← hw4]
  have HBX4 : Hid (w4.heap[B]? = some (.cells #[.pointer (some ⟨tb, 0, none⟩), .pointer (some ⟨q, 0, none⟩), .slice ao3 (ln + 1) cap3] 136 (0, 0))) := Lib.hid (by rw [hw4]; have h := blk_set HBX3.out 2 (.slice ao3 (ln + 1) cap3); simpa using h)
  have HG4 : Hid (Keeps (fun i => i = B) w3 w4) := Lib.hid (by rw [hw4]; exact (Keeps.refl (fun i => i = B) w3).setCell (p := ⟨B, 2, none⟩) (Or.inl rfl) _)
  clear hw4 d2 g2
  have d2 : w4.cell? ⟨B, 2, none⟩ = some (.slice ao3 (ln + 1) cap3) := blk_cell HBX4.out 2
  have HW : Hid (wrap64 (((ln + 1 : Nat) : Int) - 1) = (ln : Int)) := Lib.hid (by have := HLN.out; unfold wrap64; omega)
  have HWL : Hid (wrap64 (ln : Int) = (ln : Int)) := Lib.hid (by have := HLN.out; unfold wrap64; omega)
  have hw : wrap64 (((ln + 1 : Nat) : Int) - 1) = (ln : Int) := HW.out
  go_wp2
  go_ret2
  rw [HR.out.1, HR.out.2.1, HR.out.2.2.1, HR.out.2.2.2]
  refine ⟨?_, .slice ao3 (ln + 1) cap3, ⟨?_, ?_, ?_, H.out.nB, fun g hg hs => ?_⟩, ?_, fun g hg => ?_⟩
  · first | (rw [HLN.out.1]; rfl) | (rw [HLN.out.1, HW.out]; rfl) | (simp [HLN.out.1, HWL.out])
  · exact HBX4.out
  · have h : w3.ownsRow 0 57 8 (.slice ao3 (ln + 1) cap3) (ln + 1) ((l ++ [X]).flatMap XR.list) := by
     rw [List.flatMap_append]
     simp only [List.flatMap_cons, List.flatMap_nil, List.append_nil]
     exact HO3.out
    rw [show (l ++ [X]).length = ln + 1 by rw [List.length_append, HLN.out.1]; rfl]
    refine ownsRow_same h (fun g hg => HG4.out.block g (h.lt g hg).2 ?_)
    rcases HA3.out g hg with e | e
    · exact (HBL.out.2.1 g e).1
    · have := HBL.out; omega
  · refine (H2.out.pu.keep HG3.out (fun k hk e => (HBL.out.2.1 k e).2 hk)).keep HG4.out (fun k hk e => ?_)
    rw [e] at hk
    exact H.out.nB hk
  · rcases HA3.out g hg with e | e
    · exact (HBL.out.2.1 g e).2 hs
    · have h1 := H.out.lt g (Or.inr (Or.inr hs))
      have := HBL.out
      omega
  · have hk1 : Keeps (fpK Sp B (.slice ao l.length c)) w w2 := (HP.out.2.mono (fun i _ h => Or.inr (Or.inr h))).step HK2.out
    exact (hk1.trans HG3.out (fun i hi => Or.inl (Or.inr (Or.inl (by rw [HLN.out.1]; exact hi))))).trans HG4.out (fun i hi => Or.inl (Or.inl hi))
  · rcases HA3.out g hg with e | e
    · exact Or.inl (by rw [HLN.out.1]; exact e)
    · exact Or.inr (by have := HBL.out; omega)
end
def closeB (n m : Nat) (b : Nat → Nat → Int) (x : XR) (to' : Int) : Nat → Nat → Int := if giveE n m b to' x.a x.n = 0 then giveN n m b to' x.a x.n else b
def closeL (n m : Nat) (b : Nat → Nat → Int) (l : List XR) (k : Nat) (x : XR) (to' st : Int) (sec : ByteArray) : List XR := if giveE n m b to' x.a x.n = 0 then l.set k (x.close st sec) else l
theorem flatX_set (st : Int) (sec : ByteArray) : ∀ (l : List XR) (k : Nat) (h : k < l.length), ((l.flatMap XR.list).set (k * 8 + 5) (.int .i64 st)).set (k * 8 + 7) (.string sec) = (l.set k (l[k].close st sec)).flatMap XR.list
 | [], k, h => by simp at h
 | x :: l, 0, _ => by simp [XR.list, XR.cells, XR.close]
 | x :: l, k + 1, h => by
   have ih := flatX_set st sec l k (by simpa using h)
   simp only [List.getElem_cons_succ, List.set_cons_succ, List.flatMap_cons]
   rw [← ih]
   have e1 : (k + 1) * 8 + 5 = 8 + (k * 8 + 5) := by omega
   have e2 : (k + 1) * 8 + 7 = 8 + (k * 8 + 7) := by omega
   have hl : x.list.length = 8 := rfl
   rw [e1, e2, List.set_append_right _ _ (by omega), List.set_append_right _ _ (by omega), hl]
   simp
section
variable {w w' : World} {Sp : Nat → Prop} {B tb q n m : Nat} {b : Nat → Nat → Int} {l : List XR} {v : Value} {T : Nat → Int}
theorem BK.close {g c k : Nat} (h : BK w Sp B tb q n m b l (.slice (some ⟨g, 0, none⟩) l.length c)) (hk : k < l.length) (st : Int) (sec : ByteArray) :
 BK ((w.setCell ⟨g, k * 8 + 5, none⟩ (.int .i64 st)).setCell ⟨g, k * 8 + 7, none⟩ (.string sec)) Sp B tb q n m b (l.set k (l[k].close st sec)) (.slice (some ⟨g, 0, none⟩) l.length c) := by
 have hK : Keeps (fun i => i = g) w ((w.setCell ⟨g, k * 8 + 5, none⟩ (.int .i64 st)).setCell ⟨g, k * 8 + 7, none⟩ (.string sec)) := ((Keeps.refl (fun i => i = g) w).setCell (p := ⟨g, k * 8 + 5, none⟩) (Or.inl rfl) _).setCell (p := ⟨g, k * 8 + 7, none⟩) (Or.inl rfl) _
 refine ⟨(hK.block B (blk_lt h.box) (fun e => h.vB g rfl e.symm)).trans h.box, ?_, h.pu.keep hK (fun i hi e => h.nv g rfl (e ▸ hi)), h.nB, h.nv⟩
 rw [← flatX_set st sec l k hk]
 refine ⟨by simpa using h.row.1, ?_⟩
 rcases h.row.2 with ⟨hv, _⟩ | ⟨g', cap', cur, hv, hb, hh, hnc, hm, hs, ht⟩
 · cases hv
 · simp only [Value.slice.injEq, Option.some.injEq, Addr.mk.injEq] at hv
   obtain ⟨⟨rfl, _⟩, _, rfl⟩ := hv
   rw [List.length_set]
   refine Or.inr ⟨g, c, (cur.setIfInBounds (k * 8 + 5) (.int .i64 st)).setIfInBounds (k * 8 + 7) (.string sec), rfl, hb, blk_set (blk_set hh _ _) _ _, hnc, hm, by simpa using hs, ?_⟩
   rw [Array.toList_setIfInBounds, Array.toList_setIfInBounds, List.take_set, List.take_set, ht]
set_option maxRecDepth 100000 in
set_option maxHeartbeats 2000000 in
theorem book_closes {g c k : Nat} (h : BK w Sp B tb q n m b l (.slice (some ⟨g, 0, none⟩) l.length c)) (hg : Good n m b) (hk : k < l.length) (to' st : Int) (sec : ByteArray) :
 Calls Tryz.prog 103 #[.pointer (some ⟨B, 0, none⟩), .pointer (some ⟨g, k * 8, none⟩), .int .i64 to', .int .i64 st, .string sec] w fun e w' =>
  e = .returned (.int .i64 (giveE n m b to' l[k].a l[k].n)) ∧ BPost w Sp B tb q n m (.slice (some ⟨g, 0, none⟩) l.length c) (closeB n m b l[k] to') (closeL n m b l k l[k] to' st sec) w' := by
 have H := Lib.hid h
 have HK := Lib.hid hk
 obtain ⟨_, c1, _, _⟩ := h.cells
 obtain ⟨_, hge, hc, hf⟩ := h.esc k hk
 cases hge
 have e2 := hc 2 (by omega)
 have e3 := hc 3 (by omega)
 simp only [XR.cells, lq] at e2 e3
 have HGV := Lib.hid (pur_give q n m Sp b w.drew (h.pu.keep ((Keeps.refl (fun _ => False) w).drew) (fun _ _ h => h)) hg to' l[k].a l[k].n)
 have HCL := Lib.hid (fun (w' : World) (b' : Nat → Nat → Int) (h' : BK w' Sp B tb q n m b' l (.slice (some ⟨g, 0, none⟩) l.length c)) => (⟨h'.close hk st sec, h'.esc k hk⟩ : BK ((w'.setCell ⟨g, k * 8 + 5, none⟩ (.int .i64 st)).setCell ⟨g, k * 8 + 7, none⟩ (.string sec)) Sp B tb q n m b' (l.set k (l[k].close st sec)) (.slice (some ⟨g, 0, none⟩) l.length c) ∧ _))
 have HGN : Hid (giveE n m b to' l[k].a l[k].n ≠ 0 → giveN n m b to' l[k].a l[k].n = b) := Lib.hid (fun h => by
  unfold giveE at h; unfold giveN
  split at h
  · exact absurd rfl h
  · rename_i hh; rw [if_neg hh])
 have HBB : Hid (closeB n m b l[k] to' = if giveE n m b to' l[k].a l[k].n = 0 then giveN n m b to' l[k].a l[k].n else b) := Lib.hid rfl
 have HLL : Hid (closeL n m b l k l[k] to' st sec = if giveE n m b to' l[k].a l[k].n = 0 then l.set k (l[k].close st sec) else l) := Lib.hid rfl
 generalize closeB n m b l[k] to' = BB at *
 generalize closeL n m b l k l[k] to' st sec = LL at *
 generalize giveE n m b to' l[k].a l[k].n = ge at *
 generalize giveN n m b to' l[k].a l[k].n = gb at *
 generalize l[k].close st sec = X2 at *
 generalize l[k] = x at *
 clear h hc hf
 go_enter Tryz.func103, Tryz.ntmps103
 go_upto_region 1 with fail
 refine wp_region_held_drew (S := fun w' => w'.cell? ⟨B, 1, none⟩ = some (.pointer (some ⟨q, 0, none⟩)) ∧ w'.cell? ⟨g, k * 8 + 2, none⟩ = some (.int .i64 x.a) ∧ w'.cell? ⟨g, k * 8 + 3, none⟩ = some (.int .i64 x.n)) (by kernel_rfl) ?_ (fun hHeld => ?_)
 · exact ⟨c1, e2, e3⟩
 refine tk 0 12 ?_
 simp only [lz]
 refine tk 1 13 ?_
 simp only [lz]
 refine tk 2 14 ?_
 simp only [lz]
 refine tk 3 15 ?_
 simp only [lz]
 refine tk 4 16 ?_
 simp only [lz]
 refine tk 5 17 ?_
 simp only [lz]
 refine tk 6 18 ?_
 simp only [lz]
 refine tk 7 19 ?_
 simp only [lz]
 refine tk 8 20 ?_
 simp only [lz]
 refine tk 9 21 ?_
 simp only [lz]
 refine tk 10 22 ?_
 simp only [lz]
 refine tk 11 23 ?_
 simp only [lz]
 refine tk 12 24 ?_
 simp only [lz]
 refine wpAnyH_ready (rs := [13]) (by kernel_rfl) (by simp) ?_
 refine AllReadyH.cons rfl (fun K hK => ?_) AllReadyH.nil
 go_simp
 refine HGV.out.mono ?_
 rintro e w1 ⟨rfl, hp⟩
 have HP := Lib.hid hp
 have H1 : Hid (BK w1 Sp B tb q n m gb l (.slice (some ⟨g, 0, none⟩) l.length c)) := Lib.hid (BK.purse (w := w.drew) ⟨H.out.box, H.out.row, H.out.pu.keep ((Keeps.refl (fun _ => False) w).drew) (fun _ _ h => h), H.out.nB, H.out.nv⟩ hp)
 have HC1 := Lib.hid (HCL.out w1 gb H1.out)
 have HVV : Hid (∀ g', g' = g → g' < w.heap.size ∧ g' ≠ B ∧ ¬ Sp g') := Lib.hid (fun g' e => by rw [e]; exact ⟨(H.out.row.lt g rfl).2, H.out.vB g rfl, H.out.nv g rfl⟩)
 have d1 : w1.cell? ⟨B, 1, none⟩ = some (.pointer (some ⟨q, 0, none⟩)) := H1.out.cells.2.1
 have hgp : w1.heap[g]? = w.heap[g]? := hp.2.block g (HVV.out g rfl).1 (HVV.out g rfl).2.2
 have d2 := (World.cell?_of_block (a := ⟨g, k * 8 + 2, none⟩) hgp).trans e2
 have d3 := (World.cell?_of_block (a := ⟨g, k * 8 + 3, none⟩) hgp).trans e3
 clear hp hgp
 dsimp only
 go_wp2_with fail
 refine hK.out _ _ ?_ (fun hHeld => ?_)
 · exact ⟨d1, d2, d3⟩
 clear hK K
 try simp only [Act.put, lg]
 try simp only [lz]
 refine tk 14 11 ?_
 simp only [lz]
 refine wpAnyH_done (by kernel_rfl) ?_ _
 clear hHeld c1 e2 e3 d1 d2 d3
 by_cases hge : ge = 0
 case neg =>
  have hb : (ge == 0) = false := by simp [hge]
  have hb' : (ge != 0) = true := by simp [hge]
  have HR : Hid (BB = b ∧ LL = l ∧ gb = b) := Lib.hid ⟨by rw [HBB.out, if_neg hge], by rw [HLL.out, if_neg hge], HGN.out hge⟩
  clear hge
  go_wp2
  go_ret
  rw [HR.out.1, HR.out.2.1]
  rw [HR.out.2.2] at H1
  exact ⟨rfl, _, H1.out, (keeps_undrew HP.out.2).mono (fun i _ h => Or.inr (Or.inr h)), fun g hg => Or.inl hg⟩
 have HR : Hid (BB = gb ∧ LL = l.set k X2) := Lib.hid ⟨by rw [HBB.out, if_pos hge], by rw [HLL.out, if_pos hge]⟩
 subst hge
 have hb0 : ((0 : Int) != 0) = false := rfl
 obtain ⟨hcl, _, hgee, hcc, hff⟩ := HC1.out
 cases hgee
 have HCZ := Lib.hid hcl
 have q5 := hcc 5 (by omega)
 have q7 := hcc 7 (by omega)
 have r5 := hff (k * 8 + 5)
 have r7 := hff (k * 8 + 7)
 simp only [XR.cells, lq] at q5 q7
 clear hcl hcc hff
 go_wp2
 go_ret
 rw [HR.out.1, HR.out.2]
 exact ⟨rfl, _, HCZ.out, ((((keeps_undrew HP.out.2).mono (fun i _ h => Or.inr (Or.inr h)) : Keeps (fpK Sp B (.slice (some ⟨g, 0, none⟩) l.length c)) w w1).setCell (p := ⟨g, k * 8 + 5, none⟩) (Or.inl (Or.inr (Or.inl rfl))) _).setCell (p := ⟨g, k * 8 + 7, none⟩) (Or.inl (Or.inr (Or.inl rfl))) _), fun g hg => Or.inl hg⟩
end
section
variable {w w' : World} {Sp : Nat → Prop} {B tb q n m : Nat} {b : Nat → Nat → Int} {l : List XR} {v : Value} {T : Nat → Int}
theorem TPost.refl (h : BK w Sp B tb q n m b l v) (ht : TabOk w tb) (hb : Below w.heap.size w w') : TPost w Sp B tb q n m v b l w' :=
 ⟨ht.below hb, v, h.below hb, Keeps.of_below hb, fun g hg => Or.inl hg⟩
theorem idB_at {l : List XR} {id : Int} (h : idB l id = true) : ∃ k : Nat, id = (k : Int) ∧ k < l.length := by
 unfold idB at h
 rw [decide_eq_true_eq] at h
 exact ⟨id.toNat, by omega, by omega⟩
theorem atX_at {l : List XR} {k : Nat} (h : k < l.length) : atX l (k : Int) = l[k] := by unfold atX; simp [List.getD, h]
theorem BK.tabN (h : BK w Sp B tb q n m b l v) (ht : TabOk w tb) (hs : ¬ Sp tb) : ¬ fpK Sp B v tb := by
 obtain ⟨cs, f, h3⟩ := ht.ty
 rintro (e | e | e)
 · have h4 := h.box
   rw [← e, h3] at h4
   exact absurd (cells_type h4) (by decide)
 · obtain ⟨cur, h4⟩ := row_ty h.row e
   rw [h3] at h4
   exact absurd (cells_type h4) (by decide)
 · exact hs e
theorem BK.turn (h : BK w Sp B tb q n m b l v) (ht : TabOk w tb) (hs : ¬ Sp tb) (hk : Keeps (fun i => i = tb) w w') : BK w' Sp B tb q n m b l v :=
 h.keep hk (fun k hk e => h.tabN ht hs (e ▸ hk))
set_option maxRecDepth 100000 in
set_option maxHeartbeats 4000000 in
theorem book_claim (h : BK w Sp B tb q n m b l v) (hI : BInv n m b l T) (ht : TabOk w tb) (hs : ¬ Sp tb) (who id : Int) (sec : ByteArray) (ck : Int) :
 Calls Tryz.prog 64 #[.pointer (some ⟨B, 0, none⟩), .int .i64 who, .int .i64 id, .string sec, .int .i64 ck] w fun e w' =>
  e = .returned (.int .i64 (claimE n m b l who id sec ck)) ∧ TPost w Sp B tb q n m v (claimB n m b l who id sec ck) (claimL n m b l who id sec ck) w' := by
 have H := Lib.hid h
 have HG := Lib.hid hI.good
 have HT := Lib.hid ht
 have HTS := Lib.hid hs
 have HHS := Lib.hid (book_idB h id)
 have HE : Hid (claimE n m b l who id sec ck = if idB l id = true then (if who = (atX l id).t then (if (atX l id).s = 0 then (if tickB ck = true ∧ ck < (atX l id).d then (if sec.size = 32 then (if shaS sec = (atX l id).h then giveE n m b (atX l id).t (atX l id).a (atX l id).n else 10) else 2) else 11) else 9) else 14) else 8) := Lib.hid rfl
 have HBL : Hid (claimB n m b l who id sec ck = if claimE n m b l who id sec ck = 0 then giveN n m b (atX l id).t (atX l id).a (atX l id).n else b) := Lib.hid rfl
 have HLL : Hid (claimL n m b l who id sec ck = if claimE n m b l who id sec ck = 0 then l.set id.toNat ((atX l id).close 1 sec) else l) := Lib.hid rfl
 generalize claimE n m b l who id sec ck = E at *
 generalize claimB n m b l who id sec ck = B' at *
 generalize claimL n m b l who id sec ck = L' at *
 have HNO : Hid (∀ (k : Int) (wx : World), E = k → k ≠ 0 → TPost w Sp B tb q n m v b l wx → (Ending.returned (.int .i64 k) = Ending.returned (.int .i64 E) ∧ TPost w Sp B tb q n m v B' L' wx)) := Lib.hid (fun k wx he hk hw => by
  rw [he] at HBL HLL
  refine ⟨by rw [he], ?_⟩
  rw [HBL.out, HLL.out, if_neg hk, if_neg hk]
  exact hw)
 have HRF := Lib.hid (TPost.refl H.out ht (Below.refl _ _))
 have hI2 := hI
 clear h hI ht hs hI2
 by_cases hid : idB l id = true
 case neg =>
  have hi : idB l id = false := by simpa using hid
  rw [hi] at HHS
  have HQ := Lib.hid (HNO.out 8 w (by rw [HE.out, if_neg hid]) (by omega) HRF.out)
  clear hid hi
  go_enter Tryz.func64, Tryz.ntmps64
  go_wp2_with fail
  refine HHS.out.mono ?_
  rintro e w1 ⟨rfl, rfl⟩
  go_wp2
  go_ret
  exact HQ.out
 rw [if_pos hid] at HE
 rw [hid] at HHS
 obtain ⟨k, rfl, hk⟩ := idB_at hid
 rw [atX_at hk] at HE HBL HLL
 rw [Int.toNat_natCast] at HLL
 obtain ⟨ao, c, rfl, _, _⟩ := H.out.shape
 obtain ⟨g, rfl, hc, _⟩ := H.out.esc k hk
 obtain ⟨c0, _, c2, _⟩ := H.out.cells
 have HCZ := Lib.hid (fun (wx : World) (hx : BK wx Sp B tb q n m b l (.slice (some ⟨g, 0, none⟩) l.length c)) => book_closes hx HG.out hk l[k].t 1 sec)
 have HES := Lib.hid (fun (wx : World) (hx : BK wx Sp B tb q n m b l (.slice (some ⟨g, 0, none⟩) l.length c)) => hx.esc k hk)
 have HCB : Hid (closeB n m b l[k] l[k].t = if giveE n m b l[k].t l[k].a l[k].n = 0 then giveN n m b l[k].t l[k].a l[k].n else b) := Lib.hid rfl
 have HCL : Hid (closeL n m b l k l[k] l[k].t 1 sec = if giveE n m b l[k].t l[k].a l[k].n = 0 then l.set k (l[k].close 1 sec) else l) := Lib.hid rfl
 have hkl : (k : Int) < (l.length : Int) := by omega
 have HKL := Lib.hid hk
 clear hid
 generalize l[k] = x at *
 have e1 := hc 1 (by omega)
 have e4 := hc 4 (by omega)
 have e5 := hc 5 (by omega)
 have e6 := hc 6 (by omega)
 simp only [XR.cells, lq, Nat.add_zero] at e1 e4 e5 e6
 clear hc
 go_enter Tryz.func64, Tryz.ntmps64
 go_wp2_with fail
 refine HHS.out.mono ?_
 rintro e w1 ⟨rfl, rfl⟩
 rename World => w
 by_cases hw : who = x.t
 case neg =>
  have hb : (who != x.t) = true := by simp [hw]
  have HQ := Lib.hid (HNO.out 14 w (by rw [HE.out, if_neg hw]) (by omega) HRF.out)
  clear hw
  go_wp2
  go_ret
  exact HQ.out
 rw [if_pos hw] at HE
 have hbw : (who != x.t) = false := by simp [hw]
 clear hw
 by_cases hst : x.s = 0
 case neg =>
  have hb : (x.s != 0) = true := by simp [hst]
  have HQ := Lib.hid (HNO.out 9 w (by rw [HE.out, if_neg hst]) (by omega) HRF.out)
  clear hst
  go_wp2
  go_ret
  exact HQ.out
 rw [if_pos hst] at HE
 have hbs : (x.s != 0) = false := by simp [hst]
 clear hst
 go_wp2_with fail
 refine (tick_any ck w).mono ?_
 rintro e w1 ⟨rfl, rfl⟩
 cases htk : tickB ck
 case false =>
  have HQ := Lib.hid (HNO.out 11 w (by rw [HE.out, if_neg (fun h => by rw [htk] at h; exact absurd h.1 (by decide))]) (by omega) HRF.out)
  clear htk
  go_wp2
  go_ret
  exact HQ.out
 by_cases hdl : x.d ≤ ck
 · have HQ := Lib.hid (HNO.out 11 w (by rw [HE.out, if_neg (fun h => by omega)]) (by omega) HRF.out)
   clear htk
   go_wp2
   go_ret
   exact HQ.out
 rw [if_pos ⟨htk, by omega⟩] at HE
 clear htk
 by_cases hsz : sec.size = 32
 case neg =>
  have hb : ((sec.size : Int) != 32) = true := by simp; omega
  have HQ := Lib.hid (HNO.out 2 w (by rw [HE.out, if_neg hsz]) (by omega) HRF.out)
  clear hsz
  go_wp2
  go_ret
  exact HQ.out
 rw [if_pos hsz] at HE
 have hbz : ((sec.size : Int) != 32) = false := by simp; omega
 have HSZ := Lib.hid hsz
 clear hsz
 have kc := fun (w : World) (s : ByteArray) => Lib.run_convert_string_bytes (P := Tryz.prog) w 9 62 5 s Tryz.underlying9 Tryz.underlying62 Tryz.underlying5
 go_upto_region 12 with fail
 clear hbz hbs hbw hdl
 refine wp_region_held_drew (S := fun w' => w'.cell? ⟨B, 0, none⟩ = some (.pointer (some ⟨tb, 0, none⟩)) ∧ w'.cell? ⟨g, k * 8 + 6, none⟩ = some (.string x.h)) (by kernel_rfl) ?_ (fun hHeld => ?_)
 · exact ⟨c0, e6⟩
 refine tk 0 52 ?_
 simp only [lz]
 refine tk 1 53 ?_
 simp only [lz]
 refine tk 2 54 ?_
 simp only [lz]
 refine tk 3 55 ?_
 simp only [lz]
 refine tk 4 56 ?_
 simp only [lz]
 refine tk 8 60 ?_
 simp only [lz]
 refine tk 9 61 ?_
 simp only [lz]
 refine tk 10 62 ?_
 simp only [lz]
 refine tk 11 63 ?_
 simp only [lz]
 refine wpAnyH_ready (rs := [5]) (by kernel_rfl) (by simp) ?_
 refine AllReadyH.cons rfl (fun K hK => ?_) AllReadyH.nil
 go_simp
 have HB2 : Hid (Below w.heap.size w (Lib.bytesWorld w.drew 5 sec)) := Lib.hid (below_undrew (bytes_below w.drew 5 sec))
 have HI2 : Hid (IntsAt .u8 (Lib.bytesWorld w.drew 5 sec) (some ⟨w.heap.size, 0, none⟩) (strNums sec)) := Lib.hid (bytes_ints w.drew 5 sec)
 obtain ⟨w2, hw2⟩ : ∃ w2, w2 = Lib.bytesWorld w.drew 5 sec := ⟨_, rfl⟩
 rw [← hw2] at HB2 HI2
 rw [← hw2]
 clear hw2
 obtain ⟨N0, hN0⟩ : ∃ N0, N0 = w.heap.size := ⟨_, rfl⟩
 have HN0 := Lib.hid hN0
 have HT2 := Lib.hid (HT.out.below HB2.out)
 have c02 := (World.cell?_of_block (a := ⟨B, 0, none⟩) (HB2.out.block B (blk_lt H.out.box))).trans c0
 have e62 := (World.cell?_of_block (a := ⟨g, k * 8 + 6, none⟩) (HB2.out.block g (H.out.row.lt g rfl).2)).trans e6
 try rw [← hN0]
 clear hN0
 go_wp2_with fail
 refine hK.out _ _ ?_ (fun hHeld => ?_)
 · exact ⟨c02, e62⟩
 clear hK K
 try simp only [Act.put, lg]
 try simp only [lz]
 refine wpAnyH_ready (rs := [6]) (by kernel_rfl) (by simp) ?_
 refine AllReadyH.cons rfl (fun K hK => ?_) AllReadyH.nil
 go_simp
 refine (one_any tb (some ⟨N0, 0, none⟩) (strNums sec) sec.size _ w2 HT2.out (strNums_length sec) (by rw [HN0.out]; exact HI2.out) (strNums_in sec) (Or.inr (fun a ha => by cases ha; have := HT.out.lt; rw [HN0.out]; show w.heap.size ≠ tb; omega)) (by have := HSZ.out; omega)).mono ?_
 rintro e w3 ⟨g3, c3, rfl, ht3, ho3, hl3, hk3, hg3⟩
 have HT3 := Lib.hid ht3
 have H3 : Hid (BK w3 Sp B tb q n m b l (.slice (some ⟨g, 0, none⟩) l.length c)) := Lib.hid ((H.out.below HB2.out).turn HT2.out HTS.out hk3)
 have HK3 : Hid (Keeps (fun i => fpK Sp B (.slice (some ⟨g, 0, none⟩) l.length c) i ∨ i = tb) w w3) := Lib.hid ((Keeps.of_below HB2.out).trans (hk3.mono (fun i _ h => Or.inr h)) (fun _ h => Or.inl h))
 have HP3 : Hid (TPost w Sp B tb q n m (.slice (some ⟨g, 0, none⟩) l.length c) b l w3) := Lib.hid ⟨ht3, _, H3.out, HK3.out, fun g hg => Or.inl hg⟩
 have c03 := H3.out.cells.1
 obtain ⟨_, hge3, hc3, _⟩ := HES.out w3 H3.out
 cases hge3
 have e63 := hc3 6 (by omega)
 simp only [XR.cells, lq] at e63
 have hcv := fun (wx : World) (hx : wx = w3 ∨ wx = w3.drew) => conv_u8 (P := Tryz.prog) (w := wx) c3 62 5 9 Tryz.underlying62 Tryz.underlying5 Tryz.underlying9 (show IntsAt .u8 wx (some ⟨g3, 0, none⟩) (shaF (strNums sec)) by rcases hx with rfl | rfl <;> exact (owns_at ho3).2.1) hl3
 have hcv1 := hcv _ (Or.inl rfl)
 have hcv2 := hcv _ (Or.inr rfl)
 have hsS : strOfNums (shaF (strNums sec)) = shaS sec := rfl
 rw [hsS] at hcv1 hcv2
 clear hcv ht3 ho3 hl3 hk3 hg3 hc3
 dsimp only
 go_wp2_with fail
 refine hK.out _ _ ?_ (fun hHeld => ?_)
 · exact ⟨c03, e63⟩
 clear hK K
 try simp only [Act.put, lg]
 try simp only [lz]
 refine wpAnyH_ready (rs := [7]) (by kernel_rfl) (by simp) ?_
 refine AllReadyH.cons rfl (fun K hK => ?_) AllReadyH.nil
 go_simp
 skip
 go_wp2_with fail
 refine hK.out _ _ ?_ (fun hHeld => ?_)
 · exact ⟨c03, e63⟩
 clear hK K
 try simp only [Act.put, lg]
 try simp only [lz]
 refine tk 12 64 ?_
 simp only [lz]
 refine tk 13 51 ?_
 simp only [lz]
 refine wpAnyH_done (by kernel_rfl) ?_ _
 clear hcv1 hcv2 hHeld
 rename World => w3
 by_cases hh : shaS sec = x.h
 case neg =>
  have hb : ((shaS sec).toList == x.h.toList) = false := by rw [strEq]; simp [hh]
  rw [hb]
  have HQ := Lib.hid (HNO.out 10 w3 (by rw [HE.out, if_neg hh]) (by omega) HP3.out)
  clear hh
  go_wp2
  go_ret
  exact HQ.out
 rw [if_pos hh] at HE
 have hb : ((shaS sec).toList == x.h.toList) = true := by rw [strEq]; simp [hh]
 rw [hb]
 clear hh
 obtain ⟨_, hge3, hc3, _⟩ := HES.out w3 H3.out
 cases hge3
 have e13 := hc3 1 (by omega)
 simp only [XR.cells, lq] at e13
 clear hc3
 go_wp2_with fail
 refine (HCZ.out w3 H3.out).mono ?_
 rintro e w4 ⟨rfl, hp⟩
 have HP := Lib.hid hp
 clear hp
 have HF : Hid (TPost w Sp B tb q n m (.slice (some ⟨g, 0, none⟩) l.length c) B' L' w4) := Lib.hid (by
  obtain ⟨v', h4, hk4, hv4⟩ := HP.out
  rw [HCB.out, HCL.out] at h4
  rw [HBL.out, HLL.out, HE.out]
  refine ⟨tab_keep HT3.out hk4 (H3.out.tabN HT3.out HTS.out), v', h4, HK3.out.trans hk4 (fun i hi => Or.inl (Or.inl hi)), fun g' hg' => ?_⟩
  rcases hv4 g' hg' with h | h
  · exact Or.inl h
  · exact Or.inr (Nat.le_trans HK3.out.size h))
 rw [← HE.out]
 go_wp2
 go_ret
 exact ⟨rfl, HF.out⟩
set_option maxRecDepth 100000 in
set_option maxHeartbeats 4000000 in
theorem book_refund (h : BK w Sp B tb q n m b l v) (hI : BInv n m b l T) (ht : TabOk w tb) (hs : ¬ Sp tb) (who id : Int) (ck : Int) :
 Calls Tryz.prog 65 #[.pointer (some ⟨B, 0, none⟩), .int .i64 who, .int .i64 id, .int .i64 ck] w fun e w' =>
  e = .returned (.int .i64 (refundE n m b l who id ck)) ∧ TPost w Sp B tb q n m v (refundB n m b l who id ck) (refundL n m b l who id ck) w' := by
 have H := Lib.hid h
 have HG := Lib.hid hI.good
 have HT := Lib.hid ht
 have HTS := Lib.hid hs
 have HHS := Lib.hid (book_idB h id)
 have HE : Hid (refundE n m b l who id ck = if idB l id = true then (if who = (atX l id).f then (if (atX l id).s = 0 then (if tickB ck = true ∧ (atX l id).d ≤ ck then giveE n m b (atX l id).f (atX l id).a (atX l id).n else 11) else 9) else 14) else 8) := Lib.hid rfl
 have HBL : Hid (refundB n m b l who id ck = if refundE n m b l who id ck = 0 then giveN n m b (atX l id).f (atX l id).a (atX l id).n else b) := Lib.hid rfl
 have HLL : Hid (refundL n m b l who id ck = if refundE n m b l who id ck = 0 then l.set id.toNat ((atX l id).close 2 ⟨#[]⟩) else l) := Lib.hid rfl
 generalize refundE n m b l who id ck = E at *
 generalize refundB n m b l who id ck = B' at *
 generalize refundL n m b l who id ck = L' at *
 have HNO : Hid (∀ (k : Int) (wx : World), E = k → k ≠ 0 → TPost w Sp B tb q n m v b l wx → (Ending.returned (.int .i64 k) = Ending.returned (.int .i64 E) ∧ TPost w Sp B tb q n m v B' L' wx)) := Lib.hid (fun k wx he hk hw => by
  rw [he] at HBL HLL
  refine ⟨by rw [he], ?_⟩
  rw [HBL.out, HLL.out, if_neg hk, if_neg hk]
  exact hw)
 have HRF := Lib.hid (TPost.refl H.out ht (Below.refl _ _))
 have hI2 := hI
 clear h hI ht hs hI2
 by_cases hid : idB l id = true
 case neg =>
  have hi : idB l id = false := by simpa using hid
  rw [hi] at HHS
  have HQ := Lib.hid (HNO.out 8 w (by rw [HE.out, if_neg hid]) (by omega) HRF.out)
  clear hid hi
  go_enter Tryz.func65, Tryz.ntmps65
  go_wp2_with fail
  refine HHS.out.mono ?_
  rintro e w1 ⟨rfl, rfl⟩
  go_wp2
  go_ret
  exact HQ.out
 rw [if_pos hid] at HE
 rw [hid] at HHS
 obtain ⟨k, rfl, hk⟩ := idB_at hid
 rw [atX_at hk] at HE HBL HLL
 rw [Int.toNat_natCast] at HLL
 obtain ⟨ao, c, rfl, _, _⟩ := H.out.shape
 obtain ⟨g, rfl, hc, _⟩ := H.out.esc k hk
 obtain ⟨c0, _, c2, _⟩ := H.out.cells
 have HCZ := Lib.hid (book_closes H.out HG.out hk l[k].f 2 ⟨#[]⟩)
 have HCB : Hid (closeB n m b l[k] l[k].f = if giveE n m b l[k].f l[k].a l[k].n = 0 then giveN n m b l[k].f l[k].a l[k].n else b) := Lib.hid rfl
 have HCL : Hid (closeL n m b l k l[k] l[k].f 2 ⟨#[]⟩ = if giveE n m b l[k].f l[k].a l[k].n = 0 then l.set k (l[k].close 2 ⟨#[]⟩) else l) := Lib.hid rfl
 have hkl : (k : Int) < (l.length : Int) := by omega
 have HKL := Lib.hid hk
 clear hid
 generalize l[k] = x at *
 have e0 := hc 0 (by omega)
 have e4 := hc 4 (by omega)
 have e5 := hc 5 (by omega)
 simp only [XR.cells, lq, Nat.add_zero] at e0 e4 e5
 clear hc
 go_enter Tryz.func65, Tryz.ntmps65
 go_wp2_with fail
 refine HHS.out.mono ?_
 rintro e w1 ⟨rfl, rfl⟩
 rename World => w
 by_cases hw : who = x.f
 case neg =>
  have hb : (who != x.f) = true := by simp [hw]
  have HQ := Lib.hid (HNO.out 14 w (by rw [HE.out, if_neg hw]) (by omega) HRF.out)
  clear hw
  go_wp2
  go_ret
  exact HQ.out
 rw [if_pos hw] at HE
 have hbw : (who != x.f) = false := by simp [hw]
 clear hw
 by_cases hst : x.s = 0
 case neg =>
  have hb : (x.s != 0) = true := by simp [hst]
  have HQ := Lib.hid (HNO.out 9 w (by rw [HE.out, if_neg hst]) (by omega) HRF.out)
  clear hst
  go_wp2
  go_ret
  exact HQ.out
 rw [if_pos hst] at HE
 have hbs : (x.s != 0) = false := by simp [hst]
 clear hst
 go_wp2_with fail
 refine (tick_any ck w).mono ?_
 rintro e w1 ⟨rfl, rfl⟩
 cases htk : tickB ck
 case false =>
  have HQ := Lib.hid (HNO.out 11 w (by rw [HE.out, if_neg (fun h => by rw [htk] at h; exact absurd h.1 (by decide))]) (by omega) HRF.out)
  clear htk
  go_wp2
  go_ret
  exact HQ.out
 by_cases hdl : ck < x.d
 · have HQ := Lib.hid (HNO.out 11 w (by rw [HE.out, if_neg (fun h => by omega)]) (by omega) HRF.out)
   clear htk
   go_wp2
   go_ret
   exact HQ.out
 rw [if_pos ⟨htk, by omega⟩] at HE
 clear htk
 go_wp2_with fail
 refine HCZ.out.mono ?_
 rintro e w4 ⟨rfl, hp⟩
 have HP := Lib.hid hp
 clear hp
 have HF : Hid (TPost w Sp B tb q n m (.slice (some ⟨g, 0, none⟩) l.length c) B' L' w4) := Lib.hid (by
  obtain ⟨v', h4, hk4, hv4⟩ := HP.out
  rw [HCB.out, HCL.out] at h4
  rw [HBL.out, HLL.out, HE.out]
  exact ⟨tab_keep HT.out hk4 (H.out.tabN HT.out HTS.out), v', h4, hk4.mono (fun i _ hi => Or.inl hi), hv4⟩)
 rw [← HE.out]
 go_wp2
 go_ret
 exact ⟨rfl, HF.out⟩
end
theorem Try_infoI64 : (Tryz.prog.info? 3).map (fun i => (i.zero, i.size, i.bytes)) = some (some (.int .i64 0), 1, 8) := by kernel_rfl
theorem Try_infoInts : (Tryz.prog.info? 60).map (fun i => (i.zero, i.size, i.bytes)) = some (some (.slice none 0 0), 1, 24) := by kernel_rfl
theorem own_form {w : World} {base : Nat} {e : TypeId} {v : Value} {n : Nat} {xs : List Value} (h : w.ownsRow base e 1 v n xs) (h0 : 0 < n) :
 ∃ g cap cs, v = .slice (some ⟨g, 0, none⟩) n cap ∧ w.heap[g]? = some (.cells cs e (0, 0)) ∧ n ≤ cap ∧ cap ≤ maxLen ∧ ∀ j (hj : j < xs.length), cs[j]? = some xs[j] := by
 rcases h.2 with ⟨_, hn⟩ | ⟨g, cap, cur, rfl, hb, hh, h1, h2, h3, h4⟩
 · omega
 · refine ⟨g, cap, cur, rfl, hh, h1, h2, fun j hj => ?_⟩
   have : xs[j] = (cur.toList.take (n * 1))[j]'(by rw [h4]; exact hj) := by simp only [h4]
   rw [this, List.getElem_take, Array.getElem_toList, Array.getElem?_eq_getElem]
def RowNew (w : World) (zs : List Int) (w' : World) (g cap : Nat) : Prop :=
 (∃ cs, w'.heap[g]? = some (.cells cs 3 (0, 0)) ∧ ∀ j (hj : j < zs.length), cs[j]? = some (.int .i64 zs[j])) ∧ zs.length ≤ cap ∧ cap ≤ maxLen ∧ w.heap.size ≤ g ∧ Below w.heap.size w w'
theorem rowNew_of {w w' : World} {zs : List Int} {ao : Option Addr} {n cap : Nat} (hn : zs.length = n) (h0 : 0 < n) (h : w'.ownsRow 0 3 1 (.slice ao n cap) n (zs.map (.int .i64))) (hb : Below w.heap.size w w') (hf : ∀ g, (Value.slice ao n cap).ownBlock = some g → w.heap.size ≤ g) :
 ∃ g, ao = some ⟨g, 0, none⟩ ∧ RowNew w zs w' g cap := by
 obtain ⟨g, cap', cs, hv, hh, h1, h2, h3⟩ := own_form h h0
 simp only [Value.slice.injEq, true_and] at hv
 obtain ⟨rfl, rfl⟩ := hv
 refine ⟨g, rfl, ⟨cs, hh, fun j hj => ?_⟩, by omega, h2, hf g rfl, hb⟩
 have := h3 j (by simpa using hj)
 simpa using this
set_option maxHeartbeats 1000000 in
theorem clone_i64 (ao : Option Addr) (zs : List Int) (n cap : Nat) (w : World) (hn : zs.length = n) (h : IntsAt .i64 w ao zs) (h0 : 0 < n) (hm : n ≤ 1000) :
 Calls Tryz.prog 94 #[.slice ao n cap] w fun e w' => ∃ g cap', e = .returned (.slice (some ⟨g, 0, none⟩) n cap') ∧ RowNew w zs w' g cap' := by
 have heq := fun w : World => Lib.run_eql_slice_nil (P := Tryz.prog) w 60 3 ao n cap 0 0 Tryz.underlying60
 have HN := Lib.hid hn
 have H := Lib.hid h
 clear hn
 cases ao with
 | none => have := ints_none h; have := HN.out; omega
 | some a =>
   obtain ⟨i0, hi, hz0, hz1, hz2⟩ := info_parts Try_infoI64
   clear h
   go_enter Tryz.func94, Tryz.ntmps94
   go_wp2_with (at_builtin; refine wpList_append_any rfl _ _ 60 rfl 3 i0 (.int .i64 0) 1 8 Tryz.underlying60 hi hz0 hz1 hz2 rfl (by decide) (.slice (some ⟨w.heap.size, 0, none⟩) 0 0) 0 [] rfl (World.ownsRow_made w #[] 0 (Nat.zero_le _) (Nat.zero_le _) rfl) (some a) n cap (zs.map (Value.int .i64)) rfl ?c1 ?c2 ?c3 (ints_one _ _) ?c5 ?c6 ?_)
   case c1 => simp; exact HN.out
   case c2 => intro e; cases e
   case c3 => exact src_ints (ints_below H.out ((Below.refl _ _).alloc (Nat.le_refl _) _))
   case c5 => unfold maxLen; omega
   case c6 => omega
   intro ao' cap' w1 hown hgrow hat hnn
   have HR := Lib.hid (rowNew_of (w := w) (cap := cap') HN.out h0 (ao := ao') (by simpa using hown) (((Below.refl _ _).alloc (Nat.le_refl _) _).grown hgrow (by simp) (fun k hk => by simp only [Value.ownBlock, Option.some.injEq] at hk; omega)) (fun g hg => by
    rcases hat g (by simpa using hg) with e | e
    · simp only [Value.ownBlock, Option.some.injEq] at e; omega
    · rw [e]; simp))
   clear hown hgrow hat hnn
   go_wp2
   go_ret
   obtain ⟨g, rfl, hr⟩ := HR.out
   exact ⟨g, cap', ret_val (a := .slice (some ⟨g, 0, none⟩) n cap') rfl, hr⟩
def rowV (m : Nat) (g : Nat × Nat) : Value := .slice (some ⟨g.1, 0, none⟩) m g.2
structure CInv (w wr : World) (bs : List ISl) (m : Nat) (v : Value) (gs : List (Nat × Nat)) : Prop where
 own : wr.ownsRow 0 60 1 v gs.length (gs.map (rowV m))
 size : w.heap.size ≤ wr.heap.size
 fresh : ∀ g, v.ownBlock = some g → w.heap.size ≤ g
 row : ∀ k (hk : k < gs.length), (∃ cs, wr.heap[gs[k].1]? = some (.cells cs 3 (0, 0)) ∧ ∀ j, j < m → cs[j]? = some (.int .i64 ((bs.getD k default).zs.getD j 0))) ∧ m ≤ gs[k].2 ∧ gs[k].2 ≤ maxLen ∧ w.heap.size ≤ gs[k].1
 apart : ∀ k (hk : k < gs.length) i (hi : i < gs.length), gs[k].1 = gs[i].1 → k = i
theorem cinv_nil (w wr : World) (bs : List ISl) (m : Nat) (h : w.heap.size ≤ wr.heap.size) : CInv w wr bs m (.slice none 0 0) [] :=
 ⟨World.ownsRow_nil _ _ _ _, h, (fun g hg => by cases hg), (fun k hk => by simp at hk), (fun k hk => by simp at hk)⟩
theorem CInv.far {w wr : World} {bs : List ISl} {m : Nat} {v : Value} {gs : List (Nat × Nat)} (h : CInv w wr bs m v gs) (k : Nat) (hk : k < gs.length) : v.ownBlock ≠ some gs[k].1 := by
 intro he
 rcases h.own.2 with ⟨rfl, _⟩ | ⟨g, cap, cur, rfl, _, hh, _⟩
 · cases he
 · simp only [Value.ownBlock, Option.some.injEq] at he
   subst he
   obtain ⟨⟨cs, h1, _⟩, _⟩ := h.row k hk
   rw [hh] at h1
   simp at h1
theorem CInv.keep {w wr w' : World} {bs : List ISl} {m : Nat} {v : Value} {gs : List (Nat × Nat)} {S : Nat → Prop} (h : CInv w wr bs m v gs) (hk : Keeps S wr w') (hs : ∀ k, S k → k < w.heap.size ∨ wr.heap.size ≤ k) : CInv w w' bs m v gs := by
 have hb : ∀ k, w.heap.size ≤ k → k < wr.heap.size → w'.heap[k]? = wr.heap[k]? := fun k h1 h2 => hk.block k h2 (fun hS => by have := hs k hS; omega)
 refine ⟨ownsRow_same h.own (fun g hg => hb g (h.fresh g hg) (h.own.lt g hg).2), Nat.le_trans h.size hk.size, h.fresh, fun k hk' => ?_, h.apart⟩
 obtain ⟨⟨cs, h1, h2⟩, h3, h4, h5⟩ := h.row k hk'
 exact ⟨⟨cs, (hb _ h5 (blk_lt h1)).trans h1, h2⟩, h3, h4, h5⟩
theorem cinv_step {w wr w1 wa w2 : World} {bs : List ISl} {m : Nat} {v v' : Value} {gs : List (Nat × Nat)} {g c : Nat} {zs : List Int} (h : CInv w wr bs m v gs) (hl : gs.length < bs.length) (hz : zs = (bs.getD gs.length default).zs) (hzm : zs.length = m)
 (hr : RowNew wr zs w1 g c) (ha : Keeps (fun _ => False) w1 wa)
 (hown : w2.ownsRow 0 60 1 v' (gs.length + 1) (gs.map (rowV m) ++ [rowV m (g, c)])) (hgrow : wa.grownBy w2 v.ownBlock) (hat : ∀ g, v'.ownBlock = some g → v.ownBlock = some g ∨ g = wa.heap.size) :
 CInv w w2 bs m v' (gs ++ [(g, c)]) := by
 obtain ⟨⟨cs, r1, r2⟩, r3, r4, r5, r6⟩ := hr
 have hsz := h.size
 have hs1 := r6.size
 have hs2 := ha.size
 have hkeep : ∀ k, k < w1.heap.size → v.ownBlock ≠ some k → w2.heap[k]? = w1.heap[k]? := fun k hk hn =>
  (hgrow.block k (by omega) (fun e => hn e.symm)).trans (ha.block k hk (fun f => f))
 have hgl := blk_lt r1
 have hvl : ∀ k, v.ownBlock = some k → k < wr.heap.size := fun k hk => (h.own.lt k hk).2
 refine ⟨by simpa using hown, by have := hgrow.size; omega, fun k hk => ?_, fun k hk => ?_, fun k hk i hi he => ?_⟩
 · rcases hat k hk with e | e
   · exact h.fresh k e
   · omega
 · by_cases e : k = gs.length
   · subst e
     simp only [List.getElem_append_right (Nat.le_refl _), Nat.sub_self, List.getElem_cons_zero]
     refine ⟨⟨cs, (hkeep g hgl (fun e => by have := hvl g e; omega)).trans r1, fun j hj => ?_⟩, by omega, r4, by omega⟩
     have := r2 j (by omega)
     rw [this, ← hz]
     simp [List.getD, show j < zs.length by omega]
   · have hk' : k < gs.length := by simp at hk; omega
     simp only [List.getElem_append_left hk']
     obtain ⟨⟨cs', h1, h2⟩, h3, h4, h5⟩ := h.row k hk'
     have hkl := blk_lt h1
     exact ⟨⟨cs', ((hkeep _ (by omega) (h.far k hk')).trans (r6.block _ hkl)).trans h1, h2⟩, h3, h4, h5⟩
 · have hlt : ∀ k (hk' : k < gs.length), gs[k].1 < wr.heap.size := fun k hk' => by obtain ⟨⟨cs', h1, _⟩, _⟩ := h.row k hk'; exact blk_lt h1
   simp at hk hi
   by_cases e1 : k = gs.length <;> by_cases e2 : i = gs.length
   · omega
   · subst e1
     have := hlt i (by omega)
     simp only [List.getElem_append_right (Nat.le_refl _), Nat.sub_self, List.getElem_cons_zero, List.getElem_append_left (show i < gs.length by omega)] at he
     omega
   · subst e2
     have := hlt k (by omega)
     simp only [List.getElem_append_right (Nat.le_refl _), Nat.sub_self, List.getElem_cons_zero, List.getElem_append_left (show k < gs.length by omega)] at he
     omega
   · simp only [List.getElem_append_left (show k < gs.length by omega), List.getElem_append_left (show i < gs.length by omega)] at he
     exact h.apart k (by omega) i (by omega) he
def balOf (bs : List ISl) : Nat → Nat → Int := fun i j => (bs.getD i default).zs.getD j 0
theorem cinv_done {w wr : World} {bs : List ISl} {m n : Nat} {v : Value} {gs : List (Nat × Nat)} (h : CInv w wr bs m v gs) (hn : gs.length = n) (h0 : 0 < n) :
 ∃ L lcap, v = .slice (some ⟨L, 0, none⟩) n lcap ∧ ∀ (T : TypeId) (w' : World) (p : Nat), T ≠ 3 → T ≠ 60 → w.heap.size ≤ p → p < w'.heap.size → w'.heap[p]? = some (.cells #[v] T (0, 0)) → (∀ k, w.heap.size ≤ k → k < wr.heap.size → k ≠ p → w'.heap[k]? = wr.heap[k]?) → wr.heap.size ≤ w'.heap.size →
  (∀ k, k < wr.heap.size → k = p → ∃ cs, wr.heap[k]? = some (.cells cs T (0, 0))) →
  PAt T w' p (fun k => w.heap.size ≤ k ∧ k < w'.heap.size) n m (balOf bs) := by
 subst hn
 obtain ⟨L, lcap, cs, hv, hh, h1, h2, h3⟩ := own_form h.own h0
 refine ⟨L, lcap, hv, fun T w' p hT1 hT2 hp1 hp2 hpb hkp hsz hpt => ?_⟩
 have hLf := h.fresh L (by rw [hv]; rfl)
 have hLl := blk_lt hh
 have hLp : L ≠ p := fun e => by
  subst e
  obtain ⟨cs', h'⟩ := hpt L hLl rfl
  rw [hh] at h'
  simp only [Option.some.injEq, Obj.cells.injEq, and_true] at h'
  exact hT2 h'.2.symm
 have hrow : ∀ k (hk : k < gs.length), w.heap.size ≤ gs[k].1 ∧ gs[k].1 < wr.heap.size ∧ gs[k].1 ≠ p ∧ gs[k].1 ≠ L := fun k hk => by
  obtain ⟨⟨cs', r1, r2⟩, r3, r4, r5⟩ := h.row k hk
  refine ⟨r5, blk_lt r1, fun e => ?_, fun e => ?_⟩
  · obtain ⟨cs'', h'⟩ := hpt gs[k].1 (blk_lt r1) e
    rw [r1] at h'
    simp only [Option.some.injEq, Obj.cells.injEq, and_true] at h'
    exact hT1 h'.2.symm
  · rw [e, hh] at r1; simp at r1
 refine ⟨L, lcap, fun i => (gs.getD i (0, 0)).1, fun i => (gs.getD i (0, 0)).2, ⟨by rw [← hv]; exact hpb, ⟨cs, (hkp L hLf hLl hLp).trans hh, fun i hi => ?_⟩, fun i hi => ?_, ⟨h1, h2, fun i hi => ?_⟩, ⟨hLp, fun i hi => ?_, fun i hi k hk he => ?_⟩, h0⟩, ?_, fun k hk => hk.2⟩
 · have := h3 i (by simpa using hi)
   rw [this]; simp [rowV, List.getD, hi]
 · obtain ⟨⟨cs', r1, r2⟩, r3, r4, r5⟩ := h.row i hi
   obtain ⟨q1, q2, q3, q4⟩ := hrow i hi
   have e : (gs.getD i (0, 0)) = gs[i] := by simp [List.getD, hi]
   rw [e]
   exact ⟨cs', (hkp _ q1 q2 q3).trans r1, r2⟩
 · obtain ⟨⟨cs', r1, r2⟩, r3, r4, r5⟩ := h.row i hi
   have e : (gs.getD i (0, 0)) = gs[i] := by simp [List.getD, hi]
   rw [e]; exact ⟨r3, r4⟩
 · obtain ⟨q1, q2, q3, q4⟩ := hrow i hi
   have e : (gs.getD i (0, 0)) = gs[i] := by simp [List.getD, hi]
   rw [e]; exact ⟨q3, q4⟩
 · have e1 : (gs.getD i (0, 0)) = gs[i] := by simp [List.getD, hi]
   have e2 : (gs.getD k (0, 0)) = gs[k] := by simp [List.getD, hk]
   rw [e1, e2] at he
   exact h.apart i hi k hk he
 · rintro k (rfl | rfl | ⟨i, hi, rfl⟩)
   · exact ⟨hp1, hp2⟩
   · exact ⟨hLf, by omega⟩
   · obtain ⟨q1, q2, q3, q4⟩ := hrow i hi
     have e : (gs.getD i (0, 0)) = gs[i] := by simp [List.getD, hi]
     show w.heap.size ≤ (gs.getD i (0, 0)).1 ∧ (gs.getD i (0, 0)).1 < w'.heap.size
     rw [e]; exact ⟨q1, by omega⟩
def PNew (T : TypeId) (w : World) (n m : Nat) (b : Nat → Nat → Int) (q : Nat) (w' : World) : Prop :=
 PAt T w' q (fun k => w.heap.size ≤ k ∧ k < w'.heap.size) n m b ∧ Below w.heap.size w w'
set_option maxRecDepth 100000 in
set_option maxHeartbeats 1000000 in
theorem copy_any (p : Nat) (ao : Option Addr) (bs : List ISl) (n cap m : Nat) (w : World) (hc : w.cell? ⟨p, 0, none⟩ = some (.slice ao n cap)) (hb : IntsList w ao bs) (hn : bs.length = n) (hm : ∀ i (hi : i < bs.length), bs[i].zs.length = m) (h0 : 0 < n) (hm0 : 0 < m) (h16 : n ≤ 1000) (h4 : m ≤ 1000) :
 Calls Tryz.prog 57 #[.pointer (some ⟨p, 0, none⟩)] w fun e w' => ∃ q, e = .returned (.pointer (some ⟨q, 0, none⟩)) ∧ PNew 133 w n m (balOf bs) q w' := by
 have HB := Lib.hid hb
 have HN := Lib.hid hn
 have HM := Lib.hid hm
 obtain ⟨i0, hi, hz0, hz1, hz2⟩ := info_parts Try_infoInts
 clear hb hn hm
 go_enter Tryz.func57, Tryz.ntmps57
 go_wp2_with fail
 go_loopw [3, 11] (fun v i wr => ∃ gs : List (Nat × Nat), gs.length ≤ n ∧ i = .int .i64 (gs.length : Nat) ∧ CInv w wr bs m v gs ∧ Below w.heap.size w wr) (fun _ i _ => n + 1 - (intOf i + 1).toNat)
 case atStart => exact ⟨[], Nat.zero_le _, rfl, cinv_nil _ _ _ _ (Nat.le_refl _), Below.refl _ _⟩
 case round =>
  obtain ⟨gs, hk, rfl, hI, hbel⟩ := hrel
  have HI := Lib.hid hI
  have HW := Lib.hid hbel
  have HKL : Hid (gs.length = gs.length) := Lib.hid rfl
  by_cases hlt : gs.length < n
  · have hkb : gs.length < bs.length := by rw [HN.out]; exact hlt
    obtain ⟨ab, aoff, rfl, hcell⟩ := il_cell (HB.out.below hbel) gs.length hkb
    have HSRC := Lib.hid (il_ok (HB.out.below hbel) gs.length hkb).1
    have HZ := Lib.hid (show bs[gs.length].zs = (bs.getD gs.length default).zs by simp [List.getD, hkb])
    have HZM := Lib.hid (HM.out gs.length hkb)
    have hv := hI.own
    rw [HZM.out] at hcell
    generalize hKK : gs.length = K at *
    have HKK := Lib.hid hKK
    generalize hQ : bs[K] = x at *
    have HQ := Lib.hid hQ
    have HO := Lib.hid hv
    clear hI hbel hv hKK hQ
    go_wp2_with fail
    refine (clone_i64 x.ao x.zs m x.cap wr HZM.out HSRC.out hm0 h4).mono ?_
    rintro e w1 ⟨g, c, rfl, hr⟩
    have HR := Lib.hid hr
    have hs1 := hr.2.2.2.2.size
    have HO1 := Lib.hid (ownsRow_same HO.out (fun g hg => hr.2.2.2.2.block g (HO.out.lt g hg).2))
    clear hr
    go_wp2_with (at_builtin; refine wpList_append_any rfl _ _ 22 rfl 60 i0 (.slice none 0 0) 1 24 Tryz.underlying22 hi hz0 hz1 hz2 rfl (by decide) u3 K (gs.map (rowV m)) rfl (HO1.out.alloc _) (some ⟨w1.heap.size, 0, none⟩) 1 1 [rowV m (g, c)] rfl rfl ?c2 ?c3 ?c4 ?c5 ?c6 ?_)
    case c2 => intro e; cases e
    case c3 => intro ad had; cases had; exact World.news_of_block (heap_alloc_new _ _)
    case c4 => simp [Value.oneCell', rowV]
    case c5 => unfold maxLen; omega
    case c6 => omega
    intro ao' cap' w2 hown hgrow hat hnn
    have HC := Lib.hid (cinv_step (c := c) HI.out (by rw [HKK.out]; exact hkb) (by rw [HKK.out]; exact HZ.out) HZM.out HR.out ((Keeps.refl _ _).alloc _) (by rw [HKK.out]; exact hown) hgrow (fun g hg => by simpa using hat g hg))
    have HB2 := Lib.hid (((HW.out.trans (HR.out.2.2.2.2.mono HW.out.size)).alloc (by have := HW.out.size; omega) _).grown hgrow (by have := HW.out.size; simp; omega) (fun k hk => HI.out.fresh k hk))
    clear hown hgrow hat hnn
    go_wp2
    go_roundw
    case rel => exact ⟨gs ++ [(g, c)], by simp [HKK.out]; omega, by simp [HKK.out], HC.out, HB2.out⟩
    case measure => simp [intOf]; omega
  · have hkn : n = gs.length := by omega
    obtain ⟨L, lcap, rfl, hdone⟩ := cinv_done hI hkn.symm h0
    have HD := Lib.hid hdone
    have HKN := Lib.hid hkn
    clear hI hbel hdone hkn hk
    generalize gs.length = K at *
    have hkk : ¬ (K : Int) < (n : Int) := by omega
    clear hlt
    go_wp2
    go_ret
    have hs := HW.out.size
    refine ⟨wr.heap.size, rfl, HD.out 133 _ wr.heap.size (by decide) (by decide) hs (by simp) (heap_alloc_new wr _) (fun k h1 h2 h3 => Below.heap_alloc _ _ _ h2) (by simp) (fun k h1 h2 => by omega), HW.out.alloc hs _⟩
end Go.Proofs.YtkaciaehlibidaaGreat
