/- Parts of the proof: Reqe Lv0 Ld0 Boxz Refm Refn. -/
import Derived.Test.YtkaciaehlibidaaGreatZ11
import Derived.BigRegion
import Derived.Deep.RegionHeld3
import Derived.Deep.CutBlock
import Derived.Deep.DeepCutAuto
namespace Go.Proofs.YtkaciaehlibidaaGreat
open Go.RowKit
set_option linter.unusedVariables false
set_option linter.unusedSimpArgs false
theorem fits_nat (n : Nat) (s : Nat) (hs : 1 ≤ s ∧ s ≤ 8) (h : n < 256) : fitsB (n : Int) (s : Nat) = true := by
 have h1 : amtB (n : Int) = true := (amt_iff _).2 ⟨by omega, by unfold MA; omega⟩
 have h0 : mayB (s : Int) = true := by simp [mayB]; omega
 have h2 : (n : Int) / 2 ^ (8 * ((s : Nat) : Int).toNat) ≤ 0 := by
  have hp : (256 : Int) ≤ 2 ^ (8 * s) := by
   have := Nat.pow_le_pow_right (n := 2) (by decide) (show 8 ≤ 8 * s by omega)
   have e : ((2 ^ (8 * s) : Nat) : Int) = (2 : Int) ^ (8 * s) := by rw [Int.natCast_pow]; rfl
   omega
  rw [Int.toNat_natCast, Int.ediv_eq_zero_of_lt (by omega) (by omega)]
  exact Int.le_refl _
 unfold fitsB
 rw [h0, h1, decide_eq_true h2]
 simp
theorem fits_len2 (n : Nat) (h : n ≤ 65535) : fitsB (n : Int) 2 = true := fits_len n h
def EV.rq (e : EV) : RQ := ⟨e.k, e.t, e.a, e.n, e.i, e.d, e.h, e.s⟩
theorem chunkE_in (ev : Bool) (e : EV) : InB (chunkE ev e) := by
 intro z hz
 unfold chunkE at hz
 rcases List.mem_append.1 hz with h | h
 · exact putB_in _ _ z h
 · obtain ⟨c, _, h2⟩ := List.mem_flatMap.1 h
   unfold partE at h2
   split at h2
   · exact putB_in _ _ z h2
   · exact strNums_in _ z h2
theorem eqS_iff (a b : ByteArray) : eqS a b = true ↔ a = b := by
 unfold eqS
 rw [beq_iff_eq, ByteArray.toList_eq, ByteArray.toList_eq]
 constructor
 · intro h
   cases a; cases b
   simpa using h
 · rintro rfl; rfl
theorem eqRQ_iff (r q : RQ) : eqRQ r q = true ↔ r = q := by
 obtain ⟨k, t, a, n, i, d, h, s⟩ := r
 obtain ⟨k', t', a', n', i', d', h', s'⟩ := q
 simp [eqRQ, eqS_iff]
theorem eqEV_iff (r q : EV) : eqEV r q = true ↔ r = q := by
 obtain ⟨k, f, t, a, n, i, d, h, s⟩ := r
 obtain ⟨k', f', t', a', n', i', d', h', s'⟩ := q
 simp [eqEV, eqS_iff]
theorem eqRP_iff (r q : Int × Int) : eqRP r q = true ↔ r = q := by
 obtain ⟨a, b⟩ := r
 obtain ⟨c, d⟩ := q
 simp [eqRP]
theorem allB_iff {α : Type} (f : α → α → Bool) (hf : ∀ x y, f x y = true ↔ x = y) : ∀ xs ys : List α, allB f xs ys = true ↔ xs = ys
 | [], [] => by simp [allB, allF]
 | [], y :: ys => by simp [allB]
 | x :: xs, [] => by simp [allB]
 | x :: xs, y :: ys => by
   have ih := allB_iff f hf xs ys
   unfold allB at ih ⊢
   rw [Bool.and_eq_true, decide_eq_true_eq] at ih ⊢
   simp only [allF, Bool.and_eq_true, hf, List.length_cons, Nat.add_right_cancel_iff, List.cons.injEq]
   rw [← ih]
   exact ⟨fun h => ⟨h.2.1, h.1, h.2.2⟩, fun h => ⟨h.2.1, h.1, h.2.2⟩⟩
theorem sameA_iff (c1 s1 : Int) (xs : List (Int × Int)) (es : List EV) (c2 s2 : Int) (ys : List (Int × Int)) (fs : List EV) : sameA c1 s1 xs es c2 s2 ys fs = true ↔ c1 = c2 ∧ s1 = s2 ∧ xs = ys ∧ es = fs := by
 unfold sameA
 rw [Bool.and_eq_true, Bool.and_eq_true, Bool.and_eq_true, beq_iff_eq, beq_iff_eq, allB_iff eqRP eqRP_iff, allB_iff eqEV eqEV_iff]
section
variable {n m : Nat} {E : Int}
theorem fits_p {p : Int} (h0 : 0 ≤ p) (h1 : p < 256) : fitsB p 1 = true := by
 obtain ⟨k, rfl⟩ : ∃ k : Nat, p = k := ⟨p.toNat, by omega⟩
 exact fits_nat k 1 (by omega) (by omega)
theorem fits_c {c : Int} (h0 : 0 ≤ c) (h1 : c ≤ MT) : fitsB c 8 = true := by
 have ha : amtB c = true := (amt_iff c).2 ⟨h0, by unfold MT at h1; unfold MA; omega⟩
 have h8 : mayB 8 = true := by decide
 unfold fitsB
 rw [ha, h8]
 simp
set_option maxHeartbeats 1000000 in
theorem doesF_ok {s : LS} {T : Nat → Int} (h : LInv n m E s T) {p : Int} {r : RQ} (hc : (doesF n m E s p r).c = 0) : okE true (doesF n m E s p r).e = true ∧ 0 ≤ p ∧ p < n := by
 have hn16 := h.bi.good.n16
 have hl := h.len
 have hi := (doesF_yes hc).2.2.2.1
 by_cases h0 : okB r = true ∧ 0 ≤ p ∧ p < n
 · refine ⟨?_, h0.2⟩
   obtain ⟨hb, p0, pn⟩ := h0
   have hp : fitsB p 1 = true := fits_p p0 (by omega)
   have hid : fitsB (s.l.length : Int) 2 = true := fits_len2 s.l.length (by omega)
   unfold doesF at hc hi ⊢
   rw [if_pos ⟨hb, p0, pn⟩] at hc hi ⊢
   obtain ⟨k, t, a, x, i, d, hh, ss⟩ := r
   unfold okB at hb
   dsimp only at hb hc hi ⊢
   by_cases h1 : k = 1
   · subst h1
     rw [if_pos rfl] at hb hc ⊢
     simp only [Bool.and_eq_true, decide_eq_true_eq] at hb
     obtain ⟨⟨⟨⟨b1, b2⟩, b3⟩, b4, b5⟩, b6, b7⟩ := hb
     split at hc
     · rename_i h2
       rw [if_pos h2]
       split at hc
       · simp at hc
       · rename_i h3
         rw [if_neg h3]
         simp [okE, ev01, hp, b1, b2, b3, b4, b5, b6, b7, emptyB_nil]
     · simp at hc
   rw [if_neg h1] at hb hc hi ⊢
   by_cases h2 : k = 2
   · subst h2
     rw [if_pos rfl] at hb hc hi ⊢
     simp only [Bool.and_eq_true, decide_eq_true_eq] at hb
     obtain ⟨⟨⟨⟨⟨⟨b1, b2⟩, b3⟩, b4⟩, b5, b6⟩, b7⟩, b8⟩ := hb
     split at hc
     · rename_i h3
       rw [if_pos h3] at hi ⊢
       have hi := hi rfl
       dsimp only at hi
       simp [okE, ev02, hp, hi, hid, b1, b2, b3, b4, b5, b6, b8, emptyB_nil]
     · simp at hc
   rw [if_neg h2] at hb hc hi ⊢
   by_cases h3 : k = 3
   · subst h3
     rw [if_pos rfl] at hb hc ⊢
     simp only [Bool.and_eq_true, decide_eq_true_eq] at hb
     obtain ⟨⟨⟨b1, b2⟩, b3⟩, b4⟩ := hb
     simp [okE, ev00, b1, b2, emptyB_nil]
   rw [if_neg h3] at hb hc hi ⊢
   by_cases h4 : k = 4
   · subst h4
     rw [if_pos rfl] at hb
     simp only [Bool.and_eq_true, decide_eq_true_eq] at hb
     obtain ⟨⟨b1, b2⟩, b3, b4⟩ := hb
     simp [okE, ev00, b1, b4, emptyB_nil]
   · rw [if_neg h4] at hb; simp at hb
 · exfalso
   unfold doesF at hc
   rw [if_neg h0] at hc
   simp at hc
def okD (n : Nat) (d : DN) : Prop := okE true d.e = true ∧ 0 ≤ d.p ∧ d.p < n ∧ 0 ≤ d.c ∧ d.c ≤ MT
def LOk (n : Nat) (s : LS) : Prop := ∀ d ∈ s.es, okD n d
theorem LOk.step {s : LS} {T : Nat → Int} (h : LOk n s) (hI : LInv n m E s T) (p : Int) (r : RQ) : LOk n (stepF n m E p s r) := by
 intro d hd
 rw [stepF_es] at hd
 split at hd
 · rename_i hc
   rcases List.mem_append.1 hd with hd | hd
   · exact h d hd
   · rw [List.mem_singleton] at hd
     obtain ⟨a1, a2, a3⟩ := doesF_ok hI hc
     rw [hd]
     exact ⟨a1, a2, a3, hI.tick.1, hI.tick.2⟩
 · exact h d hd
theorem LOk.run {T : Nat → Int} (p : Int) : ∀ (rs : List RQ) {s : LS}, LOk n s → LInv n m E s T → LOk n (runF n m E p s rs)
 | [], s, h, _ => h
 | r :: rs, s, h, hI => LOk.run p rs (h.step hI p r) (hI.step p r)
theorem LOk.app {s : LS} {T : Nat → Int} (h : LOk n s) (hI : LInv n m E s T) (p ck : Int) (rs : List RQ) : LOk n (applyF n m E s p ck rs) := by
 refine LOk.run p _ ?_ (hI.ticks ck)
 intro d hd
 rw [tickF_es] at hd
 exact h d hd
theorem LOk.nil (b : Nat → Nat → Int) (l : List XR) (ck : Int) : LOk n ⟨b, l, ck, []⟩ := fun d hd => by simp at hd
def hdD (d : DN) : List Int := putB d.p 1 ++ putB d.c 8
def chD (d : DN) : List Int := hdD d ++ chunkE true d.e
def headB (s : LS) : List Int := putB s.ck 8 ++ putB s.es.length 2
def saveB (s : LS) : List Int := headB s ++ s.es.flatMap chD
def evF (e : EV) : List Int × Int := outEnd (evOut e (hasN e.k true) ([], false))
theorem evF_eq (e : EV) : evF e = if okE true e = true then (chunkE true e, 0) else ([], 1) := by
 have h1 := evOut_snd true ([], false) e
 unfold evF outEnd
 rw [h1]
 by_cases h : okE true e = true
 · rw [if_pos h, h, evOut_fst true ([], false) e h]; rfl
 · rw [if_neg h]
   have : okE true e = false := by simpa using h
   rw [this]; rfl
theorem okE_size {e : EV} (h : okE true e = true) : e.h.size ≤ 32 ∧ e.s.size ≤ 32 := by
 unfold okE at h
 split at h
 · simp only [Bool.and_eq_true, emptyB_iff] at h
   obtain ⟨_, h1, h2⟩ := h
   omega
 · split at h
   · simp only [Bool.and_eq_true, emptyB_iff, decide_eq_true_eq] at h
     obtain ⟨⟨⟨_, h1⟩, _⟩, h2⟩ := h
     omega
   · split at h
     · simp only [Bool.and_eq_true, emptyB_iff, decide_eq_true_eq] at h
       obtain ⟨⟨⟨_, h1⟩, _⟩, h2⟩ := h
       omega
     · split at h
       · simp only [Bool.and_eq_true, emptyB_iff] at h
         obtain ⟨_, h1, h2⟩ := h
         omega
       · simp at h
theorem chunkE_len {e : EV} (h : okE true e = true) : (chunkE true e).length ≤ 128 := by
 have h1 := evOut_len e (hasN e.k true) ([], false)
 rw [evOut_fst true ([], false) e h] at h1
 have h2 := (hasN_in e.k true).2
 have h3 := okE_size h
 simp only [List.nil_append, List.length_nil] at h1
 omega
theorem chD_len {d : DN} (h : okD n d) : (chD d).length ≤ 137 := by
 have := chunkE_len h.1
 unfold chD hdD
 rw [List.length_append, List.length_append, putB_length, putB_length]
 omega
theorem chDs_len : ∀ (es : List DN), (∀ d ∈ es, okD n d) → (es.flatMap chD).length ≤ 137 * es.length
 | [], _ => by simp
 | d :: es, h => by
   have h1 := chD_len (h d (List.mem_cons_self ..))
   have h2 := chDs_len es (fun x hx => h x (List.mem_cons_of_mem _ hx))
   rw [List.flatMap_cons, List.length_append, List.length_cons]
   omega
theorem headB_len (s : LS) : (headB s).length = 10 := by unfold headB; rw [List.length_append, putB_length, putB_length]
theorem chD_in (d : DN) : InB (chD d) := inB_app (inB_app (putB_in _ _) (putB_in _ _)) (chunkE_in _ _)
theorem headB_in (s : LS) : InB (headB s) := inB_app (putB_in _ _) (putB_in _ _)
theorem saveB_in (s : LS) : InB (saveB s) := inB_app (headB_in s) (fun z hz => by
 obtain ⟨d, _, hd⟩ := List.mem_flatMap.1 hz
 exact chD_in d z hd)
def saveK (s : LS) (k : Nat) : List Int := headB s ++ (s.es.take k).flatMap chD
theorem saveK_zero (s : LS) : saveK s 0 = headB s := by unfold saveK; simp
theorem saveK_all (s : LS) : saveK s s.es.length = saveB s := by unfold saveK saveB; rw [List.take_length]
theorem saveK_succ (s : LS) (k : Nat) (h : k < s.es.length) : saveK s (k + 1) = saveK s k ++ hdD s.es[k] ++ chunkE true s.es[k].e := by
 unfold saveK
 rw [List.take_add_one, List.getElem?_eq_getElem h, List.flatMap_append]
 simp [chD]
theorem saveK_len {s : LS} (h : LOk n s) (k : Nat) (hk : k ≤ s.es.length) : (saveK s k).length ≤ 10 + 137 * k := by
 unfold saveK
 rw [List.length_append, headB_len]
 have := chDs_len (n := n) (s.es.take k) (fun d hd => h d (List.mem_of_mem_take hd))
 rw [List.length_take] at this
 have : min k s.es.length = k := by omega
 omega
theorem encNum_ok (bs : List Int) (x z : Int) (h : fitsB x z = true) : encNum bs 0 x z = (bs ++ putB x z.toNat, 0) := by unfold encNum; rw [if_pos rfl, if_pos h]
end
def rqOf (e : EV) : RQ := ⟨e.k, e.t, e.a, e.n, if e.k = 2 then 0 else e.i, e.d, e.h, e.s⟩
section
variable {n m : Nat} {E : Int}
set_option maxHeartbeats 1000000 in
theorem rqOf_does {s : LS} {p : Int} {r : RQ} (hc : (doesF n m E s p r).c = 0) : rqOf (doesF n m E s p r).e = r := by
 by_cases h0 : okB r = true ∧ 0 ≤ p ∧ p < n
 · obtain ⟨hb, p0, pn⟩ := h0
   unfold doesF at hc ⊢
   rw [if_pos ⟨hb, p0, pn⟩] at hc ⊢
   obtain ⟨k, t, a, x, i, d, hh, ss⟩ := r
   unfold okB at hb
   dsimp only at hb hc ⊢
   by_cases h1 : k = 1
   · subst h1
     rw [if_pos rfl] at hb hc ⊢
     simp only [Bool.and_eq_true, decide_eq_true_eq] at hb
     obtain ⟨⟨⟨⟨b1, b2⟩, b3⟩, b4, b5⟩, b6, b7⟩ := hb
     have e6 := emptyB_eq _ b6
     split at hc
     · rename_i h2
       rw [if_pos h2]
       split at hc
       · simp at hc
       · rename_i h3
         rw [if_neg h3]
         simp [rqOf, ev01, b5, e6]
     · simp at hc
   rw [if_neg h1] at hb hc ⊢
   by_cases h2 : k = 2
   · subst h2
     rw [if_pos rfl] at hb hc ⊢
     simp only [Bool.and_eq_true, decide_eq_true_eq] at hb
     obtain ⟨⟨⟨⟨⟨⟨b1, b2⟩, b3⟩, b4⟩, b5, b6⟩, b7⟩, b8⟩ := hb
     split at hc
     · rename_i h3
       rw [if_pos h3]
       simp [rqOf, ev02, b7]
     · simp at hc
   rw [if_neg h2] at hb hc ⊢
   by_cases h3 : k = 3
   · subst h3
     rw [if_pos rfl] at hb hc ⊢
     simp only [Bool.and_eq_true, decide_eq_true_eq] at hb
     obtain ⟨⟨⟨b1, b2⟩, b3⟩, b4⟩ := hb
     have e4 := emptyB_eq _ b4
     simp [rqOf, ev00, b3, e4]
   rw [if_neg h3] at hb hc ⊢
   by_cases h4 : k = 4
   · subst h4
     rw [if_pos rfl] at hb
     simp only [Bool.and_eq_true, decide_eq_true_eq] at hb
     obtain ⟨⟨b1, b2⟩, b3, b4⟩ := hb
     have e3 := emptyB_eq _ b3
     simp [rqOf, ev00, b2, e3]
   · rw [if_neg h4] at hb; simp at hb
 · exfalso
   unfold doesF at hc
   rw [if_neg h0] at hc
   simp at hc
theorem app_one (s : LS) (p c : Int) (r : RQ) : applyF n m E s p c [r] = stepF n m E p (tickF s c) r := rfl
theorem app_nil (s : LS) (p c : Int) : applyF n m E s p c [] = tickF s c := rfl
def PlayL (n m : Nat) (E : Int) : List DN → LS → LS → Prop
 | [], s, s' => s = s'
 | d :: ds, s, s' => s.ck ≤ d.c ∧ (applyF n m E s d.p d.c [rqOf d.e]).es = s.es ++ [d] ∧ PlayL n m E ds (applyF n m E s d.p d.c [rqOf d.e]) s'
theorem PlayL.snoc {d : DN} : ∀ {ds : List DN} {s s1 : LS}, PlayL n m E ds s s1 → s1.ck ≤ d.c → (applyF n m E s1 d.p d.c [rqOf d.e]).es = s1.es ++ [d] → PlayL n m E (ds ++ [d]) s (applyF n m E s1 d.p d.c [rqOf d.e])
 | [], s, s1, h, h1, h2 => by
   have e : s = s1 := h
   subst e
   exact ⟨h1, h2, rfl⟩
 | x :: ds, s, s1, h, h1, h2 => ⟨h.1, h.2.1, PlayL.snoc h.2.2 h1 h2⟩
theorem PlayL.es_eq : ∀ {ds : List DN} {s s1 : LS}, PlayL n m E ds s s1 → s1.es = s.es ++ ds
 | [], s, s1, h => by
   have e : s = s1 := h
   subst e
   simp
 | x :: ds, s, s1, h => by rw [PlayL.es_eq h.2.2, h.2.1]; simp
theorem PlayL.inv {T : Nat → Int} : ∀ {ds : List DN} {s s1 : LS}, PlayL n m E ds s s1 → LInv n m E s T → LOk n s → LInv n m E s1 T ∧ LOk n s1
 | [], s, s1, h, hI, hO => by
   have e : s = s1 := h
   subst e
   exact ⟨hI, hO⟩
 | x :: ds, s, s1, h, hI, hO => PlayL.inv h.2.2 (hI.app _ _ _) (hO.app hI _ _ _)
def Rep (n m : Nat) (E : Int) (s0 s : LS) : Prop := ∃ c', PlayL n m E s.es s0 ⟨s.b, s.l, c', s.es⟩ ∧ c' ≤ s.ck
theorem Rep.start {s0 : LS} (h : s0.es = []) : Rep n m E s0 s0 := ⟨s0.ck, by rw [h]; show s0 = _; cases s0; simp_all, Int.le_refl _⟩
theorem tick_to {T : Nat → Int} {s : LS} (hI : LInv n m E s T) {c' : Int} (h : c' ≤ s.ck) : tickF ⟨s.b, s.l, c', s.es⟩ s.ck = s := by
 unfold tickF
 rw [if_pos ((tick_iff s.ck).2 hI.tick)]
 show (⟨s.b, s.l, max c' s.ck, s.es⟩ : LS) = s
 rw [show max c' s.ck = s.ck by omega]
theorem Rep.step {s0 s : LS} {T : Nat → Int} (h : Rep n m E s0 s) (hI : LInv n m E s T) (p : Int) (r : RQ) : Rep n m E s0 (stepF n m E p s r) := by
 by_cases hc : (doesF n m E s p r).c = 0
 · obtain ⟨c', h1, h2⟩ := h
   obtain ⟨d, hd⟩ : ∃ d : DN, d = ⟨p, s.ck, (doesF n m E s p r).e⟩ := ⟨_, rfl⟩
   have e : (stepF n m E p s r).es = s.es ++ [d] := by rw [stepF_es, if_pos hc, hd]
   have e2 : applyF n m E ⟨s.b, s.l, c', s.es⟩ d.p d.c [rqOf d.e] = stepF n m E p s r := by
    rw [app_one, hd]
    show stepF n m E p (tickF ⟨s.b, s.l, c', s.es⟩ s.ck) (rqOf (doesF n m E s p r).e) = _
    rw [tick_to hI h2, rqOf_does hc]
   refine ⟨s.ck, ?_, Int.le_refl _⟩
   have h3 := h1.snoc (d := d) (by rw [hd]; exact h2) (by rw [e2, e])
   rw [e2] at h3
   rw [e]
   have e5 : (⟨(stepF n m E p s r).b, (stepF n m E p s r).l, s.ck, s.es ++ [d]⟩ : LS) = stepF n m E p s r := by rw [← e]; rfl
   rw [e5]
   exact h3
 · have hn := doesF_no hc
   have e : stepF n m E p s r = s := by
    unfold stepF
    rw [if_neg hc, hn.1, hn.2]
   rw [e]; exact h
theorem Rep.tick {s0 s : LS} (h : Rep n m E s0 s) (ck : Int) : Rep n m E s0 (tickF s ck) := by
 unfold tickF
 split
 · obtain ⟨c', h1, h2⟩ := h
   exact ⟨c', h1, by show c' ≤ max s.ck ck; omega⟩
 · exact h
theorem Rep.run {s0 : LS} {T : Nat → Int} (p : Int) : ∀ (rs : List RQ) {s : LS}, Rep n m E s0 s → LInv n m E s T → Rep n m E s0 (runF n m E p s rs)
 | [], s, h, _ => h
 | r :: rs, s, h, hI => Rep.run p rs (h.step hI p r) (hI.step p r)
theorem Rep.app {s0 s : LS} {T : Nat → Int} (h : Rep n m E s0 s) (hI : LInv n m E s T) (p ck : Int) (rs : List RQ) : Rep n m E s0 (applyF n m E s p ck rs) :=
 (h.tick ck).run p _ (hI.ticks ck)
def eqDN (a b : DN) : Bool := a.p == b.p && a.c == b.c && eqEV a.e b.e
theorem eqDN_iff (a b : DN) : eqDN a b = true ↔ a = b := by
 obtain ⟨p, c, e⟩ := a
 obtain ⟨q, d, f⟩ := b
 unfold eqDN
 simp only [Bool.and_eq_true, beq_iff_eq, eqEV_iff, DN.mk.injEq]
 exact ⟨fun h => ⟨h.1.1, h.1.2, h.2⟩, fun h => ⟨⟨h.1, h.2.1⟩, h.2.2⟩⟩
def againB (n m : Nat) (E : Int) (s : LS) (d : DN) : Bool :=
 decide (s.ck ≤ d.c) && (decide ((applyF n m E s d.p d.c [rqOf d.e]).es.length = s.es.length + 1) && eqDN ((applyF n m E s d.p d.c [rqOf d.e]).es.getD s.es.length default) d)
theorem againB_iff (s : LS) (d : DN) : againB n m E s d = true ↔ s.ck ≤ d.c ∧ (applyF n m E s d.p d.c [rqOf d.e]).es = s.es ++ [d] := by
 unfold againB
 simp only [Bool.and_eq_true, decide_eq_true_eq, eqDN_iff]
 obtain ⟨more, hm⟩ := app_more (n := n) (m := m) (E := E) s d.p d.c [rqOf d.e]
 rw [hm]
 constructor
 · rintro ⟨h1, h2, h3⟩
   refine ⟨h1, ?_⟩
   rw [List.length_append] at h2
   obtain ⟨x, rfl⟩ := List.length_eq_one_iff.1 (show more.length = 1 by omega)
   simp [List.getD] at h3
   rw [h3]
 · rintro ⟨h1, h2⟩
   rw [List.append_cancel_left h2]
   exact ⟨h1, by simp, by simp [List.getD]⟩
def decE (zs : List Int) : EV × Nat × Int :=
 if (evIn true (zs, false)).2.2 = false ∧ okE true (evIn true (zs, false)).1 = true ∧ chunkE true (evIn true (zs, false)).1 = zs.take (zs.length - (evIn true (zs, false)).2.1.length) then ((evIn true (zs, false)).1, zs.length - (evIn true (zs, false)).2.1.length, 0) else (ev0, 0, 2)
theorem decE_chunk (e : EV) (tail : List Int) (h : okE true e = true) : decE (chunkE true e ++ tail) = (e, (chunkE true e).length, 0) := by
 unfold decE
 rw [evIn_chunk true e tail false h]
 have hl : (chunkE true e ++ tail).length - tail.length = (chunkE true e).length := by rw [List.length_append]; omega
 rw [hl, if_pos ⟨rfl, h, by rw [List.take_left' rfl]⟩]
def parse1 (rest : List Int) : Option (DN × Nat) :=
 if rest.length < 9 then none
 else if decEnd (decNum (decNum (rest.take 9) 0 1).2.1 (decNum (rest.take 9) 0 1).2.2 8).2.1 (decNum (decNum (rest.take 9) 0 1).2.1 (decNum (rest.take 9) 0 1).2.2 8).2.2 = 0 ∧ (decE (rest.drop 9)).2.2 = 0 then
  some (⟨(decNum (rest.take 9) 0 1).1, (decNum (decNum (rest.take 9) 0 1).2.1 (decNum (rest.take 9) 0 1).2.2 8).1, (decE (rest.drop 9)).1⟩, 9 + (decE (rest.drop 9)).2.1)
 else none
theorem hdD_len (d : DN) : (hdD d).length = 9 := by unfold hdD; rw [List.length_append, putB_length, putB_length]
theorem parse1_chunk (d : DN) (tail : List Int) (h : okD n d) (hn : n ≤ 16) : parse1 (chD d ++ tail) = some (d, (chD d).length) := by
 obtain ⟨h1, h2, h3, h4, h5⟩ := h
 have e9 : (chD d ++ tail).take 9 = hdD d := by
  unfold chD
  rw [List.append_assoc, List.take_left' (hdD_len d)]
 have ed : (chD d ++ tail).drop 9 = chunkE true d.e ++ tail := by
  unfold chD
  rw [List.append_assoc, List.drop_left' (hdD_len d)]
 have hl : ¬ (chD d ++ tail).length < 9 := by
  unfold chD
  rw [List.length_append, List.length_append, hdD_len]; omega
 have e1 : decNum (hdD d) 0 1 = (d.p, putB d.c 8, 0) := decNum_put d.p 1 (putB d.c 8) (fits_p h2 (by omega))
 have e2 : decNum (putB d.c 8) 0 8 = (d.c, [], 0) := by
  have := decNum_put d.c 8 [] (fits_c h4 h5)
  rwa [List.append_nil] at this
 unfold parse1
 rw [if_neg hl, e9, ed, e1]
 dsimp only
 rw [e2, decE_chunk _ _ h1]
 dsimp only
 rw [if_pos ⟨by decide, rfl⟩]
 have : (chD d).length = 9 + (chunkE true d.e).length := by unfold chD; rw [List.length_append, hdD_len]
 rw [this]
def goC (n m : Nat) (E : Int) : Nat → List Int → LS → Option LS
 | 0, _, s => some s
 | k + 1, rest, s => (parse1 rest).bind fun x => if againB n m E s x.1 = true then goC n m E k (rest.drop x.2) (applyF n m E s x.1.p x.1.c [rqOf x.1.e]) else none
theorem goC_succ (k : Nat) (rest : List Int) (s : LS) : goC n m E (k + 1) rest s = (parse1 rest).bind fun x => if againB n m E s x.1 = true then goC n m E k (rest.drop x.2) (applyF n m E s x.1.p x.1.c [rqOf x.1.e]) else none := rfl
theorem goC_play (hn : n ≤ 16) (tail : List Int) : ∀ (ds : List DN) (s s1 : LS), PlayL n m E ds s s1 → (∀ d ∈ ds, okD n d) → goC n m E ds.length (ds.flatMap chD ++ tail) s = some s1
 | [], s, s1, h, _ => by
   have e : s = s1 := h
   rw [e]; rfl
 | d :: ds, s, s1, h, ho => by
   have hp := parse1_chunk d (ds.flatMap chD ++ tail) (ho d (List.mem_cons_self ..)) hn
   have e : (d :: ds).flatMap chD ++ tail = chD d ++ (ds.flatMap chD ++ tail) := by rw [List.flatMap_cons, List.append_assoc]
   rw [e]
   show goC n m E (ds.length + 1) _ s = _
   rw [goC_succ, hp]
   show (if againB n m E s d = true then goC n m E ds.length ((chD d ++ (ds.flatMap chD ++ tail)).drop (chD d).length) (applyF n m E s d.p d.c [rqOf d.e]) else none) = _
   rw [if_pos ((againB_iff s d).2 ⟨h.1, h.2.1⟩), List.drop_left' rfl]
   exact goC_play hn tail ds _ s1 h.2.2 (fun x hx => ho x (List.mem_cons_of_mem _ hx))
theorem goC_some : ∀ (k : Nat) (rest : List Int) (s s1 : LS), goC n m E k rest s = some s1 → ∃ ds, PlayL n m E ds s s1
 | 0, rest, s, s1, h => ⟨[], by have h : some s = some s1 := h; simp only [Option.some.injEq] at h; exact h⟩
 | k + 1, rest, s, s1, h => by
   rw [goC_succ] at h
   obtain ⟨x, hp, h⟩ := Option.bind_eq_some_iff.1 h
   split at h
   · rename_i ha
     obtain ⟨h1, h2⟩ := (againB_iff s x.1).1 ha
     obtain ⟨ds, hds⟩ := goC_some k _ _ _ h
     exact ⟨x.1 :: ds, h1, h2, hds⟩
   · cases h
def hd10 (b : List Int) : Int × Int := ((decNum (b.take 10) 0 8).1, (decNum (decNum (b.take 10) 0 8).2.1 (decNum (b.take 10) 0 8).2.2 2).1)
def endC (n m : Nat) (E : Int) (b : List Int) (c : Int) (s : LS) : Option LS := if saveB (tickF s c) = b then some (tickF s c) else none
def loadC (n m : Nat) (E : Int) (s0 : LS) (b : List Int) : Option LS :=
 if b.length < 10 then none else (goC n m E (hd10 b).2.toNat (b.drop 10) s0).bind (endC n m E b (hd10 b).1)
structure Loads (n m : Nat) (E : Int) (T : Nat → Int) (s0 : LS) (b : List Int) (s : LS) : Prop where
 inv : LInv n m E s T
 ok : LOk n s
 rep : Rep n m E s0 s
 save : saveB s = b
theorem play_tick {T : Nat → Int} {s0 s : LS} {ds : List DN} (h0 : s0.es = []) (hI : LInv n m E s0 T) (h : PlayL n m E ds s0 s) (c : Int) (b : List Int) (hs : saveB (tickF s c) = b) : Loads n m E T s0 b (tickF s c) := by
 have hO0 : LOk n s0 := fun d hd => by rw [h0] at hd; simp at hd
 obtain ⟨h1, h2⟩ := h.inv hI hO0
 refine ⟨h1.ticks c, fun d hd => ?_, ?_, hs⟩
 · rw [tickF_es] at hd; exact h2 d hd
 · have he := h.es_eq
   rw [h0, List.nil_append] at he
   have hr : Rep n m E s0 s := by
    refine ⟨s.ck, ?_, Int.le_refl _⟩
    rw [he]
    have e5 : (⟨s.b, s.l, s.ck, ds⟩ : LS) = s := by rw [← he]
    rw [e5]
    exact h
   exact hr.tick c
theorem loadC_iff {T : Nat → Int} {s0 s : LS} (h0 : s0.es = []) (hI : LInv n m E s0 T) (b : List Int) : loadC n m E s0 b = some s ↔ Loads n m E T s0 b s := by
 constructor
 · intro h
   unfold loadC at h
   split at h
   · cases h
   · obtain ⟨s', h1, h2⟩ := Option.bind_eq_some_iff.1 h
     obtain ⟨ds, hds⟩ := goC_some _ _ _ _ h1
     unfold endC at h2
     split at h2
     · rename_i hs
       simp only [Option.some.injEq] at h2
       rw [← h2]
       exact play_tick h0 hI hds _ b hs
     · cases h2
 · rintro ⟨h1, h2, ⟨c', h3, h4⟩, h5⟩
   have hn16 := h1.bi.good.n16
   have hl := h1.len
   have e1 : decNum (headB s) 0 8 = (s.ck, putB s.es.length 2, 0) := decNum_put s.ck 8 (putB s.es.length 2) (fits_c h1.tick.1 h1.tick.2)
   have e2 : decNum (putB (s.es.length : Int) 2) 0 2 = ((s.es.length : Int), [], 0) := by
    have := decNum_put (s.es.length : Int) 2 [] (fits_len2 s.es.length (by omega))
    rwa [List.append_nil] at this
   have hb : ¬ b.length < 10 := by rw [← h5]; unfold saveB; rw [List.length_append, headB_len]; omega
   have ht : b.take 10 = headB s := by rw [← h5]; unfold saveB; rw [List.take_left' (headB_len s)]
   have hd : b.drop 10 = s.es.flatMap chD := by rw [← h5]; unfold saveB; rw [List.drop_left' (headB_len s)]
   have hh : hd10 b = (s.ck, (s.es.length : Int)) := by unfold hd10; rw [ht, e1]; dsimp only; rw [e2]
   have hg := goC_play (E := E) (m := m) hn16 [] s.es s0 _ h3 h2
   rw [List.append_nil] at hg
   unfold loadC
   rw [if_neg hb, hh, hd]
   dsimp only
   rw [Int.toNat_natCast, hg]
   show endC n m E b s.ck _ = _
   unfold endC
   rw [tick_to h1 h4, if_pos h5]
end
structure Boxes (W wr : World) (bs : List (Array Value × TypeId)) : Prop where
 base : Below W.heap.size W wr
 box : ∀ i cs T, bs[i]? = some (cs, T) → wr.heap[W.heap.size + i]? = some (.cells cs T (0, 0))
section
variable {W wr w' : World} {bs : List (Array Value × TypeId)}
theorem Boxes.nil (W : World) : Boxes W W [] := ⟨Below.refl _ _, fun i cs T h => by simp at h⟩
theorem Boxes.push (h : Boxes W wr bs) (hs : wr.heap.size = W.heap.size + bs.length) (cs : Array Value) (T : TypeId) : Boxes W (wr.alloc (.cells cs T)) (bs ++ [(cs, T)]) := by
 refine ⟨h.base.alloc h.base.size _, fun i cs' T' hi => ?_⟩
 by_cases hl : i < bs.length
 · rw [List.getElem?_append_left hl] at hi
   exact (Below.heap_alloc _ _ _ (by omega)).trans (h.box i cs' T' hi)
 · rw [List.getElem?_append_right (by omega)] at hi
   obtain ⟨h0, h1⟩ : i - bs.length = 0 ∧ (cs, T) = (cs', T') := by
    cases hh : i - bs.length with
    | zero => rw [hh] at hi; simp at hi; exact ⟨rfl, by rw [hi.1, hi.2]⟩
    | succ k => rw [hh] at hi; simp at hi
   cases h1
   have e : W.heap.size + i = wr.heap.size := by omega
   rw [e]
   exact heap_alloc_new wr _
theorem Boxes.below (h : Boxes W wr bs) (hb : Below wr.heap.size wr w') : Boxes W w' bs :=
 ⟨h.base.trans (hb.mono h.base.size), fun i cs T hi => (hb.block _ (blk_lt (h.box i cs T hi))).trans (h.box i cs T hi)⟩
theorem Boxes.drew (h : Boxes W wr bs) : Boxes W wr.drew bs := h.below ((Keeps.refl (fun _ => False) wr).drew.below (Nat.le_refl _) (fun _ f => f.elim))
theorem Boxes.cell (h : Boxes W wr bs) (i j : Nat) {cs : Array Value} {T : TypeId} (hi : bs[i]? = some (cs, T)) : wr.cell? ⟨W.heap.size + i, j, none⟩ = cs[j]? := blk_cell (h.box i cs T hi) j
end
theorem below_drew (w : World) : Below w.heap.size w w.drew := (Keeps.refl (fun _ => False) w).drew.below (Nat.le_refl _) (fun _ f => f.elim)
theorem Boxes.set {W wr : World} {bs : List (Array Value × TypeId)} (h : Boxes W wr bs) {i : Nat} {cs : Array Value} {T : TypeId} (hi : bs[i]? = some (cs, T)) (j : Nat) (v : Value) :
 Boxes W (wr.setCell ⟨W.heap.size + i, j, none⟩ v) (bs.set i (cs.setIfInBounds j v, T)) := by
 refine ⟨h.base.trans ((((Keeps.refl (fun k => k = W.heap.size + i) wr).setCell (p := ⟨W.heap.size + i, j, none⟩) (Or.inl rfl) v).below (B := W.heap.size) h.base.size (fun k hk => by omega))), fun k cs' T' hk => ?_⟩
 by_cases e : i = k
 · subst e
   have hl : i < bs.length := by
    by_cases hl : i < bs.length
    · exact hl
    · rw [List.getElem?_eq_none (by omega)] at hi; cases hi
   rw [List.getElem?_set_self hl] at hk
   cases hk
   exact blk_set (h.box i cs T hi) j v
 · rw [List.getElem?_set_ne e] at hk
   exact (Below.heap_setCell _ _ _ _ (by show W.heap.size + k ≠ W.heap.size + i; omega)).trans (h.box k cs' T' hk)
def byteB (n : Int) : Bool := decide (0 ≤ n) && decide (n ≤ 255)
theorem byte8_any (n : Int) (w : World) : Calls Tryz.prog 77 #[.int .i64 n] w fun e w' => e = .returned (.bool (byteB n)) ∧ w = w' := by
 by_cases h : (0 : Int) ≤ n
 · have HB := Lib.hid (show byteB n = decide (n ≤ 255) by simp [byteB, h])
   go_enter Tryz.func77, Tryz.ntmps77
   go_wp2
   go_ret
   exact ⟨ret_bool HB.out.symm, rfl⟩
 · have HB := Lib.hid (show byteB n = false by simp [byteB, h])
   go_enter Tryz.func77, Tryz.ntmps77
   go_wp2
   go_ret
   exact ⟨ret_bool HB.out.symm, rfl⟩
theorem ramt9_any (n : Int) (w : World) : Calls Tryz.prog 78 #[.int .i64 n] w fun e w' => e = .returned (.bool (amtB n)) ∧ w = w' := by
 by_cases h : (0 : Int) ≤ n
 · have HB := Lib.hid (show amtB n = decide (n ≤ 4611686018427387904) by simp [amtB, MA, h])
   go_enter Tryz.func78, Tryz.ntmps78
   go_wp2
   go_ret
   exact ⟨ret_bool HB.out.symm, rfl⟩
 · have HB := Lib.hid (show amtB n = false by simp [amtB, h])
   go_enter Tryz.func78, Tryz.ntmps78
   go_wp2
   go_ret
   exact ⟨ret_bool HB.out.symm, rfl⟩
theorem rtick9_any (n : Int) (w : World) : Calls Tryz.prog 48 #[.int .i64 n] w fun e w' => e = .returned (.bool (tickB n)) ∧ w = w' := by
 by_cases h : (0 : Int) ≤ n
 · have HB := Lib.hid (show tickB n = decide (n ≤ MT) by simp [tickB, h])
   unfold MT at HB
   go_enter Tryz.func48, Tryz.ntmps48
   go_wp2
   go_ret
   exact ⟨ret_bool HB.out.symm, rfl⟩
 · have HB := Lib.hid (show tickB n = false by simp [tickB, h])
   go_enter Tryz.func48, Tryz.ntmps48
   go_wp2
   go_ret
   exact ⟨ret_bool HB.out.symm, rfl⟩
set_option maxRecDepth 100000 in
set_option maxHeartbeats 1000000 in
theorem eql_rq (r q : RQ) (w : World) : (binOp .eql 52 (.agg r.cells) (.agg q.cells)).run Tryz.prog w = .ok (.bool (eqRQ r q)) w := by
 unfold RQ.cells eqRQ eqS
 cases h0 : (r.k == q.k)
 · go_simp; try simp [*]
 · skip
   cases h1 : (r.t == q.t)
   · go_simp; try simp [*]
   · skip
     cases h2 : (r.a == q.a)
     · go_simp; try simp [*]
     · skip
       cases h3 : (r.n == q.n)
       · go_simp; try simp [*]
       · skip
         cases h4 : (r.i == q.i)
         · go_simp; try simp [*]
         · skip
           cases h5 : (r.d == q.d)
           · go_simp; try simp [*]
           · skip
             cases h6 : (r.h.toList == q.h.toList)
             · go_simp; try simp [*]
             · skip
               cases h7 : (r.s.toList == q.s.toList)
               · go_simp; try simp [*]
               · go_simp; try simp [*]
set_option maxRecDepth 100000 in
set_option maxHeartbeats 1000000 in
theorem eql_ev (r q : EV) (w : World) : (binOp .eql 55 (.agg r.cells) (.agg q.cells)).run Tryz.prog w = .ok (.bool (eqEV r q)) w := by
 unfold EV.cells eqEV eqS
 cases h0 : (r.k == q.k)
 · go_simp; try simp [*]
 · skip
   cases h1 : (r.f == q.f)
   · go_simp; try simp [*]
   · skip
     cases h2 : (r.t == q.t)
     · go_simp; try simp [*]
     · skip
       cases h3 : (r.a == q.a)
       · go_simp; try simp [*]
       · skip
         cases h4 : (r.n == q.n)
         · go_simp; try simp [*]
         · skip
           cases h5 : (r.i == q.i)
           · go_simp; try simp [*]
           · skip
             cases h6 : (r.d == q.d)
             · go_simp; try simp [*]
             · skip
               cases h7 : (r.h.toList == q.h.toList)
               · go_simp; try simp [*]
               · skip
                 cases h8 : (r.s.toList == q.s.toList)
                 · go_simp; try simp [*]
                 · go_simp; try simp [*]
def xReq (r : RQ) : RQ := if r.k = 1 then ⟨r.k, r.t, r.a, r.n, 0, 0, ⟨#[]⟩, ⟨#[]⟩⟩ else if r.k = 2 then ⟨r.k, r.t, r.a, r.n, 0, r.d, r.h, ⟨#[]⟩⟩ else if r.k = 3 then ⟨r.k, 0, 0, 0, r.i, 0, ⟨#[]⟩, r.s⟩ else if r.k = 4 then ⟨r.k, 0, 0, 0, r.i, 0, ⟨#[]⟩, ⟨#[]⟩⟩ else r
def mayRQ (r : RQ) : Bool := (decide (r.k = 1 ∨ r.k = 2 ∨ r.k = 3 ∨ r.k = 4)) && (eqRQ r (xReq r) && byteB r.t && byteB r.a && amtB r.n && decide (0 ≤ r.i) && decide (r.i ≤ 65535) && tickB r.d && (!(r.k == 2) || decide (r.h.size = 32)) && (!(r.k == 3) || decide (r.s.size = 32)))
set_option maxRecDepth 100000 in
set_option maxHeartbeats 4000000 in
theorem mayReq (r : RQ) (W : World) : Calls Tryz.prog 85 #[.agg r.cells] W fun e w' => e = .returned (.bool (mayRQ r)) ∧ Below W.heap.size W w' := by
 have HW0 : Hid (∀ q : RQ, ∀ wx, wx = (W.alloc (.cells r.cells 52)).alloc (.cells q.cells 52) → Boxes W wx [(r.cells, 52), (q.cells, 52)]) := Lib.hid (fun q wx h => by
  subst h
  exact ((Boxes.nil W).push (by simp) r.cells 52).push (by simp) q.cells 52)
 have HD : Hid (∀ b : Bool, mayRQ r = b → mayRQ r = b) := Lib.hid (fun _ h => h)
 unfold RQ.cells
 go_enter Tryz.func85, Tryz.ntmps85
 go_upto_block 0 with fail
 obtain ⟨w2, hw2⟩ : ∃ w2, w2 = (W.alloc (.cells r.cells 52)).alloc (.cells (⟨r.k, 0, 0, 0, 0, 0, ⟨#[]⟩, ⟨#[]⟩⟩ : RQ).cells 52) := ⟨_, rfl⟩
 have HB2 := Lib.hid (HW0.out ⟨r.k, 0, 0, 0, 0, 0, ⟨#[]⟩, ⟨#[]⟩⟩ w2 hw2)
 unfold RQ.cells at hw2
 rw [← hw2]
 clear hw2
 have HRC : Hid (∀ w' cs, Boxes W w' [(r.cells, 52), (cs, 52)] → w'.cell? ⟨W.heap.size, 0, none⟩ = some (.int .i64 r.k) ∧ w'.cell? ⟨W.heap.size, 1, none⟩ = some (.int .i64 r.t) ∧ w'.cell? ⟨W.heap.size, 2, none⟩ = some (.int .i64 r.a) ∧ w'.cell? ⟨W.heap.size, 3, none⟩ = some (.int .i64 r.n) ∧ w'.cell? ⟨W.heap.size, 4, none⟩ = some (.int .i64 r.i) ∧ w'.cell? ⟨W.heap.size, 5, none⟩ = some (.int .i64 r.d) ∧ w'.cell? ⟨W.heap.size, 6, none⟩ = some (.string r.h) ∧ w'.cell? ⟨W.heap.size, 7, none⟩ = some (.string r.s)) := Lib.hid (fun w' cs h => ⟨h.cell 0 0 rfl, h.cell 0 1 rfl, h.cell 0 2 rfl, h.cell 0 3 rfl, h.cell 0 4 rfl, h.cell 0 5 rfl, h.cell 0 6 rfl, h.cell 0 7 rfl⟩)
 have hb2l : W.heap.size + 1 < w2.heap.size := blk_lt (HB2.out.box 1 _ _ rfl)
 go_cut [] (fun wx => (r.k = 1 ∨ r.k = 2 ∨ r.k = 3 ∨ r.k = 4) ∧ Boxes W wx [(r.cells, 52), ((xReq r).cells, 52)])
 case first =>
  obtain ⟨a0, a1, a2, a3, a4, a5, a6, a7⟩ := HRC.out w2 _ HB2.out
  have b1 := HB2.out.cell 1 1 rfl
  have g1 := blk_frozen (HB2.out.box 1 _ _ rfl) 1
  have b2 := HB2.out.cell 1 2 rfl
  have g2 := blk_frozen (HB2.out.box 1 _ _ rfl) 2
  have b3 := HB2.out.cell 1 3 rfl
  have g3 := blk_frozen (HB2.out.box 1 _ _ rfl) 3
  have b4 := HB2.out.cell 1 4 rfl
  have g4 := blk_frozen (HB2.out.box 1 _ _ rfl) 4
  have b5 := HB2.out.cell 1 5 rfl
  have g5 := blk_frozen (HB2.out.box 1 _ _ rfl) 5
  have b6 := HB2.out.cell 1 6 rfl
  have g6 := blk_frozen (HB2.out.box 1 _ _ rfl) 6
  have b7 := HB2.out.cell 1 7 rfl
  have g7 := blk_frozen (HB2.out.box 1 _ _ rfl) 7
  simp only [RQ.cells, lq] at b1 b2 b3 b4 b5 b6 b7
  cases k1 : (r.k == 1)
  case' true =>
   have e1 : r.k = 1 := by simpa using k1
   have HX : Hid (xReq r = ⟨r.k, r.t, r.a, r.n, 0, 0, ⟨#[]⟩, ⟨#[]⟩⟩) := Lib.hid (by unfold xReq; simp [e1])
   have HKK := Lib.hid e1
   clear e1
   go_wp2_with fail
   go_region_held3 (fun w' => w'.cell? ⟨W.heap.size, 1, none⟩ = some (.int .i64 r.t) ∧ w'.cell? ⟨W.heap.size, 2, none⟩ = some (.int .i64 r.a) ∧ w'.cell? ⟨W.heap.size, 3, none⟩ = some (.int .i64 r.n)) (go_keep) (fail)
   all_goals
    go_wp2_with fail
    go_meet
    case rel =>
     refine ⟨Or.inl HKK.out, ?_⟩
     rw [HX.out]
     have h := (((HB2.out.set (i := 1) rfl 1 (.int .i64 r.t)).set (i := 1) rfl 2 (.int .i64 r.a)).set (i := 1) rfl 3 (.int .i64 r.n)).drew
     simpa [RQ.cells] using h
  have n1 : Hid (r.k ≠ 1) := Lib.hid (by simpa using k1)
  cases k2 : (r.k == 2)
  case' true =>
   have e2 : r.k = 2 := by simpa using k2
   have HX : Hid (xReq r = ⟨r.k, r.t, r.a, r.n, 0, r.d, r.h, ⟨#[]⟩⟩) := Lib.hid (by unfold xReq; simp [e2])
   have HKK := Lib.hid e2
   clear e2
   go_wp2_with fail
   go_region_held3 (fun w' => w'.cell? ⟨W.heap.size, 1, none⟩ = some (.int .i64 r.t) ∧ w'.cell? ⟨W.heap.size, 2, none⟩ = some (.int .i64 r.a) ∧ w'.cell? ⟨W.heap.size, 3, none⟩ = some (.int .i64 r.n) ∧ w'.cell? ⟨W.heap.size, 6, none⟩ = some (.string r.h) ∧ w'.cell? ⟨W.heap.size, 5, none⟩ = some (.int .i64 r.d)) (go_keep) (fail)
   all_goals
    go_wp2_with fail
    go_meet
    case rel =>
     refine ⟨Or.inr (Or.inl HKK.out), ?_⟩
     rw [HX.out]
     have h := (((((HB2.out.set (i := 1) rfl 1 (.int .i64 r.t)).set (i := 1) rfl 2 (.int .i64 r.a)).set (i := 1) rfl 3 (.int .i64 r.n)).set (i := 1) rfl 6 (.string r.h)).set (i := 1) rfl 5 (.int .i64 r.d)).drew
     simpa [RQ.cells] using h
  have n2 : Hid (r.k ≠ 2) := Lib.hid (by simpa using k2)
  cases k3 : (r.k == 3)
  case' true =>
   have e3 : r.k = 3 := by simpa using k3
   have HX : Hid (xReq r = ⟨r.k, 0, 0, 0, r.i, 0, ⟨#[]⟩, r.s⟩) := Lib.hid (by unfold xReq; simp [e3])
   have HKK := Lib.hid e3
   clear e3
   go_wp2_with fail
   go_region_held3 (fun w' => w'.cell? ⟨W.heap.size, 4, none⟩ = some (.int .i64 r.i) ∧ w'.cell? ⟨W.heap.size, 7, none⟩ = some (.string r.s)) (go_keep) (fail)
   all_goals
    go_wp2_with fail
    go_meet
    case rel =>
     refine ⟨Or.inr (Or.inr (Or.inl HKK.out)), ?_⟩
     rw [HX.out]
     have h := ((HB2.out.set (i := 1) rfl 4 (.int .i64 r.i)).set (i := 1) rfl 7 (.string r.s)).drew
     simpa [RQ.cells] using h
  have n3 : Hid (r.k ≠ 3) := Lib.hid (by simpa using k3)
  cases k4 : (r.k == 4)
  case' true =>
   have e4 : r.k = 4 := by simpa using k4
   have HX : Hid (xReq r = ⟨r.k, 0, 0, 0, r.i, 0, ⟨#[]⟩, ⟨#[]⟩⟩) := Lib.hid (by unfold xReq; simp [e4])
   have HKK := Lib.hid e4
   clear e4
   go_wp2_with fail
   all_goals
    go_wp2_with fail
    go_meet
    case rel =>
     refine ⟨Or.inr (Or.inr (Or.inr HKK.out)), ?_⟩
     rw [HX.out]
     have h := (HB2.out.set (i := 1) rfl 4 (.int .i64 r.i))
     simpa [RQ.cells] using h
  have n4 : Hid (r.k ≠ 4) := Lib.hid (by simpa using k4)
  go_wp2
  go_ret
  exact ⟨ret_bool (by unfold mayRQ; simp [n1.out, n2.out, n3.out, n4.out]), HB2.out.base⟩
 case rest =>
  obtain ⟨hk, hb⟩ := hcut
  have HB := Lib.hid hb
  obtain ⟨a0, a1, a2, a3, a4, a5, a6, a7⟩ := HRC.out _ _ hb
  have HRET : Hid (mayRQ r = (eqRQ r (xReq r) && byteB r.t && byteB r.a && amtB r.n && decide (0 ≤ r.i) && decide (r.i ≤ 65535) && tickB r.d && (!(r.k == 2) || decide (r.h.size = 32)) && (!(r.k == 3) || decide (r.s.size = 32)))) := Lib.hid (by unfold mayRQ; rw [decide_eq_true hk, Bool.true_and])
  have HBASE := Lib.hid hb.base
  clear hk hb HB2 hb2l
  generalize hq : xReq r = q at *
  clear hq
  have b0 := HB.out.cell 1 0 rfl
  have b1 := HB.out.cell 1 1 rfl
  have b2 := HB.out.cell 1 2 rfl
  have b3 := HB.out.cell 1 3 rfl
  have b4 := HB.out.cell 1 4 rfl
  have b5 := HB.out.cell 1 5 rfl
  have b6 := HB.out.cell 1 6 rfl
  have b7 := HB.out.cell 1 7 rfl
  simp only [RQ.cells, lq] at b0 b1 b2 b3 b4 b5 b6 b7
  have heq := fun w1 => eql_rq r q w1
  unfold RQ.cells at heq
  cases q0 : (eqRQ r q)
  case' false =>
   have Q0 := Lib.hid q0
   simp only [q0] at heq
   go_wp2_with (first | (go_at_call 77; refine (byte8_any _ _).mono ?_; rintro e w' ⟨rfl, rfl⟩) | (go_at_call 78; refine (ramt9_any _ _).mono ?_; rintro e w' ⟨rfl, rfl⟩) | (go_at_call 48; refine (rtick9_any _ _).mono ?_; rintro e w' ⟨rfl, rfl⟩))
   go_ret
   exact ⟨ret_bool (by rw [HRET.out]; simp [Q0.out]), HBASE.out⟩
  have Q0 := Lib.hid q0
  simp only [q0] at heq
  cases q1 : (byteB r.t)
  case' false =>
   have Q1 := Lib.hid q1
   go_wp2_with (first | (go_at_call 77; refine (byte8_any _ _).mono ?_; rintro e w' ⟨rfl, rfl⟩) | (go_at_call 78; refine (ramt9_any _ _).mono ?_; rintro e w' ⟨rfl, rfl⟩) | (go_at_call 48; refine (rtick9_any _ _).mono ?_; rintro e w' ⟨rfl, rfl⟩))
   go_ret
   exact ⟨ret_bool (by rw [HRET.out]; simp [Q0.out, Q1.out]), HBASE.out⟩
  have Q1 := Lib.hid q1
  cases q2 : (byteB r.a)
  case' false =>
   have Q2 := Lib.hid q2
   go_wp2_with (first | (go_at_call 77; refine (byte8_any _ _).mono ?_; rintro e w' ⟨rfl, rfl⟩) | (go_at_call 78; refine (ramt9_any _ _).mono ?_; rintro e w' ⟨rfl, rfl⟩) | (go_at_call 48; refine (rtick9_any _ _).mono ?_; rintro e w' ⟨rfl, rfl⟩))
   go_ret
   exact ⟨ret_bool (by rw [HRET.out]; simp [Q0.out, Q1.out, Q2.out]), HBASE.out⟩
  have Q2 := Lib.hid q2
  cases q3 : (amtB r.n)
  case' false =>
   have Q3 := Lib.hid q3
   go_wp2_with (first | (go_at_call 77; refine (byte8_any _ _).mono ?_; rintro e w' ⟨rfl, rfl⟩) | (go_at_call 78; refine (ramt9_any _ _).mono ?_; rintro e w' ⟨rfl, rfl⟩) | (go_at_call 48; refine (rtick9_any _ _).mono ?_; rintro e w' ⟨rfl, rfl⟩))
   go_ret
   exact ⟨ret_bool (by rw [HRET.out]; simp [Q0.out, Q1.out, Q2.out, Q3.out]), HBASE.out⟩
  have Q3 := Lib.hid q3
  cases q4 : (decide (0 ≤ r.i))
  case' false =>
   have Q4 := Lib.hid q4
   simp only [decide_eq_false_iff_not] at q4
   go_wp2_with (first | (go_at_call 77; refine (byte8_any _ _).mono ?_; rintro e w' ⟨rfl, rfl⟩) | (go_at_call 78; refine (ramt9_any _ _).mono ?_; rintro e w' ⟨rfl, rfl⟩) | (go_at_call 48; refine (rtick9_any _ _).mono ?_; rintro e w' ⟨rfl, rfl⟩))
   go_ret
   exact ⟨ret_bool (by rw [HRET.out]; simp [Q0.out, Q1.out, Q2.out, Q3.out, Q4.out]), HBASE.out⟩
  have Q4 := Lib.hid q4
  simp only [decide_eq_true_eq] at q4
  cases q5 : (decide (r.i ≤ 65535))
  case' false =>
   have Q5 := Lib.hid q5
   simp only [decide_eq_false_iff_not] at q5
   go_wp2_with (first | (go_at_call 77; refine (byte8_any _ _).mono ?_; rintro e w' ⟨rfl, rfl⟩) | (go_at_call 78; refine (ramt9_any _ _).mono ?_; rintro e w' ⟨rfl, rfl⟩) | (go_at_call 48; refine (rtick9_any _ _).mono ?_; rintro e w' ⟨rfl, rfl⟩))
   go_ret
   exact ⟨ret_bool (by rw [HRET.out]; simp [Q0.out, Q1.out, Q2.out, Q3.out, Q4.out, Q5.out]), HBASE.out⟩
  have Q5 := Lib.hid q5
  simp only [decide_eq_true_eq] at q5
  cases q6 : (tickB r.d)
  case' false =>
   have Q6 := Lib.hid q6
   go_wp2_with (first | (go_at_call 77; refine (byte8_any _ _).mono ?_; rintro e w' ⟨rfl, rfl⟩) | (go_at_call 78; refine (ramt9_any _ _).mono ?_; rintro e w' ⟨rfl, rfl⟩) | (go_at_call 48; refine (rtick9_any _ _).mono ?_; rintro e w' ⟨rfl, rfl⟩))
   go_ret
   exact ⟨ret_bool (by rw [HRET.out]; simp [Q0.out, Q1.out, Q2.out, Q3.out, Q4.out, Q5.out, Q6.out]), HBASE.out⟩
  have Q6 := Lib.hid q6
  have HK2 : Hid ((r.k == 2) = true → (r.k == 3) = false) := Lib.hid (fun h => by simp only [beq_iff_eq] at h; simp [h])
  cases k2 : (r.k == 2)
  case' false =>
   have K2 := Lib.hid k2
   have k2' : (r.k != 2) = true := by simp [bne, k2]
   cases k3 : (r.k == 3)
   case' false =>
    have K3 := Lib.hid k3
    have k3' : (r.k != 3) = true := by simp [bne, k3]
    go_wp2_with (first | (go_at_call 77; refine (byte8_any _ _).mono ?_; rintro e w' ⟨rfl, rfl⟩) | (go_at_call 78; refine (ramt9_any _ _).mono ?_; rintro e w' ⟨rfl, rfl⟩) | (go_at_call 48; refine (rtick9_any _ _).mono ?_; rintro e w' ⟨rfl, rfl⟩))
    go_ret
    exact ⟨ret_bool (by rw [HRET.out]; simp [Q0.out, Q1.out, Q2.out, Q3.out, Q4.out, Q5.out, Q6.out, K2.out, K3.out]), HBASE.out⟩
   have K3 := Lib.hid k3
   have k3' : (r.k != 3) = false := by simp [bne, k3]
   cases s3 : ((r.s.size : Int) == 32)
   case' false =>
    have S3 : Hid (decide (r.s.size = 32) = false) := Lib.hid (by simp only [beq_eq_false_iff_ne, ne_eq] at s3; exact decide_eq_false (by omega))
    go_wp2_with (first | (go_at_call 77; refine (byte8_any _ _).mono ?_; rintro e w' ⟨rfl, rfl⟩) | (go_at_call 78; refine (ramt9_any _ _).mono ?_; rintro e w' ⟨rfl, rfl⟩) | (go_at_call 48; refine (rtick9_any _ _).mono ?_; rintro e w' ⟨rfl, rfl⟩))
    go_ret
    exact ⟨ret_bool (by rw [HRET.out]; simp [Q0.out, Q1.out, Q2.out, Q3.out, Q4.out, Q5.out, Q6.out, K2.out, K3.out, S3.out]), HBASE.out⟩
   have S3 : Hid (decide (r.s.size = 32) = true) := Lib.hid (by simp only [beq_iff_eq] at s3; exact decide_eq_true (by omega))
   go_wp2_with (first | (go_at_call 77; refine (byte8_any _ _).mono ?_; rintro e w' ⟨rfl, rfl⟩) | (go_at_call 78; refine (ramt9_any _ _).mono ?_; rintro e w' ⟨rfl, rfl⟩) | (go_at_call 48; refine (rtick9_any _ _).mono ?_; rintro e w' ⟨rfl, rfl⟩))
   go_ret
   exact ⟨ret_bool (by rw [HRET.out]; simp [Q0.out, Q1.out, Q2.out, Q3.out, Q4.out, Q5.out, Q6.out, K2.out, K3.out, S3.out]), HBASE.out⟩
  have K2 := Lib.hid k2
  have k3 := HK2.out k2
  have K3 := Lib.hid k3
  have k2' : (r.k != 2) = false := by simp [bne, k2]
  have k3' : (r.k != 3) = true := by simp [bne, k3]
  cases s2 : ((r.h.size : Int) == 32)
  case' false =>
   have S2 : Hid (decide (r.h.size = 32) = false) := Lib.hid (by simp only [beq_eq_false_iff_ne, ne_eq] at s2; exact decide_eq_false (by omega))
   go_wp2_with (first | (go_at_call 77; refine (byte8_any _ _).mono ?_; rintro e w' ⟨rfl, rfl⟩) | (go_at_call 78; refine (ramt9_any _ _).mono ?_; rintro e w' ⟨rfl, rfl⟩) | (go_at_call 48; refine (rtick9_any _ _).mono ?_; rintro e w' ⟨rfl, rfl⟩))
   go_ret
   exact ⟨ret_bool (by rw [HRET.out]; simp [Q0.out, Q1.out, Q2.out, Q3.out, Q4.out, Q5.out, Q6.out, K2.out, K3.out, S2.out]), HBASE.out⟩
  have S2 : Hid (decide (r.h.size = 32) = true) := Lib.hid (by simp only [beq_iff_eq] at s2; exact decide_eq_true (by omega))
  go_wp2_with (first | (go_at_call 77; refine (byte8_any _ _).mono ?_; rintro e w' ⟨rfl, rfl⟩) | (go_at_call 78; refine (ramt9_any _ _).mono ?_; rintro e w' ⟨rfl, rfl⟩) | (go_at_call 48; refine (rtick9_any _ _).mono ?_; rintro e w' ⟨rfl, rfl⟩))
  go_ret
  exact ⟨ret_bool (by rw [HRET.out]; simp [Q0.out, Q1.out, Q2.out, Q3.out, Q4.out, Q5.out, Q6.out, K2.out, K3.out, S2.out]), HBASE.out⟩
def xEv (r : EV) : EV := if r.k = 1 then ⟨r.k, r.f, r.t, r.a, r.n, 0, 0, ⟨#[]⟩, ⟨#[]⟩⟩ else if r.k = 2 then ⟨r.k, r.f, r.t, r.a, r.n, r.i, r.d, r.h, ⟨#[]⟩⟩ else if r.k = 3 then ⟨r.k, 0, 0, 0, 0, r.i, 0, ⟨#[]⟩, r.s⟩ else if r.k = 4 then ⟨r.k, 0, 0, 0, 0, r.i, 0, ⟨#[]⟩, ⟨#[]⟩⟩ else r
def mayEV (r : EV) : Bool := (decide (r.k = 1 ∨ r.k = 2 ∨ r.k = 3 ∨ r.k = 4)) && (eqEV r (xEv r) && byteB r.f && byteB r.t && byteB r.a && amtB r.n && decide (0 ≤ r.i) && decide (r.i ≤ 65535) && tickB r.d && (!(r.k == 2) || decide (r.h.size = 32)) && (!(r.k == 3) || decide (r.s.size = 32)))
set_option maxRecDepth 100000 in
set_option maxHeartbeats 4000000 in
theorem mayEvent (r : EV) (W : World) : Calls Tryz.prog 47 #[.agg r.cells] W fun e w' => e = .returned (.bool (mayEV r)) ∧ Below W.heap.size W w' := by
 have HW0 : Hid (∀ q : EV, ∀ wx, wx = (W.alloc (.cells r.cells 55)).alloc (.cells q.cells 55) → Boxes W wx [(r.cells, 55), (q.cells, 55)]) := Lib.hid (fun q wx h => by
  subst h
  exact ((Boxes.nil W).push (by simp) r.cells 55).push (by simp) q.cells 55)
 have HD : Hid (∀ b : Bool, mayEV r = b → mayEV r = b) := Lib.hid (fun _ h => h)
 unfold EV.cells
 go_enter Tryz.func47, Tryz.ntmps47
 go_upto_block 0 with fail
 obtain ⟨w2, hw2⟩ : ∃ w2, w2 = (W.alloc (.cells r.cells 55)).alloc (.cells (⟨r.k, 0, 0, 0, 0, 0, 0, ⟨#[]⟩, ⟨#[]⟩⟩ : EV).cells 55) := ⟨_, rfl⟩
 have HB2 := Lib.hid (HW0.out ⟨r.k, 0, 0, 0, 0, 0, 0, ⟨#[]⟩, ⟨#[]⟩⟩ w2 hw2)
 unfold EV.cells at hw2
 rw [← hw2]
 clear hw2
 have HRC : Hid (∀ w' cs, Boxes W w' [(r.cells, 55), (cs, 55)] → w'.cell? ⟨W.heap.size, 0, none⟩ = some (.int .i64 r.k) ∧ w'.cell? ⟨W.heap.size, 1, none⟩ = some (.int .i64 r.f) ∧ w'.cell? ⟨W.heap.size, 2, none⟩ = some (.int .i64 r.t) ∧ w'.cell? ⟨W.heap.size, 3, none⟩ = some (.int .i64 r.a) ∧ w'.cell? ⟨W.heap.size, 4, none⟩ = some (.int .i64 r.n) ∧ w'.cell? ⟨W.heap.size, 5, none⟩ = some (.int .i64 r.i) ∧ w'.cell? ⟨W.heap.size, 6, none⟩ = some (.int .i64 r.d) ∧ w'.cell? ⟨W.heap.size, 7, none⟩ = some (.string r.h) ∧ w'.cell? ⟨W.heap.size, 8, none⟩ = some (.string r.s)) := Lib.hid (fun w' cs h => ⟨h.cell 0 0 rfl, h.cell 0 1 rfl, h.cell 0 2 rfl, h.cell 0 3 rfl, h.cell 0 4 rfl, h.cell 0 5 rfl, h.cell 0 6 rfl, h.cell 0 7 rfl, h.cell 0 8 rfl⟩)
 have hb2l : W.heap.size + 1 < w2.heap.size := blk_lt (HB2.out.box 1 _ _ rfl)
 go_cut [] (fun wx => (r.k = 1 ∨ r.k = 2 ∨ r.k = 3 ∨ r.k = 4) ∧ Boxes W wx [(r.cells, 55), ((xEv r).cells, 55)])
 case first =>
  obtain ⟨a0, a1, a2, a3, a4, a5, a6, a7, a8⟩ := HRC.out w2 _ HB2.out
  have b1 := HB2.out.cell 1 1 rfl
  have g1 := blk_frozen (HB2.out.box 1 _ _ rfl) 1
  have b2 := HB2.out.cell 1 2 rfl
  have g2 := blk_frozen (HB2.out.box 1 _ _ rfl) 2
  have b3 := HB2.out.cell 1 3 rfl
  have g3 := blk_frozen (HB2.out.box 1 _ _ rfl) 3
  have b4 := HB2.out.cell 1 4 rfl
  have g4 := blk_frozen (HB2.out.box 1 _ _ rfl) 4
  have b5 := HB2.out.cell 1 5 rfl
  have g5 := blk_frozen (HB2.out.box 1 _ _ rfl) 5
  have b6 := HB2.out.cell 1 6 rfl
  have g6 := blk_frozen (HB2.out.box 1 _ _ rfl) 6
  have b7 := HB2.out.cell 1 7 rfl
  have g7 := blk_frozen (HB2.out.box 1 _ _ rfl) 7
  have b8 := HB2.out.cell 1 8 rfl
  have g8 := blk_frozen (HB2.out.box 1 _ _ rfl) 8
  simp only [EV.cells, lq] at b1 b2 b3 b4 b5 b6 b7 b8
  cases k1 : (r.k == 1)
  case' true =>
   have e1 : r.k = 1 := by simpa using k1
   have HX : Hid (xEv r = ⟨r.k, r.f, r.t, r.a, r.n, 0, 0, ⟨#[]⟩, ⟨#[]⟩⟩) := Lib.hid (by unfold xEv; simp [e1])
   have HKK := Lib.hid e1
   clear e1
   go_wp2_with fail
   go_region_held3 (fun w' => w'.cell? ⟨W.heap.size, 1, none⟩ = some (.int .i64 r.f) ∧ w'.cell? ⟨W.heap.size, 2, none⟩ = some (.int .i64 r.t) ∧ w'.cell? ⟨W.heap.size, 3, none⟩ = some (.int .i64 r.a) ∧ w'.cell? ⟨W.heap.size, 4, none⟩ = some (.int .i64 r.n)) (go_keep) (fail)
   all_goals
    go_wp2_with fail
    go_meet
    case rel =>
     refine ⟨Or.inl HKK.out, ?_⟩
     rw [HX.out]
     have h := ((((HB2.out.set (i := 1) rfl 1 (.int .i64 r.f)).set (i := 1) rfl 2 (.int .i64 r.t)).set (i := 1) rfl 3 (.int .i64 r.a)).set (i := 1) rfl 4 (.int .i64 r.n)).drew
     simpa [EV.cells] using h
  have n1 : Hid (r.k ≠ 1) := Lib.hid (by simpa using k1)
  cases k2 : (r.k == 2)
  case' true =>
   have e2 : r.k = 2 := by simpa using k2
   have HX : Hid (xEv r = ⟨r.k, r.f, r.t, r.a, r.n, r.i, r.d, r.h, ⟨#[]⟩⟩) := Lib.hid (by unfold xEv; simp [e2])
   have HKK := Lib.hid e2
   clear e2
   go_wp2_with fail
   go_region_held3 (fun w' => w'.cell? ⟨W.heap.size, 1, none⟩ = some (.int .i64 r.f) ∧ w'.cell? ⟨W.heap.size, 2, none⟩ = some (.int .i64 r.t) ∧ w'.cell? ⟨W.heap.size, 3, none⟩ = some (.int .i64 r.a) ∧ w'.cell? ⟨W.heap.size, 4, none⟩ = some (.int .i64 r.n) ∧ w'.cell? ⟨W.heap.size, 5, none⟩ = some (.int .i64 r.i) ∧ w'.cell? ⟨W.heap.size, 7, none⟩ = some (.string r.h) ∧ w'.cell? ⟨W.heap.size, 6, none⟩ = some (.int .i64 r.d)) (go_keep) (fail)
   all_goals
    go_wp2_with fail
    go_meet
    case rel =>
     refine ⟨Or.inr (Or.inl HKK.out), ?_⟩
     rw [HX.out]
     have h := (((((((HB2.out.set (i := 1) rfl 1 (.int .i64 r.f)).set (i := 1) rfl 2 (.int .i64 r.t)).set (i := 1) rfl 3 (.int .i64 r.a)).set (i := 1) rfl 4 (.int .i64 r.n)).set (i := 1) rfl 5 (.int .i64 r.i)).set (i := 1) rfl 7 (.string r.h)).set (i := 1) rfl 6 (.int .i64 r.d)).drew
     simpa [EV.cells] using h
  have n2 : Hid (r.k ≠ 2) := Lib.hid (by simpa using k2)
  cases k3 : (r.k == 3)
  case' true =>
   have e3 : r.k = 3 := by simpa using k3
   have HX : Hid (xEv r = ⟨r.k, 0, 0, 0, 0, r.i, 0, ⟨#[]⟩, r.s⟩) := Lib.hid (by unfold xEv; simp [e3])
   have HKK := Lib.hid e3
   clear e3
   go_wp2_with fail
   go_region_held3 (fun w' => w'.cell? ⟨W.heap.size, 5, none⟩ = some (.int .i64 r.i) ∧ w'.cell? ⟨W.heap.size, 8, none⟩ = some (.string r.s)) (go_keep) (fail)
   all_goals
    go_wp2_with fail
    go_meet
    case rel =>
     refine ⟨Or.inr (Or.inr (Or.inl HKK.out)), ?_⟩
     rw [HX.out]
     have h := ((HB2.out.set (i := 1) rfl 5 (.int .i64 r.i)).set (i := 1) rfl 8 (.string r.s)).drew
     simpa [EV.cells] using h
  have n3 : Hid (r.k ≠ 3) := Lib.hid (by simpa using k3)
  cases k4 : (r.k == 4)
  case' true =>
   have e4 : r.k = 4 := by simpa using k4
   have HX : Hid (xEv r = ⟨r.k, 0, 0, 0, 0, r.i, 0, ⟨#[]⟩, ⟨#[]⟩⟩) := Lib.hid (by unfold xEv; simp [e4])
   have HKK := Lib.hid e4
   clear e4
   go_wp2_with fail
   all_goals
    go_wp2_with fail
    go_meet
    case rel =>
     refine ⟨Or.inr (Or.inr (Or.inr HKK.out)), ?_⟩
     rw [HX.out]
     have h := (HB2.out.set (i := 1) rfl 5 (.int .i64 r.i))
     simpa [EV.cells] using h
  have n4 : Hid (r.k ≠ 4) := Lib.hid (by simpa using k4)
  go_wp2
  go_ret
  exact ⟨ret_bool (by unfold mayEV; simp [n1.out, n2.out, n3.out, n4.out]), HB2.out.base⟩
 case rest =>
  obtain ⟨hk, hb⟩ := hcut
  have HB := Lib.hid hb
  obtain ⟨a0, a1, a2, a3, a4, a5, a6, a7, a8⟩ := HRC.out _ _ hb
  have HRET : Hid (mayEV r = (eqEV r (xEv r) && byteB r.f && byteB r.t && byteB r.a && amtB r.n && decide (0 ≤ r.i) && decide (r.i ≤ 65535) && tickB r.d && (!(r.k == 2) || decide (r.h.size = 32)) && (!(r.k == 3) || decide (r.s.size = 32)))) := Lib.hid (by unfold mayEV; rw [decide_eq_true hk, Bool.true_and])
  have HBASE := Lib.hid hb.base
  clear hk hb HB2 hb2l
  generalize hq : xEv r = q at *
  clear hq
  have b0 := HB.out.cell 1 0 rfl
  have b1 := HB.out.cell 1 1 rfl
  have b2 := HB.out.cell 1 2 rfl
  have b3 := HB.out.cell 1 3 rfl
  have b4 := HB.out.cell 1 4 rfl
  have b5 := HB.out.cell 1 5 rfl
  have b6 := HB.out.cell 1 6 rfl
  have b7 := HB.out.cell 1 7 rfl
  have b8 := HB.out.cell 1 8 rfl
  simp only [EV.cells, lq] at b0 b1 b2 b3 b4 b5 b6 b7 b8
  have heq := fun w1 => eql_ev r q w1
  unfold EV.cells at heq
  cases q0 : (eqEV r q)
  case' false =>
   have Q0 := Lib.hid q0
   simp only [q0] at heq
   go_wp2_with (first | (go_at_call 77; refine (byte8_any _ _).mono ?_; rintro e w' ⟨rfl, rfl⟩) | (go_at_call 78; refine (ramt9_any _ _).mono ?_; rintro e w' ⟨rfl, rfl⟩) | (go_at_call 48; refine (rtick9_any _ _).mono ?_; rintro e w' ⟨rfl, rfl⟩))
   go_ret
   exact ⟨ret_bool (by rw [HRET.out]; simp [Q0.out]), HBASE.out⟩
  have Q0 := Lib.hid q0
  simp only [q0] at heq
  cases q1 : (byteB r.f)
  case' false =>
   have Q1 := Lib.hid q1
   go_wp2_with (first | (go_at_call 77; refine (byte8_any _ _).mono ?_; rintro e w' ⟨rfl, rfl⟩) | (go_at_call 78; refine (ramt9_any _ _).mono ?_; rintro e w' ⟨rfl, rfl⟩) | (go_at_call 48; refine (rtick9_any _ _).mono ?_; rintro e w' ⟨rfl, rfl⟩))
   go_ret
   exact ⟨ret_bool (by rw [HRET.out]; simp [Q0.out, Q1.out]), HBASE.out⟩
  have Q1 := Lib.hid q1
  cases q2 : (byteB r.t)
  case' false =>
   have Q2 := Lib.hid q2
   go_wp2_with (first | (go_at_call 77; refine (byte8_any _ _).mono ?_; rintro e w' ⟨rfl, rfl⟩) | (go_at_call 78; refine (ramt9_any _ _).mono ?_; rintro e w' ⟨rfl, rfl⟩) | (go_at_call 48; refine (rtick9_any _ _).mono ?_; rintro e w' ⟨rfl, rfl⟩))
   go_ret
   exact ⟨ret_bool (by rw [HRET.out]; simp [Q0.out, Q1.out, Q2.out]), HBASE.out⟩
  have Q2 := Lib.hid q2
  cases q3 : (byteB r.a)
  case' false =>
   have Q3 := Lib.hid q3
   go_wp2_with (first | (go_at_call 77; refine (byte8_any _ _).mono ?_; rintro e w' ⟨rfl, rfl⟩) | (go_at_call 78; refine (ramt9_any _ _).mono ?_; rintro e w' ⟨rfl, rfl⟩) | (go_at_call 48; refine (rtick9_any _ _).mono ?_; rintro e w' ⟨rfl, rfl⟩))
   go_ret
   exact ⟨ret_bool (by rw [HRET.out]; simp [Q0.out, Q1.out, Q2.out, Q3.out]), HBASE.out⟩
  have Q3 := Lib.hid q3
  cases q4 : (amtB r.n)
  case' false =>
   have Q4 := Lib.hid q4
   go_wp2_with (first | (go_at_call 77; refine (byte8_any _ _).mono ?_; rintro e w' ⟨rfl, rfl⟩) | (go_at_call 78; refine (ramt9_any _ _).mono ?_; rintro e w' ⟨rfl, rfl⟩) | (go_at_call 48; refine (rtick9_any _ _).mono ?_; rintro e w' ⟨rfl, rfl⟩))
   go_ret
   exact ⟨ret_bool (by rw [HRET.out]; simp [Q0.out, Q1.out, Q2.out, Q3.out, Q4.out]), HBASE.out⟩
  have Q4 := Lib.hid q4
  cases q5 : (decide (0 ≤ r.i))
  case' false =>
   have Q5 := Lib.hid q5
   simp only [decide_eq_false_iff_not] at q5
   go_wp2_with (first | (go_at_call 77; refine (byte8_any _ _).mono ?_; rintro e w' ⟨rfl, rfl⟩) | (go_at_call 78; refine (ramt9_any _ _).mono ?_; rintro e w' ⟨rfl, rfl⟩) | (go_at_call 48; refine (rtick9_any _ _).mono ?_; rintro e w' ⟨rfl, rfl⟩))
   go_ret
   exact ⟨ret_bool (by rw [HRET.out]; simp [Q0.out, Q1.out, Q2.out, Q3.out, Q4.out, Q5.out]), HBASE.out⟩
  have Q5 := Lib.hid q5
  simp only [decide_eq_true_eq] at q5
  cases q6 : (decide (r.i ≤ 65535))
  case' false =>
   have Q6 := Lib.hid q6
   simp only [decide_eq_false_iff_not] at q6
   go_wp2_with (first | (go_at_call 77; refine (byte8_any _ _).mono ?_; rintro e w' ⟨rfl, rfl⟩) | (go_at_call 78; refine (ramt9_any _ _).mono ?_; rintro e w' ⟨rfl, rfl⟩) | (go_at_call 48; refine (rtick9_any _ _).mono ?_; rintro e w' ⟨rfl, rfl⟩))
   go_ret
   exact ⟨ret_bool (by rw [HRET.out]; simp [Q0.out, Q1.out, Q2.out, Q3.out, Q4.out, Q5.out, Q6.out]), HBASE.out⟩
  have Q6 := Lib.hid q6
  simp only [decide_eq_true_eq] at q6
  cases q7 : (tickB r.d)
  case' false =>
   have Q7 := Lib.hid q7
   go_wp2_with (first | (go_at_call 77; refine (byte8_any _ _).mono ?_; rintro e w' ⟨rfl, rfl⟩) | (go_at_call 78; refine (ramt9_any _ _).mono ?_; rintro e w' ⟨rfl, rfl⟩) | (go_at_call 48; refine (rtick9_any _ _).mono ?_; rintro e w' ⟨rfl, rfl⟩))
   go_ret
   exact ⟨ret_bool (by rw [HRET.out]; simp [Q0.out, Q1.out, Q2.out, Q3.out, Q4.out, Q5.out, Q6.out, Q7.out]), HBASE.out⟩
  have Q7 := Lib.hid q7
  have HK2 : Hid ((r.k == 2) = true → (r.k == 3) = false) := Lib.hid (fun h => by simp only [beq_iff_eq] at h; simp [h])
  cases k2 : (r.k == 2)
  case' false =>
   have K2 := Lib.hid k2
   have k2' : (r.k != 2) = true := by simp [bne, k2]
   cases k3 : (r.k == 3)
   case' false =>
    have K3 := Lib.hid k3
    have k3' : (r.k != 3) = true := by simp [bne, k3]
    go_wp2_with (first | (go_at_call 77; refine (byte8_any _ _).mono ?_; rintro e w' ⟨rfl, rfl⟩) | (go_at_call 78; refine (ramt9_any _ _).mono ?_; rintro e w' ⟨rfl, rfl⟩) | (go_at_call 48; refine (rtick9_any _ _).mono ?_; rintro e w' ⟨rfl, rfl⟩))
    go_ret
    exact ⟨ret_bool (by rw [HRET.out]; simp [Q0.out, Q1.out, Q2.out, Q3.out, Q4.out, Q5.out, Q6.out, Q7.out, K2.out, K3.out]), HBASE.out⟩
   have K3 := Lib.hid k3
   have k3' : (r.k != 3) = false := by simp [bne, k3]
   cases s3 : ((r.s.size : Int) == 32)
   case' false =>
    have S3 : Hid (decide (r.s.size = 32) = false) := Lib.hid (by simp only [beq_eq_false_iff_ne, ne_eq] at s3; exact decide_eq_false (by omega))
    go_wp2_with (first | (go_at_call 77; refine (byte8_any _ _).mono ?_; rintro e w' ⟨rfl, rfl⟩) | (go_at_call 78; refine (ramt9_any _ _).mono ?_; rintro e w' ⟨rfl, rfl⟩) | (go_at_call 48; refine (rtick9_any _ _).mono ?_; rintro e w' ⟨rfl, rfl⟩))
    go_ret
    exact ⟨ret_bool (by rw [HRET.out]; simp [Q0.out, Q1.out, Q2.out, Q3.out, Q4.out, Q5.out, Q6.out, Q7.out, K2.out, K3.out, S3.out]), HBASE.out⟩
   have S3 : Hid (decide (r.s.size = 32) = true) := Lib.hid (by simp only [beq_iff_eq] at s3; exact decide_eq_true (by omega))
   go_wp2_with (first | (go_at_call 77; refine (byte8_any _ _).mono ?_; rintro e w' ⟨rfl, rfl⟩) | (go_at_call 78; refine (ramt9_any _ _).mono ?_; rintro e w' ⟨rfl, rfl⟩) | (go_at_call 48; refine (rtick9_any _ _).mono ?_; rintro e w' ⟨rfl, rfl⟩))
   go_ret
   exact ⟨ret_bool (by rw [HRET.out]; simp [Q0.out, Q1.out, Q2.out, Q3.out, Q4.out, Q5.out, Q6.out, Q7.out, K2.out, K3.out, S3.out]), HBASE.out⟩
  have K2 := Lib.hid k2
  have k3 := HK2.out k2
  have K3 := Lib.hid k3
  have k2' : (r.k != 2) = false := by simp [bne, k2]
  have k3' : (r.k != 3) = true := by simp [bne, k3]
  cases s2 : ((r.h.size : Int) == 32)
  case' false =>
   have S2 : Hid (decide (r.h.size = 32) = false) := Lib.hid (by simp only [beq_eq_false_iff_ne, ne_eq] at s2; exact decide_eq_false (by omega))
   go_wp2_with (first | (go_at_call 77; refine (byte8_any _ _).mono ?_; rintro e w' ⟨rfl, rfl⟩) | (go_at_call 78; refine (ramt9_any _ _).mono ?_; rintro e w' ⟨rfl, rfl⟩) | (go_at_call 48; refine (rtick9_any _ _).mono ?_; rintro e w' ⟨rfl, rfl⟩))
   go_ret
   exact ⟨ret_bool (by rw [HRET.out]; simp [Q0.out, Q1.out, Q2.out, Q3.out, Q4.out, Q5.out, Q6.out, Q7.out, K2.out, K3.out, S2.out]), HBASE.out⟩
  have S2 : Hid (decide (r.h.size = 32) = true) := Lib.hid (by simp only [beq_iff_eq] at s2; exact decide_eq_true (by omega))
  go_wp2_with (first | (go_at_call 77; refine (byte8_any _ _).mono ?_; rintro e w' ⟨rfl, rfl⟩) | (go_at_call 78; refine (ramt9_any _ _).mono ?_; rintro e w' ⟨rfl, rfl⟩) | (go_at_call 48; refine (rtick9_any _ _).mono ?_; rintro e w' ⟨rfl, rfl⟩))
  go_ret
  exact ⟨ret_bool (by rw [HRET.out]; simp [Q0.out, Q1.out, Q2.out, Q3.out, Q4.out, Q5.out, Q6.out, Q7.out, K2.out, K3.out, S2.out]), HBASE.out⟩
end Go.Proofs.YtkaciaehlibidaaGreat
