/- Law 12: what was done can be laid; what Save lays. -/
import Derived.Test.YtkaciaehlibidaaGreatLr2
import Derived.Test.YtkaciaehlibidaaGreatLgI
namespace Go.Proofs.YtkaciaehlibidaaGreat
open Go.RowKit
set_option linter.unusedVariables false
set_option linter.unusedSimpArgs false

section
variable {n m : Nat} {E : Int}
theorem fits_p {p : Int} (h0 : 0 ≤ p) (h1 : p < 256) : fitsB p 1 = true := by
  obtain ⟨k, rfl⟩ : ∃ k : Nat, p = k := ⟨p.toNat, by omega⟩
  exact fits_nat k 1 (by omega) (by omega)
theorem fits_c {c : Int} (h0 : 0 ≤ c) (h1 : c ≤ MT) : fitsB c 8 = true := by
  have ha : amtB c = true := (amt_iff c).2 ⟨h0, by unfold MT at h1; unfold MA; omega⟩
  have h8 : mayB 8 = true := by decide
  unfold fitsB
  rw [ha, h8]
  simp
set_option maxHeartbeats 1000000 in
theorem doesF_ok {s : LS} {T : Nat → Int} (h : LInv n m E s T) {p : Int} {r : RQ} (hc : (doesF n m E s p r).c = 0) : okE true (doesF n m E s p r).e = true ∧ 0 ≤ p ∧ p < n := by
  have hn16 := h.bi.good.n16
  have hl := h.len
  have hi := (doesF_yes hc).2.2.2.1
  by_cases h0 : okB r = true ∧ 0 ≤ p ∧ p < n
  · refine ⟨?_, h0.2⟩
    obtain ⟨hb, p0, pn⟩ := h0
    have hp : fitsB p 1 = true := fits_p p0 (by omega)
    have hid : fitsB (s.l.length : Int) 2 = true := fits_len2 s.l.length (by omega)
    unfold doesF at hc hi ⊢
    rw [if_pos ⟨hb, p0, pn⟩] at hc hi ⊢
    obtain ⟨k, t, a, x, i, d, hh, ss⟩ := r
    unfold okB at hb
    dsimp only at hb hc hi ⊢
    by_cases h1 : k = 1
    · subst h1
      rw [if_pos rfl] at hb hc ⊢
      simp only [Bool.and_eq_true, decide_eq_true_eq] at hb
      obtain ⟨⟨⟨⟨b1, b2⟩, b3⟩, b4, b5⟩, b6, b7⟩ := hb
      split at hc
      · rename_i h2
        rw [if_pos h2]
        split at hc
        · simp at hc
        · rename_i h3
          rw [if_neg h3]
          simp [okE, ev01, hp, b1, b2, b3, b4, b5, b6, b7, emptyB_nil]
      · simp at hc
    rw [if_neg h1] at hb hc hi ⊢
    by_cases h2 : k = 2
    · subst h2
      rw [if_pos rfl] at hb hc hi ⊢
      simp only [Bool.and_eq_true, decide_eq_true_eq] at hb
      obtain ⟨⟨⟨⟨⟨⟨b1, b2⟩, b3⟩, b4⟩, b5, b6⟩, b7⟩, b8⟩ := hb
      split at hc
      · rename_i h3
        rw [if_pos h3] at hi ⊢
        have hi := hi rfl
        dsimp only at hi
        simp [okE, ev02, hp, hi, hid, b1, b2, b3, b4, b5, b6, b8, emptyB_nil]
      · simp at hc
    rw [if_neg h2] at hb hc hi ⊢
    by_cases h3 : k = 3
    · subst h3
      rw [if_pos rfl] at hb hc ⊢
      simp only [Bool.and_eq_true, decide_eq_true_eq] at hb
      obtain ⟨⟨⟨b1, b2⟩, b3⟩, b4⟩ := hb
      simp [okE, ev00, b1, b2, emptyB_nil]
    rw [if_neg h3] at hb hc hi ⊢
    by_cases h4 : k = 4
    · subst h4
      rw [if_pos rfl] at hb
      simp only [Bool.and_eq_true, decide_eq_true_eq] at hb
      obtain ⟨⟨b1, b2⟩, b3, b4⟩ := hb
      simp [okE, ev00, b1, b4, emptyB_nil]
    · rw [if_neg h4] at hb; simp at hb
  · exfalso
    unfold doesF at hc
    rw [if_neg h0] at hc
    simp at hc

def okD (n : Nat) (d : DN) : Prop := okE true d.e = true ∧ 0 ≤ d.p ∧ d.p < n ∧ 0 ≤ d.c ∧ d.c ≤ MT
def LOk (n : Nat) (s : LS) : Prop := ∀ d ∈ s.es, okD n d
theorem LOk.step {s : LS} {T : Nat → Int} (h : LOk n s) (hI : LInv n m E s T) (p : Int) (r : RQ) : LOk n (stepF n m E p s r) := by
  intro d hd
  rw [stepF_es] at hd
  split at hd
  · rename_i hc
    rcases List.mem_append.1 hd with hd | hd
    · exact h d hd
    · rw [List.mem_singleton] at hd
      obtain ⟨a1, a2, a3⟩ := doesF_ok hI hc
      rw [hd]
      exact ⟨a1, a2, a3, hI.tick.1, hI.tick.2⟩
  · exact h d hd
theorem LOk.run {T : Nat → Int} (p : Int) : ∀ (rs : List RQ) {s : LS}, LOk n s → LInv n m E s T → LOk n (runF n m E p s rs)
  | [], s, h, _ => h
  | r :: rs, s, h, hI => LOk.run p rs (h.step hI p r) (hI.step p r)
theorem LOk.app {s : LS} {T : Nat → Int} (h : LOk n s) (hI : LInv n m E s T) (p ck : Int) (rs : List RQ) : LOk n (applyF n m E s p ck rs) := by
  refine LOk.run p _ ?_ (hI.ticks ck)
  intro d hd
  rw [tickF_es] at hd
  exact h d hd
theorem LOk.nil (b : Nat → Nat → Int) (l : List XR) (ck : Int) : LOk n ⟨b, l, ck, []⟩ := fun d hd => by simp at hd

/-! ### Bytes. -/
def hdD (d : DN) : List Int := putB d.p 1 ++ putB d.c 8
def chD (d : DN) : List Int := hdD d ++ chunkE true d.e
def headB (s : LS) : List Int := putB s.ck 8 ++ putB s.es.length 2
def saveB (s : LS) : List Int := headB s ++ s.es.flatMap chD
def evF (e : EV) : List Int × Int := outEnd (evOut e (hasN e.k true) ([], false))
theorem evF_eq (e : EV) : evF e = if okE true e = true then (chunkE true e, 0) else ([], 1) := by
  have h1 := evOut_snd true ([], false) e
  unfold evF outEnd
  rw [h1]
  by_cases h : okE true e = true
  · rw [if_pos h, h, evOut_fst true ([], false) e h]; rfl
  · rw [if_neg h]
    have : okE true e = false := by simpa using h
    rw [this]; rfl
theorem okE_size {e : EV} (h : okE true e = true) : e.h.size ≤ 32 ∧ e.s.size ≤ 32 := by
  unfold okE at h
  split at h
  · simp only [Bool.and_eq_true, emptyB_iff] at h
    obtain ⟨_, h1, h2⟩ := h
    omega
  · split at h
    · simp only [Bool.and_eq_true, emptyB_iff, decide_eq_true_eq] at h
      obtain ⟨⟨⟨_, h1⟩, _⟩, h2⟩ := h
      omega
    · split at h
      · simp only [Bool.and_eq_true, emptyB_iff, decide_eq_true_eq] at h
        obtain ⟨⟨⟨_, h1⟩, _⟩, h2⟩ := h
        omega
      · split at h
        · simp only [Bool.and_eq_true, emptyB_iff] at h
          obtain ⟨_, h1, h2⟩ := h
          omega
        · simp at h
theorem chunkE_len {e : EV} (h : okE true e = true) : (chunkE true e).length ≤ 128 := by
  have h1 := evOut_len e (hasN e.k true) ([], false)
  rw [evOut_fst true ([], false) e h] at h1
  have h2 := (hasN_in e.k true).2
  have h3 := okE_size h
  simp only [List.nil_append, List.length_nil] at h1
  omega
theorem chD_len {d : DN} (h : okD n d) : (chD d).length ≤ 137 := by
  have := chunkE_len h.1
  unfold chD hdD
  rw [List.length_append, List.length_append, putB_length, putB_length]
  omega
theorem chDs_len : ∀ (es : List DN), (∀ d ∈ es, okD n d) → (es.flatMap chD).length ≤ 137 * es.length
  | [], _ => by simp
  | d :: es, h => by
    have h1 := chD_len (h d (List.mem_cons_self ..))
    have h2 := chDs_len es (fun x hx => h x (List.mem_cons_of_mem _ hx))
    rw [List.flatMap_cons, List.length_append, List.length_cons]
    omega
theorem headB_len (s : LS) : (headB s).length = 10 := by unfold headB; rw [List.length_append, putB_length, putB_length]
theorem chD_in (d : DN) : InB (chD d) := inB_app (inB_app (putB_in _ _) (putB_in _ _)) (chunkE_in _ _)
theorem headB_in (s : LS) : InB (headB s) := inB_app (putB_in _ _) (putB_in _ _)
theorem saveB_in (s : LS) : InB (saveB s) := inB_app (headB_in s) (fun z hz => by
  obtain ⟨d, _, hd⟩ := List.mem_flatMap.1 hz
  exact chD_in d z hd)
/-- The bytes behind so many events. -/
def saveK (s : LS) (k : Nat) : List Int := headB s ++ (s.es.take k).flatMap chD
theorem saveK_zero (s : LS) : saveK s 0 = headB s := by unfold saveK; simp
theorem saveK_all (s : LS) : saveK s s.es.length = saveB s := by unfold saveK saveB; rw [List.take_length]
theorem saveK_succ (s : LS) (k : Nat) (h : k < s.es.length) : saveK s (k + 1) = saveK s k ++ hdD s.es[k] ++ chunkE true s.es[k].e := by
  unfold saveK
  rw [List.take_add_one, List.getElem?_eq_getElem h, List.flatMap_append]
  simp [chD]
theorem saveK_len {s : LS} (h : LOk n s) (k : Nat) (hk : k ≤ s.es.length) : (saveK s k).length ≤ 10 + 137 * k := by
  unfold saveK
  rw [List.length_append, headB_len]
  have := chDs_len (n := n) (s.es.take k) (fun d hd => h d (List.mem_of_mem_take hd))
  rw [List.length_take] at this
  have : min k s.es.length = k := by omega
  omega
theorem encNum_ok (bs : List Int) (x z : Int) (h : fitsB x z = true) : encNum bs 0 x z = (bs ++ putB x z.toNat, 0) := by unfold encNum; rw [if_pos rfl, if_pos h]
end

end Go.Proofs.YtkaciaehlibidaaGreat
