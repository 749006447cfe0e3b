/- Law 12: the numbers that a batch gives; what a replay tells. -/
import Derived.Test.YtkaciaehlibidaaGreatLr3
namespace Go.Proofs.YtkaciaehlibidaaGreat
open Go.RowKit
set_option linter.unusedVariables false
set_option linter.unusedSimpArgs false

theorem replay1_len (l : List XR) (e : EV) : (replay1 l e).length = l.length + (if e.k = 2 then 1 else 0) := by
  unfold replay1
  by_cases h2 : e.k = 2
  · rw [if_pos h2, if_pos h2, List.length_append, List.length_singleton]
  · rw [if_neg h2, if_neg h2]
    split
    · rw [List.length_set]; omega
    · split
      · rw [List.length_set]; omega
      · omega
section
variable {n m : Nat} {E : Int}
theorem step_len (s : LS) (p : Int) (r : RQ) : (stepF n m E p s r).l.length = s.l.length + (if r.k = 2 ∧ (doesF n m E s p r).c = 0 then 1 else 0) := by
  show (doesF n m E s p r).l.length = _
  by_cases hc : (doesF n m E s p r).c = 0
  · obtain ⟨_, h2, h3, _⟩ := doesF_yes hc
    rw [h2, replay1_len, h3]
    by_cases hk : r.k = 2
    · rw [if_pos hk, if_pos ⟨hk, hc⟩]
    · rw [if_neg hk, if_neg (fun h => hk h.1)]
  · rw [(doesF_no hc).2, if_neg (fun h => hc h.2)]; omega
def stK (n m : Nat) (E : Int) (s : LS) (p ck : Int) (rs : List RQ) (k : Nat) : LS := runF n m E p (tickF s ck) ((rs.take 64).take k)
def lenK (n m : Nat) (E : Int) (s : LS) (p ck : Int) (rs : List RQ) (k : Nat) : Nat := (stK n m E s p ck rs k).l.length
theorem lenK_zero (s : LS) (p ck : Int) (rs : List RQ) : lenK n m E s p ck rs 0 = s.l.length := by
  show (tickF s ck).l.length = _
  unfold tickF; split <;> rfl
theorem lenK_all (s : LS) (p ck : Int) (rs : List RQ) : lenK n m E s p ck rs (appR n m E s p ck rs).length = (applyF n m E s p ck rs).l.length := by
  unfold lenK stK applyF
  rw [app_len, List.take_of_length_le (by rw [List.length_take]; omega)]
theorem app_get (s : LS) (p ck : Int) (rs : List RQ) (k : Nat) (h : k < (appR n m E s p ck rs).length) (hk : k < rs.length) : (appR n m E s p ck rs)[k] = repF n m E p (stK n m E s p ck rs k) rs[k] ∧ stK n m E s p ck rs (k + 1) = stepF n m E p (stK n m E s p ck rs k) rs[k] := by
  have h64 : k < (rs.take 64).length := by have := app_len (n := n) (m := m) (E := E) s p ck rs; rw [List.length_take]; omega
  have e2 : (rs.take 64)[k] = rs[k] := List.getElem_take
  have e := repsF_get (n := n) (m := m) (E := E) p (rs.take 64) (tickF s ck) k h64 (by rw [repsF_len]; exact h64)
  have e3 := runF_snoc (n := n) (m := m) (E := E) p (tickF s ck) (rs.take 64) k h64
  rw [e2] at e e3
  exact ⟨e, e3⟩
theorem lenK_step (s : LS) (p ck : Int) (rs : List RQ) (k : Nat) (h : k < (appR n m E s p ck rs).length) (hk : k < rs.length) :
    lenK n m E s p ck rs (k + 1) = lenK n m E s p ck rs k + (if rs[k].k = 2 ∧ (appR n m E s p ck rs)[k].1 = 0 then 1 else 0) ∧ (appR n m E s p ck rs)[k].2 = if rs[k].k = 2 ∧ (appR n m E s p ck rs)[k].1 = 0 then (lenK n m E s p ck rs k : Int) else 0 := by
  obtain ⟨e1, e2⟩ := app_get (n := n) (m := m) (E := E) s p ck rs k h hk
  unfold lenK
  rw [e1, e2, step_len]
  refine ⟨rfl, ?_⟩
  show (doesF n m E (stK n m E s p ck rs k) p rs[k]).i = if rs[k].k = 2 ∧ (doesF n m E (stK n m E s p ck rs k) p rs[k]).c = 0 then _ else _
  by_cases hh : rs[k].k = 2 ∧ (doesF n m E (stK n m E s p ck rs k) p rs[k]).c = 0
  · rw [if_pos hh]; exact (doesF_yes hh.2).2.2.2.1 hh.1
  · rw [if_neg hh]; exact doesF_id hh
end

/-! ### A replay. -/
def plK (es : List EV) (k : Nat) : List XR := (es.take k).foldl replay1 []
theorem plK_succ (es : List EV) (k : Nat) (h : k < es.length) : plK es (k + 1) = replay1 (plK es k) es[k] := by
  unfold plK
  rw [List.take_add_one, List.getElem?_eq_getElem h, List.foldl_append]; rfl
def coreX (x : XR) : Int × Int × Int × Int × Int × ByteArray := (x.f, x.t, x.a, x.n, x.d, x.h)
theorem getD_set (l : List XR) (k j : Nat) (x : XR) : (l.set k x).getD j default = if k = j ∧ k < l.length then x else l.getD j default := by
  simp only [List.getD, List.getElem?_set]
  by_cases h : k = j
  · subst h
    by_cases h2 : k < l.length
    · simp [h2]
    · simp [h2]
  · simp [h]
theorem replay1_core (l : List XR) (e : EV) (j : Nat) (h : j < l.length) : coreX ((replay1 l e).getD j default) = coreX (l.getD j default) := by
  unfold replay1
  split
  · simp [List.getD, List.getElem?_append_left h]
  · split
    · rw [getD_set]
      split
      · rename_i h3; rw [← h3.1]; rfl
      · rfl
    · split
      · rw [getD_set]
        split
        · rename_i h3; rw [← h3.1]; rfl
        · rfl
      · rfl
theorem plK_core (es : List EV) (k j : Nat) (hj : j < (plK es k).length) : ∀ d, k + d ≤ es.length → j < (plK es (k + d)).length ∧ coreX ((plK es (k + d)).getD j default) = coreX ((plK es k).getD j default)
  | 0, _ => ⟨hj, rfl⟩
  | d + 1, hd => by
    obtain ⟨h1, h2⟩ := plK_core es k j hj d (by omega)
    have e : plK es (k + (d + 1)) = replay1 (plK es (k + d)) es[k + d] := plK_succ es (k + d) (by omega)
    rw [e]
    refine ⟨by rw [replay1_len]; omega, ?_⟩
    rw [replay1_core _ _ _ h1, h2]
theorem plK_all {es : List EV} {l : List XR} (h : Rel es l) : plK es es.length = l := by
  unfold plK; rw [List.take_length, h.fold]
theorem plK_le {es : List EV} {l : List XR} (h : Rel es l) (k : Nat) (hk : k ≤ es.length) : (plK es k).length ≤ l.length := by
  by_cases h0 : (plK es k).length = 0
  · omega
  · have := (plK_core es k ((plK es k).length - 1) (by omega) (es.length - k) (by omega)).1
    rw [show k + (es.length - k) = es.length by omega, plK_all h] at this
    omega
/-- What a lock's event tells. -/
theorem lock_tells {es : List EV} {l : List XR} (h : Rel es l) (k : Nat) (hk : k < es.length) (h2 : es[k].k = 2) :
    es[k].i = ((plK es k).length : Int) ∧ idB l ((plK es k).length : Int) = true ∧ coreX (getX l ((plK es k).length : Int)) = (es[k].f, es[k].t, es[k].a, es[k].n, es[k].d, es[k].h) := by
  have e := plK_succ es k hk
  have e1 : plK es (k + 1) = plK es k ++ [⟨es[k].f, es[k].t, es[k].a, es[k].n, es[k].d, 0, es[k].h, ⟨#[]⟩⟩] := by rw [e]; unfold replay1; rw [if_pos h2]
  have hl : (plK es k).length < (plK es (k + 1)).length := by rw [e1, List.length_append, List.length_singleton]; omega
  obtain ⟨a1, a2⟩ := plK_core es (k + 1) (plK es k).length hl (es.length - (k + 1)) (by omega)
  rw [show k + 1 + (es.length - (k + 1)) = es.length by omega, plK_all h] at a1 a2
  have hi : idB l ((plK es k).length : Int) = true := by unfold idB; rw [decide_eq_true_eq]; omega
  refine ⟨(h.ok k hk).2.1 h2, hi, ?_⟩
  unfold getX atX
  rw [hi, if_pos rfl, Int.toNat_natCast, a2, e1]
  simp [List.getD, coreX]
/-- What a claim's, a refund's event tells. -/
def stX (l : List XR) (j : Nat) : Int := (l.getD j default).s
theorem stX_app (l : List XR) (x : XR) (hx : x.s = 0) (j : Nat) : stX (l ++ [x]) j = stX l j := by
  unfold stX
  by_cases h : j < l.length
  · simp [List.getD, List.getElem?_append_left h]
  · by_cases h1 : j = l.length
    · subst h1; simp [List.getD, hx]; rfl
    · have e1 : (l ++ [x])[j]? = none := List.getElem?_eq_none (by rw [List.length_append, List.length_singleton]; omega)
      have e2 : l[j]? = none := List.getElem?_eq_none (by omega)
      simp only [List.getD, e1, e2]
theorem lock_state {es : List EV} (k : Nat) (hk : k < es.length) (h2 : es[k].k = 2) : (plK es (k + 1)).length = (plK es k).length + 1 ∧ ∀ j, stX (plK es (k + 1)) j = stX (plK es k) j := by
  have e := plK_succ es k hk
  have e1 : plK es (k + 1) = plK es k ++ [⟨es[k].f, es[k].t, es[k].a, es[k].n, es[k].d, 0, es[k].h, ⟨#[]⟩⟩] := by rw [e]; unfold replay1; rw [if_pos h2]
  rw [e1]
  exact ⟨by rw [List.length_append, List.length_singleton], fun j => stX_app _ _ rfl j⟩
theorem close_tells {es : List EV} {l : List XR} (h : Rel es l) (k : Nat) (hk : k < es.length) (h2 : es[k].k = 3 ∨ es[k].k = 4) :
    ∃ j : Nat, es[k].i = (j : Int) ∧ j < (plK es k).length ∧ stX (plK es k) j = 0 ∧ (plK es (k + 1)).length = (plK es k).length ∧ ∀ i, stX (plK es (k + 1)) i = if j = i then es[k].k - 2 else stX (plK es k) i := by
  obtain ⟨a1, a2⟩ := (h.ok k hk).2.2 h2
  obtain ⟨j, hj, hjl⟩ := idB_at (show idB (plK es k) es[k].i = true from a1)
  have a3 : (atX (plK es k) es[k].i).s = 0 := a2
  unfold atX at a3
  rw [hj, Int.toNat_natCast] at a3
  have e := plK_succ es k hk
  refine ⟨j, hj, hjl, a3, ?_, ?_⟩
  · rw [e, replay1_len, if_neg (by omega)]; omega
  · intro i
    have hs : ∀ x : XR, stX ((plK es k).set j x) i = if j = i then x.s else stX (plK es k) i := fun x => by
      unfold stX
      rw [getD_set]
      by_cases hji : j = i
      · rw [if_pos ⟨hji, hjl⟩, if_pos hji]
      · rw [if_neg (fun h => hji h.1), if_neg hji]
    rw [e]
    unfold replay1
    rw [if_neg (by omega), hj, Int.toNat_natCast]
    rcases h2 with h3 | h3
    · rw [if_pos h3, hs, h3]; rfl
    · rw [if_neg (by omega), if_pos h3, hs, h3]; rfl
theorem other_state {es : List EV} (k : Nat) (hk : k < es.length) (h2 : es[k].k ≠ 2) (h3 : es[k].k ≠ 3) (h4 : es[k].k ≠ 4) : plK es (k + 1) = plK es k := by
  rw [plK_succ es k hk]
  unfold replay1
  rw [if_neg h2, if_neg h3, if_neg h4]
theorem stX_get (l : List XR) (j : Nat) (h : j < l.length) : (getX l (j : Int)).s = stX l j := by
  have hi : idB l (j : Int) = true := by unfold idB; rw [decide_eq_true_eq]; omega
  unfold getX atX stX
  rw [hi, if_pos rfl, Int.toNat_natCast]

end Go.Proofs.YtkaciaehlibidaaGreat
