/- Law 12: what a batch brings, counted. -/
import Derived.Test.YtkaciaehlibidaaGreatLr
namespace Go.Proofs.YtkaciaehlibidaaGreat
open Go.RowKit
set_option linter.unusedVariables false
set_option linter.unusedSimpArgs false

def doneN (ys : List (Int × Int)) : Nat := (ys.filter (fun y => y.1 == 0)).length
theorem doneN_snoc (ys : List (Int × Int)) (y : Int × Int) : doneN (ys ++ [y]) = doneN ys + (if y.1 = 0 then 1 else 0) := by
  unfold doneN
  rw [List.filter_append, List.length_append]
  congr 1
  by_cases h : y.1 = 0
  · rw [if_pos h]; simp [h]
  · rw [if_neg h]; simp [h]
theorem doneN_take (ys : List (Int × Int)) (k : Nat) (h : k < ys.length) : doneN (ys.take (k + 1)) = doneN (ys.take k) + (if ys[k].1 = 0 then 1 else 0) := by
  rw [List.take_add_one, List.getElem?_eq_getElem h]
  exact doneN_snoc _ _
section
variable {n m : Nat} {E : Int}
theorem stepF_es (p : Int) (s : LS) (r : RQ) : (stepF n m E p s r).es = if (doesF n m E s p r).c = 0 then s.es ++ [⟨p, s.ck, (doesF n m E s p r).e⟩] else s.es := rfl
theorem runF_done (p : Int) : ∀ (rs : List RQ) (s : LS), (runF n m E p s rs).es.length = s.es.length + doneN (repsF n m E p s rs)
  | [], s => rfl
  | r :: rs, s => by
    show (runF n m E p (stepF n m E p s r) rs).es.length = _
    rw [runF_done p rs, stepF_es]
    show _ = s.es.length + doneN (repF n m E p s r :: repsF n m E p (stepF n m E p s r) rs)
    have e : doneN (repF n m E p s r :: repsF n m E p (stepF n m E p s r) rs) = (if (doesF n m E s p r).c = 0 then 1 else 0) + doneN (repsF n m E p (stepF n m E p s r) rs) := by
      unfold doneN repF
      by_cases h : (doesF n m E s p r).c = 0
      · rw [if_pos h]; simp [h]; omega
      · rw [if_neg h]; simp [h]
    rw [e]
    by_cases h : (doesF n m E s p r).c = 0
    · rw [if_pos h, if_pos h, List.length_append, List.length_singleton]; omega
    · rw [if_neg h, if_neg h]; omega
theorem runF_more (p : Int) : ∀ (rs : List RQ) (s : LS), ∃ more, (runF n m E p s rs).es = s.es ++ more
  | [], s => ⟨[], by simp [runF]⟩
  | r :: rs, s => by
    obtain ⟨more, h⟩ := runF_more p rs (stepF n m E p s r)
    show ∃ more, (runF n m E p (stepF n m E p s r) rs).es = _
    rw [h, stepF_es]
    by_cases hc : (doesF n m E s p r).c = 0
    · rw [if_pos hc]; exact ⟨_ :: more, by rw [List.append_assoc]; rfl⟩
    · rw [if_neg hc]; exact ⟨more, rfl⟩
theorem tickF_es (s : LS) (ck : Int) : (tickF s ck).es = s.es := by unfold tickF; split <;> rfl
theorem tickF_ck (s : LS) (ck : Int) : s.ck ≤ (tickF s ck).ck := by
  unfold tickF; split
  · show s.ck ≤ max s.ck ck; omega
  · exact Int.le_refl _
theorem app_done (s : LS) (p ck : Int) (rs : List RQ) : (applyF n m E s p ck rs).es.length = s.es.length + doneN (appR n m E s p ck rs) := by
  unfold applyF appR
  rw [runF_done, tickF_es]
theorem app_more (s : LS) (p ck : Int) (rs : List RQ) : ∃ more, (applyF n m E s p ck rs).es = s.es ++ more := by
  obtain ⟨more, h⟩ := runF_more (n := n) (m := m) (E := E) p (rs.take 64) (tickF s ck)
  exact ⟨more, by unfold applyF; rw [h, tickF_es]⟩
theorem app_evs (s : LS) (p ck : Int) (rs : List RQ) : (applyF n m E s p ck rs).evs.take s.es.length = s.evs := by
  obtain ⟨more, h⟩ := app_more (n := n) (m := m) (E := E) s p ck rs
  unfold LS.evs
  rw [h, List.map_append]
  exact List.take_left' (by simp)
theorem app_ck (s : LS) (p ck : Int) (rs : List RQ) : s.ck ≤ (applyF n m E s p ck rs).ck := by
  unfold applyF
  rw [runF_ck]
  exact tickF_ck s ck
theorem app_len (s : LS) (p ck : Int) (rs : List RQ) : (appR n m E s p ck rs).length = min rs.length 64 := by
  unfold appR
  rw [repsF_len, List.length_take]; omega
theorem repsF_get (p : Int) : ∀ (rs : List RQ) (s : LS) (k : Nat) (h : k < rs.length) (h2 : k < (repsF n m E p s rs).length), (repsF n m E p s rs)[k] = repF n m E p (runF n m E p s (rs.take k)) rs[k]
  | [], s, k, h, _ => by simp at h
  | r :: rs, s, 0, _, _ => rfl
  | r :: rs, s, k + 1, h, h2 => by
    have h3 : k < rs.length := by simpa using h
    have h4 : k < (repsF n m E p (stepF n m E p s r) rs).length := by rw [repsF_len]; exact h3
    have e := repsF_get p rs (stepF n m E p s r) k h3 h4
    exact e
/-- A claim, a refund: never for want of room. -/
theorem app_full (s : LS) (p ck : Int) (rs : List RQ) (k : Nat) (h : k < (appR n m E s p ck rs).length) (hk : k < rs.length) (hr : rs[k].k > 2) : (appR n m E s p ck rs)[k].1 ≠ 12 := by
  have h64 : k < (rs.take 64).length := by have := app_len (n := n) (m := m) (E := E) s p ck rs; rw [List.length_take]; omega
  have e := repsF_get (n := n) (m := m) (E := E) p (rs.take 64) (tickF s ck) k h64 (by rw [repsF_len]; exact h64)
  have e2 : (rs.take 64)[k] = rs[k] := List.getElem_take
  have e3 : (appR n m E s p ck rs)[k] = (repsF n m E p (tickF s ck) (rs.take 64))[k]'(by rw [repsF_len]; exact h64) := rfl
  rw [e3, e, e2]
  exact doesF_full hr
end
/-! ### The open ones, by the events. -/
def lockI_ (es : List EV) : List Int := (es.filter (fun e => e.k == 2)).map EV.i
theorem replay_len (es : List EV) (l : List XR) (h : Rel es l) : ∀ k, k ≤ es.length → lockI_ (es.take k) = (List.range ((es.take k).foldl replay1 []).length).map (fun j : Nat => (j : Int))
  | 0, _ => rfl
  | k + 1, hk => by
    have ih := replay_len es l h k (by omega)
    have hlt : k < es.length := by omega
    have ho := h.ok k hlt
    rw [List.take_add_one, List.getElem?_eq_getElem hlt]
    show lockI_ (es.take k ++ [es[k]]) = _
    unfold lockI_ at ih ⊢
    rw [List.filter_append, List.map_append, ih, List.foldl_append]
    generalize (es.take k).foldl replay1 [] = l0 at *
    generalize es[k] = e at *
    show _ = (List.range (replay1 l0 e).length).map _
    unfold replay1
    by_cases h2 : e.k = 2
    · rw [if_pos h2, List.length_append, List.length_singleton, List.range_succ, List.map_append]
      congr 1
      simp [h2, ho.2.1 h2]
    · rw [if_neg h2]
      have hf : List.filter (fun e : EV => e.k == 2) [e] = [] := by simp [h2]
      show _ ++ List.map EV.i (List.filter (fun e : EV => e.k == 2) [e]) = _
      rw [hf, List.map_nil, List.append_nil]
      split
      · rw [List.length_set]
      · split
        · rw [List.length_set]
        · rfl

end Go.Proofs.YtkaciaehlibidaaGreat
