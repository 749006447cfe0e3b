/- Law 12: what events tell: the escrows are what a replay of the events gives. -/
import Derived.Test.YtkaciaehlibidaaGreatLe1
namespace Go.Proofs.YtkaciaehlibidaaGreat
open Go.RowKit
set_option linter.unusedVariables false
set_option linter.unusedSimpArgs false

/-- An event played. -/
def replay1 (l : List XR) (e : EV) : List XR :=
  if e.k = 2 then l ++ [⟨e.f, e.t, e.a, e.n, e.d, 0, e.h, ⟨#[]⟩⟩]
  else if e.k = 3 then l.set e.i.toNat ((atX l e.i).close 1 e.s)
  else if e.k = 4 then l.set e.i.toNat ((atX l e.i).close 2 ⟨#[]⟩)
  else l
/-- An event that may follow. -/
def okEv (l : List XR) (e : EV) : Prop :=
  (e.k = 1 ∨ e.k = 2 ∨ e.k = 3 ∨ e.k = 4) ∧ (e.k = 2 → e.i = l.length) ∧ (e.k = 3 ∨ e.k = 4 → idB l e.i = true ∧ (atX l e.i).s = 0)
structure Rel (es : List EV) (l : List XR) : Prop where
  fold : es.foldl replay1 [] = l
  ok : ∀ k (hk : k < es.length), okEv ((es.take k).foldl replay1 []) es[k]
theorem Rel.nil : Rel [] [] := ⟨rfl, fun k hk => by simp at hk⟩
theorem Rel.snoc {es : List EV} {l : List XR} {e : EV} (h : Rel es l) (he : okEv l e) : Rel (es ++ [e]) (replay1 l e) := by
  refine ⟨by rw [List.foldl_append, h.fold]; rfl, fun k hk => ?_⟩
  rw [List.length_append, List.length_singleton] at hk
  by_cases hkn : k < es.length
  · rw [List.getElem_append_left hkn, List.take_append_of_le_length (by omega)]
    exact h.ok k hkn
  · obtain rfl : k = es.length := by omega
    rw [List.getElem_append_right (by omega), List.take_left' rfl, h.fold]
    simpa using he

section
variable {n m : Nat} {E : Int}
theorem okB_kind {r : RQ} (h : okB r = true) : r.k = 1 ∨ r.k = 2 ∨ r.k = 3 ∨ r.k = 4 := by
  unfold okB at h
  split at h
  · exact Or.inl (by assumption)
  · split at h
    · exact Or.inr (Or.inl (by assumption))
    · split at h
      · exact Or.inr (Or.inr (Or.inl (by assumption)))
      · split at h
        · exact Or.inr (Or.inr (Or.inr (by assumption)))
        · cases h
/-- What a request that was done tells. -/
theorem doesF_yes {s : LS} {p : Int} {r : RQ} (hc : (doesF n m E s p r).c = 0) :
    okEv s.l (doesF n m E s p r).e ∧ (doesF n m E s p r).l = replay1 s.l (doesF n m E s p r).e ∧ (doesF n m E s p r).e.k = r.k ∧ (r.k = 2 → (doesF n m E s p r).i = s.l.length) ∧ (r.k ≠ 2 → (doesF n m E s p r).i = 0) := by
  unfold doesF at hc ⊢
  split at hc
  · rename_i h0
    rw [if_pos h0]
    split at hc
    · rename_i h1
      rw [if_pos h1]
      split at hc
      · rename_i h2
        rw [if_pos h2]
        split at hc
        · simp at hc
        · rename_i h3
          rw [if_neg h3]
          have e1 : (ev01 r p).k = 1 := h1
          refine ⟨⟨Or.inl e1, fun h => by rw [e1] at h; omega, fun h => by rw [e1] at h; omega⟩, ?_, rfl, fun h => by omega, fun _ => rfl⟩
          show s.l = replay1 s.l (ev01 r p)
          unfold replay1
          rw [if_neg (by rw [e1]; omega), if_neg (by rw [e1]; omega), if_neg (by rw [e1]; omega)]
      · simp at hc
    · rename_i h1
      rw [if_neg h1]
      split at hc
      · rename_i h2
        rw [if_pos h2]
        split at hc
        · rename_i h3
          rw [if_pos h3]
          have hI : lockI n m s.b s.l p r.t r.a r.n r.h r.d s.ck = s.l.length := by unfold lockI; rw [if_pos hc]
          have e1 : (ev02 r p (lockI n m s.b s.l p r.t r.a r.n r.h r.d s.ck)).k = 2 := h2
          refine ⟨⟨Or.inr (Or.inl e1), fun _ => hI, fun h => by rw [e1] at h; omega⟩, ?_, rfl, fun _ => hI, fun h => absurd h2 h⟩
          show lockL n m s.b s.l p r.t r.a r.n r.h r.d s.ck = replay1 s.l _
          unfold replay1
          rw [if_pos e1]
          unfold lockL
          rw [if_pos hc]
          rfl
        · simp at hc
      · rename_i h2
        rw [if_neg h2]
        split at hc
        · rename_i h3
          rw [if_pos h3]
          obtain ⟨a1, _, a3, _⟩ := claimE_zero hc
          have e1 : (ev00 r).k = 3 := h3
          refine ⟨⟨Or.inr (Or.inr (Or.inl e1)), fun h => by rw [e1] at h; omega, fun _ => ⟨a1, a3⟩⟩, ?_, rfl, fun h => by omega, fun _ => rfl⟩
          show claimL n m s.b s.l p r.i r.s s.ck = replay1 s.l _
          unfold replay1
          rw [if_neg (by rw [e1]; omega), if_pos e1]
          unfold claimL
          rw [if_pos hc]
          rfl
        · rename_i h3
          rw [if_neg h3]
          have h4 : r.k = 4 := by rcases okB_kind h0.1 with e | e | e | e <;> omega
          obtain ⟨a1, _, a3, _⟩ := refundE_zero hc
          have e1 : (ev00 r).k = 4 := h4
          refine ⟨⟨Or.inr (Or.inr (Or.inr e1)), fun h => by rw [e1] at h; omega, fun _ => ⟨a1, a3⟩⟩, ?_, rfl, fun h => by omega, fun _ => rfl⟩
          show refundL n m s.b s.l p r.i s.ck = replay1 s.l _
          unfold replay1
          rw [if_neg (by rw [e1]; omega), if_neg (by rw [e1]; omega), if_pos e1]
          unfold refundL
          rw [if_pos hc]
          rfl
  · simp at hc
theorem doesF_id {s : LS} {p : Int} {r : RQ} (h : ¬ (r.k = 2 ∧ (doesF n m E s p r).c = 0)) : (doesF n m E s p r).i = 0 := by
  by_cases hc : (doesF n m E s p r).c = 0
  · exact (doesF_yes hc).2.2.2.2 (fun e => h ⟨e, hc⟩)
  · unfold doesF at hc ⊢
    split at hc
    · rename_i h0
      rw [if_pos h0]
      split at hc
      · rename_i h1
        rw [if_pos h1]
        split
        · split <;> rfl
        · rfl
      · rename_i h1
        rw [if_neg h1]
        split at hc
        · rename_i h2
          rw [if_pos h2]
          split at hc
          · rename_i h3
            rw [if_pos h3]
            show lockI n m s.b s.l p r.t r.a r.n r.h r.d s.ck = 0
            unfold lockI; rw [if_neg hc]
          · rename_i h3
            rw [if_neg h3]
        · rename_i h2
          rw [if_neg h2]
          split <;> rfl
    · rename_i h0
      rw [if_neg h0]
/-- No claim, no refund lacks room. -/
theorem doesF_full {s : LS} {p : Int} {r : RQ} (h : r.k > 2) : (doesF n m E s p r).c ≠ 12 := by
  unfold doesF
  split
  · rw [if_neg (by omega), if_neg (by omega)]
    split
    · show claimE n m s.b s.l p r.i r.s s.ck ≠ 12
      unfold claimE giveE
      repeat' split
      all_goals decide
    · show refundE n m s.b s.l p r.i s.ck ≠ 12
      unfold refundE giveE
      repeat' split
      all_goals decide
  · show (1 : Int) ≠ 12; decide
/-- A ledger whose escrows are what its events tell. -/
def LTell (s : LS) : Prop := Rel s.evs s.l
theorem LTell.step {s : LS} (h : LTell s) (p : Int) (r : RQ) : LTell (stepF n m E p s r) := by
  by_cases hc : (doesF n m E s p r).c = 0
  · obtain ⟨h1, h2, _⟩ := doesF_yes hc
    unfold LTell LS.evs stepF
    rw [if_pos hc, h2]
    simp only [List.map_append, List.map_cons, List.map_nil]
    exact Rel.snoc h h1
  · have hn := doesF_no hc
    unfold LTell LS.evs stepF
    rw [if_neg hc, hn.2]
    exact h
theorem LTell.tick {s : LS} (h : LTell s) (ck : Int) : LTell (tickF s ck) := by
  unfold tickF; split <;> exact h
theorem LTell.run (p : Int) : ∀ (rs : List RQ) {s : LS}, LTell s → LTell (runF n m E p s rs)
  | [], _, h => h
  | r :: rs, s, h => LTell.run p rs (h.step p r)
theorem LTell.app {s : LS} (h : LTell s) (p ck : Int) (rs : List RQ) : LTell (applyF n m E s p ck rs) := (h.tick ck).run p _
end

end Go.Proofs.YtkaciaehlibidaaGreat
