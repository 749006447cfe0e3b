/- The ledger, plainly: what a request does, what a batch does; what stays. -/
import Derived.Test.YtkaciaehlibidaaGreatEs7
import Derived.Test.YtkaciaehlibidaaGreatReq7
import Derived.Test.YtkaciaehlibidaaGreatReqp
namespace Go.Proofs.YtkaciaehlibidaaGreat
open Go.RowKit
set_option linter.unusedVariables false
set_option linter.unusedSimpArgs false

/-- What was done: who asked it, when, the event. -/
structure DN where
  p : Int
  c : Int
  e : EV
instance : Inhabited EV := ⟨⟨0, 0, 0, 0, 0, 0, 0, ⟨#[]⟩, ⟨#[]⟩⟩⟩
instance : Inhabited DN := ⟨⟨0, 0, default⟩⟩
def DN.cells (d : DN) : Array Value := #[.int .i64 d.p, .int .i64 d.c, .int .i64 d.e.k, .int .i64 d.e.f, .int .i64 d.e.t, .int .i64 d.e.a, .int .i64 d.e.n, .int .i64 d.e.i, .int .i64 d.e.d, .string d.e.h, .string d.e.s]
def DN.list (d : DN) : List Value := d.cells.toList
/-- A ledger's state. -/
structure LS where
  b : Nat → Nat → Int
  l : List XR
  ck : Int
  es : List DN
def LS.evs (s : LS) : List EV := s.es.map DN.e
def room (E : Int) (s : LS) (k : Int) : Bool := decide ((s.es.length : Int) + (openX s.l : Int) + k ≤ E)
/-- What a request brings: a code, a number, an event, balances, escrows. -/
structure DA where
  c : Int
  i : Int
  e : EV
  b : Nat → Nat → Int
  l : List XR
def ev00 (r : RQ) : EV := ⟨r.k, 0, 0, 0, 0, r.i, 0, ⟨#[]⟩, r.s⟩
def ev01 (r : RQ) (p : Int) : EV := ⟨r.k, p, r.t, r.a, r.n, r.i, 0, ⟨#[]⟩, r.s⟩
def ev02 (r : RQ) (p id : Int) : EV := ⟨r.k, p, r.t, r.a, r.n, id, r.d, r.h, r.s⟩
section
variable (n m : Nat) (E : Int)
def doesF (s : LS) (p : Int) (r : RQ) : DA :=
  if okB r = true ∧ 0 ≤ p ∧ p < n then
    if r.k = 1 then
      if room E s 1 = true then
        if r.n = 0 then ⟨1, 0, ev01 r p, s.b, s.l⟩
        else ⟨moveE n m s.b p r.t r.a r.n, 0, ev01 r p, moveN n m s.b p r.t r.a r.n, s.l⟩
      else ⟨12, 0, ev01 r p, s.b, s.l⟩
    else if r.k = 2 then
      if room E s 2 = true then ⟨lockE n m s.b p r.t r.a r.n r.h r.d s.ck, lockI n m s.b s.l p r.t r.a r.n r.h r.d s.ck, ev02 r p (lockI n m s.b s.l p r.t r.a r.n r.h r.d s.ck), lockB n m s.b p r.t r.a r.n r.h r.d s.ck, lockL n m s.b s.l p r.t r.a r.n r.h r.d s.ck⟩
      else ⟨12, 0, ev00 r, s.b, s.l⟩
    else if r.k = 3 then ⟨claimE n m s.b s.l p r.i r.s s.ck, 0, ev00 r, claimB n m s.b s.l p r.i r.s s.ck, claimL n m s.b s.l p r.i r.s s.ck⟩
    else ⟨refundE n m s.b s.l p r.i s.ck, 0, ev00 r, refundB n m s.b s.l p r.i s.ck, refundL n m s.b s.l p r.i s.ck⟩
  else ⟨1, 0, ev00 r, s.b, s.l⟩
def stepF (p : Int) (s : LS) (r : RQ) : LS :=
  ⟨(doesF n m E s p r).b, (doesF n m E s p r).l, s.ck, if (doesF n m E s p r).c = 0 then s.es ++ [⟨p, s.ck, (doesF n m E s p r).e⟩] else s.es⟩
def repF (p : Int) (s : LS) (r : RQ) : Int × Int := ((doesF n m E s p r).c, (doesF n m E s p r).i)
def repsF (p : Int) : LS → List RQ → List (Int × Int)
  | _, [] => []
  | s, r :: rs => repF n m E p s r :: repsF p (stepF n m E p s r) rs
def tickF (s : LS) (ck : Int) : LS := if tickB ck = true then ⟨s.b, s.l, max s.ck ck, s.es⟩ else s
def runF (p : Int) (s : LS) (rs : List RQ) : LS := rs.foldl (stepF n m E p) s
def applyF (s : LS) (p ck : Int) (rs : List RQ) : LS := runF n m E p (tickF s ck) (rs.take 64)
def appR (s : LS) (p ck : Int) (rs : List RQ) : List (Int × Int) := repsF n m E p (tickF s ck) (rs.take 64)
end
def dropF (es : List EV) (seen : Int) : List EV := if 0 ≤ seen ∧ seen ≤ es.length then es.drop seen.toNat else []

section
variable {n m : Nat} {E : Int}
theorem runF_snoc (p : Int) (s : LS) (rs : List RQ) (k : Nat) (h : k < rs.length) : runF n m E p s (rs.take (k + 1)) = stepF n m E p (runF n m E p s (rs.take k)) rs[k] := by
  unfold runF
  rw [List.take_add_one, List.getElem?_eq_getElem h, List.foldl_append]; rfl
theorem repsF_app (p : Int) : ∀ (xs : List RQ) (s : LS) (r : RQ), repsF n m E p s (xs ++ [r]) = repsF n m E p s xs ++ [repF n m E p (runF n m E p s xs) r]
  | [], s, r => rfl
  | x :: xs, s, r => by
    show repF n m E p s x :: repsF n m E p (stepF n m E p s x) (xs ++ [r]) = _
    rw [repsF_app p xs]; rfl
theorem repsF_snoc (p : Int) (s : LS) (rs : List RQ) (k : Nat) (h : k < rs.length) : repsF n m E p s (rs.take (k + 1)) = repsF n m E p s (rs.take k) ++ [repF n m E p (runF n m E p s (rs.take k)) rs[k]] := by
  rw [List.take_add_one, List.getElem?_eq_getElem h]
  exact repsF_app p _ s _
theorem repsF_len (p : Int) : ∀ (rs : List RQ) (s : LS), (repsF n m E p s rs).length = rs.length
  | [], _ => rfl
  | r :: rs, s => by show _ + 1 = _ + 1; rw [repsF_len p rs]
theorem stepF_ck (p : Int) (s : LS) (r : RQ) : (stepF n m E p s r).ck = s.ck := rfl
theorem runF_ck (p : Int) : ∀ (rs : List RQ) (s : LS), (runF n m E p s rs).ck = s.ck
  | [], _ => rfl
  | r :: rs, s => runF_ck p rs (stepF n m E p s r)

/-- What holds of a ledger. -/
structure LInv (n m : Nat) (E : Int) (s : LS) (T : Nat → Int) : Prop where
  bi : BInv n m s.b s.l T
  room : (s.es.length : Int) + (openX s.l : Int) ≤ E
  cap : 1 ≤ E ∧ E ≤ 400
  tick : 0 ≤ s.ck ∧ s.ck ≤ MT
  few : s.l.length ≤ s.es.length
theorem LInv.len {s : LS} {T : Nat → Int} (h : LInv n m E s T) : s.l.length ≤ s.es.length ∧ s.es.length ≤ 400 ∧ openX s.l ≤ 400 := by
  have h1 := h.room; have h2 := h.cap; have h3 := h.few
  exact ⟨h3, by omega, by omega⟩
theorem BInv.move {b : Nat → Nat → Int} {l : List XR} {T : Nat → Int} (h : BInv n m b l T) (f t j x : Int) : BInv n m (moveN n m b f t j x) l T :=
  ⟨h.good.move f t j x, h.esc, fun k hk => by rw [tot_move]; exact h.sum k hk, h.max, h.few⟩
theorem openX_app (l : List XR) (x : XR) : openX (l ++ [x]) = openX l + (if x.s = 0 then 1 else 0) := by
  have := openX_succ (l ++ [x]) l.length (by simp)
  rw [List.take_of_length_le (by simp), List.take_left' rfl] at this
  rw [this]
  simp
theorem doesF_no {s : LS} {p : Int} {r : RQ} (h : (doesF n m E s p r).c ≠ 0) : (doesF n m E s p r).b = s.b ∧ (doesF n m E s p r).l = s.l := by
  unfold doesF at h ⊢
  split at h
  · rename_i h0
    rw [if_pos h0]
    split at h
    · rename_i h1
      rw [if_pos h1]
      split at h
      · rename_i h2
        rw [if_pos h2]
        split at h
        · rename_i h3
          rw [if_pos h3]; exact ⟨rfl, rfl⟩
        · rename_i h3
          rw [if_neg h3]
          refine ⟨?_, rfl⟩
          show moveN n m s.b p r.t r.a r.n = s.b
          unfold moveN; rw [if_neg h]
      · rename_i h2
        rw [if_neg h2]; exact ⟨rfl, rfl⟩
    · rename_i h1
      rw [if_neg h1]
      split at h
      · rename_i h2
        rw [if_pos h2]
        split at h
        · rename_i h3
          rw [if_pos h3]
          refine ⟨?_, ?_⟩
          · show lockB n m s.b p r.t r.a r.n r.h r.d s.ck = s.b
            unfold lockB; rw [if_neg h]
          · show lockL n m s.b s.l p r.t r.a r.n r.h r.d s.ck = s.l
            unfold lockL; rw [if_neg h]
        · rename_i h3
          rw [if_neg h3]; exact ⟨rfl, rfl⟩
      · rename_i h2
        rw [if_neg h2]
        split at h
        · rename_i h3
          rw [if_pos h3]
          refine ⟨?_, ?_⟩
          · show claimB n m s.b s.l p r.i r.s s.ck = s.b
            unfold claimB; rw [if_neg h]
          · show claimL n m s.b s.l p r.i r.s s.ck = s.l
            unfold claimL; rw [if_neg h]
        · rename_i h3
          rw [if_neg h3]
          refine ⟨?_, ?_⟩
          · show refundB n m s.b s.l p r.i s.ck = s.b
            unfold refundB; rw [if_neg h]
          · show refundL n m s.b s.l p r.i s.ck = s.l
            unfold refundL; rw [if_neg h]
  · rename_i h0
    rw [if_neg h0]; exact ⟨rfl, rfl⟩
theorem doesF_bi {s : LS} {T : Nat → Int} (h : LInv n m E s T) (p : Int) (r : RQ) : BInv n m (doesF n m E s p r).b (doesF n m E s p r).l T := by
  have hl := h.len
  unfold doesF
  repeat' split
  · exact h.bi
  · exact h.bi.move _ _ _ _
  · exact h.bi
  · exact h.bi.lock (by omega) _ _ _ _ _ _ _
  · exact h.bi
  · exact h.bi.claim _ _ _ _
  · exact h.bi.refund _ _ _
  · exact h.bi
/-- The room that is left. -/
theorem doesF_room {s : LS} {T : Nat → Int} (h : LInv n m E s T) {p : Int} {r : RQ} (hc : (doesF n m E s p r).c = 0) :
    ((s.es.length : Int) + 1) + (openX (doesF n m E s p r).l : Int) ≤ E ∧ (doesF n m E s p r).l.length ≤ s.es.length + 1 := by
  have hl := h.len
  have hr := h.room
  unfold doesF at hc ⊢
  split at hc
  · rename_i h0
    rw [if_pos h0]
    split at hc
    · rename_i h1
      rw [if_pos h1]
      split at hc
      · rename_i h2
        rw [if_pos h2]
        unfold room at h2
        rw [decide_eq_true_eq] at h2
        split at hc
        · simp at hc
        · rename_i h3
          rw [if_neg h3]
          exact ⟨by show _ + (openX s.l : Int) ≤ E; omega, by show s.l.length ≤ _; omega⟩
      · simp at hc
    · rename_i h1
      rw [if_neg h1]
      split at hc
      · rename_i h2
        rw [if_pos h2]
        split at hc
        · rename_i h3
          rw [if_pos h3]
          unfold room at h3
          rw [decide_eq_true_eq] at h3
          have e : lockL n m s.b s.l p r.t r.a r.n r.h r.d s.ck = s.l ++ [⟨p, r.t, r.a, r.n, r.d, 0, r.h, ⟨#[]⟩⟩] := by unfold lockL; rw [if_pos hc]
          refine ⟨?_, ?_⟩
          · show _ + (openX (lockL n m s.b s.l p r.t r.a r.n r.h r.d s.ck) : Int) ≤ E
            rw [e, openX_app, if_pos rfl]; omega
          · show (lockL n m s.b s.l p r.t r.a r.n r.h r.d s.ck).length ≤ _
            rw [e, List.length_append, List.length_singleton]; omega
        · simp at hc
      · rename_i h2
        rw [if_neg h2]
        split at hc
        · rename_i h3
          rw [if_pos h3]
          obtain ⟨a1, _, a3, _⟩ := claimE_zero hc
          obtain ⟨k, hk, hkl⟩ := idB_at a1
          have hs : s.l[k].s = 0 := by rw [hk, atX_at hkl] at a3; exact a3
          have e : claimL n m s.b s.l p r.i r.s s.ck = s.l.set k (s.l[k].close 1 r.s) := by unfold claimL; rw [if_pos hc, hk, atX_at hkl, Int.toNat_natCast]
          have ho := openX_set 1 r.s (by omega) s.l k hkl hs
          refine ⟨?_, ?_⟩
          · show _ + (openX (claimL n m s.b s.l p r.i r.s s.ck) : Int) ≤ E
            rw [e]; omega
          · show (claimL n m s.b s.l p r.i r.s s.ck).length ≤ _
            rw [e, List.length_set]; omega
        · rename_i h3
          rw [if_neg h3]
          obtain ⟨a1, _, a3, _⟩ := refundE_zero hc
          obtain ⟨k, hk, hkl⟩ := idB_at a1
          have hs : s.l[k].s = 0 := by rw [hk, atX_at hkl] at a3; exact a3
          have e : refundL n m s.b s.l p r.i s.ck = s.l.set k (s.l[k].close 2 ⟨#[]⟩) := by unfold refundL; rw [if_pos hc, hk, atX_at hkl, Int.toNat_natCast]
          have ho := openX_set 2 ⟨#[]⟩ (by omega) s.l k hkl hs
          refine ⟨?_, ?_⟩
          · show _ + (openX (refundL n m s.b s.l p r.i s.ck) : Int) ≤ E
            rw [e]; omega
          · show (refundL n m s.b s.l p r.i s.ck).length ≤ _
            rw [e, List.length_set]; omega
  · simp at hc
theorem LInv.step {s : LS} {T : Nat → Int} (h : LInv n m E s T) (p : Int) (r : RQ) : LInv n m E (stepF n m E p s r) T := by
  have hb := doesF_bi h p r
  by_cases hc : (doesF n m E s p r).c = 0
  · have hr := doesF_room h hc
    have e : (stepF n m E p s r).es = s.es ++ [⟨p, s.ck, (doesF n m E s p r).e⟩] := by show (if _ then _ else _) = _; rw [if_pos hc]
    refine ⟨hb, ?_, h.cap, h.tick, ?_⟩
    · rw [e, List.length_append, List.length_singleton]
      show ((s.es.length + 1 : Nat) : Int) + (openX (doesF n m E s p r).l : Int) ≤ E
      have := hr.1; omega
    · rw [e, List.length_append, List.length_singleton]
      exact hr.2
  · have hn := doesF_no hc
    have e : stepF n m E p s r = s := by
      unfold stepF
      rw [if_neg hc, hn.1, hn.2]
    rw [e]; exact h
theorem LInv.ticks {s : LS} {T : Nat → Int} (h : LInv n m E s T) (ck : Int) : LInv n m E (tickF s ck) T := by
  unfold tickF
  split
  · rename_i ht
    rw [tick_iff] at ht
    have := h.tick
    exact ⟨h.bi, h.room, h.cap, ⟨by show 0 ≤ max s.ck ck; omega, by show max s.ck ck ≤ MT; omega⟩, h.few⟩
  · exact h
theorem LInv.run {T : Nat → Int} (p : Int) : ∀ (rs : List RQ) {s : LS}, LInv n m E s T → LInv n m E (runF n m E p s rs) T
  | [], _, h => h
  | r :: rs, s, h => LInv.run p rs (h.step p r)
theorem LInv.app {s : LS} {T : Nat → Int} (h : LInv n m E s T) (p ck : Int) (rs : List RQ) : LInv n m E (applyF n m E s p ck rs) T := (h.ticks ck).run p _
/-- A request that is laid alone. -/
theorem encF_one (r : RQ) : (encF 0 [r]).2 = if okB r = true then 0 else 1 := by
  have h1 := encReq_bad (encHead 0 1) r
  have h2 : (encHead 0 1).2 = false := by decide
  rw [h2, Bool.false_or] at h1
  unfold encF
  rw [if_neg (by simp)]
  unfold encSt outEnd
  show (if (encReq (encHead 0 1) r).2 = true then ([], 1) else ((encReq (encHead 0 1) r).1, 0) : List Int × Int).2 = _
  rw [h1]
  cases okB r <;> rfl
end

end Go.Proofs.YtkaciaehlibidaaGreat
