/- Parts of the proof: Le1 Lr Lr2 Req8 Dec Dec2 Dec3 Dec4 Pack Reqd. -/
import Derived.Test.YtkaciaehlibidaaGreatZ02
import Derived.Test.YtkaciaehlibidaaGreatZ07
import Derived.Test.YtkaciaehlibidaaGreatZ09
import Derived.Test.YtkaciaehlibidaaGreatZ10
namespace Go.Proofs.YtkaciaehlibidaaGreat
open Go.RowKit
set_option linter.unusedVariables false
set_option linter.unusedSimpArgs false
structure DN where
 p : Int
 c : Int
 e : EV
instance : Inhabited EV := ⟨⟨0, 0, 0, 0, 0, 0, 0, ⟨#[]⟩, ⟨#[]⟩⟩⟩
instance : Inhabited DN := ⟨⟨0, 0, default⟩⟩
def DN.cells (d : DN) : Array Value := #[.int .i64 d.p, .int .i64 d.c, .int .i64 d.e.k, .int .i64 d.e.f, .int .i64 d.e.t, .int .i64 d.e.a, .int .i64 d.e.n, .int .i64 d.e.i, .int .i64 d.e.d, .string d.e.h, .string d.e.s]
def DN.list (d : DN) : List Value := d.cells.toList
structure LS where
 b : Nat → Nat → Int
 l : List XR
 ck : Int
 es : List DN
def LS.evs (s : LS) : List EV := s.es.map DN.e
def room (E : Int) (s : LS) (k : Int) : Bool := decide ((s.es.length : Int) + (openX s.l : Int) + k ≤ E)
structure DA where
 c : Int
 i : Int
 e : EV
 b : Nat → Nat → Int
 l : List XR
def ev00 (r : RQ) : EV := ⟨r.k, 0, 0, 0, 0, r.i, 0, ⟨#[]⟩, r.s⟩
def ev01 (r : RQ) (p : Int) : EV := ⟨r.k, p, r.t, r.a, r.n, r.i, 0, ⟨#[]⟩, r.s⟩
def ev02 (r : RQ) (p id : Int) : EV := ⟨r.k, p, r.t, r.a, r.n, id, r.d, r.h, r.s⟩
section
variable (n m : Nat) (E : Int)
def doesF (s : LS) (p : Int) (r : RQ) : DA :=
 if okB r = true ∧ 0 ≤ p ∧ p < n then
  if r.k = 1 then
   if room E s 1 = true then
    if r.n = 0 then ⟨1, 0, ev01 r p, s.b, s.l⟩
    else ⟨moveE n m s.b p r.t r.a r.n, 0, ev01 r p, moveN n m s.b p r.t r.a r.n, s.l⟩
   else ⟨12, 0, ev01 r p, s.b, s.l⟩
  else if r.k = 2 then
   if room E s 2 = true then ⟨lockE n m s.b p r.t r.a r.n r.h r.d s.ck, lockI n m s.b s.l p r.t r.a r.n r.h r.d s.ck, ev02 r p (lockI n m s.b s.l p r.t r.a r.n r.h r.d s.ck), lockB n m s.b p r.t r.a r.n r.h r.d s.ck, lockL n m s.b s.l p r.t r.a r.n r.h r.d s.ck⟩
   else ⟨12, 0, ev00 r, s.b, s.l⟩
  else if r.k = 3 then ⟨claimE n m s.b s.l p r.i r.s s.ck, 0, ev00 r, claimB n m s.b s.l p r.i r.s s.ck, claimL n m s.b s.l p r.i r.s s.ck⟩
  else ⟨refundE n m s.b s.l p r.i s.ck, 0, ev00 r, refundB n m s.b s.l p r.i s.ck, refundL n m s.b s.l p r.i s.ck⟩
 else ⟨1, 0, ev00 r, s.b, s.l⟩
def stepF (p : Int) (s : LS) (r : RQ) : LS :=
 ⟨(doesF n m E s p r).b, (doesF n m E s p r).l, s.ck, if (doesF n m E s p r).c = 0 then s.es ++ [⟨p, s.ck, (doesF n m E s p r).e⟩] else s.es⟩
def repF (p : Int) (s : LS) (r : RQ) : Int × Int := ((doesF n m E s p r).c, (doesF n m E s p r).i)
def repsF (p : Int) : LS → List RQ → List (Int × Int)
 | _, [] => []
 | s, r :: rs => repF n m E p s r :: repsF p (stepF n m E p s r) rs
def tickF (s : LS) (ck : Int) : LS := if tickB ck = true then ⟨s.b, s.l, max s.ck ck, s.es⟩ else s
def runF (p : Int) (s : LS) (rs : List RQ) : LS := rs.foldl (stepF n m E p) s
def applyF (s : LS) (p ck : Int) (rs : List RQ) : LS := runF n m E p (tickF s ck) (rs.take 64)
def appR (s : LS) (p ck : Int) (rs : List RQ) : List (Int × Int) := repsF n m E p (tickF s ck) (rs.take 64)
end
def dropF (es : List EV) (seen : Int) : List EV := if 0 ≤ seen ∧ seen ≤ es.length then es.drop seen.toNat else []
section
variable {n m : Nat} {E : Int}
theorem runF_snoc (p : Int) (s : LS) (rs : List RQ) (k : Nat) (h : k < rs.length) : runF n m E p s (rs.take (k + 1)) = stepF n m E p (runF n m E p s (rs.take k)) rs[k] := by
 unfold runF
 rw [List.take_add_one, List.getElem?_eq_getElem h, List.foldl_append]; rfl
theorem repsF_app (p : Int) : ∀ (xs : List RQ) (s : LS) (r : RQ), repsF n m E p s (xs ++ [r]) = repsF n m E p s xs ++ [repF n m E p (runF n m E p s xs) r]
 | [], s, r => rfl
 | x :: xs, s, r => by
   show repF n m E p s x :: repsF n m E p (stepF n m E p s x) (xs ++ [r]) = _
   rw [repsF_app p xs]; rfl
theorem repsF_snoc (p : Int) (s : LS) (rs : List RQ) (k : Nat) (h : k < rs.length) : repsF n m E p s (rs.take (k + 1)) = repsF n m E p s (rs.take k) ++ [repF n m E p (runF n m E p s (rs.take k)) rs[k]] := by
 rw [List.take_add_one, List.getElem?_eq_getElem h]
 exact repsF_app p _ s _
theorem repsF_len (p : Int) : ∀ (rs : List RQ) (s : LS), (repsF n m E p s rs).length = rs.length
 | [], _ => rfl
 | r :: rs, s => by show _ + 1 = _ + 1; rw [repsF_len p rs]
theorem stepF_ck (p : Int) (s : LS) (r : RQ) : (stepF n m E p s r).ck = s.ck := rfl
structure LInv (n m : Nat) (E : Int) (s : LS) (T : Nat → Int) : Prop where
 bi : BInv n m s.b s.l T
 room : (s.es.length : Int) + (openX s.l : Int) ≤ E
 cap : 1 ≤ E ∧ E ≤ 400
 tick : 0 ≤ s.ck ∧ s.ck ≤ MT
 few : s.l.length ≤ s.es.length
theorem LInv.len {s : LS} {T : Nat → Int} (h : LInv n m E s T) : s.l.length ≤ s.es.length ∧ s.es.length ≤ 400 ∧ openX s.l ≤ 400 := by
 have h1 := h.room; have h2 := h.cap; have h3 := h.few
 exact ⟨h3, by omega, by omega⟩
theorem BInv.move {b : Nat → Nat → Int} {l : List XR} {T : Nat → Int} (h : BInv n m b l T) (f t j x : Int) : BInv n m (moveN n m b f t j x) l T :=
 ⟨h.good.move f t j x, h.esc, fun k hk => by rw [tot_move]; exact h.sum k hk, h.max, h.few⟩
theorem openX_app (l : List XR) (x : XR) : openX (l ++ [x]) = openX l + (if x.s = 0 then 1 else 0) := by
 have := openX_succ (l ++ [x]) l.length (by simp)
 rw [List.take_of_length_le (by simp), List.take_left' rfl] at this
 rw [this]
 simp
theorem doesF_no {s : LS} {p : Int} {r : RQ} (h : (doesF n m E s p r).c ≠ 0) : (doesF n m E s p r).b = s.b ∧ (doesF n m E s p r).l = s.l := by
 unfold doesF at h ⊢
 split at h
 · rename_i h0
   rw [if_pos h0]
   split at h
   · rename_i h1
     rw [if_pos h1]
     split at h
     · rename_i h2
       rw [if_pos h2]
       split at h
       · rename_i h3
         rw [if_pos h3]; exact ⟨rfl, rfl⟩
       · rename_i h3
         rw [if_neg h3]
         refine ⟨?_, rfl⟩
         show moveN n m s.b p r.t r.a r.n = s.b
         unfold moveN; rw [if_neg h]
     · rename_i h2
       rw [if_neg h2]; exact ⟨rfl, rfl⟩
   · rename_i h1
     rw [if_neg h1]
     split at h
     · rename_i h2
       rw [if_pos h2]
       split at h
       · rename_i h3
         rw [if_pos h3]
         refine ⟨?_, ?_⟩
         · show lockB n m s.b p r.t r.a r.n r.h r.d s.ck = s.b
           unfold lockB; rw [if_neg h]
         · show lockL n m s.b s.l p r.t r.a r.n r.h r.d s.ck = s.l
           unfold lockL; rw [if_neg h]
       · rename_i h3
         rw [if_neg h3]; exact ⟨rfl, rfl⟩
     · rename_i h2
       rw [if_neg h2]
       split at h
       · rename_i h3
         rw [if_pos h3]
         refine ⟨?_, ?_⟩
         · show claimB n m s.b s.l p r.i r.s s.ck = s.b
           unfold claimB; rw [if_neg h]
         · show claimL n m s.b s.l p r.i r.s s.ck = s.l
           unfold claimL; rw [if_neg h]
       · rename_i h3
         rw [if_neg h3]
         refine ⟨?_, ?_⟩
         · show refundB n m s.b s.l p r.i s.ck = s.b
           unfold refundB; rw [if_neg h]
         · show refundL n m s.b s.l p r.i s.ck = s.l
           unfold refundL; rw [if_neg h]
 · rename_i h0
   rw [if_neg h0]; exact ⟨rfl, rfl⟩
theorem doesF_bi {s : LS} {T : Nat → Int} (h : LInv n m E s T) (p : Int) (r : RQ) : BInv n m (doesF n m E s p r).b (doesF n m E s p r).l T := by
 have hl := h.len
 unfold doesF
 repeat' split
 · exact h.bi
 · exact h.bi.move _ _ _ _
 · exact h.bi
 · exact h.bi.lock (by omega) _ _ _ _ _ _ _
 · exact h.bi
 · exact h.bi.claim _ _ _ _
 · exact h.bi.refund _ _ _
 · exact h.bi
theorem doesF_room {s : LS} {T : Nat → Int} (h : LInv n m E s T) {p : Int} {r : RQ} (hc : (doesF n m E s p r).c = 0) :
 ((s.es.length : Int) + 1) + (openX (doesF n m E s p r).l : Int) ≤ E ∧ (doesF n m E s p r).l.length ≤ s.es.length + 1 := by
 have hl := h.len
 have hr := h.room
 unfold doesF at hc ⊢
 split at hc
 · rename_i h0
   rw [if_pos h0]
   split at hc
   · rename_i h1
     rw [if_pos h1]
     split at hc
     · rename_i h2
       rw [if_pos h2]
       unfold room at h2
       rw [decide_eq_true_eq] at h2
       split at hc
       · simp at hc
       · rename_i h3
         rw [if_neg h3]
         exact ⟨by show _ + (openX s.l : Int) ≤ E; omega, by show s.l.length ≤ _; omega⟩
     · simp at hc
   · rename_i h1
     rw [if_neg h1]
     split at hc
     · rename_i h2
       rw [if_pos h2]
       split at hc
       · rename_i h3
         rw [if_pos h3]
         unfold room at h3
         rw [decide_eq_true_eq] at h3
         have e : lockL n m s.b s.l p r.t r.a r.n r.h r.d s.ck = s.l ++ [⟨p, r.t, r.a, r.n, r.d, 0, r.h, ⟨#[]⟩⟩] := by unfold lockL; rw [if_pos hc]
         refine ⟨?_, ?_⟩
         · show _ + (openX (lockL n m s.b s.l p r.t r.a r.n r.h r.d s.ck) : Int) ≤ E
           rw [e, openX_app, if_pos rfl]; omega
         · show (lockL n m s.b s.l p r.t r.a r.n r.h r.d s.ck).length ≤ _
           rw [e, List.length_append, List.length_singleton]; omega
       · simp at hc
     · rename_i h2
       rw [if_neg h2]
       split at hc
       · rename_i h3
         rw [if_pos h3]
         obtain ⟨a1, _, a3, _⟩ := claimE_zero hc
         obtain ⟨k, hk, hkl⟩ := idB_at a1
         have hs : s.l[k].s = 0 := by rw [hk, atX_at hkl] at a3; exact a3
         have e : claimL n m s.b s.l p r.i r.s s.ck = s.l.set k (s.l[k].close 1 r.s) := by unfold claimL; rw [if_pos hc, hk, atX_at hkl, Int.toNat_natCast]
         have ho := openX_set 1 r.s (by omega) s.l k hkl hs
         refine ⟨?_, ?_⟩
         · show _ + (openX (claimL n m s.b s.l p r.i r.s s.ck) : Int) ≤ E
           rw [e]; omega
         · show (claimL n m s.b s.l p r.i r.s s.ck).length ≤ _
           rw [e, List.length_set]; omega
       · rename_i h3
         rw [if_neg h3]
         obtain ⟨a1, _, a3, _⟩ := refundE_zero hc
         obtain ⟨k, hk, hkl⟩ := idB_at a1
         have hs : s.l[k].s = 0 := by rw [hk, atX_at hkl] at a3; exact a3
         have e : refundL n m s.b s.l p r.i s.ck = s.l.set k (s.l[k].close 2 ⟨#[]⟩) := by unfold refundL; rw [if_pos hc, hk, atX_at hkl, Int.toNat_natCast]
         have ho := openX_set 2 ⟨#[]⟩ (by omega) s.l k hkl hs
         refine ⟨?_, ?_⟩
         · show _ + (openX (refundL n m s.b s.l p r.i s.ck) : Int) ≤ E
           rw [e]; omega
         · show (refundL n m s.b s.l p r.i s.ck).length ≤ _
           rw [e, List.length_set]; omega
 · simp at hc
theorem LInv.step {s : LS} {T : Nat → Int} (h : LInv n m E s T) (p : Int) (r : RQ) : LInv n m E (stepF n m E p s r) T := by
 have hb := doesF_bi h p r
 by_cases hc : (doesF n m E s p r).c = 0
 · have hr := doesF_room h hc
   have e : (stepF n m E p s r).es = s.es ++ [⟨p, s.ck, (doesF n m E s p r).e⟩] := by show (if _ then _ else _) = _; rw [if_pos hc]
   refine ⟨hb, ?_, h.cap, h.tick, ?_⟩
   · rw [e, List.length_append, List.length_singleton]
     show ((s.es.length + 1 : Nat) : Int) + (openX (doesF n m E s p r).l : Int) ≤ E
     have := hr.1; omega
   · rw [e, List.length_append, List.length_singleton]
     exact hr.2
 · have hn := doesF_no hc
   have e : stepF n m E p s r = s := by
    unfold stepF
    rw [if_neg hc, hn.1, hn.2]
   rw [e]; exact h
theorem LInv.ticks {s : LS} {T : Nat → Int} (h : LInv n m E s T) (ck : Int) : LInv n m E (tickF s ck) T := by
 unfold tickF
 split
 · rename_i ht
   rw [tick_iff] at ht
   have := h.tick
   exact ⟨h.bi, h.room, h.cap, ⟨by show 0 ≤ max s.ck ck; omega, by show max s.ck ck ≤ MT; omega⟩, h.few⟩
 · exact h
theorem LInv.run {T : Nat → Int} (p : Int) : ∀ (rs : List RQ) {s : LS}, LInv n m E s T → LInv n m E (runF n m E p s rs) T
 | [], _, h => h
 | r :: rs, s, h => LInv.run p rs (h.step p r)
theorem LInv.app {s : LS} {T : Nat → Int} (h : LInv n m E s T) (p ck : Int) (rs : List RQ) : LInv n m E (applyF n m E s p ck rs) T := (h.ticks ck).run p _
theorem encF_one (r : RQ) : (encF 0 [r]).2 = if okB r = true then 0 else 1 := by
 have h1 := encReq_bad (encHead 0 1) r
 have h2 : (encHead 0 1).2 = false := by decide
 rw [h2, Bool.false_or] at h1
 unfold encF
 rw [if_neg (by simp)]
 unfold encSt outEnd
 show (if (encReq (encHead 0 1) r).2 = true then ([], 1) else ((encReq (encHead 0 1) r).1, 0) : List Int × Int).2 = _
 rw [h1]
 cases okB r <;> rfl
end
def replay1 (l : List XR) (e : EV) : List XR :=
 if e.k = 2 then l ++ [⟨e.f, e.t, e.a, e.n, e.d, 0, e.h, ⟨#[]⟩⟩]
 else if e.k = 3 then l.set e.i.toNat ((atX l e.i).close 1 e.s)
 else if e.k = 4 then l.set e.i.toNat ((atX l e.i).close 2 ⟨#[]⟩)
 else l
def okEv (l : List XR) (e : EV) : Prop :=
 (e.k = 1 ∨ e.k = 2 ∨ e.k = 3 ∨ e.k = 4) ∧ (e.k = 2 → e.i = l.length) ∧ (e.k = 3 ∨ e.k = 4 → idB l e.i = true ∧ (atX l e.i).s = 0)
structure Rel (es : List EV) (l : List XR) : Prop where
 fold : es.foldl replay1 [] = l
 ok : ∀ k (hk : k < es.length), okEv ((es.take k).foldl replay1 []) es[k]
theorem Rel.nil : Rel [] [] := ⟨rfl, fun k hk => by simp at hk⟩
theorem Rel.snoc {es : List EV} {l : List XR} {e : EV} (h : Rel es l) (he : okEv l e) : Rel (es ++ [e]) (replay1 l e) := by
 refine ⟨by rw [List.foldl_append, h.fold]; rfl, fun k hk => ?_⟩
 rw [List.length_append, List.length_singleton] at hk
 by_cases hkn : k < es.length
 · rw [List.getElem_append_left hkn, List.take_append_of_le_length (by omega)]
   exact h.ok k hkn
 · obtain rfl : k = es.length := by omega
   rw [List.getElem_append_right (by omega), List.take_left' rfl, h.fold]
   simpa using he
section
variable {n m : Nat} {E : Int}
theorem okB_kind {r : RQ} (h : okB r = true) : r.k = 1 ∨ r.k = 2 ∨ r.k = 3 ∨ r.k = 4 := by
 unfold okB at h
 split at h
 · exact Or.inl (by assumption)
 · split at h
   · exact Or.inr (Or.inl (by assumption))
   · split at h
     · exact Or.inr (Or.inr (Or.inl (by assumption)))
     · split at h
       · exact Or.inr (Or.inr (Or.inr (by assumption)))
       · cases h
theorem doesF_yes {s : LS} {p : Int} {r : RQ} (hc : (doesF n m E s p r).c = 0) :
 okEv s.l (doesF n m E s p r).e ∧ (doesF n m E s p r).l = replay1 s.l (doesF n m E s p r).e ∧ (doesF n m E s p r).e.k = r.k ∧ (r.k = 2 → (doesF n m E s p r).i = s.l.length) ∧ (r.k ≠ 2 → (doesF n m E s p r).i = 0) := by
 unfold doesF at hc ⊢
 split at hc
 · rename_i h0
   rw [if_pos h0]
   split at hc
   · rename_i h1
     rw [if_pos h1]
     split at hc
     · rename_i h2
       rw [if_pos h2]
       split at hc
       · simp at hc
       · rename_i h3
         rw [if_neg h3]
         have e1 : (ev01 r p).k = 1 := h1
         refine ⟨⟨Or.inl e1, fun h => by rw [e1] at h; omega, fun h => by rw [e1] at h; omega⟩, ?_, rfl, fun h => by omega, fun _ => rfl⟩
         show s.l = replay1 s.l (ev01 r p)
         unfold replay1
         rw [if_neg (by rw [e1]; omega), if_neg (by rw [e1]; omega), if_neg (by rw [e1]; omega)]
     · simp at hc
   · rename_i h1
     rw [if_neg h1]
     split at hc
     · rename_i h2
       rw [if_pos h2]
       split at hc
       · rename_i h3
         rw [if_pos h3]
         have hI : lockI n m s.b s.l p r.t r.a r.n r.h r.d s.ck = s.l.length := by unfold lockI; rw [if_pos hc]
         have e1 : (ev02 r p (lockI n m s.b s.l p r.t r.a r.n r.h r.d s.ck)).k = 2 := h2
         refine ⟨⟨Or.inr (Or.inl e1), fun _ => hI, fun h => by rw [e1] at h; omega⟩, ?_, rfl, fun _ => hI, fun h => absurd h2 h⟩
         show lockL n m s.b s.l p r.t r.a r.n r.h r.d s.ck = replay1 s.l _
         unfold replay1
         rw [if_pos e1]
         unfold lockL
         rw [if_pos hc]
         rfl
       · simp at hc
     · rename_i h2
       rw [if_neg h2]
       split at hc
       · rename_i h3
         rw [if_pos h3]
         obtain ⟨a1, _, a3, _⟩ := claimE_zero hc
         have e1 : (ev00 r).k = 3 := h3
         refine ⟨⟨Or.inr (Or.inr (Or.inl e1)), fun h => by rw [e1] at h; omega, fun _ => ⟨a1, a3⟩⟩, ?_, rfl, fun h => by omega, fun _ => rfl⟩
         show claimL n m s.b s.l p r.i r.s s.ck = replay1 s.l _
         unfold replay1
         rw [if_neg (by rw [e1]; omega), if_pos e1]
         unfold claimL
         rw [if_pos hc]
         rfl
       · rename_i h3
         rw [if_neg h3]
         have h4 : r.k = 4 := by rcases okB_kind h0.1 with e | e | e | e <;> omega
         obtain ⟨a1, _, a3, _⟩ := refundE_zero hc
         have e1 : (ev00 r).k = 4 := h4
         refine ⟨⟨Or.inr (Or.inr (Or.inr e1)), fun h => by rw [e1] at h; omega, fun _ => ⟨a1, a3⟩⟩, ?_, rfl, fun h => by omega, fun _ => rfl⟩
         show refundL n m s.b s.l p r.i s.ck = replay1 s.l _
         unfold replay1
         rw [if_neg (by rw [e1]; omega), if_neg (by rw [e1]; omega), if_pos e1]
         unfold refundL
         rw [if_pos hc]
         rfl
 · simp at hc
theorem doesF_id {s : LS} {p : Int} {r : RQ} (h : ¬ (r.k = 2 ∧ (doesF n m E s p r).c = 0)) : (doesF n m E s p r).i = 0 := by
 by_cases hc : (doesF n m E s p r).c = 0
 · exact (doesF_yes hc).2.2.2.2 (fun e => h ⟨e, hc⟩)
 · unfold doesF at hc ⊢
   split at hc
   · rename_i h0
     rw [if_pos h0]
     split at hc
     · rename_i h1
       rw [if_pos h1]
       split
       · split <;> rfl
       · rfl
     · rename_i h1
       rw [if_neg h1]
       split at hc
       · rename_i h2
         rw [if_pos h2]
         split at hc
         · rename_i h3
           rw [if_pos h3]
           show lockI n m s.b s.l p r.t r.a r.n r.h r.d s.ck = 0
           unfold lockI; rw [if_neg hc]
         · rename_i h3
           rw [if_neg h3]
       · rename_i h2
         rw [if_neg h2]
         split <;> rfl
   · rename_i h0
     rw [if_neg h0]
def LTell (s : LS) : Prop := Rel s.evs s.l
theorem LTell.step {s : LS} (h : LTell s) (p : Int) (r : RQ) : LTell (stepF n m E p s r) := by
 by_cases hc : (doesF n m E s p r).c = 0
 · obtain ⟨h1, h2, _⟩ := doesF_yes hc
   unfold LTell LS.evs stepF
   rw [if_pos hc, h2]
   simp only [List.map_append, List.map_cons, List.map_nil]
   exact Rel.snoc h h1
 · have hn := doesF_no hc
   unfold LTell LS.evs stepF
   rw [if_neg hc, hn.2]
   exact h
end
section
variable {n m : Nat} {E : Int}
theorem stepF_es (p : Int) (s : LS) (r : RQ) : (stepF n m E p s r).es = if (doesF n m E s p r).c = 0 then s.es ++ [⟨p, s.ck, (doesF n m E s p r).e⟩] else s.es := rfl
theorem runF_more (p : Int) : ∀ (rs : List RQ) (s : LS), ∃ more, (runF n m E p s rs).es = s.es ++ more
 | [], s => ⟨[], by simp [runF]⟩
 | r :: rs, s => by
   obtain ⟨more, h⟩ := runF_more p rs (stepF n m E p s r)
   show ∃ more, (runF n m E p (stepF n m E p s r) rs).es = _
   rw [h, stepF_es]
   by_cases hc : (doesF n m E s p r).c = 0
   · rw [if_pos hc]; exact ⟨_ :: more, by rw [List.append_assoc]; rfl⟩
   · rw [if_neg hc]; exact ⟨more, rfl⟩
theorem tickF_es (s : LS) (ck : Int) : (tickF s ck).es = s.es := by unfold tickF; split <;> rfl
theorem app_more (s : LS) (p ck : Int) (rs : List RQ) : ∃ more, (applyF n m E s p ck rs).es = s.es ++ more := by
 obtain ⟨more, h⟩ := runF_more (n := n) (m := m) (E := E) p (rs.take 64) (tickF s ck)
 exact ⟨more, by unfold applyF; rw [h, tickF_es]⟩
theorem app_len (s : LS) (p ck : Int) (rs : List RQ) : (appR n m E s p ck rs).length = min rs.length 64 := by
 unfold appR
 rw [repsF_len, List.length_take]; omega
end
def min2 (p : Nat × Nat) : Nat := min p.1 20001 + min p.2 20001
def fewE (ls : List (Nat × Nat)) (many : Nat) : Bool := decide (ls.length ≤ many ∧ ((ls.take many).map min2).sum ≤ 20000)
theorem min2_le : ∀ (ls : List (Nat × Nat)), (ls.map min2).sum ≤ 20000 → (ls.map (fun p => p.1 + p.2)).sum ≤ 20000 := by
 intro ls
 have h1 : ∀ ls : List (Nat × Nat), (ls.map min2).sum ≤ 20000 → (ls.map min2).sum = (ls.map (fun p => p.1 + p.2)).sum := by
  intro ls
  induction ls with
  | nil => simp
  | cons x xs ih =>
    intro hx
    simp only [List.map_cons, List.sum_cons] at hx ⊢
    have := ih (by omega)
    have hm : min2 x = min x.1 20001 + min x.2 20001 := rfl
    rw [hm] at hx ⊢
    omega
 intro h
 have := h1 ls h
 omega
theorem fewE_facts (ls : List (Nat × Nat)) (many : Nat) (h : fewE ls many = true) : ls.length ≤ many ∧ (ls.map (fun p => p.1 + p.2)).sum ≤ 20000 := by
 simp only [fewE, decide_eq_true_eq] at h
 rw [List.take_of_length_le h.1] at h
 exact ⟨h.1, min2_le ls h.2⟩
theorem min2_bound (ls : List (Nat × Nat)) : (ls.map min2).sum ≤ ls.length * 40002 := by
 induction ls with
 | nil => simp
 | cons x xs ih => simp only [List.map_cons, List.sum_cons, List.length_cons]; rw [Nat.add_mul]; have hm : min2 x = min x.1 20001 + min x.2 20001 := rfl; rw [hm]; omega
def rqTexts (rs : List RQ) : List (Nat × Nat) := rs.map (fun r => (r.h.size, r.s.size))
def fewRq (rs : List RQ) : Bool := fewE (rqTexts rs) 100
theorem fewRq_facts (rs : List RQ) (h : fewRq rs = true) : rs.length ≤ 100 ∧ rqSum rs ≤ 20000 := by
 have := fewE_facts _ _ h
 simpa [rqTexts, rqSum, List.map_map, Function.comp_def] using this
set_option maxRecDepth 100000 in
set_option maxHeartbeats 2000000 in
theorem few11_any (seen : Int) (ao : Option Addr) (rs : List RQ) (n cap : Nat) (w : World) (hn : rs.length = n) (h : RqsAt w ao rs) (hcap : n ≤ cap) (hm : cap ≤ maxLen) :
 Calls Tryz.prog 26 #[.agg #[.int .i64 seen, .slice ao n cap]] w fun e w' => e = .returned (.bool (fewRq rs)) ∧ Below w.heap.size w w' := by
 have HR := Lib.hid h
 have HN := Lib.hid hn
 obtain ⟨ls, hls⟩ : ∃ ls, ls = (rqTexts rs).map min2 := ⟨_, rfl⟩
 have HTL : Hid ((rqTexts rs).length = n) := Lib.hid (by simp [rqTexts, hn])
 have HLL : Hid (ls.length = n) := Lib.hid (by rw [hls]; simp [HTL.out])
 have HBD : Hid (∀ k, k ≤ 100 → (ls.take k).sum ≤ 1000001000) := Lib.hid (by
  intro k hk
  rw [hls, ← List.map_take]
  have h1 := min2_bound ((rqTexts rs).take k)
  have h2 : ((rqTexts rs).take k).length ≤ 100 := by simp; omega
  have h3 := Nat.mul_le_mul_right 40002 h2
  omega)
 have HLS := Lib.hid hls
 unfold maxLen at hm
 obtain ⟨w2, hw2⟩ : ∃ w2, w2 = w.alloc (.cells #[.int .i64 seen, .slice ao n cap] 41) := ⟨_, rfl⟩
 have HB2 : Hid (Below w.heap.size w w2) := Lib.hid (by subst hw2; exact (Below.refl _ _).alloc (Nat.le_refl _) _)
 have HX2 : Hid (w2.heap[w.heap.size]? = some (.cells #[.int .i64 seen, .slice ao n cap] 41 (0, 0))) := Lib.hid (by subst hw2; exact heap_alloc_new w _)
 have HW2 := Lib.hid hw2
 clear h hn hls hw2
 go_enter Tryz.func26, Tryz.ntmps26
 go_wp2_with fail
 rw [← HW2.out]
 go_loopw [3, 4] (fun t i wr => ∃ k : Nat, k ≤ n ∧ k ≤ 100 ∧ i = .int .i64 k ∧ t = .int .i64 ((ls.take k).sum : Nat) ∧ Below w.heap.size w wr ∧ wr.heap[w.heap.size]? = some (.cells #[.int .i64 seen, .slice ao n cap] 41 (0, 0))) (fun _ i _ => n - (intOf i).toNat)
 case atStart => exact ⟨0, Nat.zero_le _, Nat.zero_le _, rfl, rfl, HB2.out, HX2.out⟩
 case round =>
  obtain ⟨k, hk, hk2, rfl, rfl, hbel, hx⟩ := hrel
  have HBE := Lib.hid hbel
  have HX := Lib.hid hx
  have x1 : wr.cell? ⟨w.heap.size, 1, none⟩ = some (.slice ao n cap) := by rw [blk_cell hx]; rfl
  skip
  clear hx hbel
  have hbd := HBD.out k hk2
  by_cases hlt : k < n
  · by_cases hlt2 : k < 100
    · have hkl : k < ls.length := by rw [HLL.out]; exact hlt
      have hkb : k < rs.length := by rw [HN.out]; exact hlt
      obtain ⟨b, off, rfl, hat⟩ := rq_cells (HR.out.below HBE.out) k hkb
      obtain ⟨c0, c1, c2, c3, c4, c5, c6, c7⟩ := hat.all
      have HS := Lib.hid (sum_take_succ ls k hkl)
      have HMIN : Hid (ls[k] = min rs[k].h.size 20001 + min rs[k].s.size 20001) := Lib.hid (by simp [HLS.out, rqTexts, min2])
      generalize ls[k] = m at *
      generalize rs[k] = r at *
      clear hkl hat c0 c1 c2 c3 c4 c5
      generalize (ls.take k).sum = s at *
      have HBD2 := Lib.hid (fun j => HBE.out.trans (Keeps.below ((Keeps.refl (fun _ => False) wr).drewN j) (B := w.heap.size) HBE.out.size (fun _ f => f.elim)))
      have HXD := Lib.hid (fun j => (((Keeps.refl (fun _ => False) wr).drewN j).block w.heap.size (blk_lt HX.out) (fun f => f.elim)).trans HX.out)
      have i0 : (0 : Int) ≤ (k : Int) := by omega
      have i1 : (k : Int) < (n : Int) := by omega
      have i2 : (k : Int) < (100 : Int) := by omega
      go_wp2_with fail
      go_quiet (fail)
      go_wp2
      go_roundw
      case rel => exact ⟨k + 1, by omega, by omega, by go_num, by rw [HS.out, HMIN.out]; congr 1; split <;> split <;> omega, HBD2.out _, HXD.out _⟩
      case measure => simp [intOf]; omega
    · obtain rfl : 100 = k := by omega
      have HF := Lib.hid (show fewRq rs = false by unfold fewRq fewE; simp only [HTL.out, decide_eq_false_iff_not]; omega)
      have i1 : (100 : Int) < (n : Int) := by omega
      have i2 : ¬ (n : Int) ≤ (100 : Int) := by omega
      clear hlt2
      go_wp2
      go_ret
      exact ⟨ret_bool HF.out.symm, HBE.out⟩
  · obtain rfl : k = n := by omega
    have i2 : (k : Int) ≤ (100 : Int) := by omega
    have HT : Hid ((ls.take k).sum = (((rqTexts rs).take 100).map min2).sum) := Lib.hid (by
     rw [List.take_of_length_le (by rw [HLL.out]; exact Nat.le_refl _), HLS.out, List.take_of_length_le (l := rqTexts rs) (by rw [HTL.out]; exact hk2)])
    by_cases hs : (ls.take k).sum ≤ 20000
    · have HF := Lib.hid (show fewRq rs = true by
       unfold fewRq fewE
       rw [← HT.out]
       simp only [HTL.out, decide_eq_true_eq]; omega)
      generalize (ls.take k).sum = s at *
      have i3 : (s : Int) ≤ (20000 : Int) := by omega
      clear hlt
      go_wp2
      go_ret
      exact ⟨ret_bool HF.out.symm, HBE.out⟩
    · have HF := Lib.hid (show fewRq rs = false by
       unfold fewRq fewE
       rw [← HT.out]
       simp only [HTL.out, decide_eq_false_iff_not]; omega)
      generalize (ls.take k).sum = s at *
      have i3 : ¬ (s : Int) ≤ (20000 : Int) := by omega
      clear hlt
      go_wp2
      go_ret
      exact ⟨ret_bool HF.out.symm, HBE.out⟩
def valB (zs : List Int) : Int := zs.foldl (fun n c => n * 256 + c) 0
theorem valB_snoc (zs : List Int) (c : Int) : valB (zs ++ [c]) = valB zs * 256 + c := by simp [valB]
theorem valB_acc : ∀ (zs : List Int) (a : Int) (j : Nat), InB zs → 0 ≤ a → a < 256 ^ j → 0 ≤ zs.foldl (fun n c => n * 256 + c) a ∧ zs.foldl (fun n c => n * 256 + c) a < 256 ^ (j + zs.length)
 | [], a, j, _, h0, h1 => ⟨h0, by simpa using h1⟩
 | c :: zs, a, j, h, h0, h1 => by
   have hc := h c (by simp)
   have h2 : a * 256 + c < 256 ^ (j + 1) := by rw [Int.pow_succ]; omega
   have := valB_acc zs (a * 256 + c) (j + 1) (fun z hz => h z (by simp [hz])) (by omega) h2
   rw [List.foldl_cons, List.length_cons, show j + (zs.length + 1) = j + 1 + zs.length by omega]
   exact this
theorem valB_in (zs : List Int) (h : InB zs) : 0 ≤ valB zs ∧ valB zs < 256 ^ zs.length := by
 have := valB_acc zs 0 0 h (by omega) (by decide)
 rwa [Nat.zero_add] at this
theorem pow256 (k : Nat) (h : k ≤ 7) : (256 : Int) ^ k ≤ 72057594037927936 := by
 have := Nat.pow_le_pow_right (n := 256) (by decide) h
 have e : ((256 ^ k : Nat) : Int) = (256 : Int) ^ k := by rw [Int.natCast_pow]; rfl
 omega
def numF (zs : List Int) (size : Int) : Int × Int :=
 if mayB size then (if (zs.length : Int) < size then (0, 2) else if MA < valB (zs.take size.toNat) then (0, 2) else (valB (zs.take size.toNat), 0)) else (0, 1)
theorem or_byte (x c : Int) (hx : 0 ≤ x) (hx2 : x < 72057594037927936) (hc : 0 ≤ c ∧ c ≤ 255) : bits .or .u64 (x * 256) c = x * 256 + c := by
 rw [u64_or _ _ (by omega) (by omega) hc.1 (by omega)]
 have e : (x * 256).toNat ||| c.toNat = (x * 256).toNat + c.toNat := by
  have := @Nat.two_pow_add_eq_or_of_lt 8 c.toNat (by omega) x.toNat
  rw [show (x * 256).toNat = 2 ^ 8 * x.toNat by omega]
  exact this.symm
 rw [e]; omega
theorem ints_cell {k : IntKind} {w : World} {ao : Option Addr} {zs : List Int} (h : IntsAt k w ao zs) (i : Nat) (hi : i < zs.length) : ∃ b off, ao = some ⟨b, off, none⟩ ∧ w.cell? ⟨b, off + i, none⟩ = some (.int k zs[i]) := by
 rcases h with rfl | ⟨b, off, h1, h2⟩
 · simp at hi
 · exact ⟨b, off, h1, by rw [h2 i hi]; simp [List.getD, hi]⟩
set_option maxHeartbeats 1000000 in
theorem number_any (ao : Option Addr) (zs : List Int) (n cap : Nat) (size : Int) (w : World) (hn : zs.length = n) (h : IntsAt .u8 w ao zs) (hB : InB zs) (hcap : n ≤ cap) :
 Calls Tryz.prog 74 #[.slice ao n cap, .int .i64 size] w fun e w' => e = .returned (.tuple #[.int .i64 (numF zs size).1, .int .i64 (numF zs size).2]) ∧ w = w' := by
 by_cases hm : mayB size = true
 · have hm' := hm
   simp only [mayB, decide_eq_true_eq] at hm'
   obtain ⟨s, rfl⟩ := Int.eq_ofNat_of_zero_le (show 0 ≤ size by omega)
   obtain ⟨hs1, hs2⟩ := hm'
   by_cases hl : (n : Int) < (s : Int)
   · have HF := Lib.hid (show numF zs s = (0, 2) by simp [numF, hm, hn]; omega)
     clear h hB hn
     go_enter Tryz.func74, Tryz.ntmps74
     go_wp2_with (go_at_call 68; refine (may_any _ _).mono ?_; rintro e w' ⟨rfl, rfl⟩)
     go_ret2
     exact ⟨ret_two (congrArg Prod.fst HF.out).symm (congrArg Prod.snd HF.out).symm, rfl⟩
   · have HF := Lib.hid (show numF zs s = if MA < valB (zs.take s) then (0, 2) else (valB (zs.take s), 0) by simp [numF, hm, hn, hl])
     have HBX := Lib.hid hB
     have HI := Lib.hid h
     have HN := Lib.hid hn
     have hle : (s : Int) ≤ (n : Int) := by omega
     have hle2 : (s : Int) ≤ (cap : Int) := by omega
     clear h hB hn hl
     go_enter Tryz.func74, Tryz.ntmps74
     go_wp2_with (go_at_call 68; refine (may_any _ _).mono ?_; rintro e w' ⟨rfl, rfl⟩)
     go_loop [6, 20] (fun t i => ∃ k : Nat, k ≤ s ∧ i = .int .i64 k ∧ t = .int .u64 (valB (zs.take k))) (fun _ i => s - (intOf i).toNat)
     case atStart => exact ⟨0, Nat.zero_le _, rfl, rfl⟩
     case round =>
      obtain ⟨k, hk, rfl, rfl⟩ := hrel
      have hv := valB_in (zs.take k) (fun z hz => HBX.out z (List.mem_of_mem_take hz))
      rw [List.length_take, Nat.min_eq_left (by have := HN.out; omega)] at hv
      obtain ⟨hv1, hv2⟩ := hv
      by_cases hlt : k < s
      · have hkn : k < zs.length := by have := HN.out; omega
        obtain ⟨b, off, ha, hc⟩ := ints_cell HI.out k hkn
        have hcb := HBX.out zs[k] (List.getElem_mem hkn)
        have HS := Lib.hid (show valB (zs.take (k + 1)) = valB (zs.take k) * 256 + zs[k] by rw [List.take_succ_eq_append_getElem hkn, valB_snoc])
        have hp := pow256 k (by omega)
        have h56 : valB (zs.take k) < 72057594037927936 := by omega
        have hor := or_byte (valB (zs.take k)) zs[k] hv1 h56 hcb
        have hsh : IntKind.u64.wrap (valB (zs.take k) * 256) = valB (zs.take k) * 256 := by rw [IntKind.wrap_u64]; omega
        have hcu : IntKind.u64.wrap zs[k] = zs[k] := by rw [IntKind.wrap_u64]; omega
        obtain ⟨hc1, hc2⟩ := hcb
        generalize valB (zs.take k) = x at *
        generalize zs[k] = c at *
        subst ha
        clear hp hv2 hkn
        go_wp2
        go_round
        case rel => exact ⟨k + 1, by omega, by go_num, by rw [HS.out]⟩
        case measure => simp [intOf]; omega
      · obtain rfl : k = s := by omega
        have hw : valB (zs.take k) < 18446744073709551616 := by
         rcases Nat.lt_or_ge k 8 with h | h
         · have := pow256 k (by omega); omega
         · obtain rfl : k = 8 := by omega
           have : (256 : Int) ^ 8 = 18446744073709551616 := by decide
           omega
        have hF := HF.out
        unfold MA at hF
        generalize valB (zs.take k) = x at *
        clear hv2
        by_cases hx : 4611686018427387904 < x
        · rw [if_pos hx] at hF
          have HF2 := Lib.hid hF
          clear hF
          go_wp2
          go_ret2
          exact ⟨ret_two (congrArg Prod.fst HF2.out).symm (congrArg Prod.snd HF2.out).symm, rfl⟩
        · rw [if_neg hx] at hF
          have HF2 := Lib.hid hF
          clear hF
          go_wp2
          go_ret2
          exact ⟨ret_two (congrArg Prod.fst HF2.out).symm (congrArg Prod.snd HF2.out).symm, rfl⟩
 · simp at hm
   have HF := Lib.hid (show numF zs size = (0, 1) by simp [numF, hm])
   clear h hB hn
   go_enter Tryz.func74, Tryz.ntmps74
   go_wp2_with (go_at_call 68; refine (may_any _ _).mono ?_; rintro e w' ⟨rfl, rfl⟩)
   go_ret2
   exact ⟨ret_two (congrArg Prod.fst HF.out).symm (congrArg Prod.snd HF.out).symm, rfl⟩
def DecAt (T : TypeId) (w : World) (p g : Nat) (zs : List Int) (e : Int) : Prop :=
 ∃ ao cap, w.heap[p]? = some (.cells #[.slice ao zs.length cap, .int .i64 e] T (0, 0)) ∧ IntsAt .u8 w ao zs ∧ zs.length ≤ cap ∧ cap ≤ maxLen ∧ InB zs ∧ zs.length ≤ 140737488355328 ∧ (zs = [] ∨ ∀ a, ao = some a → a.block = g) ∧ g ≠ p
def DecPost (T : TypeId) (w : World) (p g : Nat) (zs : List Int) (e : Int) (w' : World) : Prop := DecAt T w' p g zs e ∧ Keeps (fun k => k = p) w w'
def decNum (zs : List Int) (e size : Int) : Int × List Int × Int :=
 if e = 0 then (if (numF zs size).2 = 0 then ((numF zs size).1, zs.drop size.toNat, 0) else (0, zs, (numF zs size).2)) else (0, zs, e)
theorem DecAt.keep {T : TypeId} {w w' : World} {p g : Nat} {zs : List Int} {e : Int} {S : Nat → Prop} (h : DecAt T w p g zs e) (hk : Keeps S w w') (hp : ¬ S p) (hg : zs = [] ∨ ¬ S g) : DecAt T w' p g zs e := by
 obtain ⟨ao, cap, h1, h2, h3, h4, h5, h6, h7, h8⟩ := h
 refine ⟨ao, cap, (hk.block p (blk_lt h1) hp).trans h1, ?_, h3, h4, h5, h6, h7, h8⟩
 rcases hg with hg | hg
 · exact Or.inl hg
 · rcases h7 with h7 | h7
   · exact Or.inl h7
   · exact h2.same (fun a ha hl => hk.block _ hl (by rw [h7 a ha]; exact hg))
theorem DecAt.lt {T : TypeId} {w : World} {p g : Nat} {zs : List Int} {e : Int} (h : DecAt T w p g zs e) : p < w.heap.size := by
 obtain ⟨ao, cap, h1, _⟩ := h; exact blk_lt h1
theorem dec_err {T : TypeId} {w : World} {p g : Nat} {zs : List Int} {e : Int} (h : DecAt T w p g zs e) (e' : Int) : DecPost T w p g zs e' (w.setCell ⟨p, 1, none⟩ (.int .i64 e')) := by
 obtain ⟨ao, cap, h1, h2, h3, h4, h5, h6, h7, h8⟩ := h
 refine ⟨⟨ao, cap, by simpa using blk_set h1 1 (.int .i64 e'), by rcases h7 with h7 | h7; exact Or.inl h7; exact h2.same (fun a ha hl => Below.heap_setCell _ _ _ _ (by rw [h7 a ha]; exact h8)), h3, h4, h5, h6, h7, h8⟩, (Keeps.refl (fun k => k = p) _).setCell (p := ⟨p, 1, none⟩) (Or.inl rfl) _⟩
theorem dec_refl {T : TypeId} {w : World} {p g : Nat} {zs : List Int} {e : Int} (h : DecAt T w p g zs e) : DecPost T w p g zs e w := ⟨h, Keeps.refl _ _⟩
theorem dec_cut {T : TypeId} {w : World} {p g : Nat} {zs : List Int} {e : Int} (h : DecAt T w p g zs e) (k : Nat) (hk : k ≤ zs.length) (ao' : Option Addr) (n' cap' : Nat)
 (hv : ∀ ao cap, w.cell? ⟨p, 0, none⟩ = some (.slice ao zs.length cap) → (k = cap ∧ ao' = ao ∧ cap' = 0) ∨ (ao' = ao.map (·.add k) ∧ cap' = cap - k)) (hn' : n' = zs.length - k) :
 DecPost T w p g (zs.drop k) e (w.setCell ⟨p, 0, none⟩ (.slice ao' n' cap')) := by
 obtain ⟨ao, cap, h1, h2, h3, h4, h5, h6, h7, h8⟩ := h
 have c0 := blk_cell h1 0
 simp only [List.getElem?_toArray, List.getElem?_cons_zero] at c0
 have hl : (zs.drop k).length = n' := by simp [hn']
 have h5' : InB (zs.drop k) := fun z hz => h5 z (List.mem_of_mem_drop hz)
 refine ⟨⟨ao', cap', by rw [hl]; simpa using blk_set h1 0 (.slice ao' n' cap'), ?_, ?_, ?_, h5', by simp; omega, ?_, h8⟩, (Keeps.refl (fun k => k = p) _).setCell (p := ⟨p, 0, none⟩) (Or.inl rfl) _⟩
 · rcases h7 with h7 | h7
   · exact Or.inl (by simp [h7])
   have hsame : ∀ a, ao' = some a → a.block = g := by
    rcases hv ao cap c0 with ⟨_, rfl, _⟩ | ⟨rfl, _⟩
    · exact h7
    · intro a ha
      cases hao : ao with
      | none => rw [hao] at ha; cases ha
      | some b =>
        rw [hao] at ha; simp at ha; subst ha
        have := h7 b hao
        unfold Addr.add; split <;> simp_all
   have h2' : IntsAt .u8 w ao' (zs.drop k) := by
    rcases hv ao cap c0 with ⟨h, rfl, _⟩ | ⟨rfl, _⟩
    · exact Or.inl (by simp; omega)
    · rcases h2 with rfl | ⟨b, off, rfl, hc⟩
      · exact Or.inl (by simp)
      · refine Or.inr ⟨b, off + k, by rw [Option.map_some, addr_add], fun i hi => ?_⟩
        simp only [List.length_drop] at hi
        rw [show off + k + i = off + (k + i) by omega, hc (k + i) (by omega)]
        simp [List.getD]
   exact h2'.same (fun a ha hl => Below.heap_setCell _ _ _ _ (by rw [hsame a ha]; exact h8))
 · rcases hv ao cap c0 with ⟨h, _, rfl⟩ | ⟨_, rfl⟩ <;> simp <;> omega
 · rcases hv ao cap c0 with ⟨h, _, rfl⟩ | ⟨_, rfl⟩ <;> omega
 · rcases h7 with h7 | h7
   · exact Or.inl (by simp [h7])
   refine Or.inr ?_
   rcases hv ao cap c0 with ⟨_, rfl, _⟩ | ⟨rfl, _⟩
   · exact h7
   · intro a ha
     cases hao : ao with
     | none => rw [hao] at ha; cases ha
     | some b =>
       rw [hao] at ha; simp at ha; subst ha
       have := h7 b hao
       unfold Addr.add; split <;> simp_all
def NumPost (T : TypeId) (w : World) (p g : Nat) (r : Int × List Int × Int) (e : Ending) (w' : World) : Prop := e = .returned (.int .i64 r.1) ∧ DecPost T w p g r.2.1 r.2.2 w'
set_option maxHeartbeats 1000000 in
theorem dec_num (p g : Nat) (zs : List Int) (e size : Int) (w : World) (h : DecAt 150 w p g zs e) :
 Calls Tryz.prog 40 #[.pointer (some ⟨p, 0, none⟩), .int .i64 size] w (NumPost 150 w p g (decNum zs e size)) := by
 have h' := h
 obtain ⟨ao, cap, h1, h2, h3, h4, h5, h6, h7, h8⟩ := h'
 have c0 := blk_cell h1 0
 have c1 := blk_cell h1 1
 have f0 := blk_frozen h1 0
 have f1 := blk_frozen h1 1
 simp only [lq] at c0 c1
 by_cases he : e = 0
 · subst he
   have HN := Lib.hid (number_any ao zs zs.length cap size w rfl h2 h5 h3)
   by_cases hr : (numF zs size).2 = 0
   · have HD := Lib.hid (show decNum zs 0 size = ((numF zs size).1, zs.drop size.toNat, 0) by simp [decNum, hr])
     have hsz : ∃ s : Nat, size = s ∧ s ≤ zs.length := by
      unfold numF at hr
      split at hr
      · rename_i hm
        simp only [mayB, decide_eq_true_eq] at hm
        split at hr
        · simp at hr
        · exact ⟨size.toNat, by omega, by omega⟩
      · simp at hr
     obtain ⟨s, rfl, hs⟩ := hsz
     have HC := Lib.hid (fun ao' n' cap' hv hn' => dec_cut h s hs ao' n' cap' hv hn')
     have hi1 : (0 : Int) ≤ (s : Int) := by omega
     have hi2 : (s : Int) ≤ (zs.length : Int) := by omega
     generalize numF zs (s : Int) = r at *
     obtain ⟨r1, r2⟩ := r
     simp only at hr
     subst hr
     clear h h1 h2 h5 h7 h8
     go_enter Tryz.func40, Tryz.ntmps40
     go_wp2_with fail
     refine HN.out.mono ?_
     rintro e w1 ⟨rfl, rfl⟩
     go_wp2
     all_goals
      go_ret
      refine ⟨ret_int (congrArg Prod.fst HD.out).symm, ?_⟩
      rw [HD.out]
      refine HC.out _ _ _ (fun ao2 cap2 hc2 => ?_) (by omega)
      rw [c0] at hc2
      simp only [Option.some.injEq, Value.slice.injEq, true_and] at hc2
      obtain ⟨rfl, rfl⟩ := hc2
      first | exact Or.inr ⟨rfl, rfl⟩ | exact Or.inl ⟨by omega, rfl, by omega⟩
   · have HD := Lib.hid (show decNum zs 0 size = (0, zs, (numF zs size).2) by simp [decNum, hr])
     have HP := Lib.hid (dec_err h (numF zs size).2)
     generalize numF zs size = r at *
     obtain ⟨r1, r2⟩ := r
     have hr' : (r2 != 0) = true := by simpa using hr
     clear h h1 h2 h5 h7 h8 hr
     go_enter Tryz.func40, Tryz.ntmps40
     go_wp2_with fail
     refine HN.out.mono ?_
     rintro e w1 ⟨rfl, rfl⟩
     go_wp2
     go_ret
     exact ⟨ret_int (congrArg Prod.fst HD.out).symm, by rw [HD.out]; exact HP.out⟩
 · have he' : (e != 0) = true := by simp [he]
   have HD := Lib.hid (show decNum zs e size = (0, zs, e) by simp [decNum, he])
   have HP := Lib.hid (dec_refl h)
   clear h h1 h2 h5 h7 h8 he
   go_enter Tryz.func40, Tryz.ntmps40
   go_wp2
   go_ret
   exact ⟨ret_int (congrArg Prod.fst HD.out).symm, by rw [HD.out]; exact HP.out⟩
def BytesPost (T : TypeId) (w : World) (p g : Nat) (r : List Int × List Int × Int) (e : Ending) (w' : World) : Prop :=
 DecPost T w p g r.2.1 r.2.2 w' ∧ ∃ ao cap, e = .returned (.slice ao r.1.length cap) ∧ w'.ownsRow 0 5 1 (.slice ao r.1.length cap) r.1.length (r.1.map (Value.int .u8)) ∧ ∀ g', (Value.slice ao r.1.length cap).ownBlock = some g' → w.heap.size ≤ g'
theorem bytes_nil {T : TypeId} {w : World} {p g : Nat} {zs : List Int} {e : Int} {w' : World} (h : DecPost T w p g zs e w') : BytesPost T w p g ([], zs, e) (.returned (.slice none 0 0)) w' :=
 ⟨h, none, 0, rfl, World.ownsRow_nil _ _ _ _, fun g hg => by cases hg⟩
theorem bytes_done {T : TypeId} {w w1 : World} {p g : Nat} {zs R : List Int} {m : Nat} (h : DecAt T w1 p g zs 0) (hbl : Below w.heap.size w w1) (hpl : p < w.heap.size) (ao2 : Option Addr) (cap2 : Nat) (hR : R.length = m)
 (ho : w1.ownsRow 0 5 1 (.slice ao2 m cap2) m (R.map (Value.int .u8))) (hf : ∀ g', (Value.slice ao2 m cap2).ownBlock = some g' → w.heap.size ≤ g')
 (k : Nat) (hk : k ≤ zs.length) (ao' : Option Addr) (n' cap' : Nat)
 (hv : ∀ ao cap, w1.cell? ⟨p, 0, none⟩ = some (.slice ao zs.length cap) → (k = cap ∧ ao' = ao ∧ cap' = 0) ∨ (ao' = ao.map (·.add k) ∧ cap' = cap - k)) (hn' : n' = zs.length - k) :
 BytesPost T w p g (R, zs.drop k, 0) (.returned (.slice ao2 m cap2)) (w1.setCell ⟨p, 0, none⟩ (.slice ao' n' cap')) := by
 have hcut := dec_cut h k hk ao' n' cap' hv hn'
 subst hR
 exact ⟨⟨hcut.1, (Keeps.of_below hbl).trans hcut.2 (fun _ h => Or.inl h)⟩, ao2, cap2, rfl,
  ownsRow_same ho (fun g' hg' => Below.heap_setCell _ _ _ _ (by have := hf g' hg'; show g' ≠ p; omega)), hf⟩
def NewDecPost (T : TypeId) (w : World) (zs : List Int) (e : Ending) (w' : World) : Prop :=
 ∃ p g, e = .returned (.pointer (some ⟨p, 0, none⟩)) ∧ DecAt T w' p g zs 0 ∧ Below w.heap.size w w' ∧ w.heap.size ≤ p ∧ w.heap.size ≤ g
theorem dec_new {T : TypeId} {w w1 : World} {ao : Option Addr} {zs : List Int} {cap : Nat} (h : RowAt w (.slice ao zs.length cap) zs w1) (hB : InB zs) (hl : zs.length ≤ 140737488355328) :
 ∃ g, DecAt T (w1.alloc (.cells #[.slice ao zs.length cap, .int .i64 0] T)) w1.heap.size g zs 0 ∧ w.heap.size ≤ g := by
 obtain ⟨ho, hb, hf⟩ := h
 obtain ⟨_, h2, h3, h4⟩ := owns_at ho
 have h2' : IntsAt .u8 (w1.alloc (.cells #[.slice ao zs.length cap, .int .i64 0] T)) ao zs := ints_below h2 ((Below.refl _ _).alloc (Nat.le_refl _) _)
 cases ao with
 | none => exact ⟨w1.heap.size + 1, ⟨none, cap, heap_alloc_new w1 _, h2', h3, h4, hB, hl, Or.inl (by have := h3; have h9 := ints_none h2; exact List.eq_nil_of_length_eq_zero h9), by omega⟩, by have := hb.size; omega⟩
 | some a =>
   have hlt := (ho.lt a.block rfl).2
   exact ⟨a.block, ⟨some a, cap, heap_alloc_new w1 _, h2', h3, h4, hB, hl, Or.inr (fun b hb => by cases hb; rfl), by omega⟩, hf a.block rfl⟩
set_option maxHeartbeats 1000000 in
theorem newDec (ao : Option Addr) (zs : List Int) (n cap : Nat) (w : World) (hn : zs.length = n) (h : IntsAt .u8 w ao zs) (hB : InB zs) (hl : n ≤ 140737488355328) :
 Calls Tryz.prog 39 #[.slice ao n cap] w (NewDecPost 150 w zs) := by
 have HC := Lib.hid (clone_u8 ao zs n cap w hn h hl)
 have HB := Lib.hid hB
 have HL := Lib.hid (show zs.length ≤ 140737488355328 by omega)
 clear h hn hB
 go_enter Tryz.func39, Tryz.ntmps39
 go_wp2_with fail
 refine HC.out.mono ?_
 rintro e w1 ⟨ao2, cap2, rfl, hr⟩
 have HD := Lib.hid (dec_new (T := 150) hr HB.out HL.out)
 have HR := Lib.hid hr.2.1
 clear hr
 go_wp2
 go_ret
 obtain ⟨g, h1, h2⟩ := HD.out
 exact ⟨_, g, rfl, h1, HR.out.alloc HR.out.size _, HR.out.size, h2⟩
def decEnd (zs : List Int) (e : Int) : Int := if e = 0 then (if zs.length = 0 then 0 else 2) else e
set_option maxHeartbeats 400000 in
theorem dec_end (p g : Nat) (zs : List Int) (e : Int) (w : World) (h : DecAt 150 w p g zs e) :
 Calls Tryz.prog 42 #[.pointer (some ⟨p, 0, none⟩)] w fun en w' => en = .returned (.int .i64 (decEnd zs e)) ∧ w = w' := by
 obtain ⟨ao, cap, h1, h2, h3, h4, h5, h6, h7, h8⟩ := h
 have c0 := blk_cell h1 0
 have c1 := blk_cell h1 1
 simp only [lq] at c0 c1
 clear h1 h2 h5 h7
 by_cases he : e = 0
 · subst he
   by_cases hl : zs.length = 0
   · have HD := Lib.hid (show decEnd zs 0 = 0 by simp [decEnd, hl])
     have hl' : ¬ (0 : Int) < (zs.length : Int) := by omega
     clear hl
     go_enter Tryz.func42, Tryz.ntmps42
     go_wp2
     go_ret
     exact ⟨ret_int HD.out.symm, rfl⟩
   · have HD := Lib.hid (show decEnd zs 0 = 2 by simp [decEnd, hl])
     have hl' : (0 : Int) < (zs.length : Int) := by omega
     clear hl
     go_enter Tryz.func42, Tryz.ntmps42
     go_wp2
     go_ret
     exact ⟨ret_int HD.out.symm, rfl⟩
 · have HD := Lib.hid (show decEnd zs e = e by simp [decEnd, he])
   have he' : (e == 0) = false := by simp [he]
   clear he
   go_enter Tryz.func42, Tryz.ntmps42
   go_wp2
   go_ret
   exact ⟨ret_int HD.out.symm, rfl⟩
theorem foldl_valB (zs : List Int) (a : Int) : zs.foldl (fun n c => n * 256 + c) a = a * 256 ^ zs.length + valB zs := by
 induction zs generalizing a with
 | nil => simp [valB]
 | cons c zs ih =>
   have e1 : valB (c :: zs) = c * 256 ^ zs.length + valB zs := by
    show (c :: zs).foldl (fun n c => n * 256 + c) 0 = _
    rw [List.foldl_cons, ih]; simp
   rw [List.foldl_cons, ih, e1, List.length_cons, Int.pow_succ, Int.add_mul]
   have e : a * 256 * 256 ^ zs.length = a * (256 ^ zs.length * 256) := by rw [Int.mul_assoc, Int.mul_comm 256]
   rw [e]; omega
theorem valB_cons (c : Int) (zs : List Int) : valB (c :: zs) = c * 256 ^ zs.length + valB zs := by
 rw [valB, List.foldl_cons, foldl_valB]; simp
theorem mod_split (n m : Nat) : (n : Int) % ((m : Int) * 256) = (n : Int) % m + m * ((n : Int) / m % 256) := by
 have h := congrArg (fun x : Nat => (x : Int)) (Nat.mod_mul (a := m) (b := 256) (x := n))
 simp only [Int.natCast_add, Int.natCast_mul, Int.natCast_emod, Int.natCast_ediv] at h
 exact h
theorem valB_put (n : Int) (k : Nat) (h : 0 ≤ n) : valB (putB n k) = n % 256 ^ k := by
 obtain ⟨n', rfl⟩ := Int.eq_ofNat_of_zero_le h
 induction k with
 | zero => simp [putB, valB, Int.emod_one]
 | succ k ih =>
   have hp2 : (256 : Int) ^ k = ((256 ^ k : Nat) : Int) := by rw [Int.natCast_pow]; rfl
   have hp3 : (2 : Int) ^ (8 * k) = 256 ^ k := by rw [Int.pow_mul]; rfl
   rw [putB, valB_cons, putB_length, ih, Int.pow_succ]
   unfold byteAt
   rw [IntKind.wrap_u8, hp3, hp2, mod_split]
   rw [Int.mul_comm]; omega
theorem putB_in (n : Int) (s : Nat) : InB (putB n s) := by
 induction s with
 | zero => intro z hz; cases hz
 | succ s ih =>
   intro z hz
   rcases List.mem_cons.1 hz with rfl | h
   · unfold byteAt; rw [IntKind.wrap_u8]; omega
   · exact ih z h
theorem fits_lt (n : Int) (s : Nat) (h : fitsB n s = true) : 1 ≤ s ∧ s ≤ 8 ∧ 0 ≤ n ∧ n ≤ MA ∧ n % 256 ^ s = n := by
 simp only [fitsB, mayB, Bool.and_eq_true, Bool.or_eq_true, decide_eq_true_eq, Int.toNat_natCast] at h
 obtain ⟨⟨⟨h1, h2⟩, h3⟩, h4⟩ := h
 have h3 := (amt_iff n).1 h3
 refine ⟨by omega, by omega, h3.1, h3.2, ?_⟩
 have hp3 : (2 : Int) ^ (8 * s) = 256 ^ s := by rw [Int.pow_mul]; rfl
 rw [hp3] at h4
 rcases h4 with h4 | h4
 · obtain rfl : s = 8 := by omega
   unfold MA at h3
   show n % 18446744073709551616 = n
   omega
 · have hp : (0 : Int) < 256 ^ s := Int.pow_pos (by decide)
   have := Int.ediv_nonneg h3.1 (show (0 : Int) ≤ 256 ^ s by omega)
   have h5 : n / 256 ^ s = 0 := by omega
   have h6 := Int.mul_ediv_add_emod n (256 ^ s)
   rw [h5] at h6; omega
theorem numF_put (n : Int) (s : Nat) (rest : List Int) (h : fitsB n s = true) : numF (putB n s ++ rest) s = (n, 0) := by
 obtain ⟨h1, h2, h3, h4, h5⟩ := fits_lt n s h
 have e1 : mayB (s : Int) = true := by simp [mayB]; omega
 have e2 : ¬ (((putB n s ++ rest).length : Nat) : Int) < (s : Int) := by simp [putB_length]; omega
 have e3 : (putB n s ++ rest).take (s : Int).toNat = putB n s := by
  rw [Int.toNat_natCast]; exact List.take_left' (putB_length n s)
 unfold numF
 rw [if_pos e1, if_neg e2, e3, valB_put n s h3, h5, if_neg (by omega)]
theorem decNum_put (n : Int) (s : Nat) (rest : List Int) (h : fitsB n s = true) : decNum (putB n s ++ rest) 0 s = (n, rest, 0) := by
 unfold decNum
 rw [numF_put n s rest h]
 simp only [if_true, Int.toNat_natCast]
 rw [List.drop_left' (putB_length n s)]
abbrev InS := List Int × Bool
def inBytes (n : Nat) (st : InS) : List Int × InS := if st.1.length < n then (List.replicate n 0, ([], true)) else (st.1.take n, (st.1.drop n, st.2))
def inNum (n : Nat) (st : InS) : Int × InS :=
 if st.1.length < n then (0, ([], true)) else if MA < valB (st.1.take n) then (0, (st.1.drop n, true)) else (valB (st.1.take n), (st.1.drop n, st.2))
def stepIn (r : EV × InS) (c : Int) : EV × InS :=
 match numSign c with
 | some (j, z) => (r.1.setN (inNum z.toNat r.2).1 j, (inNum z.toNat r.2).2)
 | none => (r.1.setT (bytesOf (inBytes 32 r.2).1) (txtSign c), (inBytes 32 r.2).2)
def ev0 : EV := ⟨0, 0, 0, 0, 0, 0, 0, ⟨#[]⟩, ⟨#[]⟩⟩
def evIn (ev : Bool) (st : InS) : EV × InS := (hasN (inNum 1 st).1 ev).foldl stepIn (ev0.setN (inNum 1 st).1 0, (inNum 1 st).2)
theorem inNum_put (n : Int) (s : Nat) (rest : List Int) (b : Bool) (h : fitsB n s = true) : inNum s (putB n s ++ rest, b) = (n, (rest, b)) := by
 obtain ⟨h1, h2, h3, h4, h5⟩ := fits_lt n s h
 have e2 : ¬ (putB n s ++ rest).length < s := by simp [putB_length]
 have e3 : (putB n s ++ rest).take s = putB n s := List.take_left' (putB_length n s)
 have e4 : (putB n s ++ rest).drop s = rest := List.drop_left' (putB_length n s)
 unfold inNum
 simp only [if_neg e2, e3, e4, valB_put n s h3, h5]
 rw [if_neg (by omega)]
theorem bytesOf_strNums (s : ByteArray) : bytesOf (strNums s) = s := by
 unfold bytesOf strNums
 rw [List.map_map]
 have e : (fun z : Int => UInt8.ofNat z.toNat) ∘ (fun b : UInt8 => (b.toNat : Int)) = id := by
  funext b; simp
 rw [e]
 simp
theorem inBytes_str (s : ByteArray) (rest : List Int) (b : Bool) (h : s.size = 32) : inBytes 32 (strNums s ++ rest, b) = (strNums s, (rest, b)) := by
 have hl : (strNums s).length = 32 := by rw [strNums_length, h]
 unfold inBytes
 simp only [List.length_append, hl]
 rw [if_neg (by omega), List.take_left' hl, List.drop_left' hl]
def okE (ev : Bool) (e : EV) : Bool :=
 if e.k = 1 then (if ev then fitsB e.f 1 else decide (e.f = 0)) && fitsB e.t 1 && fitsB e.a 1 && fitsB e.n 8 && decide (e.i = 0 ∧ e.d = 0) && (emptyB e.h && emptyB e.s)
 else if e.k = 2 then (if ev then fitsB e.f 1 && fitsB e.i 2 else decide (e.f = 0 ∧ e.i = 0)) && fitsB e.t 1 && fitsB e.a 1 && fitsB e.n 8 && decide (e.h.size = 32) && (fitsB e.d 8 && tickB e.d) && emptyB e.s
 else if e.k = 3 then fitsB e.i 2 && decide (e.s.size = 32) && decide (e.f = 0 ∧ e.t = 0 ∧ e.a = 0 ∧ e.n = 0 ∧ e.d = 0) && emptyB e.h
 else if e.k = 4 then fitsB e.i 2 && decide (e.f = 0 ∧ e.t = 0 ∧ e.a = 0 ∧ e.n = 0 ∧ e.d = 0) && (emptyB e.h && emptyB e.s)
 else false
def partE (e : EV) (c : Int) : List Int := match numSign c with
 | some (j, z) => putB (e.num j) z.toNat
 | none => strNums (e.txt (txtSign c))
def chunkE (ev : Bool) (e : EV) : List Int := putB e.k 1 ++ (hasN e.k ev).flatMap (partE e)
theorem emptyB_eq (s : ByteArray) (h : emptyB s = true) : s = ⟨#[]⟩ := by
 have := (emptyB_iff s).1 h
 cases s with | mk d => 
  congr 1
  exact Array.eq_empty_of_size_eq_zero this
set_option maxHeartbeats 4000000 in
theorem evOut_snd (ev : Bool) (st : List Int × Bool) (e : EV) : (evOut e (hasN e.k ev) st).2 = (st.2 || !okE ev e) := by
 obtain ⟨s1, s2, s3, s4, s5, s6, s7, s8, s9, s10⟩ := sgn
 obtain ⟨f1, f2, f3, f4⟩ := fits_small
 obtain ⟨k, f, t, a, n, i, d, h, s⟩ := e
 have hn := emptyB_nil
 unfold evOut evBody evHead
 by_cases h1 : k = 1
 · subst h1
   cases ev
   all_goals
    simp only [hasN, EV.setN, List.foldl_cons, List.foldl_nil, stepEv, s1, s2, s3, s6, numOut_snd, EV.num, EV.zero, okE, if_true, Bool.false_eq_true, if_false, List.isEmpty_cons, f1]
    by_cases hd : d = 0
    · subst hd
      rw [tickB_0]
      simp only [emptyB]
      by_cases hf : f = 0 <;> cases st.2 <;> cases fitsB t 1 <;> cases fitsB a 1 <;> cases fitsB n 8 <;> simp [hf, Bool.or_assoc]
    · simp only [emptyB]
      cases st.2 <;> cases fitsB t 1 <;> cases fitsB a 1 <;> cases fitsB n 8 <;> cases tickB d <;> simp [hd]
 · by_cases h2 : k = 2
   · subst h2
     unfold emptyB at hn
     cases ev
     all_goals
      simp only [hasN, EV.setN, EV.setT, EV.txt, List.foldl_cons, List.foldl_nil, stepEv, s1, s2, s3, s4, s5, s6, s7, s9, numOut_snd, EV.num, EV.zero, okE, if_true, Bool.false_eq_true, if_false, List.isEmpty_cons, f2, ne32, Int.reduceEq]
      unfold emptyB
      rw [hn]
      cases st.2 <;> cases fitsB t 1 <;> cases fitsB a 1 <;> cases fitsB n 8 <;> cases fitsB d 8 <;> cases tickB d <;> simp [Bool.or_assoc, Bool.or_comm, Bool.or_left_comm]
   · by_cases h3 : k = 3
     · subst h3
       simp only [hasN, EV.setN, EV.setT, EV.txt, List.foldl_cons, List.foldl_nil, stepEv, s4, s8, s10, numOut_snd, EV.num, EV.zero, okE, if_true, Bool.false_eq_true, if_false, List.isEmpty_cons, f3, ne32, Int.reduceEq, Nat.reduceEqDiff]
       unfold emptyB at hn ⊢
       rw [hn]
       by_cases hd : d = 0
       · subst hd
         rw [tickB_0]
         by_cases hs : s.size = 32 <;> cases st.2 <;> cases fitsB i 2 <;> cases h.toList.isEmpty <;> simp [hs]
       · cases st.2 <;> cases fitsB i 2 <;> cases tickB d <;> simp [hd]
     · by_cases h4 : k = 4
       · subst h4
         simp only [hasN, EV.setN, List.foldl_cons, List.foldl_nil, stepEv, s4, numOut_snd, EV.num, EV.zero, okE, if_true, Bool.false_eq_true, if_false, List.isEmpty_cons, f4, Int.reduceEq]
         by_cases hd : d = 0
         · subst hd
           rw [tickB_0]
           simp only [emptyB]
           cases st.2 <;> cases fitsB i 2 <;> simp
         · simp only [emptyB]
           cases st.2 <;> cases fitsB i 2 <;> cases tickB d <;> simp [hd]
       · simp [hasN, h1, h2, h3, h4, okE, numOut_snd]
theorem okE_k (ev : Bool) (e : EV) (h : okE ev e = true) : e.k = 1 ∨ e.k = 2 ∨ e.k = 3 ∨ e.k = 4 := by
 unfold okE at h
 by_cases h1 : e.k = 1
 · exact Or.inl h1
 · by_cases h2 : e.k = 2
   · exact Or.inr (Or.inl h2)
   · by_cases h3 : e.k = 3
     · exact Or.inr (Or.inr (Or.inl h3))
     · by_cases h4 : e.k = 4
       · exact Or.inr (Or.inr (Or.inr h4))
       · simp [h1, h2, h3, h4] at h
set_option maxHeartbeats 4000000 in
theorem evOut_fst (ev : Bool) (st : List Int × Bool) (e : EV) (h : okE ev e = true) : (evOut e (hasN e.k ev) st).1 = st.1 ++ chunkE ev e := by
 obtain ⟨s1, s2, s3, s4, s5, s6, s7, s8, s9, s10⟩ := sgn
 obtain ⟨f1, f2, f3, f4⟩ := fits_small
 have hk := okE_k ev e h
 obtain ⟨k, f, t, a, n, i, d, hh, s⟩ := e
 unfold evOut evBody evHead chunkE
 unfold okE at h
 simp only at hk h
 rcases hk with rfl | rfl | rfl | rfl
 · cases ev <;> simp only [Int.reduceEq, if_true, if_false, Bool.false_eq_true, Bool.and_eq_true, decide_eq_true_eq] at h
   · obtain ⟨⟨⟨⟨⟨h1, h2⟩, h3⟩, h4⟩, h5⟩, h6⟩ := h
     simp only [hasN, EV.setN, List.foldl_cons, List.foldl_nil, stepEv, s1, s2, s3, s6, numOut_fst, EV.num, if_true, Bool.false_eq_true, if_false, f1, h2, h3, h4, List.flatMap_cons, List.flatMap_nil, partE, List.append_assoc, List.append_nil, Int.reduceToNat]
   · obtain ⟨⟨⟨⟨⟨h1, h2⟩, h3⟩, h4⟩, h5⟩, h6⟩ := h
     simp only [hasN, EV.setN, List.foldl_cons, List.foldl_nil, stepEv, s1, s2, s3, s6, numOut_fst, EV.num, if_true, Bool.false_eq_true, if_false, f1, h1, h2, h3, h4, List.flatMap_cons, List.flatMap_nil, partE, List.append_assoc, List.append_nil, Int.reduceToNat]
 · cases ev <;> simp only [Int.reduceEq, if_true, if_false, Bool.false_eq_true, Bool.and_eq_true, decide_eq_true_eq] at h
   · obtain ⟨⟨⟨⟨⟨⟨h1, h2⟩, h3⟩, h4⟩, h5⟩, h6, h6'⟩, h7⟩ := h
     simp only [hasN, EV.setN, EV.setT, EV.txt, List.foldl_cons, List.foldl_nil, stepEv, s1, s2, s3, s4, s5, s6, s7, s9, numOut_fst, EV.num, if_true, Bool.false_eq_true, if_false, f2, h2, h3, h4, h6, List.flatMap_cons, List.flatMap_nil, partE, List.append_assoc, List.append_nil, Int.reduceEq, Int.reduceToNat]
   · obtain ⟨⟨⟨⟨⟨⟨⟨h1, h1'⟩, h2⟩, h3⟩, h4⟩, h5⟩, h6, h6'⟩, h7⟩ := h
     simp only [hasN, EV.setN, EV.setT, EV.txt, List.foldl_cons, List.foldl_nil, stepEv, s1, s2, s3, s4, s5, s6, s7, s9, numOut_fst, EV.num, if_true, Bool.false_eq_true, if_false, f2, h1, h1', h2, h3, h4, h6, List.flatMap_cons, List.flatMap_nil, partE, List.append_assoc, List.append_nil, Int.reduceEq, Int.reduceToNat]
 · simp only [Int.reduceEq, if_true, if_false, Bool.and_eq_true, decide_eq_true_eq] at h
   obtain ⟨⟨⟨h1, h2⟩, h3⟩, h4⟩ := h
   simp only [hasN, EV.setN, EV.setT, EV.txt, List.foldl_cons, List.foldl_nil, stepEv, s4, s8, s10, numOut_fst, EV.num, if_true, Bool.false_eq_true, if_false, f3, h1, List.flatMap_cons, List.flatMap_nil, partE, List.append_assoc, List.append_nil, Int.reduceEq, Nat.reduceEqDiff, Int.reduceToNat]
 · simp only [Int.reduceEq, if_true, if_false, Bool.and_eq_true, decide_eq_true_eq] at h
   obtain ⟨⟨h1, h2⟩, h3⟩ := h
   simp only [hasN, EV.setN, List.foldl_cons, List.foldl_nil, stepEv, s4, numOut_fst, EV.num, if_true, Bool.false_eq_true, if_false, f4, h1, List.flatMap_cons, List.flatMap_nil, partE, List.append_assoc, List.append_nil, Int.reduceEq, Int.reduceToNat]
set_option maxHeartbeats 4000000 in
theorem evIn_chunk (ev : Bool) (e : EV) (rest : List Int) (b : Bool) (h : okE ev e = true) : evIn ev (chunkE ev e ++ rest, b) = (e, (rest, b)) := by
 obtain ⟨s1, s2, s3, s4, s5, s6, s7, s8, s9, s10⟩ := sgn
 obtain ⟨f1, f2, f3, f4⟩ := fits_small
 have hk := okE_k ev e h
 obtain ⟨k, f, t, a, n, i, d, hh, s⟩ := e
 unfold evIn chunkE
 unfold okE at h
 simp only at hk h
 have hn1 : ∀ rest, inNum 1 (putB k 1 ++ rest, b) = (k, (rest, b)) := fun rest => inNum_put k 1 rest b (by rcases hk with rfl | rfl | rfl | rfl <;> assumption)
 simp only [List.append_assoc, hn1]
 rcases hk with rfl | rfl | rfl | rfl
 · cases ev <;> simp only [Int.reduceEq, if_true, if_false, Bool.false_eq_true, Bool.and_eq_true, decide_eq_true_eq] at h
   · obtain ⟨⟨⟨⟨⟨rfl, h2⟩, h3⟩, h4⟩, rfl, rfl⟩, h6, h7⟩ := h
     obtain rfl := emptyB_eq hh h6
     obtain rfl := emptyB_eq s h7
     have g2 := fun rest => inNum_put t 1 rest b h2
     have g3 := fun rest => inNum_put a 1 rest b h3
     have g4 := fun rest => inNum_put n 8 rest b h4
     simp only [hasN, List.flatMap_cons, List.flatMap_nil, partE, s2, s3, s1, EV.num, if_true, Bool.false_eq_true, if_false, List.append_assoc, List.nil_append, Int.reduceToNat, List.foldl_cons, List.foldl_nil, stepIn, EV.setN, ev0, g2, g3, g4]
   · obtain ⟨⟨⟨⟨⟨h1, h2⟩, h3⟩, h4⟩, rfl, rfl⟩, h6, h7⟩ := h
     obtain rfl := emptyB_eq hh h6
     obtain rfl := emptyB_eq s h7
     have g1 := fun rest => inNum_put f 1 rest b h1
     have g2 := fun rest => inNum_put t 1 rest b h2
     have g3 := fun rest => inNum_put a 1 rest b h3
     have g4 := fun rest => inNum_put n 8 rest b h4
     simp only [hasN, List.flatMap_cons, List.flatMap_nil, partE, s2, s3, s1, s6, EV.num, if_true, Bool.false_eq_true, if_false, List.append_assoc, List.nil_append, Int.reduceToNat, List.foldl_cons, List.foldl_nil, stepIn, EV.setN, ev0, g1, g2, g3, g4]
 · cases ev <;> simp only [Int.reduceEq, if_true, if_false, Bool.false_eq_true, Bool.and_eq_true, decide_eq_true_eq] at h
   · obtain ⟨⟨⟨⟨⟨⟨⟨rfl, rfl⟩, h2⟩, h3⟩, h4⟩, h5⟩, h6, h6'⟩, h7⟩ := h
     obtain rfl := emptyB_eq s h7
     have g2 := fun rest => inNum_put t 1 rest b h2
     have g3 := fun rest => inNum_put a 1 rest b h3
     have g4 := fun rest => inNum_put n 8 rest b h4
     have g5 := fun rest => inBytes_str hh rest b h5
     have g6 := fun rest => inNum_put d 8 rest b h6
     simp only [hasN, List.flatMap_cons, List.flatMap_nil, partE, s1, s2, s3, s5, s7, s9, EV.num, EV.txt, if_true, Bool.false_eq_true, if_false, List.append_assoc, List.nil_append, Int.reduceToNat, Int.reduceEq, List.foldl_cons, List.foldl_nil, stepIn, EV.setN, EV.setT, ev0, g2, g3, g4, g5, g6, bytesOf_strNums]
   · obtain ⟨⟨⟨⟨⟨⟨⟨h1, h1'⟩, h2⟩, h3⟩, h4⟩, h5⟩, h6, h6'⟩, h7⟩ := h
     obtain rfl := emptyB_eq s h7
     have g1 := fun rest => inNum_put f 1 rest b h1
     have g1' := fun rest => inNum_put i 2 rest b h1'
     have g2 := fun rest => inNum_put t 1 rest b h2
     have g3 := fun rest => inNum_put a 1 rest b h3
     have g4 := fun rest => inNum_put n 8 rest b h4
     have g5 := fun rest => inBytes_str hh rest b h5
     have g6 := fun rest => inNum_put d 8 rest b h6
     simp only [hasN, List.flatMap_cons, List.flatMap_nil, partE, s1, s2, s3, s4, s5, s6, s7, s9, EV.num, EV.txt, if_true, Bool.false_eq_true, if_false, List.append_assoc, List.nil_append, Int.reduceToNat, Int.reduceEq, List.foldl_cons, List.foldl_nil, stepIn, EV.setN, EV.setT, ev0, g1, g1', g2, g3, g4, g5, g6, bytesOf_strNums]
 · simp only [Int.reduceEq, if_true, if_false, Bool.and_eq_true, decide_eq_true_eq] at h
   obtain ⟨⟨⟨h1, h2⟩, rfl, rfl, rfl, rfl, rfl⟩, h4⟩ := h
   obtain rfl := emptyB_eq hh h4
   have g1 := fun rest => inNum_put i 2 rest b h1
   have g2 := fun rest => inBytes_str s rest b h2
   simp only [hasN, List.flatMap_cons, List.flatMap_nil, partE, s4, s8, s10, EV.num, EV.txt, if_true, Bool.false_eq_true, if_false, List.append_assoc, List.nil_append, Int.reduceToNat, Int.reduceEq, Nat.reduceEqDiff, List.foldl_cons, List.foldl_nil, stepIn, EV.setN, EV.setT, ev0, g1, g2, bytesOf_strNums]
 · simp only [Int.reduceEq, if_true, if_false, Bool.and_eq_true, decide_eq_true_eq] at h
   obtain ⟨⟨h1, rfl, rfl, rfl, rfl, rfl⟩, h3, h4⟩ := h
   obtain rfl := emptyB_eq hh h3
   obtain rfl := emptyB_eq s h4
   have g1 := fun rest => inNum_put i 2 rest b h1
   simp only [hasN, List.flatMap_cons, List.flatMap_nil, partE, s4, EV.num, if_true, Bool.false_eq_true, if_false, List.append_assoc, List.nil_append, Int.reduceToNat, Int.reduceEq, List.foldl_cons, List.foldl_nil, stepIn, EV.setN, ev0, g1]
end Go.Proofs.YtkaciaehlibidaaGreat
