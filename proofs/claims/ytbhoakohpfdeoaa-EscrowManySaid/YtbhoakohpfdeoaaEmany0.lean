/- EscrowMany: plain facts. -/
import Derived.Test.YtbhoakohpfdeoaaEs9
import Derived.Test.YtbhoakohpfdeoaaArgi
namespace Go.Proofs.Ytbhoakohpfdeoaa
open Go.ChangeShapes Go.WideShapes Go.ChangeAt Go.RowKit Go.Deep
set_option linter.unusedVariables false
set_option linter.unusedSimpArgs false

/-- A slice of Bools. -/
def BoolsAt (w : World) (ao : Option Addr) (cs : List Bool) : Prop := cs = [] ∨ ∃ b off, ao = some ⟨b, off, none⟩ ∧ ∀ i (h : i < cs.length), w.cell? ⟨b, off + i, none⟩ = some (.bool cs[i])
theorem BoolsAt.below {w w' : World} {ao : Option Addr} {cs : List Bool} (h : BoolsAt w ao cs) (hb : Below w.heap.size w w') : BoolsAt w' ao cs := by
  rcases h with h | ⟨b, off, h1, h2⟩
  · exact Or.inl h
  · exact Or.inr ⟨b, off, h1, fun i hi => by
      have c := h2 i hi
      rw [hb.cell (World.block_lt_of_cell? w _ c)]; exact c⟩
theorem bools_of {H : Type} {enc : TypeId × Value → H} {W : World} {ao : Option Addr} {len cap : Nat} {d : DataW H} {p : List MemPlace}
    (h : DataW.Trod enc Try.prog W 0 (fun _ => true) true 70 (.slice ao len cap) d p) :
    ∃ bs : List Bool, len = bs.length ∧ BoolsAt W ao bs ∧ len ≤ cap ∧ cap ≤ maxLen := by
  obtain ⟨fuel, hf⟩ := h
  rcases open_slice1 Try.underlying70 (by kernel_rfl) hf with ⟨hcs, _⟩ | ⟨a, l, c, m, n, V, D, Pl, hcs, _, hl, hm, hmm, _, hx⟩
  · simp [Value.cells] at hcs
    obtain ⟨rfl, rfl, rfl⟩ := hcs
    exact ⟨[], rfl, Or.inl rfl, Nat.le_refl _, Nat.zero_le _⟩
  · simp [Value.cells] at hcs
    obtain ⟨rfl, rfl, rfl⟩ := hcs
    have hmc : m = cap := by simpa using hmm
    obtain ⟨X, hX⟩ := choose_lt (α := Bool) (n := len) (p := fun i b => V i = .bool b) (fun i hi => by
      obtain ⟨y, e, _⟩ := DataW.trod_bool Try.underlying4 (hx i (by omega)).2
      simp only [List.cons.injEq, and_true] at e
      exact ⟨y, e⟩)
    refine ⟨(List.range len).map X, by simp, ?_, hl, hm⟩
    by_cases h0 : len = 0
    · exact Or.inl (by simp [h0])
    · have hc0 := (hx 0 (by omega)).1
      obtain ⟨b, off, spot⟩ := a
      have hspot : spot = none := by simpa [Addr.add] using World.cell?_spot hc0
      subst hspot
      refine Or.inr ⟨b, off, rfl, fun i hi => ?_⟩
      simp at hi
      have h1 := (hx i (by omega)).1
      rw [addr_add] at h1
      rw [h1, hX i (by omega)]
      simp

/-! ### What is open, by its sender. -/
def swpX (x : XR) : XR := ⟨x.f, x.t, x.f, x.n, x.d, x.s, x.h, x.x⟩
def pend (l : List XR) (p : Int) : Int := lockedX (l.map swpX) p
theorem pend_app (l : List XR) (x : XR) (p : Int) : pend (l ++ [x]) p = pend l p + (if x.s = 0 ∧ x.f = p then x.n else 0) := by
  unfold pend
  rw [List.map_append, lockedX_app, List.map_singleton, lockedX_one]; rfl
theorem pend_set (st : Int) (sec : ByteArray) (hst : st ≠ 0) (l : List XR) (k : Nat) (h : k < l.length) (hs : l[k].s = 0) (p : Int) :
    pend (l.set k (l[k].close st sec)) p = pend l p - (if l[k].f = p then l[k].n else 0) := by
  unfold pend
  have h1 := lockedX_set st sec hst p (l.map swpX) k (by simpa using h) (by rw [List.getElem_map]; exact hs)
  rw [List.getElem_map] at h1
  rw [List.map_set]
  exact h1
theorem pend_none (l : List XR) (h : ∀ k (hk : k < l.length), l[k].s ≠ 0) (p : Int) : pend l p = 0 := by
  unfold pend lockedX
  have : (l.map swpX).filter (fun x => x.s == 0 && x.a == p) = [] := by
    rw [List.filter_eq_nil_iff]
    intro x hx
    rw [List.mem_map] at hx
    obtain ⟨y, hy, rfl⟩ := hx
    obtain ⟨k, hk, rfl⟩ := List.mem_iff_getElem.1 hy
    have h1 := h k hk
    have h2 : ((swpX l[k]).s == 0) = false := by
      rw [beq_eq_false_iff_ne]; exact h1
    simp [h2]
  rw [this]; rfl

/-- The many escrows of one hash, of amounts xs: n of them, the first i of them closed; what each party has in the end. -/
structure MInv (xs : List Int) (h : ByteArray) (n i : Nat) (b : Nat → Nat → Int) (l : List XR) (want : Nat → Int) : Prop where
  len : l.length = n
  esc : ∀ k (hk : k < l.length), l[k].f = ((k % 3 : Nat) : Int) ∧ l[k].t = (((k + 1) % 3 : Nat) : Int) ∧ l[k].a = 0 ∧ l[k].n = xs.getD k 0 ∧ l[k].d = 10 + (k : Int) ∧ l[k].h = h
  st : ∀ k (hk : k < l.length), (l[k].s = 0 ↔ i ≤ k)
  opens : openX l + i = n
  want : ∀ p : Nat, p < 3 → want p = b p 0 + pend l (p : Int)
  small : ∀ p : Nat, p < 3 → pend l (p : Int) ≤ 1000 * (n : Int)

section
variable {xs : List Int} {h : ByteArray} {n i : Nat} {b : Nat → Nat → Int} {l : List XR} {want : Nat → Int} {T : Nat → Int}
theorem MInv.start (hw : ∀ p, p < 3 → want p = b p 0) : MInv xs h 0 0 b [] want :=
  ⟨rfl, fun k hk => by simp at hk, fun k hk => by simp at hk, rfl, fun p hp => by rw [hw p hp]; show _ = _ + 0; omega, fun p hp => by show (0 : Int) ≤ _; omega⟩
theorem MInv.lock (hI : MInv xs h n 0 b l want) (hn : n < 60) (hw : ∀ p, p < 3 → want p = 100000) (h1 : 1 ≤ xs.getD n 0) (h2 : xs.getD n 0 ≤ 1000) (hs : h.size = 32) :
    lockE 3 1 b ((n % 3 : Nat) : Int) (((n + 1) % 3 : Nat) : Int) 0 (xs.getD n 0) h (10 + (n : Int)) 1 = 0 ∧ lockI 3 1 b l ((n % 3 : Nat) : Int) (((n + 1) % 3 : Nat) : Int) 0 (xs.getD n 0) h (10 + (n : Int)) 1 = n ∧
    MInv xs h (n + 1) 0 (lockB 3 1 b ((n % 3 : Nat) : Int) (((n + 1) % 3 : Nat) : Int) 0 (xs.getD n 0) h (10 + (n : Int)) 1) (lockL 3 1 b l ((n % 3 : Nat) : Int) (((n + 1) % 3 : Nat) : Int) 0 (xs.getD n 0) h (10 + (n : Int)) 1) want := by
  generalize hx : xs.getD n 0 = x at *
  obtain ⟨p, hp⟩ : ∃ p, p = n % 3 := ⟨_, rfl⟩
  obtain ⟨q, hq⟩ : ∃ q, q = (n + 1) % 3 := ⟨_, rfl⟩
  have hp3 : p < 3 := by omega
  have hq3 : q < 3 := by omega
  have hpq : p ≠ q := by omega
  rw [← hp, ← hq]
  have hb : x ≤ b p 0 := by
    have e1 := hI.want p hp3
    have e2 := hI.small p hp3
    rw [hw p hp3] at e1
    omega
  have hte : takeE 3 1 b (p : Int) 0 x = 0 := by
    unfold takeE
    rw [if_pos, if_neg]
    · rw [Int.toNat_natCast]
      show ¬ b p 0 < x
      omega
    · rw [Bool.and_eq_true, hasB_iff, amt_iff]
      refine ⟨⟨by omega, by omega, by omega, by omega⟩, by omega, ?_⟩
      unfold MA; omega
  have he : lockE 3 1 b (p : Int) (q : Int) 0 x h (10 + (n : Int)) 1 = 0 := by
    unfold lockE
    rw [if_pos, if_pos hs, if_neg (by omega), if_neg (by omega)]
    · exact hte
    · unfold mayL
      simp only [Bool.and_eq_true, decide_eq_true_eq, amt_iff, tick_iff, Bool.not_eq_true', beq_eq_false_iff_ne]
      refine ⟨⟨by omega, by omega⟩, ⟨by omega, by omega⟩, ⟨by omega, by omega⟩, ⟨by omega, by unfold MA; omega⟩, by omega, ⟨by omega, by unfold MT; omega⟩, by omega, by unfold MT; omega⟩
  refine ⟨he, by unfold lockI; rw [if_pos he, hI.len], ?_⟩
  have hB : lockB 3 1 b (p : Int) (q : Int) 0 x h (10 + (n : Int)) 1 = upd b p 0 (b p 0 - x) := by
    unfold lockB; rw [if_pos he]; unfold takeN; rw [if_pos hte, Int.toNat_natCast]; rfl
  have hL : lockL 3 1 b l (p : Int) (q : Int) 0 x h (10 + (n : Int)) 1 = l ++ [⟨p, q, 0, x, 10 + (n : Int), 0, h, ⟨#[]⟩⟩] := by
    unfold lockL; rw [if_pos he]
  rw [hB, hL]
  refine ⟨by rw [List.length_append, hI.len]; rfl, fun k hk => ?_, fun k hk => ?_, ?_, fun r hr => ?_, fun r hr => ?_⟩
  · rw [List.length_append, List.length_singleton] at hk
    by_cases hkn : k < l.length
    · rw [List.getElem_append_left hkn]; exact hI.esc k hkn
    · rw [List.getElem_append_right (by omega)]
      obtain rfl : k = n := by have := hI.len; omega
      simp only [List.getElem_singleton]
      rw [← hp, ← hq, ← hx]
      refine ⟨?_, ?_, ?_, ?_, ?_, ?_⟩ <;> first | rfl | trivial
  · rw [List.length_append, List.length_singleton] at hk
    by_cases hkn : k < l.length
    · rw [List.getElem_append_left hkn]; exact hI.st k hkn
    · rw [List.getElem_append_right (by omega)]
      simp only [List.getElem_singleton]
      exact ⟨fun _ => by omega, fun _ => trivial⟩
  · have := hI.opens
    have e : openX (l ++ [⟨p, q, 0, x, 10 + (n : Int), 0, h, ⟨#[]⟩⟩]) = openX l + 1 := by
      unfold openX; rw [List.filter_append, List.length_append]; rfl
    rw [e]; omega
  · rw [pend_app, hI.want r hr]
    by_cases e : r = p
    · subst e
      rw [upd_at, if_pos ⟨rfl, rfl⟩]
      show _ = _ + (_ + x)
      omega
    · rw [upd_row (Or.inl e), if_neg (fun hh => e (by have : (p : Int) = (r : Int) := hh.2; omega))]
      omega
  · rw [pend_app]
    have := hI.small r hr
    split
    · show _ + x ≤ _
      omega
    · omega

theorem MInv.at_ (hI : MInv xs h n i b l want) (hi : i < n) : idB l (i : Int) = true ∧ (atX l (i : Int)).f = ((i % 3 : Nat) : Int) ∧ (atX l (i : Int)).t = (((i + 1) % 3 : Nat) : Int) ∧ (atX l (i : Int)).a = 0 ∧ (atX l (i : Int)).n = xs.getD i 0 ∧ (atX l (i : Int)).d = 10 + (i : Int) ∧ (atX l (i : Int)).h = h ∧ (atX l (i : Int)).s = 0 := by
  have hl : i < l.length := by rw [hI.len]; exact hi
  obtain ⟨e1, e2, e3, e4, e5, e6⟩ := hI.esc i hl
  have es := (hI.st i hl).2 (Nat.le_refl _)
  rw [atX_at hl]
  exact ⟨by unfold idB; exact decide_eq_true ⟨by omega, by omega⟩, e1, e2, e3, e4, e5, e6, es⟩
/-- Closed. -/
theorem MInv.close (hI : MInv xs h n i b l want) (hi : i < n) (st : Int) (hst : st ≠ 0) (sec : ByteArray) (b' : Nat → Nat → Int) (want' : Nat → Int) (hp : 0 ≤ xs.getD i 0)
    (hw : ∀ p : Nat, p < 3 → want' p - b' p 0 = want p - b p 0 - (if ((i % 3 : Nat) : Int) = (p : Int) then xs.getD i 0 else 0)) : MInv xs h n (i + 1) b' (l.set i ((atX l (i : Int)).close st sec)) want' := by
  have hl : i < l.length := by rw [hI.len]; exact hi
  have es := (hI.st i hl).2 (Nat.le_refl _)
  rw [atX_at hl]
  have hpd := fun p : Nat => pend_set st sec hst l i hl es (p : Int)
  obtain ⟨e1, e2, e3, e4, e5, e6⟩ := hI.esc i hl
  refine ⟨by rw [List.length_set]; exact hI.len, fun k hk => ?_, fun k hk => ?_, ?_, fun p hp => ?_, fun p hp => ?_⟩
  · rw [List.length_set] at hk
    by_cases hki : i = k
    · subst hki; rw [List.getElem_set_self]; exact hI.esc i hl
    · rw [List.getElem_set_ne hki]; exact hI.esc k hk
  · rw [List.length_set] at hk
    by_cases hki : i = k
    · subst hki; rw [List.getElem_set_self]
      exact ⟨fun hh => absurd hh hst, fun hh => by omega⟩
    · rw [List.getElem_set_ne hki, hI.st k hk]
      omega
  · have := openX_set st sec hst l i hl es
    have := hI.opens
    omega
  · have h1 := hw p hp
    have h2 := hI.want p hp
    rw [hpd p, e1, e4]
    omega
  · have h1 := hI.small p hp
    rw [hpd p, e1, e4]
    split <;> omega

theorem MInv.claim (hB : BInv 3 1 b l T) (hI : MInv xs h n i b l want) (hi : i < n) (hn : n ≤ 60) (sec : ByteArray) (hsec : sec.size = 32) (hh : shaS sec = h) (hp : 1 ≤ xs.getD i 0) (want' : Nat → Int)
    (hw : ∀ p, p < 3 → want' p = want p - (if i % 3 = p then xs.getD i 0 else 0) + (if (i + 1) % 3 = p then xs.getD i 0 else 0)) :
    claimE 3 1 b l (((i + 1) % 3 : Nat) : Int) (i : Int) sec (9 + (i : Int)) = 0 ∧ MInv xs h n (i + 1) (claimB 3 1 b l (((i + 1) % 3 : Nat) : Int) (i : Int) sec (9 + (i : Int))) (claimL 3 1 b l (((i + 1) % 3 : Nat) : Int) (i : Int) sec (9 + (i : Int))) want' := by
  obtain ⟨a1, a2, a3, a4, a5, a6, a7, a8⟩ := hI.at_ hi
  have hl : i < l.length := by rw [hI.len]; exact hi
  have hg : giveE 3 1 b (atX l (i : Int)).t (atX l (i : Int)).a (atX l (i : Int)).n = 0 := by
    rw [atX_at hl] at a3 a8 ⊢
    exact hB.gives hl a8 _ (by omega) (by omega)
  have he : claimE 3 1 b l (((i + 1) % 3 : Nat) : Int) (i : Int) sec (9 + (i : Int)) = 0 := by
    unfold claimE
    rw [if_pos a1, if_pos a3.symm, if_pos a8, if_pos ⟨(tick_iff _).2 ⟨by omega, by unfold MT; omega⟩, by rw [a6]; omega⟩, if_pos hsec, if_pos (by rw [hh, a7])]
    exact hg
  refine ⟨he, ?_⟩
  unfold claimB claimL
  rw [if_pos he, if_pos he, Int.toNat_natCast]
  refine hI.close hi 1 (by omega) sec _ want' (by omega) (fun p hp => ?_)
  unfold giveN
  rw [if_pos (giveE_zero hg), a3, a4, a5, Int.toNat_natCast, hw p hp]
  show _ - upd b ((i + 1) % 3) 0 (b ((i + 1) % 3) 0 + xs.getD i 0) p 0 = _
  by_cases e : p = (i + 1) % 3
  · subst e
    rw [upd_at, if_pos rfl, if_neg (by omega), if_neg (by omega)]; omega
  · rw [upd_row (Or.inl e), if_neg (Ne.symm e)]
    by_cases e2 : i % 3 = p
    · rw [if_pos e2, if_pos (by omega)]; omega
    · rw [if_neg e2, if_neg (by omega)]; omega

theorem MInv.refund (hB : BInv 3 1 b l T) (hI : MInv xs h n i b l want) (hi : i < n) (hn : n ≤ 60) (hp : 1 ≤ xs.getD i 0) :
    refundE 3 1 b l ((i % 3 : Nat) : Int) (i : Int) (10 + (i : Int)) = 0 ∧ MInv xs h n (i + 1) (refundB 3 1 b l ((i % 3 : Nat) : Int) (i : Int) (10 + (i : Int))) (refundL 3 1 b l ((i % 3 : Nat) : Int) (i : Int) (10 + (i : Int))) want := by
  obtain ⟨a1, a2, a3, a4, a5, a6, a7, a8⟩ := hI.at_ hi
  have hl : i < l.length := by rw [hI.len]; exact hi
  have hg : giveE 3 1 b (atX l (i : Int)).f (atX l (i : Int)).a (atX l (i : Int)).n = 0 := by
    rw [atX_at hl] at a2 a8 ⊢
    exact hB.gives hl a8 _ (by omega) (by omega)
  have he : refundE 3 1 b l ((i % 3 : Nat) : Int) (i : Int) (10 + (i : Int)) = 0 := by
    unfold refundE
    rw [if_pos a1, if_pos a2.symm, if_pos a8, if_pos ⟨(tick_iff _).2 ⟨by omega, by unfold MT; omega⟩, by rw [a6]; omega⟩]
    exact hg
  refine ⟨he, ?_⟩
  unfold refundB refundL
  rw [if_pos he, if_pos he, Int.toNat_natCast]
  refine hI.close hi 2 (by omega) _ _ want (by omega) (fun p hp => ?_)
  unfold giveN
  rw [if_pos (giveE_zero hg), a2, a4, a5, Int.toNat_natCast]
  show _ - upd b (i % 3) 0 (b (i % 3) 0 + xs.getD i 0) p 0 = _
  by_cases e : p = i % 3
  · subst e
    rw [upd_at, if_pos rfl]; omega
  · rw [upd_row (Or.inl e), if_neg (by omega)]; omega

/-- Closed is closed. -/
theorem MInv.closed (hI : MInv xs h n (i + 1) b l want) (hi : i < n) (sec : ByteArray) (ck : Int) :
    (claimE 3 1 b l (((i + 1) % 3 : Nat) : Int) (i : Int) sec ck = 9 ∧ claimB 3 1 b l (((i + 1) % 3 : Nat) : Int) (i : Int) sec ck = b ∧ claimL 3 1 b l (((i + 1) % 3 : Nat) : Int) (i : Int) sec ck = l) ∧
    (refundE 3 1 b l ((i % 3 : Nat) : Int) (i : Int) ck = 9 ∧ refundB 3 1 b l ((i % 3 : Nat) : Int) (i : Int) ck = b ∧ refundL 3 1 b l ((i % 3 : Nat) : Int) (i : Int) ck = l) := by
  have hl : i < l.length := by rw [hI.len]; exact hi
  obtain ⟨e1, e2, e3, e4, e5, e6⟩ := hI.esc i hl
  have es : ¬ l[i].s = 0 := fun hh => by have := (hI.st i hl).1 hh; omega
  have hid : idB l (i : Int) = true := by unfold idB; exact decide_eq_true ⟨by omega, by omega⟩
  have he : claimE 3 1 b l (((i + 1) % 3 : Nat) : Int) (i : Int) sec ck = 9 := by
    unfold claimE
    rw [if_pos hid, atX_at hl, if_pos e2.symm, if_neg es]
  have hr : refundE 3 1 b l ((i % 3 : Nat) : Int) (i : Int) ck = 9 := by
    unfold refundE
    rw [if_pos hid, atX_at hl, if_pos e1.symm, if_neg es]
  refine ⟨⟨he, ?_, ?_⟩, hr, ?_, ?_⟩
  · unfold claimB; rw [he]; rfl
  · unfold claimL; rw [he]; rfl
  · unfold refundB; rw [hr]; rfl
  · unfold refundL; rw [hr]; rfl
theorem MInv.done (hI : MInv xs h n n b l want) (p : Nat) (hp : p < 3) : getB 3 1 b (p : Int) 0 = want p := by
  have h1 := hI.want p hp
  rw [pend_none l (fun k hk hs => by have h1 := (hI.st k hk).1 hs; have h2 := hI.len; omega)] at h1
  unfold getB
  rw [if_pos (hasB_iff.2 ⟨by omega, by omega, by omega, by omega⟩), Int.toNat_natCast]
  show b p 0 = _
  omega
end

/-! ### Three rows of one number. -/
def rows3 (h : Nat) (a b c : Int) : List ISl := [⟨some ⟨h, 0, none⟩, [a], 1⟩, ⟨some ⟨h + 1, 0, none⟩, [b], 1⟩, ⟨some ⟨h + 2, 0, none⟩, [c], 1⟩]
def world3 (w : World) (a b c : Int) : World := (((w.alloc (.cells #[.int .i64 a] 3)).alloc (.cells #[.int .i64 b] 3)).alloc (.cells #[.int .i64 c] 3)).alloc (.cells #[.slice (some ⟨w.heap.size, 0, none⟩) 1 1, .slice (some ⟨w.heap.size + 1, 0, none⟩) 1 1, .slice (some ⟨w.heap.size + 2, 0, none⟩) 1 1] 63)
theorem world3_below (w : World) (a b c : Int) : Below w.heap.size w (world3 w a b c) := ((((Below.refl _ _).alloc (Nat.le_refl _) _).alloc (by simp) _).alloc (by simp; omega) _).alloc (by simp; omega) _

theorem world3_rows (w : World) (a b c : Int) (ha : -9223372036854775808 ≤ a ∧ a ≤ 9223372036854775807) (hb : -9223372036854775808 ≤ b ∧ b ≤ 9223372036854775807) (hc : -9223372036854775808 ≤ c ∧ c ≤ 9223372036854775807) : IntsList (world3 w a b c) (some ⟨w.heap.size + 3, 0, none⟩) (rows3 w.heap.size a b c) := by
  have s1 : (w.alloc (.cells #[.int .i64 a] 3)).heap.size = w.heap.size + 1 := by simp
  have s2 : ((w.alloc (.cells #[.int .i64 a] 3)).alloc (.cells #[.int .i64 b] 3)).heap.size = w.heap.size + 2 := by simp
  have s3 : (((w.alloc (.cells #[.int .i64 a] 3)).alloc (.cells #[.int .i64 b] 3)).alloc (.cells #[.int .i64 c] 3)).heap.size = w.heap.size + 3 := by simp
  have e0 : (world3 w a b c).heap[w.heap.size]? = some (.cells #[.int .i64 a] 3 (0, 0)) := (Below.heap_alloc _ _ _ (by omega)).trans ((Below.heap_alloc _ _ _ (by omega)).trans ((Below.heap_alloc _ _ _ (by omega)).trans (heap_alloc_new w _)))
  have e1 : (world3 w a b c).heap[w.heap.size + 1]? = some (.cells #[.int .i64 b] 3 (0, 0)) := (Below.heap_alloc _ _ _ (by omega)).trans ((Below.heap_alloc _ _ _ (by omega)).trans (by rw [← s1]; exact heap_alloc_new _ _))
  have e2 : (world3 w a b c).heap[w.heap.size + 2]? = some (.cells #[.int .i64 c] 3 (0, 0)) := (Below.heap_alloc _ _ _ (by omega)).trans (by rw [← s2]; exact heap_alloc_new _ _)
  have e3 : (world3 w a b c).heap[w.heap.size + 3]? = some (.cells #[.slice (some ⟨w.heap.size, 0, none⟩) 1 1, .slice (some ⟨w.heap.size + 1, 0, none⟩) 1 1, .slice (some ⟨w.heap.size + 2, 0, none⟩) 1 1] 63 (0, 0)) := by rw [← s3]; exact heap_alloc_new _ _
  refine ⟨Or.inr ⟨_, _, rfl, fun i hi => ?_⟩, fun x hx => ?_⟩
  · rw [blk_cell e3]
    match i, hi with
    | 0, _ => rfl
    | 1, _ => rfl
    | 2, _ => rfl
  · simp only [rows3, List.mem_cons, List.not_mem_nil, or_false] at hx
    rcases hx with rfl | rfl | rfl
    · exact ⟨Or.inr ⟨_, _, rfl, fun i hi => by rw [blk_cell e0]; match i, hi with | 0, _ => rfl⟩, fun z hz => by simp at hz; subst hz; exact ha, Nat.le_refl _, by show 1 ≤ maxLen; decide⟩
    · exact ⟨Or.inr ⟨_, _, rfl, fun i hi => by rw [blk_cell e1]; match i, hi with | 0, _ => rfl⟩, fun z hz => by simp at hz; subst hz; exact hb, Nat.le_refl _, by show 1 ≤ maxLen; decide⟩
    · exact ⟨Or.inr ⟨_, _, rfl, fun i hi => by rw [blk_cell e2]; match i, hi with | 0, _ => rfl⟩, fun z hz => by simp at hz; subst hz; exact hc, Nat.le_refl _, by show 1 ≤ maxLen; decide⟩
/-- The three have so much. -/
def bM : Nat → Nat → Int := balOf (rows3 0 100000 100000 100000)
theorem bM_eq (h : Nat) : balOf (rows3 h 100000 100000 100000) = bM := by
  funext i j
  match i with
  | 0 => rfl
  | 1 => rfl
  | 2 => rfl
  | i + 3 => rfl
theorem bM_at (p : Nat) (hp : p < 3) : bM p 0 = 100000 := by
  match p, hp with
  | 0, _ => rfl
  | 1, _ => rfl
  | 2, _ => rfl
theorem bM_tot : tot bM 0 3 = 300000 := by kernel_rfl
theorem rows3_may (h : Nat) : mayF (rows3 h 100000 100000 100000) = true := by kernel_rfl
theorem made3 (w : World) : Calls Try.prog 26 #[.slice (some ⟨w.heap.size + 3, 0, none⟩) 3 3] (world3 w 100000 100000 100000) fun e w' => ∃ S B tb q, e = .returned (.pointer (some ⟨B, 0, none⟩)) ∧ EB S w w' 3 1 bM [] (fun j => tot bM j 3) B tb q := by
  have h := made_yes (some ⟨w.heap.size + 3, 0, none⟩) (rows3 w.heap.size 100000 100000 100000) 3 3 1 (world3 w 100000 100000 100000) rfl (world3_rows w _ _ _ (by decide) (by decide) (by decide)) (rows3_may _) rfl
  rw [bM_eq] at h
  refine h.mono ?_
  rintro e w' ⟨S, B, tb, q, he, hb⟩
  exact ⟨S, B, tb, q, he, hb.from_ (world3_below w _ _ _)⟩

/-- What each is to have, in a row of its own. -/
def WBox (S : Nat → Prop) (W w : World) (V : Nat) (want : Nat → Int) : Prop :=
  w.heap[V]? = some (.cells #[.int .i64 (want 0), .int .i64 (want 1), .int .i64 (want 2)] 3 (0, 0)) ∧ ¬ S V ∧ W.heap.size ≤ V
section
variable {S S' : Nat → Prop} {W w w' : World} {V : Nat} {want : Nat → Int}
theorem WBox.cell (h : WBox S W w V want) (p : Nat) (hp : p < 3) : w.cell? ⟨V, p, none⟩ = some (.int .i64 (want p)) ∧ w.frozen? ⟨V, p, none⟩ = false := by
  refine ⟨(blk_cell h.1 p).trans ?_, blk_frozen h.1 p⟩
  match p, hp with
  | 0, _ => rfl
  | 1, _ => rfl
  | 2, _ => rfl
theorem WBox.keep {S2 : Nat → Prop} (h : WBox S W w V want) (hk : Keeps S2 w w') (h2 : ¬ S2 V) : WBox S W w' V want :=
  ⟨(hk.block V (blk_lt h.1) h2).trans h.1, h.2⟩
theorem WBox.below (h : WBox S W w V want) (hb : Below w.heap.size w w') : WBox S W w' V want := h.keep (Keeps.of_below (S := fun _ => False) hb) (fun f => f)
theorem WBox.set (h : WBox S W w V want) (p : Nat) (hp : p < 3) (v : Int) : WBox S W (w.setCell ⟨V, p, none⟩ (.int .i64 v)) V (fun k => if k = p then v else want k) := by
  refine ⟨(blk_set h.1 p (.int .i64 v)).trans ?_, h.2⟩
  match p, hp with
  | 0, _ => rfl
  | 1, _ => rfl
  | 2, _ => rfl
/-- A store to the row leaves the book. -/
theorem EB.apart {n m : Nat} {b : Nat → Nat → Int} {l : List XR} {T : Nat → Int} {B tb q : Nat} (h : EB S W w n m b l T B tb q) (hV : WBox S W w V want) (p : Nat) (v : Value) : EB S W (w.setCell ⟨V, p, none⟩ v) n m b l T B tb q :=
  h.keep ((Keeps.refl (fun i => i = V) w).setCell (p := ⟨V, p, none⟩) (Or.inl rfl) _) (fun i e hs => hV.2.1 (e ▸ hs)) (fun i e => e ▸ hV.2.2)
theorem WBox.post {n m : Nat} {b : Nat → Nat → Int} {l : List XR} {T : Nat → Int} {B tb q : Nat} (h : WBox S W w V want) (hp : EPost S W w n m b l T B tb q w') : ∃ S', EB S' W w' n m b l T B tb q ∧ WBox S' W w' V want := by
  obtain ⟨S', h1, h2, h3⟩ := hp
  have h4 := h.keep h2 h.2.1
  refine ⟨S', h1, h4.1, fun hh => ?_, h4.2.2⟩
  rcases h3 V hh with e | e
  · exact h.2.1 e
  · have := blk_lt h.1; omega
end

end Go.Proofs.Ytbhoakohpfdeoaa
