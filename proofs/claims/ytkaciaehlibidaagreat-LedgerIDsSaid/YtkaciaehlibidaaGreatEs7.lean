/- Package escrow: what stays of a book; where it lies. -/
import Derived.Test.YtkaciaehlibidaaGreatEs6
import Derived.Test.YtkaciaehlibidaaGreatLgG
namespace Go.Proofs.YtkaciaehlibidaaGreat
open Go.RowKit
set_option linter.unusedVariables false
set_option linter.unusedSimpArgs false

theorem lockedX_cons (x : XR) (l : List XR) (j : Int) : lockedX (x :: l) j = lockedX [x] j + lockedX l j := lockedX_app [x] l j
theorem lockedX_one (x : XR) (j : Int) : lockedX [x] j = if x.s = 0 ∧ x.a = j then x.n else 0 := by
  unfold lockedX
  by_cases hs : x.s = 0 ∧ x.a = j
  · rw [if_pos hs]; simp [hs.1, hs.2]
  · rw [if_neg hs]
    have : (x.s == 0 && x.a == j) = false := by
      rw [Bool.eq_false_iff]
      intro h
      rw [Bool.and_eq_true, beq_iff_eq, beq_iff_eq] at h
      exact hs h
    simp [this]
theorem lockedX_set (st : Int) (sec : ByteArray) (hst : st ≠ 0) (j : Int) : ∀ (l : List XR) (k : Nat) (h : k < l.length), l[k].s = 0 → lockedX (l.set k (l[k].close st sec)) j = lockedX l j - (if l[k].a = j then l[k].n else 0)
  | [], k, h => by simp at h
  | x :: l, 0, _ => fun hs => by
    simp only [List.getElem_cons_zero] at hs
    simp only [List.set_cons_zero, List.getElem_cons_zero]
    rw [lockedX_cons, lockedX_cons x l, lockedX_one, lockedX_one, if_neg (fun h => hst h.1)]
    by_cases ha : x.a = j
    · rw [if_pos ⟨hs, ha⟩, if_pos ha]; omega
    · rw [if_neg (fun h => ha h.2), if_neg ha]; omega
  | x :: l, k + 1, h => fun hs => by
    have ih := lockedX_set st sec hst j l k (by simpa using h) (by simpa using hs)
    simp only [List.set_cons_succ, List.getElem_cons_succ]
    rw [lockedX_cons, lockedX_cons x l, ih]
    omega
theorem openX_cons (x : XR) (l : List XR) : openX (x :: l) = (if x.s = 0 then 1 else 0) + openX l := by
  unfold openX
  by_cases hs : x.s = 0
  · rw [if_pos hs]; simp [hs]; omega
  · rw [if_neg hs]; simp [hs]
theorem openX_set (st : Int) (sec : ByteArray) (hst : st ≠ 0) : ∀ (l : List XR) (k : Nat) (h : k < l.length), l[k].s = 0 → openX (l.set k (l[k].close st sec)) + 1 = openX l
  | [], k, h => by simp at h
  | x :: l, 0, _ => fun hs => by
    simp only [List.getElem_cons_zero] at hs
    simp only [List.set_cons_zero, List.getElem_cons_zero]
    rw [openX_cons, openX_cons x l, if_pos hs, if_neg (show ¬ (x.close st sec).s = 0 from hst)]
    omega
  | x :: l, k + 1, h => fun hs => by
    have ih := openX_set st sec hst l k (by simpa using h) (by simpa using hs)
    simp only [List.set_cons_succ, List.getElem_cons_succ]
    rw [openX_cons, openX_cons x l]
    omega
section
variable {n m : Nat} {b : Nat → Nat → Int} {l : List XR} {T : Nat → Int}
theorem lockE_zero {fr tt a amt d ck : Int} {s : ByteArray} (h : lockE n m b fr tt a amt s d ck = 0) : mayL n m fr tt a amt d ck = true ∧ s.size = 32 ∧ fr ≠ tt ∧ ck < d ∧ takeE n m b fr a amt = 0 := by
  unfold lockE at h
  split at h
  · rename_i h1
    split at h
    · rename_i h2
      split at h
      · simp at h
      · rename_i h3
        split at h
        · simp at h
        · exact ⟨h1, h2, h3, by omega, h⟩
    · simp at h
  · simp at h
theorem claimE_zero {who id ck : Int} {sec : ByteArray} (h : claimE n m b l who id sec ck = 0) : idB l id = true ∧ who = (atX l id).t ∧ (atX l id).s = 0 ∧ (tickB ck = true ∧ ck < (atX l id).d) ∧ sec.size = 32 ∧ shaS sec = (atX l id).h ∧ giveE n m b (atX l id).t (atX l id).a (atX l id).n = 0 := by
  unfold claimE at h
  split at h
  · rename_i h1
    split at h
    · rename_i h2
      split at h
      · rename_i h3
        split at h
        · rename_i h4
          split at h
          · rename_i h5
            split at h
            · rename_i h6
              exact ⟨h1, h2, h3, h4, h5, h6, h⟩
            · simp at h
          · simp at h
        · simp at h
      · simp at h
    · simp at h
  · simp at h
theorem refundE_zero {who id ck : Int} (h : refundE n m b l who id ck = 0) : idB l id = true ∧ who = (atX l id).f ∧ (atX l id).s = 0 ∧ (tickB ck = true ∧ (atX l id).d ≤ ck) ∧ giveE n m b (atX l id).f (atX l id).a (atX l id).n = 0 := by
  unfold refundE at h
  split at h
  · rename_i h1
    split at h
    · rename_i h2
      split at h
      · rename_i h3
        split at h
        · rename_i h4
          exact ⟨h1, h2, h3, h4, h⟩
        · simp at h
      · simp at h
    · simp at h
  · simp at h
theorem giveE_zero {a j x : Int} (h : giveE n m b a j x = 0) : giveOK n m b a j x = true := by
  unfold giveE at h
  split at h
  · assumption
  · simp at h
theorem BInv.lock (h : BInv n m b l T) (hl : l.length < 100000) (fr tt a amt : Int) (s : ByteArray) (d ck : Int) : BInv n m (lockB n m b fr tt a amt s d ck) (lockL n m b l fr tt a amt s d ck) T := by
  unfold lockB lockL
  by_cases e : lockE n m b fr tt a amt s d ck = 0
  · rw [if_pos e, if_pos e]
    obtain ⟨h1, h2, h3, h4, h5⟩ := lockE_zero e
    unfold mayL at h1
    simp only [Bool.and_eq_true, decide_eq_true_eq, amt_iff] at h1
    obtain ⟨⟨f0, f1⟩, ⟨t0, t1⟩, ⟨a0, a1⟩, ⟨m0, m1⟩, _⟩ := h1
    have ho := take_ok h5
    refine ⟨h.good.take fr a amt, fun x hx => ?_, fun j hj => ?_, h.max, by rw [List.length_append, List.length_singleton]; omega⟩
    · rcases List.mem_append.1 hx with hx | hx
      · exact h.esc x hx
      · rw [List.mem_singleton] at hx
        rw [hx]
        exact ⟨⟨f0, f1⟩, ⟨t0, t1⟩, ⟨a0, a1⟩, m0, m1⟩
    · rw [lockedX_app, lockedX_one]
      have hs := h.sum j hj
      unfold takeN
      rw [if_pos h5]
      by_cases ha : a = (j : Int)
      · rw [if_pos ⟨rfl, ha⟩]
        obtain rfl : j = a.toNat := by omega
        rw [tot_upd (by omega)]
        show _ + (_ + amt) = _
        omega
      · rw [if_neg (fun hh => ha hh.2), tot_upd_far (Or.inr (by omega))]
        omega
  · rw [if_neg e, if_neg e]; exact h
/-- An open escrow's amount is among what is locked. -/
theorem BInv.has (h : BInv n m b l T) {k : Nat} (hk : k < l.length) (hs : l[k].s = 0) : l[k].n ≤ lockedX l l[k].a := by
  have h1 := lockedX_set 1 ⟨#[]⟩ (by omega) l[k].a l k hk hs
  rw [if_pos rfl] at h1
  have h2 := lockedX_nonneg (l.set k (l[k].close 1 ⟨#[]⟩)) (fun x hx => by
    rcases List.mem_or_eq_of_mem_set hx with hx | hx
    · exact (h.esc x hx).2.2.2.1
    · rw [hx]; exact (h.esc l[k] (List.getElem_mem hk)).2.2.2.1) l[k].a
  omega
theorem BInv.gives (h : BInv n m b l T) {k : Nat} (hk : k < l.length) (hs : l[k].s = 0) (p : Int) (h0 : 0 ≤ p) (h1 : p < n) : giveE n m b p l[k].a l[k].n = 0 := by
  obtain ⟨_, _, ⟨a0, a1⟩, n0, n1⟩ := h.esc l[k] (List.getElem_mem hk)
  have h2 := h.has hk hs
  obtain ⟨h3, h4, _⟩ := h.bound l[k].a
  unfold allX at h4
  unfold giveE
  rw [if_pos]
  unfold giveOK
  rw [Bool.and_eq_true, hasB_iff]
  refine ⟨⟨h0, h1, a0, a1⟩, ?_⟩
  unfold addOK bothB
  simp only [Bool.and_eq_true, amt_iff]
  omega
theorem BInv.closes (h : BInv n m b l T) {k : Nat} (hk : k < l.length) (hs : l[k].s = 0) {p st : Int} (hst : st ≠ 0) (sec : ByteArray) (hg : giveE n m b p l[k].a l[k].n = 0) : BInv n m (giveN n m b p l[k].a l[k].n) (l.set k (l[k].close st sec)) T := by
  have hok := giveE_zero hg
  obtain ⟨g1, g2, g3, g4, g5, g6⟩ := give_ok hok
  refine ⟨h.good.give _ _ _, fun x hx => ?_, fun j hj => ?_, h.max, by rw [List.length_set]; exact h.few⟩
  · rcases List.mem_or_eq_of_mem_set hx with hx | hx
    · exact h.esc x hx
    · rw [hx]; exact h.esc l[k] (List.getElem_mem hk)
  · rw [lockedX_set st sec hst _ l k hk hs]
    have hj2 := h.sum j hj
    unfold giveN
    rw [if_pos hok]
    by_cases ha : l[k].a = (j : Int)
    · rw [if_pos ha]
      have e : l[k].a.toNat = j := by omega
      rw [e, tot_upd (by omega)]
      omega
    · rw [if_neg ha, tot_upd_far (Or.inr (by omega))]
      omega
theorem BInv.claim (h : BInv n m b l T) (who id : Int) (sec : ByteArray) (ck : Int) : BInv n m (claimB n m b l who id sec ck) (claimL n m b l who id sec ck) T := by
  unfold claimB claimL
  by_cases e : claimE n m b l who id sec ck = 0
  · rw [if_pos e, if_pos e]
    obtain ⟨h1, _, h3, _, _, _, h7⟩ := claimE_zero e
    obtain ⟨k, rfl, hk⟩ := idB_at h1
    rw [atX_at hk] at h3 h7 ⊢
    rw [Int.toNat_natCast]
    exact h.closes hk h3 (by omega) sec h7
  · rw [if_neg e, if_neg e]; exact h
theorem BInv.refund (h : BInv n m b l T) (who id ck : Int) : BInv n m (refundB n m b l who id ck) (refundL n m b l who id ck) T := by
  unfold refundB refundL
  by_cases e : refundE n m b l who id ck = 0
  · rw [if_pos e, if_pos e]
    obtain ⟨h1, _, h3, _, h7⟩ := refundE_zero e
    obtain ⟨k, rfl, hk⟩ := idB_at h1
    rw [atX_at hk] at h3 h7 ⊢
    rw [Int.toNat_natCast]
    exact h.closes hk h3 (by omega) _ h7
  · rw [if_neg e, if_neg e]; exact h
end

/-- A book's blocks, its table with them, all new since W. -/
def EB (S : Nat → Prop) (W w : World) (n m : Nat) (b : Nat → Nat → Int) (l : List XR) (T : Nat → Int) (B tb q : Nat) : Prop :=
  ∃ Sp v, BK w Sp B tb q n m b l v ∧ ¬ Sp tb ∧ TabOk w tb ∧ BInv n m b l T ∧ Below W.heap.size W w ∧ (∀ i, S i ↔ (fpK Sp B v i ∨ i = tb)) ∧ ∀ i, S i → W.heap.size ≤ i
section
variable {S S' : Nat → Prop} {W w w' : World} {n m : Nat} {b b' : Nat → Nat → Int} {l l' : List XR} {T : Nat → Int} {B tb q : Nat}
theorem EB.bel (h : EB S W w n m b l T B tb q) : Below W.heap.size W w := by obtain ⟨_, _, _, _, _, _, h, _⟩ := h; exact h
theorem EB.inv (h : EB S W w n m b l T B tb q) : BInv n m b l T := by obtain ⟨_, _, _, _, _, h, _⟩ := h; exact h
theorem EB.new (h : EB S W w n m b l T B tb q) : ∀ i, S i → W.heap.size ≤ i := by obtain ⟨_, _, _, _, _, _, _, _, h⟩ := h; exact h
theorem EB.lt (h : EB S W w n m b l T B tb q) : ∀ i, S i → i < w.heap.size := by
  obtain ⟨Sp, v, h1, _, h3, _, _, h6, _⟩ := h
  intro i hi
  rcases (h6 i).1 hi with h | rfl
  · exact h1.lt i h
  · exact h3.lt
/-- What turns others. -/
theorem EB.keep {S2 : Nat → Prop} (h : EB S W w n m b l T B tb q) (hk : Keeps S2 w w') (hs : ∀ i, S2 i → ¬ S i) (hn : ∀ i, S2 i → W.heap.size ≤ i) : EB S W w' n m b l T B tb q := by
  obtain ⟨Sp, v, h1, h2, h3, h4, h5, h6, h7⟩ := h
  exact ⟨Sp, v, h1.keep hk (fun i hi h => hs i h ((h6 i).2 (Or.inl hi))), h2, tab_keep h3 hk (fun h => hs tb h ((h6 tb).2 (Or.inr rfl))), h4, below_fp h5 hk hn, h6, h7⟩
theorem EB.below (h : EB S W w n m b l T B tb q) (hb : Below w.heap.size w w') : EB S W w' n m b l T B tb q := h.keep (Keeps.of_below (S := fun _ => False) hb) (fun _ h => h.elim) (fun _ h => h.elim)
/-- What an operation leaves. -/
def EPost (S : Nat → Prop) (W w : World) (n m : Nat) (b : Nat → Nat → Int) (l : List XR) (T : Nat → Int) (B tb q : Nat) (w' : World) : Prop :=
  ∃ S', EB S' W w' n m b l T B tb q ∧ Keeps S w w' ∧ ∀ i, S' i → S i ∨ w.heap.size ≤ i
theorem EB.tpost {Sp : Nat → Prop} {v : Value} (h1 : BK w Sp B tb q n m b l v) (h2 : ¬ Sp tb) (h5 : Below W.heap.size W w) (h6 : ∀ i, S i ↔ (fpK Sp B v i ∨ i = tb)) (h7 : ∀ i, S i → W.heap.size ≤ i) (hI : BInv n m b' l' T) (hp : TPost w Sp B tb q n m v b' l' w') : EPost S W w n m b' l' T B tb q w' := by
  obtain ⟨t, v', k1, k2, k3⟩ := hp
  have hk : Keeps S w w' := k2.mono (fun i _ hi => (h6 i).2 hi)
  have hn : ∀ i, (fpK Sp B v' i ∨ i = tb) → S i ∨ w.heap.size ≤ i := by
    rintro i ((rfl | hi | hi) | rfl)
    · exact Or.inl ((h6 i).2 (Or.inl (Or.inl rfl)))
    · rcases k3 i hi with h | h
      · exact Or.inl ((h6 i).2 (Or.inl (Or.inr (Or.inl h))))
      · exact Or.inr h
    · exact Or.inl ((h6 i).2 (Or.inl (Or.inr (Or.inr hi))))
    · exact Or.inl ((h6 i).2 (Or.inr rfl))
  refine ⟨fun i => fpK Sp B v' i ∨ i = tb, ⟨Sp, v', k1, h2, t, hI, below_fp h5 hk h7, fun i => Iff.rfl, fun i hi => ?_⟩, hk, hn⟩
  rcases hn i hi with h | h
  · exact h7 i h
  · exact Nat.le_trans h5.size h
theorem EB.lock (h : EB S W w n m b l T B tb q) (hl : l.length < 100000) (fr tt a amt : Int) (s : ByteArray) (d ck : Int) :
    Calls Tryz.prog 63 #[.pointer (some ⟨B, 0, none⟩), .int .i64 fr, .int .i64 tt, .int .i64 a, .int .i64 amt, .string s, .int .i64 d, .int .i64 ck] w fun e w' =>
      e = .returned (.tuple #[.int .i64 (lockI n m b l fr tt a amt s d ck), .int .i64 (lockE n m b fr tt a amt s d ck)]) ∧ EPost S W w n m (lockB n m b fr tt a amt s d ck) (lockL n m b l fr tt a amt s d ck) T B tb q w' := by
  obtain ⟨Sp, v, h1, h2, h3, h4, h5, h6, h7⟩ := h
  refine (book_lock h1 h4 fr tt a amt s d ck).mono ?_
  rintro e w' ⟨rfl, v', k1, k2, k3⟩
  exact ⟨rfl, EB.tpost h1 h2 h5 h6 h7 (h4.lock hl fr tt a amt s d ck) ⟨tab_keep h3 k2 (h1.tabN h3 h2), v', k1, k2.mono (fun i _ hi => Or.inl hi), k3⟩⟩
theorem EB.claim (h : EB S W w n m b l T B tb q) (who id : Int) (sec : ByteArray) (ck : Int) :
    Calls Tryz.prog 64 #[.pointer (some ⟨B, 0, none⟩), .int .i64 who, .int .i64 id, .string sec, .int .i64 ck] w fun e w' =>
      e = .returned (.int .i64 (claimE n m b l who id sec ck)) ∧ EPost S W w n m (claimB n m b l who id sec ck) (claimL n m b l who id sec ck) T B tb q w' := by
  obtain ⟨Sp, v, h1, h2, h3, h4, h5, h6, h7⟩ := h
  refine (book_claim h1 h4 h3 h2 who id sec ck).mono ?_
  rintro e w' ⟨rfl, hp⟩
  exact ⟨rfl, EB.tpost h1 h2 h5 h6 h7 (h4.claim who id sec ck) hp⟩
theorem EB.refund (h : EB S W w n m b l T B tb q) (who id ck : Int) :
    Calls Tryz.prog 65 #[.pointer (some ⟨B, 0, none⟩), .int .i64 who, .int .i64 id, .int .i64 ck] w fun e w' =>
      e = .returned (.int .i64 (refundE n m b l who id ck)) ∧ EPost S W w n m (refundB n m b l who id ck) (refundL n m b l who id ck) T B tb q w' := by
  obtain ⟨Sp, v, h1, h2, h3, h4, h5, h6, h7⟩ := h
  refine (book_refund h1 h4 h3 h2 who id ck).mono ?_
  rintro e w' ⟨rfl, hp⟩
  exact ⟨rfl, EB.tpost h1 h2 h5 h6 h7 (h4.refund who id ck) hp⟩
theorem EB.get (h : EB S W w n m b l T B tb q) (id : Int) : Calls Tryz.prog 33 #[.pointer (some ⟨B, 0, none⟩), .int .i64 id] w fun e w' => e = .returned (.tuple #[.agg (getX l id).cells, .bool (idB l id)]) ∧ Below w.heap.size w w' := by
  obtain ⟨Sp, v, h1, _⟩ := h; exact book_get h1 id
theorem EB.purse (h : EB S W w n m b l T B tb q) : Calls Tryz.prog 58 #[.pointer (some ⟨B, 0, none⟩)] w fun e w' => e = .returned (.pointer (some ⟨q, 0, none⟩)) ∧ w = w' := by
  obtain ⟨Sp, v, h1, _⟩ := h; exact book_purse h1
theorem EB.opens (h : EB S W w n m b l T B tb q) : Calls Tryz.prog 97 #[.pointer (some ⟨B, 0, none⟩)] w fun e w' => e = .returned (.int .i64 (openX l : Int)) ∧ Below w.heap.size w w' := by
  obtain ⟨Sp, v, h1, _, _, h4, _⟩ := h; exact book_open h1 h4.few
theorem EB.total (h : EB S W w n m b l T B tb q) (j : Int) : Calls Tryz.prog 34 #[.pointer (some ⟨B, 0, none⟩), .int .i64 j] w fun e w' => e = .returned (.int .i64 (allX n m b l j)) ∧ Below w.heap.size w w' := by
  obtain ⟨Sp, v, h1, _, _, h4, _⟩ := h; exact book_total h1 h4 j
theorem EB.has (h : EB S W w n m b l T B tb q) (a j : Int) : Calls Tryz.prog 104 #[.pointer (some ⟨q, 0, none⟩), .int .i64 a, .int .i64 j] w fun e w' => e = .returned (.int .i64 (getB n m b a j)) ∧ w = w' := by
  obtain ⟨Sp, v, h1, _⟩ := h; exact pur_has q n m Sp b w h1.pu a j
end

end Go.Proofs.YtkaciaehlibidaaGreat
