/- Purses: what they hold, plainly; where they lie. -/
import Derived.Test.YtbhoakohpfdeoaaGreatSum
import Derived.Test.YtbhoakohpfdeoaaGreatArgi
namespace Go.Proofs.YtbhoakohpfdeoaaGreat
open Go.RowKit
set_option linter.unusedVariables false

def tot (b : Nat → Nat → Int) (j : Nat) : Nat → Int
  | 0 => 0
  | k + 1 => tot b j k + b k j
structure Good (n m : Nat) (b : Nat → Nat → Int) : Prop where
  n2 : 2 ≤ n
  n16 : n ≤ 16
  m1 : 1 ≤ m
  m4 : m ≤ 4
  pos : ∀ i, i < n → ∀ j, j < m → 0 ≤ b i j
  sum : ∀ j, j < m → tot b j n ≤ 4611686018427387904
def hasB (n m : Nat) (a j : Int) : Bool := decide (0 ≤ a ∧ a < n ∧ 0 ≤ j ∧ j < m)
def getB (n m : Nat) (b : Nat → Nat → Int) (a j : Int) : Int := if hasB n m a j = true then b a.toNat j.toNat else 0
def partB (m : Nat) (b : Nat → Nat → Int) (j : Int) (k : Nat) : Int := if 0 ≤ j ∧ j < m then tot b j.toNat k else 0
def totB (n m : Nat) (b : Nat → Nat → Int) (j : Int) : Int := partB m b j n
def upd (b : Nat → Nat → Int) (a j : Nat) (v : Int) : Nat → Nat → Int := fun i k => if i = a ∧ k = j then v else b i k
def giveOK (n m : Nat) (b : Nat → Nat → Int) (a j x : Int) : Bool := hasB n m a j && addOK (totB n m b j) x
def giveE (n m : Nat) (b : Nat → Nat → Int) (a j x : Int) : Int := if giveOK n m b a j x = true then 0 else 1
def giveN (n m : Nat) (b : Nat → Nat → Int) (a j x : Int) : Nat → Nat → Int := if giveOK n m b a j x = true then upd b a.toNat j.toNat (b a.toNat j.toNat + x) else b
def takeE (n m : Nat) (b : Nat → Nat → Int) (a j x : Int) : Int := if (hasB n m a j && amtB x) = true then (if b a.toNat j.toNat < x then 7 else 0) else 1
def takeN (n m : Nat) (b : Nat → Nat → Int) (a j x : Int) : Nat → Nat → Int := if takeE n m b a j x = 0 then upd b a.toNat j.toNat (b a.toNat j.toNat - x) else b
def moveE (n m : Nat) (b : Nat → Nat → Int) (f t j x : Int) : Int := if (hasB n m f j && hasB n m t j && amtB x) = true then (if f = t then 14 else if b f.toNat j.toNat < x then 7 else 0) else 1
def moveN (n m : Nat) (b : Nat → Nat → Int) (f t j x : Int) : Nat → Nat → Int :=
  if moveE n m b f t j x = 0 then upd (upd b f.toNat j.toNat (b f.toNat j.toNat - x)) t.toNat j.toNat (b t.toNat j.toNat + x) else b

theorem tot_congr {b b' : Nat → Nat → Int} {j : Nat} : ∀ {n : Nat}, (∀ i, i < n → b i j = b' i j) → tot b j n = tot b' j n
  | 0, _ => rfl
  | n + 1, h => by rw [tot, tot, tot_congr (fun i hi => h i (by omega)), h n (by omega)]
theorem tot_nonneg {b : Nat → Nat → Int} {j : Nat} : ∀ {n : Nat}, (∀ i, i < n → 0 ≤ b i j) → 0 ≤ tot b j n
  | 0, _ => Int.le_refl _
  | n + 1, h => by have := tot_nonneg (n := n) (fun i hi => h i (by omega)); have := h n (by omega); rw [tot]; omega
theorem tot_mono {b : Nat → Nat → Int} {j : Nat} {n : Nat} (h : ∀ i, i < n → 0 ≤ b i j) : ∀ {k : Nat}, k ≤ n → tot b j k ≤ tot b j n := by
  induction n with
  | zero => intro k hk; obtain rfl : k = 0 := by omega
            exact Int.le_refl _
  | succ n ih =>
    intro k hk
    by_cases e : k = n + 1
    · subst e; exact Int.le_refl _
    · have := ih (fun i hi => h i (by omega)) (k := k) (by omega); have := h n (by omega); rw [tot]; omega
theorem tot_at {b : Nat → Nat → Int} {j : Nat} {n : Nat} (h : ∀ i, i < n → 0 ≤ b i j) {a : Nat} (ha : a < n) : b a j ≤ tot b j n := by
  have h1 := tot_mono h (k := a + 1) (by omega)
  have h2 := tot_nonneg (b := b) (j := j) (n := a) (fun i hi => h i (by omega))
  rw [tot] at h1; omega
theorem tot_upd_far {b : Nat → Nat → Int} {a j k : Nat} {v : Int} {n : Nat} (h : n ≤ a ∨ k ≠ j) : tot (upd b a j v) k n = tot b k n :=
  tot_congr (fun i hi => by unfold upd; rw [if_neg]; omega)
theorem tot_upd {b : Nat → Nat → Int} {a j : Nat} {v : Int} : ∀ {n : Nat}, a < n → tot (upd b a j v) j n = tot b j n - b a j + v
  | 0, h => by omega
  | n + 1, h => by
    by_cases e : a = n
    · subst e
      rw [tot, tot, tot_upd_far (Or.inl (Nat.le_refl _))]
      simp [upd]
    · rw [tot, tot, tot_upd (n := n) (by omega)]
      have : upd b a j v n j = b n j := by unfold upd; rw [if_neg]; omega
      rw [this]; omega
theorem hasB_iff {n m : Nat} {a j : Int} : hasB n m a j = true ↔ 0 ≤ a ∧ a < n ∧ 0 ≤ j ∧ j < m := by simp [hasB]
theorem upd_at (b : Nat → Nat → Int) (a j : Nat) (v : Int) : upd b a j v a j = v := by simp [upd]
theorem upd_row {b : Nat → Nat → Int} {a j i k : Nat} {v : Int} (h : i ≠ a ∨ k ≠ j) : upd b a j v i k = b i k := by unfold upd; rw [if_neg]; omega

theorem Good.upd {n m : Nat} {b : Nat → Nat → Int} (h : Good n m b) {a j : Nat} {v : Int} (ha : a < n) (hj : j < m) (hv : 0 ≤ v) (hs : tot b j n - b a j + v ≤ 4611686018427387904) : Good n m (upd b a j v) := by
  refine ⟨h.n2, h.n16, h.m1, h.m4, fun i hi k hk => ?_, fun k hk => ?_⟩
  · unfold Proofs.YtbhoakohpfdeoaaGreat.upd; split
    · exact hv
    · exact h.pos i hi k hk
  · by_cases e : k = j
    · subst e; rw [tot_upd ha]; exact hs
    · rw [tot_upd_far (Or.inr e)]; exact h.sum k hk
theorem Good.cell {n m : Nat} {b : Nat → Nat → Int} (h : Good n m b) {a j : Nat} (ha : a < n) (hj : j < m) : 0 ≤ b a j ∧ b a j ≤ tot b j n ∧ tot b j n ≤ 4611686018427387904 :=
  ⟨h.pos a ha j hj, tot_at (fun i hi => h.pos i hi j hj) ha, h.sum j hj⟩
theorem Good.two {n m : Nat} {b : Nat → Nat → Int} (h : Good n m b) {a c j : Nat} (ha : a < n) (hc : c < n) (hj : j < m) (hne : a ≠ c) : b a j + b c j ≤ 4611686018427387904 := by
  have h0 := h.cell ha hj
  have h1 := (h.upd (v := 0) ha hj (Int.le_refl _) (by omega)).cell hc hj
  rw [upd_row (Or.inl (Ne.symm hne)), tot_upd ha] at h1
  omega
theorem Good.part {n m : Nat} {b : Nat → Nat → Int} (h : Good n m b) (j : Int) {k : Nat} (hk : k ≤ n) : 0 ≤ partB m b j k ∧ partB m b j k ≤ 4611686018427387904 := by
  unfold partB
  split
  · rename_i hj
    have := tot_mono (b := b) (j := j.toNat) (n := n) (fun i hi => h.pos i hi _ (by omega)) hk
    have := tot_nonneg (b := b) (j := j.toNat) (n := k) (fun i hi => h.pos i (by omega) _ (by omega))
    have := h.sum j.toNat (by omega)
    omega
  · omega
theorem part_succ {n m : Nat} {b : Nat → Nat → Int} (j : Int) {k : Nat} (hk : k < n) : partB m b j (k + 1) = partB m b j k + getB n m b k j := by
  unfold partB getB
  by_cases hj : 0 ≤ j ∧ j < m
  · rw [if_pos hj, if_pos hj, if_pos (hasB_iff.2 ⟨by omega, by omega, hj.1, hj.2⟩), tot, Int.toNat_natCast]
  · rw [if_neg hj, if_neg hj, if_neg (fun h => hj ⟨(hasB_iff.1 h).2.2.1, (hasB_iff.1 h).2.2.2⟩)]; rfl

theorem give_ok {n m : Nat} {b : Nat → Nat → Int} {a j x : Int} (h : giveOK n m b a j x = true) : 0 ≤ a ∧ a < n ∧ 0 ≤ j ∧ j < m ∧ 0 ≤ x ∧ tot b j.toNat n + x ≤ 4611686018427387904 := by
  simp only [giveOK, Bool.and_eq_true, addOK, bothB] at h
  obtain ⟨h1, ⟨h2, h3⟩, h4⟩ := h
  have h1 := hasB_iff.1 h1
  rw [amt_iff] at h3 h4
  unfold totB partB at h4
  rw [if_pos ⟨h1.2.2.1, h1.2.2.2⟩] at h4
  unfold MA at *
  omega
theorem Good.give {n m : Nat} {b : Nat → Nat → Int} (h : Good n m b) (a j x : Int) : Good n m (giveN n m b a j x) := by
  unfold giveN
  split
  · rename_i hc
    obtain ⟨h1, h2, h3, h4, h5, h6⟩ := give_ok hc
    have := h.cell (a := a.toNat) (j := j.toNat) (by omega) (by omega)
    exact h.upd (by omega) (by omega) (by omega) (by omega)
  · exact h
theorem take_ok {n m : Nat} {b : Nat → Nat → Int} {a j x : Int} (h : takeE n m b a j x = 0) : 0 ≤ a ∧ a < n ∧ 0 ≤ j ∧ j < m ∧ 0 ≤ x ∧ x ≤ b a.toNat j.toNat := by
  unfold takeE at h
  split at h
  · rename_i hc
    rw [Bool.and_eq_true, hasB_iff, amt_iff] at hc
    split at h
    · simp at h
    · omega
  · simp at h
theorem Good.take {n m : Nat} {b : Nat → Nat → Int} (h : Good n m b) (a j x : Int) : Good n m (takeN n m b a j x) := by
  unfold takeN
  split
  · rename_i hc
    obtain ⟨h1, h2, h3, h4, h5, h6⟩ := take_ok hc
    have := h.cell (a := a.toNat) (j := j.toNat) (by omega) (by omega)
    exact h.upd (by omega) (by omega) (by omega) (by omega)
  · exact h
theorem move_ok {n m : Nat} {b : Nat → Nat → Int} {f t j x : Int} (h : moveE n m b f t j x = 0) : 0 ≤ f ∧ f < n ∧ 0 ≤ t ∧ t < n ∧ 0 ≤ j ∧ j < m ∧ 0 ≤ x ∧ x ≤ b f.toNat j.toNat ∧ f ≠ t := by
  unfold moveE at h
  split at h
  · rename_i hc
    rw [Bool.and_eq_true, Bool.and_eq_true, hasB_iff, hasB_iff, amt_iff] at hc
    split at h
    · simp at h
    · split at h
      · simp at h
      · omega
  · simp at h
theorem tot_move {n m : Nat} {b : Nat → Nat → Int} {f t j x : Int} (k : Nat) : tot (moveN n m b f t j x) k n = tot b k n := by
  unfold moveN
  split
  · rename_i hc
    obtain ⟨h1, h2, h3, h4, h5, h6, h7, h8, h9⟩ := move_ok hc
    by_cases e : k = j.toNat
    · subst e
      rw [tot_upd (by omega), tot_upd (by omega), upd_row (Or.inl (by omega))]; omega
    · rw [tot_upd_far (Or.inr e), tot_upd_far (Or.inr e)]
  · rfl
theorem Good.move {n m : Nat} {b : Nat → Nat → Int} (h : Good n m b) (f t j x : Int) : Good n m (moveN n m b f t j x) := by
  refine ⟨h.n2, h.n16, h.m1, h.m4, fun i hi k hk => ?_, fun k hk => by rw [tot_move]; exact h.sum k hk⟩
  unfold moveN
  split
  · rename_i hc
    obtain ⟨h1, h2, h3, h4, h5, h6, h7, h8, h9⟩ := move_ok hc
    have ht := h.pos t.toNat (by omega) j.toNat (by omega)
    unfold Proofs.YtbhoakohpfdeoaaGreat.upd; split
    · omega
    · split
      · omega
      · exact h.pos i hi k hk
  · exact h.pos i hi k hk

/-- Where a purse lies: its box p, its list of rows L, its rows G i. -/
structure PL (T : TypeId) (w : World) (p n m : Nat) (b : Nat → Nat → Int) (L lcap : Nat) (G C : Nat → Nat) : Prop where
  box : w.heap[p]? = some (.cells #[.slice (some ⟨L, 0, none⟩) n lcap] T (0, 0))
  list : ∃ cs, w.heap[L]? = some (.cells cs 54 (0, 0)) ∧ ∀ i, i < n → cs[i]? = some (.slice (some ⟨G i, 0, none⟩) m (C i))
  row : ∀ i, i < n → (∃ cs, w.heap[G i]? = some (.cells cs 3 (0, 0)) ∧ ∀ j, j < m → cs[j]? = some (.int .i64 (b i j)))
  cap : n ≤ lcap ∧ lcap ≤ maxLen ∧ ∀ i, i < n → m ≤ C i ∧ C i ≤ maxLen
  apart : L ≠ p ∧ (∀ i, i < n → G i ≠ p ∧ G i ≠ L) ∧ ∀ i, i < n → ∀ k, k < n → G i = G k → i = k
  pos : 0 < n
def fpP (p n L : Nat) (G : Nat → Nat) (k : Nat) : Prop := k = p ∨ k = L ∨ ∃ i, i < n ∧ k = G i
def PAt (T : TypeId) (w : World) (p : Nat) (S : Nat → Prop) (n m : Nat) (b : Nat → Nat → Int) : Prop :=
  ∃ L lcap G C, PL T w p n m b L lcap G C ∧ (∀ k, fpP p n L G k → S k) ∧ ∀ k, S k → k < w.heap.size

section
variable {T : TypeId} {w w' : World} {p n m L lcap : Nat} {b : Nat → Nat → Int} {G C : Nat → Nat}
theorem PL.cell0 (h : PL T w p n m b L lcap G C) : w.cell? ⟨p, 0, none⟩ = some (.slice (some ⟨L, 0, none⟩) n lcap) := by
  have := blk_cell h.box 0; simpa using this
theorem PL.cell1 (h : PL T w p n m b L lcap G C) {i : Nat} (hi : i < n) : w.cell? ⟨L, i, none⟩ = some (.slice (some ⟨G i, 0, none⟩) m (C i)) := by
  obtain ⟨cs, h1, h2⟩ := h.list
  rw [blk_cell h1 i]; exact h2 i hi
theorem PL.cell2 (h : PL T w p n m b L lcap G C) {i j : Nat} (hi : i < n) (hj : j < m) : w.cell? ⟨G i, j, none⟩ = some (.int .i64 (b i j)) ∧ w.frozen? ⟨G i, j, none⟩ = false := by
  obtain ⟨cs, h1, h2⟩ := h.row i hi
  rw [blk_cell h1 j, blk_frozen h1 j]; exact ⟨h2 j hj, rfl⟩
theorem PL.same (h : PL T w p n m b L lcap G C) (hs : ∀ k, fpP p n L G k → w'.heap[k]? = w.heap[k]?) : PL T w' p n m b L lcap G C := by
  refine ⟨(hs p (Or.inl rfl)).trans h.box, ?_, fun i hi => ?_, h.cap, h.apart, h.pos⟩
  · obtain ⟨cs, h1, h2⟩ := h.list
    exact ⟨cs, (hs L (Or.inr (Or.inl rfl))).trans h1, h2⟩
  · obtain ⟨cs, h1, h2⟩ := h.row i hi
    exact ⟨cs, (hs _ (Or.inr (Or.inr ⟨i, hi, rfl⟩))).trans h1, h2⟩
theorem PL.set (h : PL T w p n m b L lcap G C) {i j : Nat} (hi : i < n) (hj : j < m) (v : Int) : PL T (w.setCell ⟨G i, j, none⟩ (.int .i64 v)) p n m (upd b i j v) L lcap G C := by
  have ha := h.apart.2.1 i hi
  refine ⟨(Below.heap_setCell _ _ _ _ (Ne.symm ha.1)).trans h.box, ?_, fun k hk => ?_, h.cap, h.apart, h.pos⟩
  · obtain ⟨cs, h1, h2⟩ := h.list
    exact ⟨cs, (Below.heap_setCell _ _ _ _ (Ne.symm ha.2)).trans h1, h2⟩
  · obtain ⟨cs, h1, h2⟩ := h.row k hk
    by_cases e : k = i
    · subst e
      refine ⟨_, blk_set h1 j _, fun q hq => ?_⟩
      have hjl : j < cs.size := by
        have := h2 j hj
        exact (Array.getElem?_eq_some_iff.1 this).1
      by_cases e : q = j
      · subst e; simp [hjl, upd_at]
      · rw [Array.getElem?_setIfInBounds_ne (Ne.symm e), h2 q hq, upd_row (Or.inr e)]
    · refine ⟨cs, (Below.heap_setCell _ _ _ _ (fun e' => e (h.apart.2.2 k hk i hi e'))).trans h1, fun q hq => ?_⟩
      rw [h2 q hq, upd_row (Or.inl e)]
theorem PL.congr {b' : Nat → Nat → Int} (h : PL T w p n m b L lcap G C) (hb : ∀ i, i < n → ∀ j, j < m → b i j = b' i j) : PL T w p n m b' L lcap G C :=
  ⟨h.box, h.list, fun i hi => by obtain ⟨cs, h1, h2⟩ := h.row i hi; exact ⟨cs, h1, fun j hj => by rw [h2 j hj, hb i hi j hj]⟩, h.cap, h.apart, h.pos⟩
theorem PL.lt (h : PL T w p n m b L lcap G C) : ∀ k, fpP p n L G k → k < w.heap.size := by
  rintro k (rfl | rfl | ⟨i, hi, rfl⟩)
  · exact blk_lt h.box
  · obtain ⟨cs, h1, _⟩ := h.list; exact blk_lt h1
  · obtain ⟨cs, h1, _⟩ := h.row i hi; exact blk_lt h1
variable {S : Nat → Prop}
theorem PAt.keep {S' : Nat → Prop} (h : PAt T w p S n m b) (hk : Keeps S' w w') (hs : ∀ k, S k → ¬ S' k) : PAt T w' p S n m b := by
  obtain ⟨L, lcap, G, C, h1, h2, h3⟩ := h
  exact ⟨L, lcap, G, C, h1.same (fun k hk' => hk.block k (h1.lt k hk') (hs k (h2 k hk'))), h2, fun k hk' => Nat.lt_of_lt_of_le (h3 k hk') hk.size⟩
theorem PAt.below (h : PAt T w p S n m b) (hb : Below w.heap.size w w') : PAt T w' p S n m b := h.keep (Keeps.of_below (S := fun _ => False) hb) (fun _ _ f => f)
theorem PAt.set {i j : Nat} {L lcap : Nat} {G C : Nat → Nat} (h : PL T w p n m b L lcap G C) (h2 : ∀ k, fpP p n L G k → S k) (h3 : ∀ k, S k → k < w.heap.size) (hi : i < n) (hj : j < m) (v : Int) :
    PAt T (w.setCell ⟨G i, j, none⟩ (.int .i64 v)) p S n m (upd b i j v) ∧ Keeps S w (w.setCell ⟨G i, j, none⟩ (.int .i64 v)) :=
  ⟨⟨L, lcap, G, C, h.set hi hj v, h2, fun k hk => by simpa [World.setCell] using h3 k hk⟩, (Keeps.refl S w).setCell (p := ⟨G i, j, none⟩) (Or.inl (h2 _ (Or.inr (Or.inr ⟨i, hi, rfl⟩)))) _⟩
theorem PAt.congr {b' : Nat → Nat → Int} (h : PAt T w p S n m b) (hb : ∀ i, i < n → ∀ j, j < m → b i j = b' i j) : PAt T w p S n m b' := by
  obtain ⟨L, lcap, G, C, h1, h2, h3⟩ := h
  exact ⟨L, lcap, G, C, h1.congr hb, h2, h3⟩
end
/-- What an operation on a purse leaves. -/
def PPost (T : TypeId) (w : World) (p : Nat) (S : Nat → Prop) (n m : Nat) (b : Nat → Nat → Int) (w' : World) : Prop := PAt T w' p S n m b ∧ Keeps S w w'

end Go.Proofs.YtbhoakohpfdeoaaGreat
