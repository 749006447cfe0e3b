/- Plain facts: are lists few and small? -/
import Derived.Test.YtbhoakohpfdeoaaGreatFrame
namespace Go.Proofs.YtbhoakohpfdeoaaGreat
set_option linter.unusedVariables false

def fewB (ls : List Nat) (many room : Nat) : Bool := decide (ls.length ≤ many ∧ ((ls.take many).map (fun n => min n (room + 1))).sum ≤ room)
theorem sum_min_le : ∀ (ls : List Nat) (room : Nat), (ls.map (fun n => min n (room + 1))).sum ≤ room → ls.sum ≤ room
  | [], _, _ => by simp
  | l :: ls, room, h => by
    simp only [List.map_cons, List.sum_cons] at h ⊢
    have h1 : ∀ ls : List Nat, (ls.map (fun n => min n (room + 1))).sum ≤ room → (ls.map (fun n => min n (room + 1))).sum = ls.sum := by
      intro ls
      induction ls with
      | nil => simp
      | cons x xs ih =>
        intro hx
        simp only [List.map_cons, List.sum_cons] at hx ⊢
        have := ih (by omega)
        omega
    have := h1 ls (by omega)
    omega
theorem few_facts (ls : List Nat) (many room : Nat) (h : fewB ls many room = true) : ls.length ≤ many ∧ ls.sum ≤ room := by
  simp only [fewB, decide_eq_true_eq] at h
  rw [List.take_of_length_le h.1] at h
  exact ⟨h.1, sum_min_le ls room h.2⟩
theorem sum_min_bound (ls : List Nat) (room : Nat) : (ls.map (fun n => min n (room + 1))).sum ≤ ls.length * (room + 1) := by
  induction ls with
  | nil => simp
  | cons x xs ih => simp only [List.map_cons, List.sum_cons, List.length_cons]; rw [Nat.add_mul]; omega

theorem sum_take_succ (ls : List Nat) (k : Nat) (h : k < ls.length) : (ls.take (k + 1)).sum = (ls.take k).sum + ls[k] := by
  rw [List.take_succ_eq_append_getElem h, List.sum_append]; simp

end Go.Proofs.YtbhoakohpfdeoaaGreat
