/- Law 12: an array of numbers of one's own. -/
import Derived.Test.YtkaciaehlibidaaGreatLr4
namespace Go.Proofs.YtkaciaehlibidaaGreat
open Go.RowKit
set_option linter.unusedVariables false
set_option linter.unusedSimpArgs false

/-- An array of n numbers that is a block of its own. -/
def SA (w : World) (b : Nat) (T : TypeId) (n : Nat) (f : Nat → Int) : Prop :=
  ∃ cs, w.heap[b]? = some (.cells cs T (0, 0)) ∧ cs.size = n ∧ ∀ j, j < n → cs[j]? = some (.int .i64 (f j))
section
variable {w w' : World} {b : Nat} {T : TypeId} {n : Nat} {f f' : Nat → Int}
theorem SA.lt (h : SA w b T n f) : b < w.heap.size := by obtain ⟨_, h, _⟩ := h; exact blk_lt h
theorem SA.same (h : SA w b T n f) (he : w'.heap[b]? = w.heap[b]?) : SA w' b T n f := by
  obtain ⟨cs, h1, h2⟩ := h
  exact ⟨cs, he.trans h1, h2⟩
theorem SA.below (h : SA w b T n f) (hb : Below w.heap.size w w') : SA w' b T n f := h.same (hb.block _ h.lt)
theorem SA.cell (h : SA w b T n f) (j : Nat) (hj : j < n) : w.cell? ⟨b, j, none⟩ = some (.int .i64 (f j)) ∧ w.frozen? ⟨b, j, none⟩ = false := by
  obtain ⟨cs, h1, _, h2⟩ := h
  exact ⟨(blk_cell h1 _).trans (h2 j hj), blk_frozen h1 _⟩
theorem SA.set (h : SA w b T n f) (i : Nat) (hi : i < n) (v : Int) (hf : ∀ j, j < n → f' j = if i = j then v else f j) : SA (w.setCell ⟨b, i, none⟩ (.int .i64 v)) b T n f' := by
  obtain ⟨cs, h1, h2, h3⟩ := h
  refine ⟨_, blk_set h1 i _, by simpa using h2, fun j hj => ?_⟩
  by_cases e : i = j
  · subst e
    rw [Array.getElem?_setIfInBounds_self, if_pos (by omega), hf i hj, if_pos rfl]
  · rw [Array.getElem?_setIfInBounds_ne e, hf j hj, if_neg e]; exact h3 j hj
theorem SA.to (h : SA w b T n f) (hf : ∀ j, j < n → f j = f' j) : SA w b T n f' := by
  obtain ⟨cs, h1, h2, h3⟩ := h
  exact ⟨cs, h1, h2, fun j hj => by rw [← hf j hj]; exact h3 j hj⟩
theorem SA.new {T : TypeId} (w : World) (k : Nat) : SA (w.alloc (.cells (Array.replicate k (.int .i64 0)) T)) w.heap.size T k (fun _ => 0) :=
  ⟨_, heap_alloc_new w _, by simp, fun j hj => by simp [hj]⟩
end

end Go.Proofs.YtkaciaehlibidaaGreat
