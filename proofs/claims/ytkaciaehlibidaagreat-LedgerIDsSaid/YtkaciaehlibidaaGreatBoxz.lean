/- Boxes that lie in a row from a beginning (the same as in Rsame, as a text of its own). -/
import Derived.Test.YtkaciaehlibidaaGreatLgI
namespace Go.Proofs.YtkaciaehlibidaaGreat
open Go.RowKit
set_option linter.unusedVariables false

structure Boxes (W wr : World) (bs : List (Array Value × TypeId)) : Prop where
  base : Below W.heap.size W wr
  box : ∀ i cs T, bs[i]? = some (cs, T) → wr.heap[W.heap.size + i]? = some (.cells cs T (0, 0))
section
variable {W wr w' : World} {bs : List (Array Value × TypeId)}
theorem Boxes.nil (W : World) : Boxes W W [] := ⟨Below.refl _ _, fun i cs T h => by simp at h⟩
theorem Boxes.push (h : Boxes W wr bs) (hs : wr.heap.size = W.heap.size + bs.length) (cs : Array Value) (T : TypeId) : Boxes W (wr.alloc (.cells cs T)) (bs ++ [(cs, T)]) := by
  refine ⟨h.base.alloc h.base.size _, fun i cs' T' hi => ?_⟩
  by_cases hl : i < bs.length
  · rw [List.getElem?_append_left hl] at hi
    exact (Below.heap_alloc _ _ _ (by omega)).trans (h.box i cs' T' hi)
  · rw [List.getElem?_append_right (by omega)] at hi
    obtain ⟨h0, h1⟩ : i - bs.length = 0 ∧ (cs, T) = (cs', T') := by
      cases hh : i - bs.length with
      | zero => rw [hh] at hi; simp at hi; exact ⟨rfl, by rw [hi.1, hi.2]⟩
      | succ k => rw [hh] at hi; simp at hi
    cases h1
    have e : W.heap.size + i = wr.heap.size := by omega
    rw [e]
    exact heap_alloc_new wr _
theorem Boxes.below (h : Boxes W wr bs) (hb : Below wr.heap.size wr w') : Boxes W w' bs :=
  ⟨h.base.trans (hb.mono h.base.size), fun i cs T hi => (hb.block _ (blk_lt (h.box i cs T hi))).trans (h.box i cs T hi)⟩
theorem Boxes.drew (h : Boxes W wr bs) : Boxes W wr.drew bs := h.below ((Keeps.refl (fun _ => False) wr).drew.below (Nat.le_refl _) (fun _ f => f.elim))
theorem Boxes.drewN (h : Boxes W wr bs) (j : Nat) : Boxes W (wr.drewN j) bs := h.below (((Keeps.refl (fun _ => False) wr).drewN j).below (Nat.le_refl _) (fun _ f => f.elim))
theorem Boxes.cell (h : Boxes W wr bs) (i j : Nat) {cs : Array Value} {T : TypeId} (hi : bs[i]? = some (cs, T)) : wr.cell? ⟨W.heap.size + i, j, none⟩ = cs[j]? := blk_cell (h.box i cs T hi) j
end
theorem below_drewN (w : World) (j : Nat) : Below w.heap.size w (w.drewN j) := ((Keeps.refl (fun _ => False) w).drewN j).below (Nat.le_refl _) (fun _ f => f.elim)
theorem below_drew (w : World) : Below w.heap.size w w.drew := (Keeps.refl (fun _ => False) w).drew.below (Nat.le_refl _) (fun _ f => f.elim)

end Go.Proofs.YtkaciaehlibidaaGreat
