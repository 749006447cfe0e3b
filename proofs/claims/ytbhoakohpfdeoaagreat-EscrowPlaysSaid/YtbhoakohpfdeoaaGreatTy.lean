/- Blocks of different types are different blocks; rows of one's own, read. -/
import Derived.Test.YtbhoakohpfdeoaaGreatHeap
import Derived.Test.YtbhoakohpfdeoaaGreatShaQ
namespace Go.Proofs.YtbhoakohpfdeoaaGreat
open Go.RowKit
set_option linter.unusedVariables false
set_option linter.unusedSimpArgs false

theorem cells_type {cs cs' : Array Value} {t t' : TypeId} {f f' : Nat × Nat} (h : some (Obj.cells cs t f) = some (Obj.cells cs' t' f')) : t = t' := by
  injection h with h
  injection h
/-! Blocks of different types are different blocks. -/
theorem row_ty {w : World} {T : TypeId} {sz : Nat} {v : Value} {n : Nat} {xs : List Value} (h : w.ownsRow 0 T sz v n xs) {g : Nat} (hg : v.ownBlock = some g) : ∃ cur, w.heap[g]? = some (.cells cur T (0, 0)) := by
  rcases h.2 with ⟨hv, _⟩ | ⟨g', cap', cur, hv, hb, hh, _⟩
  · rw [hv] at hg; cases hg
  · rw [hv] at hg; cases hg; exact ⟨cur, hh⟩
/-- A block of some type. -/
def TyAt (w : World) (i : Nat) (T : TypeId) : Prop := ∃ cs f, w.heap[i]? = some (.cells cs T f)
theorem TyAt.ne {w : World} {g i : Nat} {cs : Array Value} {T T' : TypeId} {f : Nat × Nat} (h : TyAt w i T') (h1 : w.heap[g]? = some (.cells cs T f)) (hne : T ≠ T') : g ≠ i := by
  intro e
  obtain ⟨cs', f', h2⟩ := h
  rw [e, h2] at h1
  exact hne (cells_type h1).symm
theorem Keeps.ty {S : Nat → Prop} {w w' : World} {g : Nat} {cs : Array Value} {T : TypeId} {f : Nat × Nat} (hk : Keeps S w w') (h1 : w.heap[g]? = some (.cells cs T f)) (hS : ∀ i, S i → ∃ T', TyAt w i T' ∧ T ≠ T') : w'.heap[g]? = w.heap[g]? :=
  hk.block g (blk_lt h1) (fun hs => by
    obtain ⟨T', h2, h3⟩ := hS g hs
    exact h2.ne h1 h3 rfl)
theorem Keeps.row {S : Nat → Prop} {w w' : World} {T : TypeId} {sz : Nat} {v : Value} {n : Nat} {xs : List Value} (hk : Keeps S w w') (h : w.ownsRow 0 T sz v n xs) (hS : ∀ i, S i → ∃ T', TyAt w i T' ∧ T ≠ T') : w'.ownsRow 0 T sz v n xs :=
  ownsRow_same h (fun g hg => by
    obtain ⟨cur, h1⟩ := row_ty h hg
    exact hk.ty h1 hS)
theorem TabOk.ty {w : World} {tb : Nat} (h : TabOk w tb) : TyAt w tb 92 := by
  rcases h with ⟨_, _, cs, h, _⟩ | ⟨cs, h, _⟩ <;> exact ⟨_, _, h⟩
theorem own_cell {w : World} {e : TypeId} {sz n cap : Nat} {ao : Option Addr} {xs : List Value} (h : w.ownsRow 0 e sz (.slice ao n cap) n xs) (hn : 0 < n) : ∃ b, ao = some ⟨b, 0, none⟩ ∧ (∀ j u, xs[j]? = some u → w.cell? ⟨b, j, none⟩ = some u) := by
  rcases h.2 with ⟨hv, h0⟩ | ⟨b, cap', cur, hv, _, hh, hnc, hcm, hcs, ht⟩
  · omega
  · simp only [Value.slice.injEq] at hv
    obtain ⟨rfl, _, _⟩ := hv
    refine ⟨b, rfl, fun j u hj => ?_⟩
    rw [blk_cell hh]
    rw [← ht] at hj
    rw [List.getElem?_take] at hj
    split at hj
    · simpa using hj
    · cases hj
theorem flat_get {α : Type} (f : α → List Value) (sz : Nat) (hf : ∀ x, (f x).length = sz) : ∀ (l : List α) (i : Nat) (hi : i < l.length) (j : Nat) (hj : j < sz), (l.flatMap f)[i * sz + j]? = (f l[i])[j]?
  | [], i, hi, _, _ => by simp at hi
  | x :: l, 0, _, j, hj => by
    rw [List.flatMap_cons, Nat.zero_mul, Nat.zero_add, List.getElem?_append_left (by rw [hf]; exact hj)]
    rfl
  | x :: l, i + 1, hi, j, hj => by
    have ih := flat_get f sz hf l i (by simpa using hi) j hj
    rw [List.flatMap_cons, List.getElem?_append_right (by rw [hf, Nat.add_mul]; omega), hf]
    rw [show (i + 1) * sz + j - sz = i * sz + j by rw [Nat.add_mul]; omega, ih]
    rfl
theorem own_shape {w : World} {e : TypeId} {sz n : Nat} {v : Value} {xs : List Value} (h : w.ownsRow 0 e sz v n xs) : ∃ ao c, v = .slice ao n c ∧ n ≤ c ∧ c ≤ maxLen := by
  rcases h.2 with ⟨hv, h0⟩ | ⟨b, cap', cur, hv, hb, hh, hnc, hcm, hcs, ht⟩
  · exact ⟨none, 0, by rw [hv, h0], by omega, by unfold maxLen; omega⟩
  · exact ⟨_, cap', hv, by assumption, by assumption⟩
theorem below_undrew {w w' : World} (h : Below w.drew.heap.size w.drew w') : Below w.heap.size w w' := ⟨h.os, h.tape, h.output, h.size, h.block⟩
theorem keeps_undrew {S : Nat → Prop} {w w' : World} (h : Keeps S w.drew w') : Keeps S w w' := ⟨h.os, h.tape, h.output, h.size, h.block⟩

theorem tab_keep {w w' : World} {b : Nat} {S : Nat → Prop} (h : TabOk w b) (hk : Keeps S w w') (hS : ¬ S b) : TabOk w' b := h.same (hk.block b h.lt hS)
theorem below_fp {a b c : World} {S : Nat → Prop} (h : Below a.heap.size a b) (hk : Keeps S b c) (hS : ∀ i, S i → a.heap.size ≤ i) : Below a.heap.size a c :=
  h.trans (hk.below h.size hS)

end Go.Proofs.YtbhoakohpfdeoaaGreat
