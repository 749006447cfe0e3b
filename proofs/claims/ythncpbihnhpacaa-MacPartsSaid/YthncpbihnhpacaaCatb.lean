/- The bytes of a slice of slices, one behind the other. -/
import Derived.Test.YthncpbihnhpacaaShaS
import Derived.Test.YthncpbihnhpacaaFew
namespace Go.Proofs.Ythncpbihnhpacaa
open Go.RowKit
set_option linter.unusedVariables false

def catB (bs : List BSl) : List Int := (bs.map BSl.zs).flatten
theorem catB_len (bs : List BSl) : (catB bs).length = (bs.map (fun b => b.zs.length)).sum := by
  unfold catB
  induction bs with
  | nil => rfl
  | cons b bs ih => simp only [List.map_cons, List.flatten_cons, List.length_append, List.sum_cons, ih]
theorem catB_take (bs : List BSl) (k : Nat) (h : k < bs.length) : catB (bs.take (k + 1)) = catB (bs.take k) ++ bs[k].zs := by
  unfold catB
  rw [List.take_succ_eq_append_getElem h, List.map_append, List.flatten_append]
  simp
theorem sum_take_le (l : List Nat) (k : Nat) : (l.take k).sum ≤ l.sum := by
  induction l generalizing k with
  | nil => simp
  | cons x l ih =>
    cases k with
    | zero => simp
    | succ k => simp only [List.take_succ_cons, List.sum_cons]; have := ih k; omega
theorem catB_inB {w : World} (bs : List BSl) (h : ∀ x ∈ bs, x.ok w) : InB (catB bs) := fun z hz => by
  unfold catB at hz
  obtain ⟨l, hl, hz⟩ := List.mem_flatten.1 hz
  obtain ⟨b, hb, rfl⟩ := List.mem_map.1 hl
  exact (h b hb).2.1 z hz

end Go.Proofs.Ythncpbihnhpacaa
