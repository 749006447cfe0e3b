/- Package frame: the pure law of the document's laying. -/
import Derived.Test.YteabnagdfecleaaFrP
namespace Go.Proofs.Yteabnagdfecleaa
open Go.RowKit
set_option linter.unusedVariables false
set_option linter.unusedSimpArgs false

/-- Laid with marks. -/
def markI (j : Nat) : Int := if j = 0 then 1 else 2
def layM (t : List Int) : Nat → List Int
  | 0 => []
  | j + 1 => layM t j ++ secF (markI j) (t.drop (63 * j))
/-- As the document lays: the last sector is not filled. -/
def layR (t : List Int) : Nat → List Int
  | 0 => []
  | j + 1 => layR t j ++ (markI j :: (t.drop (63 * j)).take 63)
theorem layM_len (t : List Int) : ∀ k, (layM t k).length = 64 * k
  | 0 => rfl
  | k + 1 => by rw [layM, List.length_append, layM_len t k, secF_len]; omega
theorem layM_eq (t : List Int) : ∀ k, layM t k = layF t k
  | 0 => rfl
  | 1 => by simp [layM, layF, layN, markI, secF]
  | k + 2 => by
    have h := layM_eq t (k + 1)
    have hl := layN_len t (k + 1)
    have e1 : layN t (k + 2) = layN t (k + 1) ++ secF 2 (t.drop (63 * (k + 1))) := rfl
    have e2 : layM t (k + 2) = layM t (k + 1) ++ secF (markI (k + 1)) (t.drop (63 * (k + 1))) := rfl
    rw [e2, h]
    unfold layF
    rw [e1, List.set_append_left _ _ (by rw [hl]; omega)]
    rfl
theorem layR_full (t : List Int) : ∀ j, 63 * j ≤ t.length → layR t j = layM t j
  | 0, _ => rfl
  | j + 1, h => by
    rw [layR, layM, layR_full t j (by omega), secF]
    congr 2
    have : 63 - (t.drop (63 * j)).length = 0 := by rw [List.length_drop]; omega
    rw [this]
    simp
theorem layR_len (t : List Int) : ∀ j, (layR t j).length = j + min t.length (63 * j)
  | 0 => by simp [layR]
  | j + 1 => by
    rw [layR, List.length_append, layR_len t j, List.length_cons, List.length_take, List.length_drop]
    omega
theorem layR_last (t : List Int) (k : Nat) (h0 : 63 * k < t.length) (h1 : t.length ≤ 63 * (k + 1)) : layR t (k + 1) ++ List.replicate (63 * (k + 1) - t.length) 0 = layF t (k + 1) := by
  have e : 63 * (k + 1) - t.length = 63 - (t.drop (63 * k)).length := by rw [List.length_drop]; omega
  rw [← layM_eq, layR, layM, layR_full t k (by omega), secF, List.append_assoc, List.cons_append, e]

end Go.Proofs.Yteabnagdfecleaa
