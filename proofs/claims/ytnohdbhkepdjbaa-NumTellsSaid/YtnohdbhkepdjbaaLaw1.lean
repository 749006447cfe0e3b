/- Chapter 1's example, and what each statement of chapter 1 comes to. -/
import Derived.Test.YtnohdbhkepdjbaaRef1
namespace Go.Proofs.Ytnohdbhkepdjbaa
open Go.RowKit
set_option linter.unusedVariables false

theorem cell_row3 (w : World) (a b c : Int) (T : TypeId) (k : IntKind) : IntsAt k (w.alloc (.cells #[.int k a, .int k b, .int k c] T)) (some ⟨w.heap.size, 0, none⟩) [a, b, c] := by
  refine Or.inr ⟨_, _, rfl, fun i hi => ?_⟩
  match i, hi with
  | 0, _ => simp
  | 1, _ => simp
  | 2, _ => simp

set_option maxHeartbeats 400000 in
theorem first1_any (w : World) : Calls Try.prog 14 #[] w fun e w' => e = .returned (.bool true) ∧ Below w.heap.size w w' := by
  have h1 : subE 1 2 = 1 := by decide
  have h2 : sumV [1, 2, 3] = 6 := by decide
  have h3 : sumE [1, 2, 3] = 0 := by decide
  have hs := Lib.hid (sum_any (some ⟨w.heap.size, 0, none⟩) [1, 2, 3] 3 _ (cell_row3 w 1 2 3 3 .i64) (by decide))
  go_enter Try.func14, Try.ntmps14
  go_wp2_with (first | (go_at_call 24; refine (sub_any _ _ _).mono ?_; rintro e w' ⟨rfl, rfl⟩) | (go_at_call 15; refine hs.out.mono ?_; rintro e w' ⟨rfl, rfl⟩))
  go_ret
  exact ⟨rfl, (Below.refl _ _).alloc (Nat.le_refl _) _⟩

theorem first1 (w0 : World) (w : World) (h : Below w0.heap.size w0 w) : Calls Try.prog 14 #[] w fun e w' => e = .returned (.bool true) ∧ Below w0.heap.size w0 w' :=
  (first1_any w).mono fun _ _ ⟨he, hb⟩ => ⟨he, h.trans (hb.mono h.size)⟩

end Go.Proofs.Ytnohdbhkepdjbaa
