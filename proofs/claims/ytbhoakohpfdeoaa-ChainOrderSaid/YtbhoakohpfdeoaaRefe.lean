/- Contracts of cflref1's encoder. -/
import Derived.Test.YtbhoakohpfdeoaaEnc2
import Derived.Test.YtbhoakohpfdeoaaArgs
namespace Go.Proofs.Ytbhoakohpfdeoaa
open Go.RowKit
set_option linter.unusedVariables false

theorem fitsB_small (n : Int) (s : Nat) (h1 : 1 ≤ s) (h8 : s < 8) : fitsB n s = decide (0 ≤ n ∧ n ≤ 4611686018427387904 ∧ n < 2 ^ (8 * s)) := by
  have hm : mayB s = true := by simp [mayB]; omega
  have hn8 : ¬ (8 : Int) ≤ s := by omega
  have hp : (0 : Int) < 2 ^ (8 * s) := Int.pow_pos (by decide)
  by_cases ha : amtB n = true
  · have ha' := (amt_iff n).1 ha
    unfold MA at ha'
    by_cases hlt : n < 2 ^ (8 * s)
    · have : n / 2 ^ (8 * s) ≤ 0 := by rw [Int.ediv_eq_zero_of_lt ha'.1 hlt]; exact Int.le_refl _
      simp [fitsB, hm, ha, this, hlt]; omega
    · have : ¬ n / 2 ^ (8 * s) ≤ 0 := by
        intro h
        have := (Int.le_ediv_iff_mul_le hp (a := 1) (b := n)).2 (by omega)
        omega
      simp [fitsB, hm, ha, this, hlt]; omega
  · have : ¬ (0 ≤ n ∧ n ≤ 4611686018427387904) := fun h => ha ((amt_iff n).2 (by unfold MA; exact h))
    simp [fitsB, ha]; omega
theorem fitsB_8 (n : Int) : fitsB n 8 = decide (0 ≤ n ∧ n ≤ 4611686018427387904) := by
  have hm : mayB 8 = true := by simp [mayB]
  by_cases ha : amtB n = true
  · have ha' := (amt_iff n).1 ha
    unfold MA at ha'
    simp [fitsB, hm, ha]; omega
  · have : ¬ (0 ≤ n ∧ n ≤ 4611686018427387904) := fun h => ha ((amt_iff n).2 (by unfold MA; exact h))
    simp [fitsB, ha]; omega
theorem fitsB_not (n size : Int) (h : ¬ (1 ≤ size ∧ size ≤ 8)) : fitsB n size = false := by
  have : mayB size = false := by simp [mayB]; omega
  simp [fitsB, this]

set_option maxHeartbeats 2000000 in
theorem fits_any (n size : Int) (w : World) :
    Calls Try.prog 84 #[.int .i64 n, .int .i64 size] w fun e w' => e = .returned (.bool (fitsB n size)) ∧ w = w' := by
  by_cases hs : 1 ≤ size ∧ size ≤ 8
  · obtain ⟨s, rfl⟩ := Int.eq_ofNat_of_zero_le (show 0 ≤ size by omega)
    by_cases h8 : s = 8
    · subst h8
      have HF := Lib.hid (fitsB_8 n)
      go_enter Try.func84, Try.ntmps84
      go_wp2
      all_goals
        go_ret
        exact ⟨ret_bool (by refine Eq.trans ?_ HF.out.symm; first | (rw [decide_eq_decide]; simp only [Nat.reduceMul, Int.reducePow]; omega) | (rw [decide_eq_decide]; omega) | (simp; done) | (simp; omega)), rfl⟩
    · have HF := Lib.hid (fitsB_small n s (by omega) (by omega))
      have h7 : s = 1 ∨ s = 2 ∨ s = 3 ∨ s = 4 ∨ s = 5 ∨ s = 6 ∨ s = 7 := by omega
      clear hs h8
      rcases h7 with rfl | rfl | rfl | rfl | rfl | rfl | rfl
      all_goals
        go_enter Try.func84, Try.ntmps84
        go_wp2
        all_goals
          go_ret
          exact ⟨ret_bool (by refine Eq.trans ?_ HF.out.symm; first | (rw [decide_eq_decide]; simp only [Nat.reduceMul, Int.reducePow]; omega) | (rw [decide_eq_decide]; omega) | (simp; done) | (simp; omega)), rfl⟩
  · have HF := Lib.hid (fitsB_not n size hs)
    have hs' : size < 1 ∨ (1 ≤ size ∧ 8 < size) := by omega
    clear hs
    rcases hs' with hs | ⟨hs, hs2⟩
    all_goals
      go_enter Try.func84, Try.ntmps84
      go_wp2
      all_goals
        go_ret
        exact ⟨ret_bool HF.out.symm, rfl⟩

end Go.Proofs.Ytbhoakohpfdeoaa
