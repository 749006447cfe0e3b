/- Contracts of the small functions of package sha's table: Mul64, Add64, square, cube, prime. -/
import Derived.Test.YtbhoakohpfdeoaaGreatFrame
import Derived.Test.YtbhoakohpfdeoaaGreatMul
import Derived.Lib.Mul64
import Derived.Shelf.Bits.Mul64
import Derived.Laws.Bits64b
import Derived.Laws.Externs
import Derived.Deep.CutBlock
import Derived.Deep.DeepCutAuto
namespace Go.Proofs.YtbhoakohpfdeoaaGreat
open Go.RowKit
set_option linter.unusedVariables false
set_option linter.unusedSimpArgs false


theorem add64_run (x y : Nat) (w : World) : (callFunc 91 #[.int .u64 x, .int .u64 y, .int .u64 0]).run Tryz.prog w = .ok (.value (.tuple #[.int .u64 (((x + y) % 18446744073709551616 : Nat) : Int), .int .u64 (((x + y) / 18446744073709551616 : Nat) : Int)])) w := by
  rw [run_callFunc_extern Tryz.func91 (by kernel_rfl) (by kernel_rfl) (by kernel_rfl) (e := add64Entry) (by kernel_rfl), run_add64 x y 0 (by omega) (by omega) (by omega) (by omega)]
  simp only [Result.andThen]
  congr 5 <;> omega

def sqHi (x : Nat) : Nat := x * x / 18446744073709551616
def sqLo (x : Nat) : Nat := x * x % 18446744073709551616
def sqB (x p : Nat) : Bool := decide (sqHi x < p) || (decide (sqHi x = p) && decide (sqLo x = 0))
set_option maxHeartbeats 1000000 in
theorem square_any (x p : Nat) (hx : x < 18446744073709551616) (w : World) : Calls Tryz.prog 85 #[.int .u64 x, .int .u64 p] w fun e w' => e = .returned (.bool (sqB x p)) ∧ w = w' := by
  have HM := Lib.hid (mul64_any x x hx hx w)
  have H1 := Lib.hid (show sqHi x = x * x / 18446744073709551616 by rw [sqHi])
  have H2 := Lib.hid (show sqLo x = x * x % 18446744073709551616 by rw [sqLo])
  rw [← H1.out, ← H2.out] at HM
  have HB := Lib.hid (show sqB x p = (decide (sqHi x < p) || (decide (sqHi x = p) && decide (sqLo x = 0))) by rw [sqB])
  generalize sqHi x = hi at *
  generalize sqLo x = lo at *
  clear H1 H2 hx
  go_enter Tryz.func85, Tryz.ntmps85
  go_wp2_with fail
  refine HM.out.mono ?_
  rintro e w' ⟨rfl, rfl⟩
  by_cases h1 : hi < p
  · have HR := Lib.hid (show sqB x p = true by rw [HB.out, decide_eq_true h1]; rfl)
    go_wp2
    go_ret
    exact ⟨ret_bool HR.out.symm, rfl⟩
  cases h2 : ((hi : Int) == (p : Int))
  · have HR : Hid (sqB x p = false) := Lib.hid (by
      simp only [beq_eq_false_iff_ne, ne_eq] at h2
      rw [HB.out, decide_eq_false (by omega), decide_eq_false (by omega)]; rfl)
    go_wp2
    go_ret
    exact ⟨ret_bool HR.out.symm, rfl⟩
  have HR : Hid (sqB x p = ((lo : Int) == 0)) := Lib.hid (by
    simp only [beq_iff_eq] at h2
    rw [HB.out, decide_eq_false (by omega), decide_eq_true (by omega), Bool.eq_iff_iff]; simp)
  go_wp2
  go_ret
  exact ⟨ret_bool HR.out.symm, rfl⟩

def cuOver (x : Nat) : Nat := sqLo x * x / 18446744073709551616
def cuLow (x : Nat) : Nat := sqLo x * x % 18446744073709551616
def cuMore (x : Nat) : Nat := sqHi x * x / 18446744073709551616
def cuHi (x : Nat) : Nat := sqHi x * x % 18446744073709551616
def cuHigh (x : Nat) : Nat := (cuHi x + cuOver x) % 18446744073709551616
def cuCarry (x : Nat) : Nat := (cuHi x + cuOver x) / 18446744073709551616
def cubeB (x p : Nat) : Bool := decide (cuMore x + cuCarry x = 0) && (decide (cuHigh x < p * 4294967296) || (decide (cuHigh x = p * 4294967296) && decide (cuLow x = 0)))
set_option maxHeartbeats 1000000 in
theorem cube_any (x p : Nat) (hx : x < 2199023255552) (hp : p < 1048576) (w : World) : Calls Tryz.prog 84 #[.int .u64 x, .int .u64 p] w fun e w' => e = .returned (.bool (cubeB x p)) ∧ w = w' := by
  have hm := fun y z (hy : y < 18446744073709551616) (hz : z < 18446744073709551616) => mul64_any y z hy hz w
  have HM := Lib.hid (hm x x (by omega) (by omega))
  have H1 := Lib.hid (show sqHi x = x * x / 18446744073709551616 by rw [sqHi])
  have H2 := Lib.hid (show sqLo x = x * x % 18446744073709551616 by rw [sqLo])
  rw [← H1.out, ← H2.out] at HM
  have hlo : sqLo x < 18446744073709551616 := by unfold sqLo; omega
  have hhi : sqHi x < 18446744073709551616 := by
    unfold sqHi
    have := Nat.mul_lt_mul'' hx hx
    omega
  have HM2 := Lib.hid (hm (sqLo x) x hlo (by omega))
  have HM3 := Lib.hid (hm (sqHi x) x hhi (by omega))
  have G1 := Lib.hid (show cuOver x = sqLo x * x / 18446744073709551616 by rw [cuOver])
  have G2 := Lib.hid (show cuLow x = sqLo x * x % 18446744073709551616 by rw [cuLow])
  have G3 := Lib.hid (show cuMore x = sqHi x * x / 18446744073709551616 by rw [cuMore])
  have G4 := Lib.hid (show cuHi x = sqHi x * x % 18446744073709551616 by rw [cuHi])
  rw [← G1.out, ← G2.out] at HM2
  rw [← G3.out, ← G4.out] at HM3
  have hadd := fun w => add64_run (cuHi x) (cuOver x) w
  have G5 := Lib.hid (show cuHigh x = (cuHi x + cuOver x) % 18446744073709551616 by rw [cuHigh])
  have G6 := Lib.hid (show cuCarry x = (cuHi x + cuOver x) / 18446744073709551616 by rw [cuCarry])
  rw [← G5.out, ← G6.out] at hadd
  have HB := Lib.hid (show cubeB x p = (decide (cuMore x + cuCarry x = 0) && (decide (cuHigh x < p * 4294967296) || (decide (cuHigh x = p * 4294967296) && decide (cuLow x = 0)))) by rw [cubeB])
  have hmc : cuMore x + cuCarry x < 18446744073709551616 := by
    have e1 : cuMore x < 2199023255552 := by
      unfold cuMore
      have := Nat.mul_lt_mul'' hhi hx
      omega
    have e2 : cuCarry x ≤ 1 := by
      unfold cuCarry cuHi cuOver
      have := Nat.mul_lt_mul'' hlo hx
      omega
    omega
  generalize cuMore x = more at *
  generalize cuCarry x = carry at *
  generalize cuHigh x = high at *
  generalize cuLow x = low at *
  generalize cuOver x = over at *
  generalize cuHi x = chi at *
  generalize sqHi x = hi at *
  generalize sqLo x = lo at *
  clear H1 H2 G1 G2 G3 G4 G5 G6 hm hlo hhi
  go_enter Tryz.func84, Tryz.ntmps84
  go_wp2_with fail
  refine HM.out.mono ?_
  rintro e w' ⟨rfl, rfl⟩
  go_wp2_with fail
  refine HM2.out.mono ?_
  rintro e w' ⟨rfl, rfl⟩
  go_wp2_with fail
  refine HM3.out.mono ?_
  rintro e w' ⟨rfl, rfl⟩
  have hw : IntKind.u64.wrap ((more : Int) + (carry : Int)) = ((more + carry : Nat) : Int) := by rw [IntKind.wrap_u64]; omega
  cases h0 : (((more : Int) + (carry : Int)) == 0)
  · have HR : Hid (cubeB x p = false) := Lib.hid (by
      simp only [beq_eq_false_iff_ne, ne_eq] at h0
      rw [HB.out, decide_eq_false (by omega)]; rfl)
    go_wp2
    go_ret
    exact ⟨ret_bool HR.out.symm, rfl⟩
  have H0 := Lib.hid (show more + carry = 0 by simp only [beq_iff_eq] at h0; omega)
  by_cases h1 : (high : Int) < (p : Int) * 4294967296
  · have HR : Hid (cubeB x p = true) := Lib.hid (by
      rw [HB.out, decide_eq_true H0.out, decide_eq_true (by omega)]; rfl)
    go_wp2
    go_ret
    exact ⟨ret_bool HR.out.symm, rfl⟩
  have h1' : decide ((high : Int) < (p : Int) * 4294967296) = false := decide_eq_false h1
  have H1 := Lib.hid h1
  clear h1
  cases h2 : ((high : Int) == (p : Int) * 4294967296)
  · have HR : Hid (cubeB x p = false) := Lib.hid (by
      simp only [beq_eq_false_iff_ne, ne_eq] at h2
      have h1 := H1.out
      rw [HB.out, decide_eq_true H0.out, decide_eq_false (by omega), decide_eq_false (by omega)]; rfl)
    go_wp2
    go_ret
    exact ⟨ret_bool HR.out.symm, rfl⟩
  have HR : Hid (cubeB x p = ((low : Int) == 0)) := Lib.hid (by
    simp only [beq_iff_eq] at h2
    have h1 := H1.out
    rw [HB.out, decide_eq_true H0.out, decide_eq_false (by omega), decide_eq_true (by omega), Bool.eq_iff_iff]; simp)
  go_wp2
  go_ret
  exact ⟨ret_bool HR.out.symm, rfl⟩

end Go.Proofs.YtbhoakohpfdeoaaGreat
