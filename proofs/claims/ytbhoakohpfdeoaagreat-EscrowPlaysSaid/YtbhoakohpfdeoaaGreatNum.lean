/- Contracts of package num (Amount, Add, Sub, Mul, Tick, After, right, both), over the seat's translation. -/
import Derived.Test.YtbhoakohpfdeoaaGreatFrame
import Derived.Test.YtbhoakohpfdeoaaGreatMul
import Derived.Lib.Mul64
import Derived.Shelf.Bits.Mul64
import Derived.Laws.Bits64b
namespace Go.Proofs.YtbhoakohpfdeoaaGreat
open Go.RowKit
set_option linter.unusedVariables false

def MA : Int := 4611686018427387904
def MT : Int := 1099511627776
def amtB (n : Int) : Bool := decide (0 ≤ n ∧ n ≤ MA)
def tickB (n : Int) : Bool := decide (0 ≤ n ∧ n ≤ MT)

set_option maxHeartbeats 400000 in
theorem amount_any (n : Int) (w : World) :
    Calls Tryz.prog 34 #[.int .i64 n] w fun e w' => e = .returned (.bool (amtB n)) ∧ w = w' := by
  go_enter Tryz.func34, Tryz.ntmps34
  go_wp2
  all_goals
    go_ret
    exact ⟨ret_bool (by unfold amtB MA; simp; omega), rfl⟩

set_option maxHeartbeats 400000 in
theorem tick_any (n : Int) (w : World) :
    Calls Tryz.prog 35 #[.int .i64 n] w fun e w' => e = .returned (.bool (tickB n)) ∧ w = w' := by
  go_enter Tryz.func35, Tryz.ntmps35
  go_wp2
  all_goals
    go_ret
    exact ⟨ret_bool (by unfold tickB MT; simp; omega), rfl⟩


def bothB (a b : Int) : Bool := amtB a && amtB b

set_option maxHeartbeats 400000 in
theorem both_any (a b : Int) (w : World) :
    Calls Tryz.prog 79 #[.int .i64 a, .int .i64 b] w fun e w' => e = .returned (.bool (bothB a b)) ∧ w = w' := by
  go_enter Tryz.func79, Tryz.ntmps79
  go_wp2_with (go_at_call 34; refine (amount_any _ _).mono ?_; rintro e w' ⟨rfl, rfl⟩)
  all_goals
    go_ret
    exact ⟨ret_bool (by simp [bothB, *]), rfl⟩

def rightV (n : Int) (m : Bool) : Int := if m then n else 0
def rightE (m : Bool) : Int := if m then 0 else 1

set_option maxHeartbeats 400000 in
theorem right_any (n : Int) (m : Bool) (w : World) :
    Calls Tryz.prog 78 #[.int .i64 n, .bool m] w fun e w' => e = .returned (.tuple #[.int .i64 (rightV n m), .int .i64 (rightE m)]) ∧ w = w' := by
  cases m
  all_goals
    go_enter Tryz.func78, Tryz.ntmps78
    go_wp2
    go_ret2
    exact ⟨rfl, rfl⟩

theorem amt_iff (n : Int) : amtB n = true ↔ 0 ≤ n ∧ n ≤ MA := by simp [amtB]
theorem tick_iff (n : Int) : tickB n = true ↔ 0 ≤ n ∧ n ≤ MT := by simp [tickB]

/-- What Add computes. -/
def addOK (a b : Int) : Bool := bothB a b && amtB (a + b)
def addV (a b : Int) : Int := if addOK a b then a + b else 0
def addE (a b : Int) : Int := if addOK a b then 0 else 1
theorem amt_wrap_add (a b : Int) (ha : amtB a = true) (hb : amtB b = true) : amtB (wrap64 (a + b)) = amtB (a + b) := by
  rw [amt_iff] at ha hb
  rw [Bool.eq_iff_iff, amt_iff, amt_iff]
  unfold MA at *; unfold wrap64; omega
theorem wrap_of_amt (a b : Int) (ha : amtB a = true) (hb : amtB b = true) (h : amtB (a + b) = true) : wrap64 (a + b) = a + b := by
  rw [amt_iff] at ha hb h
  unfold MA at *; unfold wrap64; omega
theorem right_add (a b : Int) (m : Bool) (hm : m = (bothB a b && amtB (wrap64 (a + b)))) : rightV (wrap64 (a + b)) m = addV a b ∧ rightE m = addE a b := by
  subst hm
  unfold rightV rightE addV addE addOK bothB
  cases ha : amtB a <;> cases hb : amtB b <;> simp
  rw [amt_wrap_add a b ha hb]
  cases h : amtB (a + b) <;> simp
  exact wrap_of_amt a b ha hb h

theorem ret_right {n : Int} {m : Bool} {a b : Int} (h : rightV n m = a ∧ rightE m = b) : Ending.returned (.tuple #[.int .i64 (rightV n m), .int .i64 (rightE m)]) = .returned (.tuple #[.int .i64 a, .int .i64 b]) := by rw [h.1, h.2]

set_option maxHeartbeats 400000 in
theorem add_any (a b : Int) (w : World) :
    Calls Tryz.prog 71 #[.int .i64 a, .int .i64 b] w fun e w' => e = .returned (.tuple #[.int .i64 (addV a b), .int .i64 (addE a b)]) ∧ w = w' := by
  go_enter Tryz.func71, Tryz.ntmps71
  go_wp2_with (first | (go_at_call 34; refine (amount_any _ _).mono ?_; rintro e w' ⟨rfl, rfl⟩) | (go_at_call 79; refine (both_any _ _ _).mono ?_; rintro e w' ⟨rfl, rfl⟩) | (go_at_call 78; refine (right_any _ _ _).mono ?_; rintro e w' ⟨rfl, rfl⟩))
  all_goals
    go_ret2
    exact ⟨ret_right (right_add a b _ (by simp [*])), rfl⟩

def subOK (a b : Int) : Bool := bothB a b && decide (b ≤ a)
def subV (a b : Int) : Int := if subOK a b then a - b else 0
def subE (a b : Int) : Int := if subOK a b then 0 else 1
theorem right_sub (a b : Int) (m : Bool) (hm : m = (bothB a b && decide (b ≤ a))) : rightV (wrap64 (a - b)) m = subV a b ∧ rightE m = subE a b := by
  subst hm
  unfold rightV rightE subV subE subOK bothB
  cases ha : amtB a <;> cases hb : amtB b <;> simp
  rw [amt_iff] at ha hb
  unfold MA at *; unfold wrap64
  split <;> omega


def aftOK (a b : Int) : Bool := tickB a && tickB b && tickB (a + b)
def aftV (a b : Int) : Int := if aftOK a b then a + b else 0
def aftE (a b : Int) : Int := if aftOK a b then 0 else 1
theorem right_aft (a b : Int) (m : Bool) (hm : m = (tickB a && tickB b && tickB (wrap64 (a + b)))) : rightV (wrap64 (a + b)) m = aftV a b ∧ rightE m = aftE a b := by
  subst hm
  unfold rightV rightE aftV aftE aftOK
  cases ha : tickB a <;> cases hb : tickB b <;> simp
  rw [tick_iff] at ha hb
  rw [show wrap64 (a + b) = a + b by unfold MT at *; unfold wrap64; omega]
  exact ⟨rfl, rfl⟩




def mulOK (a b : Int) : Bool := bothB a b && amtB (a * b)
def mulV (a b : Int) : Int := if mulOK a b then a * b else 0
def mulE (a b : Int) : Int := if mulOK a b then 0 else 1
def mulHi (a b : Int) : Int := (((IntKind.u64.wrap a).toNat * (IntKind.u64.wrap b).toNat / 18446744073709551616 : Nat) : Int)
def mulLo (a b : Int) : Int := (((IntKind.u64.wrap a).toNat * (IntKind.u64.wrap b).toNat % 18446744073709551616 : Nat) : Int)

theorem mul64_wrap (a b : Int) (w : World) :
    Calls Tryz.prog 90 #[.int .u64 (IntKind.u64.wrap a), .int .u64 (IntKind.u64.wrap b)] w fun e w' => e = .returned (.tuple #[.int .u64 (mulHi a b), .int .u64 (mulLo a b)]) ∧ w = w' := by
  have ha : 0 ≤ IntKind.u64.wrap a ∧ IntKind.u64.wrap a < 18446744073709551616 := by rw [IntKind.wrap_u64]; omega
  have hb : 0 ≤ IntKind.u64.wrap b ∧ IntKind.u64.wrap b < 18446744073709551616 := by rw [IntKind.wrap_u64]; omega
  have h := mul64_any (IntKind.u64.wrap a).toNat (IntKind.u64.wrap b).toNat (by omega) (by omega) w
  rw [Int.toNat_of_nonneg ha.1, Int.toNat_of_nonneg hb.1] at h
  exact h

theorem mul_key (a b : Int) (ha : amtB a = true) (hb : amtB b = true) : (mulHi a b == 0 && decide (mulLo a b ≤ 4611686018427387904)) = amtB (a * b) ∧ (amtB (a * b) = true → wrap64 (mulLo a b) = a * b) := by
  rw [amt_iff] at ha hb
  obtain ⟨m, rfl⟩ := Int.eq_ofNat_of_zero_le ha.1
  obtain ⟨n, rfl⟩ := Int.eq_ofNat_of_zero_le hb.1
  unfold MA at ha hb
  have e1 : IntKind.u64.wrap (m : Int) = (m : Int) := by rw [IntKind.wrap_u64]; omega
  have e2 : IntKind.u64.wrap (n : Int) = (n : Int) := by rw [IntKind.wrap_u64]; omega
  have h0 : 0 ≤ (m : Int) * (n : Int) := Int.mul_nonneg (by omega) (by omega)
  have hc : ((m * n : Nat) : Int) = (m : Int) * (n : Int) := Int.natCast_mul m n
  unfold mulHi mulLo
  rw [e1, e2, Int.toNat_natCast, Int.toNat_natCast]
  generalize hp : m * n = p at *
  rw [← hc] at *
  constructor
  · rw [Bool.eq_iff_iff, amt_iff]
    simp only [Bool.and_eq_true, beq_iff_eq, decide_eq_true_eq]
    unfold MA; omega
  · rw [amt_iff]; unfold MA wrap64; omega

theorem right_mul (a b : Int) (m : Bool) (hm : m = (bothB a b && (mulHi a b == 0) && decide (mulLo a b ≤ 4611686018427387904))) : rightV (wrap64 (mulLo a b)) m = mulV a b ∧ rightE m = mulE a b := by
  subst hm
  unfold rightV rightE mulV mulE mulOK bothB
  cases ha : amtB a <;> cases hb : amtB b <;> simp
  obtain ⟨h1, h2⟩ := mul_key a b ha hb
  have h1' : (mulHi a b = 0 ∧ mulLo a b ≤ 4611686018427387904) ↔ amtB (a * b) = true := by rw [← h1]; simp
  cases h : amtB (a * b)
  · have hn : ¬ (mulHi a b = 0 ∧ mulLo a b ≤ 4611686018427387904) := by rw [h1', h]; simp
    simp only [if_neg hn]; simp
  · have hy : mulHi a b = 0 ∧ mulLo a b ≤ 4611686018427387904 := by rw [h1', h]
    simp only [if_pos hy]; simp [h2 h]


end Go.Proofs.YtbhoakohpfdeoaaGreat
