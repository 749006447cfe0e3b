/- Contracts of sha.prime, sha.root. -/
import Derived.Test.YtbhoakohpfdeoaaGreatSha1
namespace Go.Proofs.YtbhoakohpfdeoaaGreat
open Go.RowKit
set_option linter.unusedVariables false
set_option linter.unusedSimpArgs false

def primeGo (n : Nat) : Nat → Nat → Bool
  | 0, _ => true
  | f + 1, d => if d * d ≤ n then (if n % d = 0 then false else primeGo n f (d + 1)) else true
def primeB (n : Nat) : Bool := primeGo n n 2
set_option maxHeartbeats 1000000 in
theorem prime_any (n : Nat) (hn : n < 1048576) (w : World) : Calls Tryz.prog 82 #[.int .u64 n] w fun e w' => e = .returned (.bool (primeB n)) ∧ w = w' := by
  have HB := Lib.hid (show primeB n = primeGo n n 2 from rfl)
  go_enter Tryz.func82, Tryz.ntmps82
  go_wp2_with fail
  go_loopw [3] (fun i wr => ∃ d f : Nat, i = .int .u64 d ∧ 2 ≤ d ∧ primeB n = primeGo n f d ∧ n ≤ f + d ∧ d ≤ 2000 ∧ wr = w) (fun i _ => 2001 - (intOf i).toNat)
  case atStart => exact ⟨2, n, rfl, Nat.le_refl _, rfl, by omega, by omega, rfl⟩
  case round =>
    obtain ⟨d, f, rfl, h2, hp, hf, hd, rfl⟩ := hrel
    have HP := Lib.hid hp
    clear hp
    have hw : IntKind.u64.wrap ((d : Int) * (d : Int)) = ((d * d : Nat) : Int) := by
      have := Nat.mul_le_mul hd hd
      rw [IntKind.wrap_u64]; omega
    have hd0 : (d : Int) ≠ 0 := by omega
    have hd1 : ¬ ((d : Int) = 0) := by omega
    have hd2 : ((d : Int) == 0) = false := by simp; omega
    by_cases hdd : ((d * d : Nat) : Int) ≤ (n : Int)
    · obtain ⟨f', rfl⟩ : ∃ f', f = f' + 1 := ⟨f - 1, by have := Nat.mul_le_mul_right d h2; omega⟩
      have HS : Hid (primeGo n (f' + 1) d = if n % d = 0 then false else primeGo n f' (d + 1)) := Lib.hid (by
        show (if d * d ≤ n then _ else _) = _
        rw [if_pos (by omega)])
      have hd1000 : d ≤ 1024 := by
        by_cases h : d ≤ 1024
        · exact h
        · have : 1025 * 1025 ≤ d * d := Nat.mul_le_mul (by omega) (by omega)
          omega
      have hdd2 : (d : Int) * (d : Int) ≤ (n : Int) := by rw [← Int.natCast_mul]; exact hdd
      cases hq : ((n : Int) % (d : Int) == 0)
      · have HQ := Lib.hid (show n % d ≠ 0 by simp only [beq_eq_false_iff_ne, ne_eq] at hq; omega)
        go_wp2
        go_roundw
        case rel => exact ⟨d + 1, f', by go_num, by omega, by rw [HP.out, HS.out, if_neg HQ.out], by omega, by omega, by first | rfl | trivial⟩
        case measure => simp [intOf]; omega
      · have HQ := Lib.hid (show n % d = 0 by simp only [beq_iff_eq] at hq; omega)
        go_wp2
        go_ret
        exact ⟨ret_bool (by rw [HP.out, HS.out, if_pos HQ.out]), rfl⟩
    · have hdd2 : ¬ (d : Int) * (d : Int) ≤ (n : Int) := by rw [← Int.natCast_mul]; exact hdd
      have HS : Hid (primeGo n f d = true) := Lib.hid (by
        cases f with
        | zero => rfl
        | succ f =>
          show (if d * d ≤ n then _ else _) = _
          rw [if_neg (by omega)])
      go_wp2
      go_ret
      exact ⟨ret_bool (by rw [HP.out, HS.out]), rfl⟩

def rootGo (fits : Nat → Bool) : Nat → Nat → Nat
  | 0, x => x
  | j + 1, x => rootGo fits j (if fits (x ||| 2 ^ j) = true then x ||| 2 ^ j else x)
theorem or_lt41 (x j : Nat) (hx : x < 2199023255552) (hj : j ≤ 40) : x ||| 2 ^ j < 2199023255552 := by
  have e : (2199023255552 : Nat) = 2 ^ 41 := by decide
  rw [e] at hx ⊢
  exact Nat.or_lt_two_pow hx (Nat.pow_lt_pow_right (by omega) (by omega))
def bitOf (j : Nat) : Nat := if j = 0 then 0 else 2 ^ (j - 1)
set_option maxHeartbeats 1000000 in
theorem root_any (F p : Nat) (fits : Nat → Bool) (hcf : ∀ (args : Array Value) (w : World), (callFunc F args).run Tryz.prog w = .ok (.enter F args) w) (hF : ∀ (x : Nat) (w : World), x < 2199023255552 → Calls Tryz.prog F #[.int .u64 x, .int .u64 p] w fun e w' => e = .returned (.bool (fits x)) ∧ w = w') (w : World) :
    Calls Tryz.prog 83 #[.int .u64 p, .func (.func F) #[] #[]] w fun e w' => e = .returned (.int .u32 ((rootGo fits 41 0 % 4294967296 : Nat) : Int)) ∧ w = w' := by
  have HF := Lib.hid hF
  clear hF
  go_enter Tryz.func83, Tryz.ntmps83
  go_wp2_with fail
  go_loopw [5, 6] (fun x b wr => ∃ y j : Nat, x = .int .u64 y ∧ b = .int .u64 (bitOf j) ∧ j ≤ 41 ∧ y < 2199023255552 ∧ rootGo fits 41 0 = rootGo fits j y ∧ wr = w) (fun _ b _ => (intOf b).toNat)
  case atStart => exact ⟨0, 41, rfl, by rw [show bitOf 41 = 1099511627776 by decide]; rfl, Nat.le_refl _, by decide, rfl, rfl⟩
  case round =>
    obtain ⟨y, j, rfl, rfl, hj, hy, hr, rfl⟩ := hrel
    have HR := Lib.hid hr
    clear hr
    cases j with
    | zero =>
      have hb : bitOf 0 = 0 := rfl
      have HR2 := Lib.hid (show rootGo fits 41 0 = y by rw [HR.out]; rfl)
      rw [hb]
      go_wp2
      go_ret
      exact ⟨ret_int (by rw [HR2.out]; omega), rfl⟩
    | succ j =>
      have hb : bitOf (j + 1) = 2 ^ j := rfl
      rw [hb]
      have hpos : 0 < 2 ^ j := Nat.two_pow_pos j
      have hor := or_lt41 y j hy (by omega)
      have HFX := Lib.hid (HF.out (y ||| 2 ^ j) wr hor)
      have hlt : 2 ^ j < 18446744073709551616 := by
        have : 2 ^ j ≤ 2 ^ 40 := Nat.pow_le_pow_right (by omega) (by omega)
        have e : (2 : Nat) ^ 40 = 1099511627776 := by decide
        omega
      have hbits := bits_or_u64_nat y (2 ^ j) (by omega) hlt
      have HD : Hid (2 ^ j / 2 = bitOf j) := Lib.hid (by
        cases j with
        | zero => rfl
        | succ j => show 2 ^ (j + 1) / 2 = 2 ^ j; rw [Nat.pow_succ]; omega)
      have HS := Lib.hid (show rootGo fits (j + 1) y = rootGo fits j (if fits (y ||| 2 ^ j) = true then y ||| 2 ^ j else y) from rfl)
      generalize 2 ^ j = B at *
      generalize y ||| B = z at *
      cases hq : fits z
      · rw [hq] at HFX HS
        have HN := Lib.hid (show rootGo fits 41 0 = rootGo fits j y by rw [HR.out, HS.out]; rfl)
        clear hq
        go_wp2_with fail
        refine HFX.out.mono ?_
        rintro e w' ⟨rfl, rfl⟩
        go_wp2
        go_roundw
        case rel => exact ⟨y, j, rfl, by rw [← HD.out]; first | rfl | simp, by omega, hy, HN.out, by first | rfl | trivial⟩
        case measure => simp [intOf]; omega
      · rw [hq] at HFX HS
        have HN := Lib.hid (show rootGo fits 41 0 = rootGo fits j z by rw [HR.out, HS.out]; rfl)
        clear hq
        go_wp2_with fail
        refine HFX.out.mono ?_
        rintro e w' ⟨rfl, rfl⟩
        go_wp2
        go_roundw
        case rel => exact ⟨z, j, rfl, by rw [← HD.out]; first | rfl | simp, by omega, hor, HN.out, by first | rfl | trivial⟩
        case measure => simp [intOf]; omega

theorem cube_call (args : Array Value) (w : World) : (callFunc 84 args).run Tryz.prog w = .ok (.enter 84 args) w := by
  go_simp
theorem square_call (args : Array Value) (w : World) : (callFunc 85 args).run Tryz.prog w = .ok (.enter 85 args) w := by
  go_simp
def kWord (p : Nat) : Nat := rootGo (fun x => cubeB x p) 41 0 % 4294967296
def hWord (p : Nat) : Nat := rootGo (fun x => sqB x p) 41 0 % 4294967296
theorem root_cube (p : Nat) (hp : p < 1048576) (w : World) : Calls Tryz.prog 83 #[.int .u64 p, .func (.func 84) #[] #[]] w fun e w' => e = .returned (.int .u32 (kWord p)) ∧ w = w' :=
  root_any _ p (fun x => cubeB x p) cube_call (fun x w hx => cube_any x p hx hp w) w
theorem root_square (p : Nat) (hp : p < 1048576) (w : World) : Calls Tryz.prog 83 #[.int .u64 p, .func (.func 85) #[] #[]] w fun e w' => e = .returned (.int .u32 (hWord p)) ∧ w = w' :=
  root_any _ p (fun x => sqB x p) square_call (fun x w hx => square_any x p (by omega) w) w

end Go.Proofs.YtbhoakohpfdeoaaGreat
