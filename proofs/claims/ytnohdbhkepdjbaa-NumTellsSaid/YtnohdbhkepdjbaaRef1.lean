/- Contracts of the references' Sub, Mul, Sum, After (package cflref1). -/
import Derived.Test.YtnohdbhkepdjbaaSum
namespace Go.Proofs.Ytnohdbhkepdjbaa
open Go.RowKit
set_option linter.unusedVariables false

theorem subVE (a b : Int) (h : subOK a b = true) : subV a b = a - b ∧ subE a b = 0 := by simp [subV, subE, h]
theorem subVE' (a b : Int) (h : subOK a b = false) : subV a b = 0 ∧ subE a b = 1 := by simp [subV, subE, h]
theorem mulVE (a b : Int) (h : mulOK a b = true) : mulV a b = a * b ∧ mulE a b = 0 := by simp [mulV, mulE, h]
theorem mulVE' (a b : Int) (h : mulOK a b = false) : mulV a b = 0 ∧ mulE a b = 1 := by simp [mulV, mulE, h]
theorem aftVE (a b : Int) (h : aftOK a b = true) : aftV a b = a + b ∧ aftE a b = 0 := by simp [aftV, aftE, h]
theorem aftVE' (a b : Int) (h : aftOK a b = false) : aftV a b = 0 ∧ aftE a b = 1 := by simp [aftV, aftE, h]

set_option maxHeartbeats 400000 in
theorem rsub_any (a b : Int) (w : World) :
    Calls Try.prog 27 #[.int .i64 a, .int .i64 b] w fun e w' => e = .returned (.tuple #[.int .i64 (subV a b), .int .i64 (subE a b)]) ∧ w = w' := by
  by_cases ha : amtB a = true
  · by_cases hb : amtB b = true
    · have hA := (amt_iff a).1 ha
      have hB := (amt_iff b).1 hb
      unfold MA at hA hB
      obtain ⟨hA1, hA2⟩ := hA
      obtain ⟨hB1, hB2⟩ := hB
      by_cases hs : b ≤ a
      · have HR := Lib.hid (subVE a b (by simp [subOK, bothB, ha, hb, hs]))
        go_enter Try.func27, Try.ntmps27
        go_wp2_with (go_at_call 31; refine (ramount_any _ _).mono ?_; rintro e w' ⟨rfl, rfl⟩)
        go_ret2
        exact ⟨ret_two HR.out.1.symm HR.out.2.symm, rfl⟩
      · have HR := Lib.hid (subVE' a b (by simp [subOK, bothB, ha, hb, hs]))
        go_enter Try.func27, Try.ntmps27
        go_wp2_with (go_at_call 31; refine (ramount_any _ _).mono ?_; rintro e w' ⟨rfl, rfl⟩)
        go_ret2
        exact ⟨ret_two HR.out.1.symm HR.out.2.symm, rfl⟩
    · simp at hb
      have HR := Lib.hid (subVE' a b (by simp [subOK, bothB, hb]))
      go_enter Try.func27, Try.ntmps27
      go_wp2_with (go_at_call 31; refine (ramount_any _ _).mono ?_; rintro e w' ⟨rfl, rfl⟩)
      go_ret2
      exact ⟨ret_two HR.out.1.symm HR.out.2.symm, rfl⟩
  · simp at ha
    have HR := Lib.hid (subVE' a b (by simp [subOK, bothB, ha]))
    go_enter Try.func27, Try.ntmps27
    go_wp2_with (go_at_call 31; refine (ramount_any _ _).mono ?_; rintro e w' ⟨rfl, rfl⟩)
    go_ret2
    exact ⟨ret_two HR.out.1.symm HR.out.2.symm, rfl⟩

theorem mul_div_iff (a b : Int) (ha : 0 ≤ a) (hb : 0 < b) : 4611686018427387904 / b < a ↔ 4611686018427387904 < a * b := by
  rw [Int.ediv_lt_iff_lt_mul hb]
theorem mulOK_iff (a b : Int) (ha : amtB a = true) (hb : amtB b = true) : mulOK a b = true ↔ a * b ≤ 4611686018427387904 := by
  have hA := (amt_iff a).1 ha
  have hB := (amt_iff b).1 hb
  have h0 : 0 ≤ a * b := Int.mul_nonneg hA.1 hB.1
  simp [mulOK, bothB, ha, hb]; rw [amt_iff]; unfold MA; omega

set_option maxHeartbeats 400000 in
theorem rmul_any (a b : Int) (w : World) :
    Calls Try.prog 28 #[.int .i64 a, .int .i64 b] w fun e w' => e = .returned (.tuple #[.int .i64 (mulV a b), .int .i64 (mulE a b)]) ∧ w = w' := by
  by_cases ha : amtB a = true
  · by_cases hb : amtB b = true
    · have hA := (amt_iff a).1 ha
      have hB := (amt_iff b).1 hb
      have hK := mulOK_iff a b ha hb
      unfold MA at hA hB
      obtain ⟨hA1, hA2⟩ := hA
      obtain ⟨hB1, hB2⟩ := hB
      have h00 : 0 ≤ a * b := Int.mul_nonneg hA1 hB1
      by_cases hz : 0 < b
      · have hD := mul_div_iff a b hA1 hz
        by_cases hs : 4611686018427387904 / b < a
        · have HR := Lib.hid (mulVE' a b (by rw [← Bool.not_eq_true, hK]; have := hD.1 hs; omega))
          clear hK hD h00
          go_enter Try.func28, Try.ntmps28
          go_wp2_with (go_at_call 31; refine (ramount_any _ _).mono ?_; rintro e w' ⟨rfl, rfl⟩)
          go_ret2
          exact ⟨ret_two HR.out.1.symm HR.out.2.symm, rfl⟩
        · have hle : a * b ≤ 4611686018427387904 := Int.not_lt.1 (fun h => hs (hD.2 h))
          have HR := Lib.hid (mulVE a b (by rw [hK]; exact hle))
          clear hK hD
          go_enter Try.func28, Try.ntmps28
          go_wp2_with (go_at_call 31; refine (ramount_any _ _).mono ?_; rintro e w' ⟨rfl, rfl⟩)
          go_ret2
          exact ⟨ret_two HR.out.1.symm HR.out.2.symm, rfl⟩
      · have hb0 : b = 0 := by omega
        subst hb0
        have HR := Lib.hid (mulVE a 0 (by rw [hK]; simp))
        clear hK h00
        go_enter Try.func28, Try.ntmps28
        go_wp2_with (go_at_call 31; refine (ramount_any _ _).mono ?_; rintro e w' ⟨rfl, rfl⟩)
        go_ret2
        exact ⟨ret_two (by rw [HR.out.1]; simp) HR.out.2.symm, rfl⟩
    · simp at hb
      have HR := Lib.hid (mulVE' a b (by simp [mulOK, bothB, hb]))
      go_enter Try.func28, Try.ntmps28
      go_wp2_with (go_at_call 31; refine (ramount_any _ _).mono ?_; rintro e w' ⟨rfl, rfl⟩)
      go_ret2
      exact ⟨ret_two HR.out.1.symm HR.out.2.symm, rfl⟩
  · simp at ha
    have HR := Lib.hid (mulVE' a b (by simp [mulOK, bothB, ha]))
    go_enter Try.func28, Try.ntmps28
    go_wp2_with (go_at_call 31; refine (ramount_any _ _).mono ?_; rintro e w' ⟨rfl, rfl⟩)
    go_ret2
    exact ⟨ret_two HR.out.1.symm HR.out.2.symm, rfl⟩

set_option maxHeartbeats 400000 in
theorem rafter_any (a b : Int) (w : World) :
    Calls Try.prog 30 #[.int .i64 a, .int .i64 b] w fun e w' => e = .returned (.tuple #[.int .i64 (aftV a b), .int .i64 (aftE a b)]) ∧ w = w' := by
  by_cases ha : tickB a = true
  · by_cases hb : tickB b = true
    · have hA := (tick_iff a).1 ha
      have hB := (tick_iff b).1 hb
      unfold MT at hA hB
      obtain ⟨hA1, hA2⟩ := hA
      obtain ⟨hB1, hB2⟩ := hB
      by_cases hs : tickB (a + b) = true
      · have HR := Lib.hid (aftVE a b (by simp [aftOK, ha, hb, hs]))
        go_enter Try.func30, Try.ntmps30
        go_wp2_with (go_at_call 32; refine (rtick_any _ _).mono ?_; rintro e w' ⟨rfl, rfl⟩)
        go_ret2
        exact ⟨ret_two HR.out.1.symm HR.out.2.symm, rfl⟩
      · simp at hs
        have HR := Lib.hid (aftVE' a b (by simp [aftOK, ha, hb, hs]))
        go_enter Try.func30, Try.ntmps30
        go_wp2_with (go_at_call 32; refine (rtick_any _ _).mono ?_; rintro e w' ⟨rfl, rfl⟩)
        go_ret2
        exact ⟨ret_two HR.out.1.symm HR.out.2.symm, rfl⟩
    · simp at hb
      have HR := Lib.hid (aftVE' a b (by simp [aftOK, hb]))
      go_enter Try.func30, Try.ntmps30
      go_wp2_with (go_at_call 32; refine (rtick_any _ _).mono ?_; rintro e w' ⟨rfl, rfl⟩)
      go_ret2
      exact ⟨ret_two HR.out.1.symm HR.out.2.symm, rfl⟩
  · simp at ha
    have HR := Lib.hid (aftVE' a b (by simp [aftOK, ha]))
    go_enter Try.func30, Try.ntmps30
    go_wp2_with (go_at_call 32; refine (rtick_any _ _).mono ?_; rintro e w' ⟨rfl, rfl⟩)
    go_ret2
    exact ⟨ret_two HR.out.1.symm HR.out.2.symm, rfl⟩


set_option maxHeartbeats 400000 in
theorem rsum_any (ao : Option Addr) (zs : List Int) (cap : Nat) (w : World) (h : IntsAt .i64 w ao zs) (hm : zs.length ≤ 9223372036854775807) :
    Calls Try.prog 29 #[.slice ao zs.length cap] w fun e w' => e = .returned (.tuple #[.int .i64 (sumV zs), .int .i64 (sumE zs)]) ∧ w = w' := by
  go_enter Try.func29, Try.ntmps29
  go_wp2
  go_loop [4, 5] (fun t i => ∃ k : Nat, k ≤ zs.length ∧ i = .int .i64 k ∧ sumE (zs.take k) = 0 ∧ t = .int .i64 (sumV (zs.take k))) (fun _ i => zs.length - (intOf i).toNat)
  case atStart => exact ⟨0, Nat.zero_le _, rfl, rfl, rfl⟩
  case round =>
    obtain ⟨k, hk, rfl, he, rfl⟩ := hrel
    by_cases hlt : k < zs.length
    · have HS := Lib.hid (sum_go zs k hlt he)
      rcases h with rfl | ⟨b, off, rfl, hc⟩
      · simp at hlt
      have hcell := hc k hlt
      clear hc he
      rcases addE_cases (sumV (zs.take k)) zs[k] with h0 | ⟨h1, hv⟩
      · go_wp2_with (go_at_call 26; refine (radd_any _ _ _).mono ?_; rintro e w' ⟨rfl, rfl⟩)
        go_round
        case rel => exact ⟨k + 1, by omega, by go_num, by rw [HS.out.2, h0], by rw [HS.out.1]⟩
        case measure => simp [intOf]; omega
      · have HT := Lib.hid (sum_stop zs (k + 1) (by rw [HS.out.2, h1]; decide))
        have HV := Lib.hid hv
        have HE := Lib.hid h1
        have h1' : (addE (sumV (zs.take k)) zs[k] != 0) = true := by rw [h1]; rfl
        clear hv h1
        go_wp2_with (go_at_call 26; refine (radd_any _ _ _).mono ?_; rintro e w' ⟨rfl, rfl⟩)
        go_ret2
        exact ⟨ret_two ((HV.out.symm.trans HS.out.1.symm).trans (congrArg Prod.fst HT.out.symm)) (HS.out.2.symm.trans (congrArg Prod.snd HT.out.symm)), rfl⟩
    · have hkk : zs.length ≤ k := by omega
      have HT := Lib.hid (List.take_of_length_le hkk)
      have HE := Lib.hid he
      clear he hlt
      go_wp2
      go_ret2
      exact ⟨ret_two (congrArg sumV HT.out) (HE.out.symm.trans (congrArg sumE HT.out)), rfl⟩

end Go.Proofs.Ytnohdbhkepdjbaa
