/- cfllaw2.next: the next prime, with its fuel. -/
import Derived.Test.YthncpbihnhpacaaShaS
namespace Go.Proofs.Ythncpbihnhpacaa
open Go.RowKit
set_option linter.unusedVariables false
set_option linter.unusedSimpArgs false

def pF (n : Nat) : Nat → Nat → Bool → Bool
  | 0, _, b => b
  | f + 1, d, b => if d * d ≤ n then pF n f (d + 1) (b && n % d != 0) else b
theorem pF_end (n f d : Nat) (b : Bool) (h : ¬ d * d ≤ n) : pF n f d b = b := by
  cases f with
  | zero => rfl
  | succ f => unfold pF; rw [if_neg h]
theorem pF_step (n f d : Nat) (b : Bool) (h : d * d ≤ n) : pF n (f + 1) d b = pF n f (d + 1) (b && n % d != 0) := by
  rw [pF, if_pos h]
def nF : Nat → Nat → Nat
  | 0, _ => 0
  | f + 1, n => if pF n 30 2 true then n else nF f (n + 1)
theorem nF_yes (f n N : Nat) (h : pF n 30 2 true = true) (hN : nF f n = N) (h0 : 0 < N) : n = N := by
  cases f with
  | zero => simp [nF] at hN; omega
  | succ f => rw [nF, if_pos h] at hN; exact hN
theorem nF_no (f n N : Nat) (h : pF n 30 2 true = false) (hN : nF f n = N) (h0 : 0 < N) : ∃ f', f = f' + 1 ∧ nF f' (n + 1) = N := by
  cases f with
  | zero => simp [nF] at hN; omega
  | succ f => rw [nF, h] at hN; exact ⟨f, rfl, hN⟩
theorem sq_le_20 (d n : Nat) (h : d * d ≤ n) (hn : n ≤ 400) : d ≤ 20 := by
  by_cases hd : d ≤ 20
  · exact hd
  · have : 21 * 21 ≤ d * d := Nat.mul_le_mul (by omega) (by omega)
    omega

set_option maxRecDepth 100000 in
set_option maxHeartbeats 1000000 in
theorem next_any (p N : Nat) (hN : nF 30 (p + 1) = N) (h0 : 0 < N) (hp : p ≤ 350) (w : World) :
    Calls Try.prog 28 #[.int .i64 p] w fun e w' => e = .returned (.int .i64 N) ∧ w' = w := by
  have HN := Lib.hid hN
  have H0 := Lib.hid h0
  have HP := Lib.hid hp
  clear hN h0
  have hw1 : wrap64 ((p : Int) + 1) = (p : Int) + 1 := by unfold wrap64; omega
  have hc1 : ((p + 1 : Nat) : Int) = (p : Int) + 1 := by omega
  go_enter Try.func28, Try.ntmps28
  go_wp2_with fail
  go_loopw [3] (fun s wr => ∃ (n f : Nat), s = .int .i64 n ∧ n + f = p + 31 ∧ p + 1 ≤ n ∧ nF f n = N ∧ wr = w) (fun s _ => 1000 - (intOf s).toNat)
  case atStart => exact ⟨p + 1, 30, by rw [hc1], by omega, by omega, HN.out, rfl⟩
  case round =>
    obtain ⟨n, f, rfl, hnf, hpn, hF, rfl⟩ := hrel
    have HF := Lib.hid hF
    have HNF := Lib.hid hnf
    clear hF hnf
    have HNB : Hid (n ≤ 381) := Lib.hid (by have := HNF.out; omega)
    rename World => w
    clear hw1 hc1
    go_wp2_with fail
    go_loopw [4, 5] (fun b d wr => ∃ (k g : Nat) (B : Bool), d = .int .i64 k ∧ b = .bool B ∧ k + g = 32 ∧ 2 ≤ k ∧ k ≤ 21 ∧ pF n g k B = pF n 30 2 true ∧ wr = w) (fun _ d _ => 1000 - (intOf d).toNat)
    case atStart => exact ⟨2, 30, true, rfl, rfl, by omega, by omega, by omega, rfl, rfl⟩
    case round =>
      obtain ⟨k, g, B, rfl, rfl, hkg, h2k, hk21, hPF, rfl⟩ := hrel
      have HPF := Lib.hid hPF
      have HKG := Lib.hid hkg
      clear hPF hkg
      have hmul : ((k * k : Nat) : Int) = (k : Int) * (k : Int) := by simp
      have HKK : Hid (k * k ≤ 441) := Lib.hid (Nat.mul_le_mul hk21 hk21)
      have hw2 : wrap64 ((k : Int) * (k : Int)) = (k : Int) * (k : Int) := by
        have h1 : ((k * k : Nat) : Int) ≤ 441 := by have := HKK.out; omega
        rw [hmul] at h1
        have h2 : (0 : Int) ≤ ((k * k : Nat) : Int) := by omega
        rw [hmul] at h2
        generalize (k : Int) * (k : Int) = z at *
        unfold wrap64; omega
      have hk0 : (k : Int) ≠ 0 := by omega
      have hke : ((k + 1 : Nat) : Int) = (k : Int) + 1 := by omega
      by_cases hle : k * k ≤ n
      · have HLE := Lib.hid hle
        have hle' : (k : Int) * (k : Int) ≤ (n : Int) := by rw [← hmul]; omega
        have HK20 : Hid (k ≤ 20) := Lib.hid (sq_le_20 k n hle (by have := HNB.out; omega))
        clear hmul hle
        obtain ⟨g', rfl⟩ : ∃ g', g = g' + 1 := ⟨g - 1, by have := HKG.out; have := HK20.out; omega⟩
        have HST := Lib.hid (pF_step n g' k B HLE.out)
        have hrem : ((n : Int) % (k : Int) != 0) = (n % k != 0) := by
          rw [Bool.eq_iff_iff]
          simp only [bne_iff_ne, ne_eq]
          rw [← Int.natCast_emod]
          omega
        cases B
        · go_wp2_with fail
          refine ⟨⟨k + 1, g', false, by rw [hke], rfl, by have := HKG.out; omega, by omega, by have := HK20.out; omega, by have := HPF.out; rw [HST.out] at this; exact this, by trivial⟩, ?_⟩
          simp only [intOf]
          omega
        · go_wp2_with fail
          refine ⟨⟨k + 1, g', (n % k != 0), by rw [hke], by first | rfl | rw [hrem], by have := HKG.out; omega, by omega, by have := HK20.out; omega, by have := HPF.out; rw [HST.out] at this; exact this, by trivial⟩, ?_⟩
          simp only [intOf]
          omega
      · have HLE := Lib.hid hle
        have hle' : ¬ (k : Int) * (k : Int) ≤ (n : Int) := by rw [← hmul]; omega
        have hle2 : (n : Int) < (k : Int) * (k : Int) := Int.not_le.1 hle'
        clear hmul hle
        have HB := Lib.hid (pF_end n g k B HLE.out)
        have HP := HPF.out
        rw [HB.out] at HP
        have HBP := Lib.hid HP
        clear HP
        cases B
        · obtain ⟨f', hf', hF'⟩ := nF_no f n N HBP.out.symm HF.out H0.out
          subst hf'
          have HF' := Lib.hid hF'
          clear hF'
          have hwn : wrap64 ((n : Int) + 1) = (n : Int) + 1 := by have := HNB.out; unfold wrap64; omega
          have hne : ((n + 1 : Nat) : Int) = (n : Int) + 1 := by omega
          go_wp2_with fail
          refine ⟨⟨n + 1, f', by first | rw [hwn, hne] | rw [hne], by have := HNF.out; omega, by omega, HF'.out, by trivial⟩, ?_⟩
          try rw [hwn]
          simp only [intOf]
          have := HNB.out
          omega
        · have HNN := Lib.hid (nF_yes f n N HBP.out.symm HF.out H0.out)
          go_wp2_with fail
          go_ret
          exact ⟨by rw [← HNN.out]; rfl, rfl⟩

end Go.Proofs.Ythncpbihnhpacaa
