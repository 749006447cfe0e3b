/- ShaWords is true for every input; no condition: the walk. -/
import Derived.Test.YthncpbihnhpacaaWords1
import Derived.Test.YthncpbihnhpacaaWords3
namespace Go.Proofs.Ythncpbihnhpacaa
open Go.RowKit
set_option linter.unusedVariables false
set_option linter.unusedSimpArgs false

def primesL : List Nat := [2, 3, 5, 7, 11, 13, 17, 19, 23, 29, 31, 37, 41, 43, 47, 53, 59, 61, 67, 71, 73, 79, 83, 89, 97, 101, 103, 107, 109, 113, 127, 131, 137, 139, 149, 151, 157, 163, 167, 173, 179, 181, 191, 193, 197, 199, 211, 223, 227, 229, 233, 239, 241, 251, 257, 263, 269, 271, 277, 281, 283, 293, 307, 311]
def pN (n : Nat) : Nat := primesL.getD n 0
theorem pN_next : ∀ n : Fin 63, nF 30 (pN n.val + 1) = pN (n.val + 1) := by decide +kernel
theorem pN_le : ∀ n : Fin 64, 1 ≤ pN n.val ∧ pN n.val ≤ 311 := by decide +kernel
def wordOk (i v : Nat) : Bool := !(decide (v * v * v ≤ pN i) && decide (pN i < (v + 1) * (v + 1) * (v + 1))) || (decide (cubeF (v : Int) (kB (i : Int)) (pN i : Int) ≤ 0) && decide (0 < cubeF (v : Int) (kB (i : Int) + 1) (pN i : Int)) && decide (kB (i : Int) + 1 < 4294967296))
theorem words_ok : ∀ i : Fin 64, ∀ v : Fin 8, wordOk i.val v.val = true := by decide +kernel

theorem word_law (i v : Nat) (hi : i < 64) (hv : v < 8) (h1 : v * v * v ≤ pN i) (h2 : pN i < (v + 1) * (v + 1) * (v + 1)) : cubeF (v : Int) (kB (i : Int)) (pN i : Int) ≤ 0 ∧ 0 < cubeF (v : Int) (kB (i : Int) + 1) (pN i : Int) ∧ kB (i : Int) + 1 < 4294967296 := by
  have h := words_ok ⟨i, hi⟩ ⟨v, hv⟩
  unfold wordOk at h
  simp only [h1, h2, decide_true, Bool.and_self, Bool.not_true, Bool.false_or, Bool.and_eq_true, decide_eq_true_eq] at h
  exact ⟨h.1.1, h.1.2, h.2⟩

set_option maxRecDepth 100000 in
set_option maxHeartbeats 4000000 in
theorem swords_core (W : World) (I : Int) :
    Calls Try.prog 8 #[.int .i64 I] W fun e w' => e = .returned (.bool true) ∧ Below W.heap.size W w' := by
  go_enter Try.func8, Try.ntmps8
  go_wp2_with fail
  refine (first2_any W).mono ?_
  rintro e w1 ⟨rfl, hb1⟩
  have HB1 := Lib.hid hb1
  clear hb1
  go_wp2_with fail
  refine (newTable_any w1).mono ?_
  rintro e w2 ⟨rfl, ht2, hb2⟩
  have HT2 := Lib.hid ht2
  have HB2 : Hid (Below W.heap.size W w2) := Lib.hid (below_step HB1.out hb2)
  have HLT := Lib.hid HB1.out.size
  generalize w1.heap.size = tb at *
  clear hb2 ht2 HB1
  by_cases hq0 : I < 0
  · have HK0 := Lib.hid (show kB I = 0 by unfold kB; rw [if_neg (by omega)])
    go_wp2_with fail
    refine (first2_any w2).mono ?_
    rintro e w3 ⟨rfl, hb3⟩
    have HT3 := Lib.hid (HT2.out.below hb3)
    have HB3 : Hid (Below W.heap.size W w3) := Lib.hid (below_step HB2.out hb3)
    clear hb3
    go_wp2_with fail
    refine (word_any tb I w3 HT3.out).mono ?_
    rintro e w4 ⟨rfl, ht4⟩
    rw [HK0.out]
    have HB4 : Hid (Below W.heap.size W w4) := Lib.hid (below_keeps HB3.out ht4.2 HLT.out)
    clear ht4
    go_wp2
    go_ret
    exact ⟨rfl, HB4.out⟩
  by_cases hq1 : (63 : Int) < I
  · have HK0 := Lib.hid (show kB I = 0 by unfold kB; rw [if_neg (by omega)])
    go_wp2_with fail
    refine (first2_any w2).mono ?_
    rintro e w3 ⟨rfl, hb3⟩
    have HT3 := Lib.hid (HT2.out.below hb3)
    have HB3 : Hid (Below W.heap.size W w3) := Lib.hid (below_step HB2.out hb3)
    clear hb3
    go_wp2_with fail
    refine (word_any tb I w3 HT3.out).mono ?_
    rintro e w4 ⟨rfl, ht4⟩
    rw [HK0.out]
    have HB4 : Hid (Below W.heap.size W w4) := Lib.hid (below_keeps HB3.out ht4.2 HLT.out)
    clear ht4
    go_wp2
    go_ret
    exact ⟨rfl, HB4.out⟩
  obtain ⟨k, rfl⟩ := Int.eq_ofNat_of_zero_le (Int.not_lt.1 hq0)
  have HK : Hid (k < 64) := Lib.hid (by omega)
  go_upto_region 6 with fail
  clear hq0 hq1
  go_wp2_with fail
  go_loopw [4, 5] (fun s t wr => ∃ n : Nat, n ≤ k ∧ t = .int .i64 n ∧ s = .int .i64 (pN n : Nat) ∧ wr = w2) (fun _ t _ => k - (intOf t).toNat)
  case atStart => exact ⟨0, Nat.zero_le _, rfl, rfl, rfl⟩
  case round =>
    obtain ⟨n, hn, rfl, rfl, rfl⟩ := hrel
    rename World => w2
    by_cases hlt : n < k
    · have HN := Lib.hid (pN_next ⟨n, by have := HK.out; omega⟩)
      have HN1 := Lib.hid (pN_le ⟨n + 1, by have := HK.out; omega⟩)
      have HN0 := Lib.hid (pN_le ⟨n, by have := HK.out; omega⟩)
      have HNX := Lib.hid (next_any (pN n) (pN (n + 1)) HN.out HN1.out.1 (Nat.le_trans HN0.out.2 (by omega)) w2)
      have hke : ((n + 1 : Nat) : Int) = (n : Int) + 1 := by omega
      have hkw : wrap64 ((n : Int) + 1) = (n : Int) + 1 := by have := HK.out; unfold wrap64; omega
      have b0 : (n : Int) < (k : Int) := by omega
      generalize pN n = p0 at *
      generalize hp1 : pN (n + 1) = p1 at *
      have HP1 := Lib.hid hp1
      clear hp1
      go_wp2_with fail
      refine HNX.out.mono ?_
      rintro e w3 ⟨rfl, rfl⟩
      go_wp2_with fail
      refine ⟨⟨n + 1, by omega, by first | rw [hkw, hke] | rw [hke], by rw [HP1.out], by trivial⟩, ?_⟩
      try rw [hkw]
      simp only [intOf]
      omega
    · obtain rfl : n = k := by omega
      have HPL := Lib.hid (pN_le ⟨n, HK.out⟩)
      have HWL := Lib.hid (fun v hv => word_law n v HK.out hv)
      have HKB := Lib.hid (kB_in (n : Int))
      generalize pN n = p at *
      go_wp2_with fail
      go_loopw [6] (fun s wr => ∃ v : Nat, v ≤ 6 ∧ s = .int .i64 v ∧ v * v * v ≤ p ∧ wr = w2) (fun s _ => 10 - (intOf s).toNat)
      case atStart => exact ⟨1, by omega, rfl, by have := HPL.out; omega, rfl⟩
      case round =>
        obtain ⟨v, hv, rfl, hvp, rfl⟩ := hrel
        rename World => w2
        have HVP := Lib.hid hvp
        clear hvp
        have hve : ((v + 1 : Nat) : Int) = (v : Int) + 1 := by omega
        have hw1 : wrap64 ((v : Int) + 1) = (v : Int) + 1 := by unfold wrap64; omega
        have HQ : Hid ((((v + 1) * (v + 1) * (v + 1) : Nat) : Int) = ((v : Int) + 1) * ((v : Int) + 1) * ((v : Int) + 1)) := Lib.hid (by simp)
        have HQL : Hid ((v + 1) * (v + 1) * (v + 1) ≤ 343) := Lib.hid (by
          have h1 : (v + 1) * (v + 1) ≤ 7 * 7 := Nat.mul_le_mul (by omega) (by omega)
          have h2 : (v + 1) * (v + 1) * (v + 1) ≤ 49 * 7 := Nat.mul_le_mul h1 (by omega)
          omega)
        have HQ2 : Hid ((v + 1) * (v + 1) ≤ 49) := Lib.hid (Nat.mul_le_mul (show v + 1 ≤ 7 by omega) (show v + 1 ≤ 7 by omega))
        have hw2 : wrap64 (((v : Int) + 1) * ((v : Int) + 1)) = ((v : Int) + 1) * ((v : Int) + 1) := by
          have h1 : (((v + 1) * (v + 1) : Nat) : Int) = ((v : Int) + 1) * ((v : Int) + 1) := by simp
          have h2 := HQ2.out
          rw [← h1]
          generalize (v + 1) * (v + 1) = z at *
          unfold wrap64; omega
        have hw3 : wrap64 (((v : Int) + 1) * ((v : Int) + 1) * ((v : Int) + 1)) = ((v : Int) + 1) * ((v : Int) + 1) * ((v : Int) + 1) := by
          have h2 := HQL.out
          rw [← HQ.out]
          generalize (v + 1) * (v + 1) * (v + 1) = z at *
          unfold wrap64; omega
        by_cases hle : (v + 1) * (v + 1) * (v + 1) ≤ p
        · have HLE := Lib.hid hle
          have hle' : ((v : Int) + 1) * ((v : Int) + 1) * ((v : Int) + 1) ≤ (p : Int) := by rw [← HQ.out]; omega
          have HV5 : Hid (v ≤ 5) := Lib.hid (by
            by_cases h : v ≤ 5
            · exact h
            · obtain rfl : v = 6 := by omega
              have := HPL.out; omega)
          clear hle
          go_wp2_with fail
          refine ⟨⟨v + 1, by have := HV5.out; omega, by first | rw [hw1, hve] | rw [hve], HLE.out, by trivial⟩, ?_⟩
          try rw [hw1]
          simp only [intOf]
          omega
        · have HLW := Lib.hid (HWL.out v (by omega) HVP.out (by omega))
          have hle' : ¬ ((v : Int) + 1) * ((v : Int) + 1) * ((v : Int) + 1) ≤ (p : Int) := by rw [← HQ.out]; omega
          have hle2 : (p : Int) < ((v : Int) + 1) * ((v : Int) + 1) * ((v : Int) + 1) := Int.not_le.1 hle'
          clear hle
          go_wp2_with fail
          refine (first2_any w2).mono ?_
          rintro e w3 ⟨rfl, hb3⟩
          have HT3 := Lib.hid (HT2.out.below hb3)
          have HB3 : Hid (Below W.heap.size W w3) := Lib.hid (below_step HB2.out hb3)
          clear hb3 hw1 hw2 hw3 hle' hle2
          go_wp2_with fail
          refine (word_any tb (n : Int) w3 HT3.out).mono ?_
          rintro e w4 ⟨rfl, ht4⟩
          have HT4 := Lib.hid ht4.ok
          have HB4 : Hid (Below W.heap.size W w4) := Lib.hid (below_keeps HB3.out ht4.2 HLT.out)
          clear ht4
          obtain ⟨K, hK⟩ : ∃ K, K = kB (n : Int) := ⟨_, rfl⟩
          rw [← hK] at HLW HKB ⊢
          have HKE := Lib.hid hK
          clear hK HWL
          have HC := Lib.hid (cube_any2 v p K w4 (by omega) (by have := HPL.out; omega) HKB.out)
          have h1 := HLW.out.1
          generalize cubeF (v : Int) K (p : Int) = X1 at *
          go_wp2_with fail
          refine HC.out.mono ?_
          rintro e w5 ⟨rfl, hb5⟩
          have HT5 := Lib.hid (HT4.out.below hb5)
          have HB5 : Hid (Below W.heap.size W w5) := Lib.hid (below_step HB4.out hb5)
          clear hb5
          go_wp2_with fail
          refine (word_any tb (n : Int) w5 HT5.out).mono ?_
          rintro e w6 ⟨rfl, ht6⟩
          have HB6 : Hid (Below W.heap.size W w6) := Lib.hid (below_keeps HB5.out ht6.2 HLT.out)
          clear ht6
          rw [← HKE.out]
          have hk1 : IntKind.u32.wrap (K + 1) = K + 1 := by
            rw [IntKind.wrap_u32']
            have := HKB.out.1
            have := HLW.out.2.2
            omega
          have HC2 := Lib.hid (cube_any2 v p (K + 1) w6 (by omega) (by have := HPL.out; omega) ⟨by have := HKB.out.1; omega, HLW.out.2.2⟩)
          have h2 := HLW.out.2.1
          generalize cubeF (v : Int) (K + 1) (p : Int) = X2 at *
          have hk2 : (K + 1) % 4294967296 = K + 1 := by rw [← IntKind.wrap_u32']; exact hk1
          go_wp2_with fail
          refine HC2.out.mono ?_
          rintro e w7 ⟨rfl, hb7⟩
          have HB7 : Hid (Below W.heap.size W w7) := Lib.hid (below_step HB6.out hb7)
          clear hb7
          go_wp2
          go_ret
          exact ⟨rfl, HB7.out⟩

theorem walk_shaWords (I : Int) (wi : (Lit.int .i64 I).wf = true) (W : World) :
    Calls Try.prog 8 #[.int .i64 I] W fun e w' => e = .returned (.bool true) ∧ Below W.heap.size W w' := swords_core W I

end Go.Proofs.Ythncpbihnhpacaa
