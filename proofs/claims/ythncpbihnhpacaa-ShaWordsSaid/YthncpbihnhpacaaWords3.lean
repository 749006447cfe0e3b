/- cfllaw2.cube. -/
import Derived.Test.YthncpbihnhpacaaWords2
namespace Go.Proofs.Ythncpbihnhpacaa
open Go.RowKit
set_option linter.unusedVariables false
set_option linter.unusedSimpArgs false

def topK (c : List Int) : Nat → Int
  | 0 => 0
  | j + 1 => bits .or .u64 (IntKind.u64.wrap (topK c j * 65536)) (c.getD (10 - j) 0)
def restK (c : List Int) : Nat → Bool
  | 0 => false
  | j + 1 => restK c j || (c.getD j 0 != 0)
def digL (v x : Int) : List Int := [x % 65536, x / 65536, v]
def cubeL (v x : Int) : List Int := timesF (timesF (digL v x) (digL v x)) (digL v x)
def cubeF (v x p : Int) : Int := if topK (cubeL v x) 5 < p then -1 else if p < topK (cubeL v x) 5 || restK (cubeL v x) 6 then 1 else 0

theorem digL_dig (v x : Int) (hv : 0 ≤ v ∧ v ≤ 7) (hx : InU x) : Dig (digL v x) := fun j => by
  have h1 := hx.1
  have h2 := hx.2
  unfold digL
  match j with
  | 0 => simp; omega
  | 1 => simp; omega
  | 2 => simp; omega
  | j + 3 => simp
theorem timesF_dig {xs bs : List Int} (h1 : Dig xs) (h2 : Dig bs) : Dig (timesF xs bs) := (mulI_facts h1 h2 _).1
theorem timesF_len {xs bs : List Int} (h1 : Dig xs) (h2 : Dig bs) : (timesF xs bs).length = xs.length + bs.length + 1 := (mulI_facts h1 h2 _).2.1

set_option maxRecDepth 100000 in
set_option maxHeartbeats 2000000 in
theorem cube_any2 (v p : Nat) (x : Int) (w : World) (hv : v ≤ 7) (hp : p ≤ 400) (hx : InU x) :
    Calls Try.prog 29 #[.int .i64 v, .int .u32 x, .int .i64 p] w fun e w' => e = .returned (.int .i64 (cubeF v x p)) ∧ Below w.heap.size w w' := by
  have HD := Lib.hid (digL_dig v x (by omega) hx)
  have HX := Lib.hid hx
  have HV := Lib.hid hv
  have HP := Lib.hid hp
  have wa : bits .and .u32 x 65535 = x % 65536 := by
    obtain ⟨k, rfl⟩ := Int.eq_ofNat_of_zero_le hx.1
    have := hx.2
    rw [show (65535 : Int) = ((65535 : Nat) : Int) from rfl, u32_and_nat k 65535 (by omega) (by omega), show (65535 : Nat) = 2 ^ 16 - 1 from rfl, Nat.and_two_pow_sub_one_eq_mod]
    omega
  have wb : IntKind.u64.wrap (x / 65536) = x / 65536 := wrap_u64_small _ (by have := hx.1; omega) (by have := hx.2; omega)
  have wc : IntKind.u64.wrap (v : Int) = (v : Int) := wrap_u64_small _ (by omega) (by omega)
  have HWP : Hid (IntKind.u64.wrap (p : Int) = (p : Int)) := Lib.hid (wrap_u64_small _ (by omega) (by omega))
  have HD1 := Lib.hid (timesF_dig HD.out HD.out)
  have HL1 : Hid ((timesF (digL v x) (digL v x)).length = 7) := Lib.hid (by rw [timesF_len HD.out HD.out]; rfl)
  have HD2 : Hid (Dig (cubeL v x)) := Lib.hid (timesF_dig HD1.out HD.out)
  have HL2 : Hid ((cubeL v x).length = 11) := Lib.hid (by unfold cubeL; rw [timesF_len HD1.out HD.out, HL1.out]; rfl)
  clear hx hv hp
  obtain ⟨w1, hw1⟩ : ∃ w1, w1 = w.alloc (.cells #[.int .u64 (x % 65536), .int .u64 (x / 65536), .int .u64 v] 73) := ⟨_, rfl⟩
  have HR1 : Hid (RowU w1 w.heap.size (digL v x)) := Lib.hid (by rw [hw1]; exact heap_alloc_new _ _)
  have HB1 : Hid (Below w.heap.size w w1) := Lib.hid (by rw [hw1]; exact (Below.refl _ _).alloc (Nat.le_refl _) _)
  have HW1 := Lib.hid hw1
  have HT1 : Hid (Calls Try.prog 48 #[.slice (some ⟨w.heap.size, 0, none⟩) 3 3, .slice (some ⟨w.heap.size, 0, none⟩) 3 3] w1 fun e w' => e = .returned (.slice (some ⟨w1.heap.size, 0, none⟩) 7 7) ∧ RowU w' w1.heap.size (timesF (digL v x) (digL v x)) ∧ Below w1.heap.size w1 w') := Lib.hid (times_any (some ⟨w.heap.size, 0, none⟩) (some ⟨w.heap.size, 0, none⟩) (digL v x) (digL v x) 3 3 3 3 w1 rfl rfl HR1.out.ints HR1.out.ints HD.out HD.out (by omega) (by omega))
  clear hw1
  go_enter Try.func29, Try.ntmps29
  go_wp2_with fail
  rw [← HW1.out]
  clear HW1
  refine HT1.out.mono ?_
  rintro e w2 ⟨rfl, hr2, hb2⟩
  have HR2 := Lib.hid hr2
  have HA2 := Lib.hid (HR1.out.same (hb2.block _ HR1.out.lt))
  have HB2 : Hid (Below w.heap.size w w2) := Lib.hid (below_step HB1.out hb2)
  have HT2 : Hid (Calls Try.prog 48 #[.slice (some ⟨w1.heap.size, 0, none⟩) 7 7, .slice (some ⟨w.heap.size, 0, none⟩) 3 3] w2 fun e w' => e = .returned (.slice (some ⟨w2.heap.size, 0, none⟩) 11 11) ∧ RowU w' w2.heap.size (cubeL v x) ∧ Below w2.heap.size w2 w') := Lib.hid (times_any (some ⟨w1.heap.size, 0, none⟩) (some ⟨w.heap.size, 0, none⟩) (timesF (digL v x) (digL v x)) (digL v x) 7 3 7 3 w2 HL1.out rfl HR2.out.ints HA2.out.ints HD1.out HD.out (by omega) (by omega))
  clear hr2 hb2 HT1
  generalize x % 65536 = d0 at *
  generalize x / 65536 = d1 at *
  go_wp2_with fail
  refine HT2.out.mono ?_
  rintro e w3 ⟨rfl, hr3, hb3⟩
  have HR3 := Lib.hid hr3
  have HB3 : Hid (Below w.heap.size w w3) := Lib.hid (below_step HB2.out hb3)
  clear hr3 hb3 HT2
  generalize w2.heap.size = g at *
  have HCF : Hid (cubeF v x p = if topK (cubeL v x) 5 < p then -1 else if p < topK (cubeL v x) 5 || restK (cubeL v x) 6 then 1 else 0) := Lib.hid rfl
  generalize cubeL v x = C at *
  clear HD1 HL1 HD HR2 HA2 wa wb
  go_wp2_with fail
  go_loopw [10, 11] (fun s t wr => ∃ j : Nat, j ≤ 5 ∧ t = .int .i64 (10 - (j : Int)) ∧ s = .int .u64 (topK C j) ∧ wr = w3) (fun _ t _ => (intOf t).toNat)
  case atStart => exact ⟨0, by omega, rfl, rfl, rfl⟩
  case round =>
    obtain ⟨j, hj, rfl, rfl, rfl⟩ := hrel
    rename World => w3
    by_cases hlt : j < 5
    · obtain ⟨cc, cf⟩ := HR3.out.cell (10 - j) (by rw [HL2.out]; omega)
      have HTS : Hid (topK C (j + 1) = bits .or .u64 (IntKind.u64.wrap (topK C j * 65536)) (C.getD (10 - j) 0)) := Lib.hid rfl
      obtain ⟨T, hT⟩ : ∃ T, T = topK C j := ⟨_, rfl⟩
      rw [← hT] at HTS
      have HT := Lib.hid hT
      rw [← hT]
      clear hT
      generalize C.getD (10 - j) 0 = z at *
      have b1 : (6 : Int) ≤ 10 - (j : Int) := by omega
      have b2 : (10 : Int) - (j : Int) < 11 := by omega
      have b3 : (0 : Int) ≤ 10 - (j : Int) := by omega
      have b4 : ((10 : Int) - (j : Int)).toNat = 10 - j := by omega
      have hke : (10 : Int) - (j : Int) - 1 = 10 - ((j + 1 : Nat) : Int) := by omega
      go_wp2_with fail
      refine ⟨⟨j + 1, by omega, by rw [Int.natCast_add]; rfl, by rw [HTS.out], by trivial⟩, ?_⟩
      simp only [intOf]
      omega
    · obtain rfl : j = 5 := by omega
      generalize topK C 5 = T at *
      go_wp2_with fail
      go_loopw [12, 13] (fun s t wr => ∃ j : Nat, j ≤ 6 ∧ t = .int .i64 (j : Int) ∧ s = .bool (restK C j) ∧ wr = w3) (fun _ t _ => 6 - (intOf t).toNat)
      case atStart => exact ⟨0, by omega, rfl, rfl, rfl⟩
      case round =>
        obtain ⟨j, hj, rfl, rfl, rfl⟩ := hrel
        rename World => w3
        by_cases hlt : j < 6
        · obtain ⟨cc, cf⟩ := HR3.out.cell j (by rw [HL2.out]; omega)
          have HTS : Hid (restK C (j + 1) = (restK C j || (C.getD j 0 != 0))) := Lib.hid rfl
          obtain ⟨R, hR⟩ : ∃ R, R = restK C j := ⟨_, rfl⟩
          rw [← hR] at HTS
          have HR := Lib.hid hR
          rw [← hR]
          clear hR
          generalize C.getD j 0 = z at *
          have b1 : (j : Int) < 6 := by omega
          have b2 : (j : Int) < 11 := by omega
          have b3 : (0 : Int) ≤ (j : Int) := by omega
          have hke : ((j + 1 : Nat) : Int) = (j : Int) + 1 := by omega
          cases R
          · go_wp2_with fail
            refine ⟨⟨j + 1, by omega, by rw [hke], by rw [HTS.out]; rfl, by trivial⟩, ?_⟩
            simp only [intOf]
            omega
          · go_wp2_with fail
            refine ⟨⟨j + 1, by omega, by rw [hke], by rw [HTS.out]; rfl, by trivial⟩, ?_⟩
            simp only [intOf]
            omega
        · obtain rfl : j = 6 := by omega
          generalize restK C 6 = R at *
          have wp := HWP.out
          by_cases h1 : T < (p : Int)
          · go_wp2_with fail
            go_ret
            exact ⟨by rw [HCF.out, if_pos h1]; rfl, HB3.out⟩
          · by_cases h2 : (p : Int) < T
            · go_wp2_with fail
              go_ret
              exact ⟨by rw [HCF.out, if_neg (show ¬ T < (p : Int) by omega), if_pos (by rw [decide_eq_true (show (p : Int) < T by omega)]; rfl)]; rfl, HB3.out⟩
            · cases R
              · go_wp2_with fail
                go_ret
                exact ⟨by rw [HCF.out, if_neg (show ¬ T < (p : Int) by omega), if_neg (by simp; omega)]; rfl, HB3.out⟩
              · go_wp2_with fail
                go_ret
                exact ⟨by rw [HCF.out, if_neg (show ¬ T < (p : Int) by omega), if_pos (by simp)]; rfl, HB3.out⟩

end Go.Proofs.Ythncpbihnhpacaa
