/- Contracts of cflref1.turn, words, starts. -/
import Derived.Test.YtkaciaehlibidaaGreatLgC
import Derived.Deep.WholeRow
import Derived.Laws.Tables
namespace Go.Proofs.YtkaciaehlibidaaGreat
open Go.RowKit
set_option linter.unusedVariables false
set_option linter.unusedSimpArgs false

set_option maxHeartbeats 1000000 in
theorem turn_any (x : Int) (r : Nat) (hx : InU x) (h1 : 1 ≤ r) (h2 : r ≤ 31) (w : World) :
    Calls Tryz.prog 132 #[.int .u32 x, .int .u64 r] w fun e w' => e = .returned (.int .u32 (rotI x r)) ∧ w = w' := by
  have e0 : IntKind.u64.wrap (32 - (r : Int)) = ((32 - r : Nat) : Int) := by rw [IntKind.wrap_u64]; omega
  have e1 : (((32 - r : Nat) : Int)).toNat = 32 - r := by omega
  have b1 : (((32 - r : Nat) : Int)) ≤ 32 := by omega
  have b2 : (0 : Int) ≤ (((32 - r : Nat) : Int)) := by omega
  have b3 : (r : Int) ≤ 32 := by omega
  have HR : Hid (bits .or .u32 (x / 2 ^ r) (x * 2 ^ (32 - r) % 4294967296) = rotI x r) := Lib.hid (by
    obtain ⟨n, rfl⟩ := Int.eq_ofNat_of_zero_le hx.1
    have hn : n < 4294967296 := by have := hx.2; omega
    unfold rotI
    have e1 : ((n : Int) * 2 ^ (32 - r) % 4294967296) = ((n * 2 ^ (32 - r) % 4294967296 : Nat) : Int) := by simp
    have e2 : ((n : Int) / 2 ^ r) = ((n / 2 ^ r : Nat) : Int) := by simp
    rw [e1, e2, u32_or_nat _ _ (Nat.lt_of_le_of_lt (Nat.div_le_self _ _) hn) (by omega), u32_or_nat _ _ (by omega) (Nat.lt_of_le_of_lt (Nat.div_le_self _ _) hn), Nat.or_comm])
  go_enter Tryz.func132, Tryz.ntmps132
  go_wp2
  go_ret
  exact ⟨ret_int HR.out, rfl⟩

/-- The words as a value. -/
def startsV : Array Value := ((List.range 8).map fun j => Value.int .u32 (hAt j)).toArray
theorem startsV_size : startsV.size = 8 := by simp [startsV]
theorem startsV_at (j : Nat) (h : j < 8) : startsV[j]? = some (.int .u32 (hAt j)) := by
  unfold startsV
  simp [h]
theorem startsV_one : startsV.all (·.oneCell') = true := by
  rw [Array.all_eq_true_iff_forall_mem]
  intro v hv
  simp [startsV] at hv
  obtain ⟨j, _, rfl⟩ := hv
  rfl
set_option maxHeartbeats 1000000 in
set_option maxRecDepth 100000 in
theorem starts_any (w : World) :
    Calls Tryz.prog 123 #[] w fun e w' => e = .returned (.agg startsV) ∧ Below w.heap.size w w' := by
  go_enter Tryz.func123, Tryz.ntmps123
  go_wp2_with (refine wpList_build rfl _ _ rfl (by kernel_rfl) ?_)
  generalize hkw : (Program.built _ _ _).getD #[] = kw
  have hk : kw = startsV := by rw [← hkw]; kernel_rfl
  clear hkw
  subst hk
  rw [run_storeCells_new w 99 _ startsV (by rw [startsV_size]; kernel_rfl) (by rw [startsV_size]; kernel_rfl) startsV_one]
  go_wp2
  refine bodyPost_ret (results_cell_row (P := Tryz.prog) (fn := Tryz.f123) (p := 0) (ty := 99) rfl _ _ w.heap.size 99 startsV (0, 0) _ rfl (heap_alloc_new w _) Tryz.underlying99 rfl (by rw [startsV_size]; kernel_rfl)) rfl ?_
  exact ⟨rfl, (Below.refl _ _).alloc (Nat.le_refl _) _⟩

/-- The words as a value. -/
def wordsV : Array Value := ((List.range 64).map fun j => Value.int .u32 (kAt j)).toArray
theorem wordsV_size : wordsV.size = 64 := by simp [wordsV]
theorem wordsV_at (j : Nat) (h : j < 64) : wordsV[j]? = some (.int .u32 (kAt j)) := by
  unfold wordsV
  simp [h]
theorem wordsV_one : wordsV.all (·.oneCell') = true := by
  rw [Array.all_eq_true_iff_forall_mem]
  intro v hv
  simp [wordsV] at hv
  obtain ⟨j, _, rfl⟩ := hv
  rfl
set_option maxHeartbeats 1000000 in
set_option maxRecDepth 100000 in
theorem words_any (w : World) :
    Calls Tryz.prog 122 #[] w fun e w' => e = .returned (.agg wordsV) ∧ Below w.heap.size w w' := by
  go_enter Tryz.func122, Tryz.ntmps122
  go_wp2_with (refine wpList_build rfl _ _ rfl (by kernel_rfl) ?_)
  generalize hkw : (Program.built _ _ _).getD #[] = kw
  have hk : kw = wordsV := by rw [← hkw]; kernel_rfl
  clear hkw
  subst hk
  rw [run_storeCells_new w 98 _ wordsV (by rw [wordsV_size]; kernel_rfl) (by rw [wordsV_size]; kernel_rfl) wordsV_one]
  go_wp2
  refine bodyPost_ret (results_cell_row (P := Tryz.prog) (fn := Tryz.f122) (p := 0) (ty := 98) rfl _ _ w.heap.size 98 wordsV (0, 0) _ rfl (heap_alloc_new w _) Tryz.underlying98 rfl (by rw [wordsV_size]; kernel_rfl)) rfl ?_
  exact ⟨rfl, (Below.refl _ _).alloc (Nat.le_refl _) _⟩

end Go.Proofs.YtkaciaehlibidaaGreat
