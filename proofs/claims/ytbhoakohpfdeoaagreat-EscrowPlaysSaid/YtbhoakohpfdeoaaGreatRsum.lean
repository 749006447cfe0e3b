/- Contract of cflref1.Sum. -/
import Derived.Test.YtbhoakohpfdeoaaGreatSum
namespace Go.Proofs.YtbhoakohpfdeoaaGreat
open Go.RowKit
set_option linter.unusedVariables false

set_option maxHeartbeats 400000 in
theorem rsum_any (ao : Option Addr) (zs : List Int) (cap : Nat) (w : World) (h : IntsAt .i64 w ao zs) (hm : zs.length ≤ 9223372036854775807) :
    Calls Tryz.prog 28 #[.slice ao zs.length cap] w fun e w' => e = .returned (.tuple #[.int .i64 (sumV zs), .int .i64 (sumE zs)]) ∧ w = w' := by
  go_enter Tryz.func28, Tryz.ntmps28
  go_wp2
  go_loop [4, 5] (fun t i => ∃ k : Nat, k ≤ zs.length ∧ i = .int .i64 k ∧ sumE (zs.take k) = 0 ∧ t = .int .i64 (sumV (zs.take k))) (fun _ i => zs.length - (intOf i).toNat)
  case atStart => exact ⟨0, Nat.zero_le _, rfl, rfl, rfl⟩
  case round =>
    obtain ⟨k, hk, rfl, he, rfl⟩ := hrel
    by_cases hlt : k < zs.length
    · have HS := Lib.hid (sum_go zs k hlt he)
      rcases h with rfl | ⟨b, off, rfl, hc⟩
      · simp at hlt
      have hcell := hc k hlt
      clear hc he
      rcases addE_cases (sumV (zs.take k)) zs[k] with h0 | ⟨h1, hv⟩
      · go_wp2_with (go_at_call 49; refine (radd_any _ _ _).mono ?_; rintro e w' ⟨rfl, rfl⟩)
        go_round
        case rel => exact ⟨k + 1, by omega, by go_num, by rw [HS.out.2, h0], by rw [HS.out.1]⟩
        case measure => simp [intOf]; omega
      · have HT := Lib.hid (sum_stop zs (k + 1) (by rw [HS.out.2, h1]; decide))
        have HV := Lib.hid hv
        have HE := Lib.hid h1
        have h1' : (addE (sumV (zs.take k)) zs[k] != 0) = true := by rw [h1]; rfl
        clear hv h1
        go_wp2_with (go_at_call 49; refine (radd_any _ _ _).mono ?_; rintro e w' ⟨rfl, rfl⟩)
        go_ret2
        exact ⟨ret_two ((HV.out.symm.trans HS.out.1.symm).trans (congrArg Prod.fst HT.out.symm)) (HS.out.2.symm.trans (congrArg Prod.snd HT.out.symm)), rfl⟩
    · have hkk : zs.length ≤ k := by omega
      have HT := Lib.hid (List.take_of_length_le hkk)
      have HE := Lib.hid he
      clear he hlt
      go_wp2
      go_ret2
      exact ⟨ret_two (congrArg sumV HT.out) (HE.out.symm.trans (congrArg sumE HT.out)), rfl⟩

end Go.Proofs.YtbhoakohpfdeoaaGreat
