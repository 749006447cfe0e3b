/- Contract of cfllaw4.Few. -/
import Derived.Test.YtnohdbhkepdjbaaOps4
import Derived.Test.YtnohdbhkepdjbaaFew
namespace Go.Proofs.Ytnohdbhkepdjbaa
open Go.RowKit
set_option linter.unusedVariables false

set_option maxHeartbeats 1000000 in
theorem few4_any (ao : Option Addr) (bs : List WOp) (n cap : Nat) (w : World) (hn : bs.length = n) (h : OpsAt w ao bs) (hcap : n ≤ cap) (hm : cap ≤ maxLen) :
    Calls Try.prog 33 #[.slice ao n cap] w fun e w' => e = .returned (.bool (fewB (bs.map (fun o => o.b.zs.length)) 200 200000)) ∧ w = w' := by
  have HB := Lib.hid h
  have HN := Lib.hid hn
  obtain ⟨ls, hls⟩ : ∃ ls, ls = (bs.map (fun o => o.b.zs.length)).map (fun x => min x (200000 + 1)) := ⟨_, rfl⟩
  have hll : ls.length = n := by rw [hls]; simp [hn]
  have hmax : ∀ k, (ls.take k).sum ≤ n * (200000 + 1) ∧ (ls.take k).sum ≤ k * (200000 + 1) := by
    intro k
    rw [hls, ← List.map_take]
    have := sum_min_bound ((bs.map (fun o => o.b.zs.length)).take k) 200000
    have e : ((bs.map (fun o => o.b.zs.length)).take k).length ≤ n := by simp [hn]; omega
    have e2 : ((bs.map (fun o => o.b.zs.length)).take k).length ≤ k := by simp; omega
    exact ⟨Nat.le_trans this (Nat.mul_le_mul_right _ e), Nat.le_trans this (Nat.mul_le_mul_right _ e2)⟩
  have hb : ∀ k, k ≤ 200 → (ls.take k).sum ≤ 1000001000 := by
    intro k hk
    have := (hmax k).2
    have h3 : k * (200000 + 1) ≤ 1000 * 1000001 := Nat.mul_le_mul (by omega) (by omega)
    omega
  have HLS := Lib.hid hls
  have HLL := Lib.hid hll
  have HBD := Lib.hid hb
  unfold maxLen at hm
  clear h hn hls hll hmax hb
  go_enter Try.func33, Try.ntmps33
  go_wp2_with fail
  go_loop [3, 4] (fun t i => ∃ k : Nat, k ≤ n ∧ k ≤ 200 ∧ i = .int .i64 k ∧ t = .int .i64 ((ls.take k).sum : Nat)) (fun _ i => n - (intOf i).toNat)
  case atStart => exact ⟨0, Nat.zero_le _, Nat.zero_le _, rfl, rfl⟩
  case round =>
    obtain ⟨k, hk, hk2, rfl, rfl⟩ := hrel
    have hbd := HBD.out k hk2
    by_cases hlt : k < n
    · by_cases hlt2 : k < 200
      · have hkl : k < ls.length := by rw [HLL.out]; exact hlt
        have hkb : k < bs.length := by rw [HN.out]; exact hlt
        obtain ⟨b, off, ha, hc0, hc1, hc2, hc⟩ := op_cell HB.out k hkb
        have HS := Lib.hid (sum_take_succ ls k hkl)
        have hmin : ls[k] = min bs[k].b.zs.length (200000 + 1) := by simp [HLS.out]
        have HMIN := Lib.hid hmin
        generalize ls[k] = m at *
        generalize bs[k].b.zs.length = z at *
        clear hmin hkl
        subst ha
        clear hc0 hc1 hc2
        generalize (ls.take k).sum = s at *
        have i1 : (k : Int) < (n : Int) := by omega
        have i2 : (k : Int) < (200 : Int) := by omega
        go_wp2
        go_round
        case rel => exact ⟨k + 1, by omega, by omega, by go_num, by rw [HS.out, HMIN.out]; congr 1; split <;> omega⟩
        case measure => simp [intOf]; omega
      · obtain rfl : 200 = k := by omega
        have HF := Lib.hid (show fewB (bs.map (fun o => o.b.zs.length)) 200 200000 = false by simp [fewB, HN.out]; omega)
        have i1 : (200 : Int) < (n : Int) := by omega
        have i2 : ¬ (n : Int) ≤ (200 : Int) := by omega
        clear hlt2
        go_wp2
        go_ret
        exact ⟨ret_bool HF.out.symm, rfl⟩
    · obtain rfl : k = n := by omega
      have i2 : (k : Int) ≤ (200 : Int) := by omega
      have HT : Hid ((ls.take k).sum = (((bs.map (fun o => o.b.zs.length)).take 200).map (fun x => min x (200000 + 1))).sum) := Lib.hid (by
        rw [List.take_of_length_le (by rw [HLL.out]; exact Nat.le_refl _), HLS.out, List.take_of_length_le (l := bs.map _) (by simp [HN.out]; omega)])
      by_cases hs : (ls.take k).sum ≤ 200000
      · have HF := Lib.hid (show fewB (bs.map (fun o => o.b.zs.length)) 200 200000 = true by
          unfold fewB
          rw [← HT.out]
          simp [HN.out]; omega)
        generalize (ls.take k).sum = s at *
        have i3 : (s : Int) ≤ (200000 : Int) := by omega
        clear hlt
        go_wp2
        go_ret
        exact ⟨ret_bool HF.out.symm, rfl⟩
      · have HF := Lib.hid (show fewB (bs.map (fun o => o.b.zs.length)) 200 200000 = false by
          unfold fewB
          rw [← HT.out]
          simp [HN.out]; omega)
        generalize (ls.take k).sum = s at *
        have i3 : ¬ (s : Int) ≤ (200000 : Int) := by omega
        clear hlt
        go_wp2
        go_ret
        exact ⟨ret_bool HF.out.symm, rfl⟩

end Go.Proofs.Ytnohdbhkepdjbaa
