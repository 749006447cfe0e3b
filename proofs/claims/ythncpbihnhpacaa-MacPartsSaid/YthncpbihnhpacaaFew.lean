/- Contract of cflref.Few: are texts few and small? -/
import Derived.Test.YthncpbihnhpacaaArgs
namespace Go.Proofs.Ythncpbihnhpacaa
open Go.RowKit
set_option linter.unusedVariables false

theorem bl_cell {w : World} {ao : Option Addr} {bs : List BSl} (h : BytesList w ao bs) (i : Nat) (hi : i < bs.length) : ∃ b off, ao = some ⟨b, off, none⟩ ∧ w.cell? ⟨b, off + i, none⟩ = some (.slice bs[i].ao bs[i].zs.length bs[i].cap) := by
  rcases h.1 with h | ⟨b, off, h1, h2⟩
  · rw [h] at hi; simp at hi
  · exact ⟨b, off, h1, h2 i hi⟩

set_option maxHeartbeats 1000000 in
theorem few_any (ao : Option Addr) (bs : List BSl) (n cap many room : Nat) (w : World) (hn : bs.length = n) (h : BytesList w ao bs) (hcap : n ≤ cap) (hm : cap ≤ maxLen) (h1 : many ≤ 1000) (h2 : room ≤ 1000000) :
    Calls Try.prog 23 #[.slice ao n cap, .int .i64 many, .int .i64 room] w fun e w' => e = .returned (.bool (fewB (bs.map (fun b => b.zs.length)) many room)) ∧ w = w' := by
  have HB := Lib.hid h
  have HN := Lib.hid hn
  obtain ⟨ls, hls⟩ : ∃ ls, ls = (bs.map (fun b => b.zs.length)).map (fun x => min x (room + 1)) := ⟨_, rfl⟩
  have hll : ls.length = n := by rw [hls]; simp [hn]
  have hmax : ∀ k, (ls.take k).sum ≤ n * (room + 1) ∧ (ls.take k).sum ≤ k * (room + 1) := by
    intro k
    rw [hls, ← List.map_take]
    have := sum_min_bound ((bs.map (fun b => b.zs.length)).take k) room
    have e : ((bs.map (fun b => b.zs.length)).take k).length ≤ n := by simp [hn]; omega
    have e2 : ((bs.map (fun b => b.zs.length)).take k).length ≤ k := by simp; omega
    exact ⟨Nat.le_trans this (Nat.mul_le_mul_right _ e), Nat.le_trans this (Nat.mul_le_mul_right _ e2)⟩
  have hb : ∀ k, k ≤ many → (ls.take k).sum ≤ 1000001000 := by
    intro k hk
    have := (hmax k).2
    have h3 : k * (room + 1) ≤ 1000 * 1000001 := Nat.mul_le_mul (by omega) (by omega)
    omega
  have HLS := Lib.hid hls
  have HLL := Lib.hid hll
  have HBD := Lib.hid hb
  unfold maxLen at hm
  clear h hn hls hll hmax hb
  go_enter Try.func23, Try.ntmps23
  go_wp2_with fail
  go_loop [7, 8] (fun t i => ∃ k : Nat, k ≤ n ∧ k ≤ many ∧ i = .int .i64 k ∧ t = .int .i64 ((ls.take k).sum : Nat)) (fun _ i => n - (intOf i).toNat)
  case atStart => exact ⟨0, Nat.zero_le _, Nat.zero_le _, rfl, rfl⟩
  case round =>
    obtain ⟨k, hk, hk2, rfl, rfl⟩ := hrel
    have hbd := HBD.out k hk2
    by_cases hlt : k < n
    · by_cases hlt2 : k < many
      · have hkl : k < ls.length := by rw [HLL.out]; exact hlt
        have hkb : k < bs.length := by rw [HN.out]; exact hlt
        obtain ⟨b, off, ha, hc⟩ := bl_cell HB.out k hkb
        have HS := Lib.hid (sum_take_succ ls k hkl)
        have hmin : ls[k] = min bs[k].zs.length (room + 1) := by simp [HLS.out]
        have HMIN := Lib.hid hmin
        generalize ls[k] = m at *
        generalize bs[k].zs.length = z at *
        clear hmin hkl
        subst ha
        generalize (ls.take k).sum = s at *
        have i1 : (k : Int) < (n : Int) := by omega
        have i2 : (k : Int) < (many : Int) := by omega
        go_wp2
        go_round
        case rel => exact ⟨k + 1, by omega, by omega, by go_num, by rw [HS.out, HMIN.out]; congr 1; split <;> omega⟩
        case measure => simp [intOf]; omega
      · obtain rfl : k = many := by omega
        have HF := Lib.hid (show fewB (bs.map (fun b => b.zs.length)) k room = false by simp [fewB, HN.out]; omega)
        have i1 : (k : Int) < (n : Int) := by omega
        have i2 : ¬ (n : Int) ≤ (k : Int) := by omega
        clear hlt2
        go_wp2
        go_ret
        exact ⟨ret_bool HF.out.symm, rfl⟩
    · obtain rfl : k = n := by omega
      have i2 : (k : Int) ≤ (many : Int) := by omega
      have HT : Hid ((ls.take k).sum = (((bs.map (fun b => b.zs.length)).take many).map (fun x => min x (room + 1))).sum) := Lib.hid (by
        rw [List.take_of_length_le (by rw [HLL.out]; exact Nat.le_refl _), HLS.out, List.take_of_length_le (l := bs.map _) (by simp [HN.out]; omega)])
      by_cases hs : (ls.take k).sum ≤ room
      · have HF := Lib.hid (show fewB (bs.map (fun b => b.zs.length)) many room = true by
          unfold fewB
          rw [← HT.out]
          simp [HN.out]; omega)
        generalize (ls.take k).sum = s at *
        have i3 : (s : Int) ≤ (room : Int) := by omega
        clear hlt
        go_wp2
        go_ret
        exact ⟨ret_bool HF.out.symm, rfl⟩
      · have HF := Lib.hid (show fewB (bs.map (fun b => b.zs.length)) many room = false by
          unfold fewB
          rw [← HT.out]
          simp [HN.out]; omega)
        generalize (ls.take k).sum = s at *
        have i3 : ¬ (s : Int) ≤ (room : Int) := by omega
        clear hlt
        go_wp2
        go_ret
        exact ⟨ret_bool HF.out.symm, rfl⟩

end Go.Proofs.Ythncpbihnhpacaa
