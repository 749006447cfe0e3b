/- Contract of sha.lays. -/
import Derived.Test.YtbhoakohpfdeoaaGreatSha7
namespace Go.Proofs.YtbhoakohpfdeoaaGreat
open Go.RowKit
set_option linter.unusedVariables false
set_option linter.unusedSimpArgs false

theorem bytesBE_inB (n : Int) : ∀ k, InB (bytesBE n k)
  | 0 => fun z hz => by cases hz
  | k + 1 => fun z hz => by
    rcases List.mem_cons.1 hz with rfl | h
    · omega
    · exact bytesBE_inB n k z h
/-- A row of the call's own grows. -/
def GrowPost (w : World) (v : Value) (xs : List Int) (e : Ending) (w' : World) : Prop :=
  ∃ ao cap, e = .returned (.slice ao xs.length cap) ∧ w'.ownsRow 0 5 1 (.slice ao xs.length cap) xs.length (xs.map (Value.int .u8)) ∧ Keeps (fun i => v.ownBlock = some i) w w' ∧ (∀ g, (Value.slice ao xs.length cap).ownBlock = some g → v.ownBlock = some g ∨ w.heap.size ≤ g)

set_option maxRecDepth 100000 in
set_option maxHeartbeats 1000000 in
theorem lays_any (ao : Option Addr) (zs : List Int) (n0 cap : Nat) (n : Int) (size : Nat) (w : World) (hn : zs.length = n0) (hn1 : 0 ≤ n) (hn2 : n < 18446744073709551616) (hs : size ≤ 8) (hown : w.ownsRow 0 5 1 (.slice ao n0 cap) n0 (zs.map (Value.int .u8))) (hlen : n0 + 8 ≤ 140737488355328) :
    Calls Tryz.prog 69 #[.slice ao n0 cap, .int .u64 n, .int .i64 size] w fun e w' => GrowPost w (.slice ao n0 cap) (zs ++ bytesBE n size) e w' := by
  have HN := Lib.hid hn
  have HO := Lib.hid hown
  have HL := Lib.hid hlen
  have HS := Lib.hid hs
  obtain ⟨i0, hi, hz0, hz1, hz2⟩ := info_parts Try_infoU8
  have HSZ := Lib.hid (show wrap64 ((size : Int) - 1) = (size : Int) - 1 by unfold wrap64; omega)
  clear hn hown hlen hs
  go_enter Tryz.func69, Tryz.ntmps69
  go_wp2_with fail
  go_loopw [0, 7] (fun v k wr => ∃ (j : Nat) (cur : List Int) (a1 : Option Addr) (c1 : Nat), j ≤ size ∧ k = .int .i64 ((j : Int) - 1) ∧ v = .slice a1 cur.length c1 ∧ cur ++ bytesBE n j = zs ++ bytesBE n size ∧ wr.ownsRow 0 5 1 (.slice a1 cur.length c1) cur.length (cur.map (Value.int .u8)) ∧ Keeps (fun i => (Value.slice ao n0 cap).ownBlock = some i) w wr ∧ (∀ g, (Value.slice a1 cur.length c1).ownBlock = some g → (Value.slice ao n0 cap).ownBlock = some g ∨ w.heap.size ≤ g)) (fun _ k _ => (intOf k + 1).toNat)
  case atStart => exact ⟨size, zs, ao, cap, Nat.le_refl _, by rw [HSZ.out], by rw [HN.out], rfl, by rw [HN.out]; exact HO.out, Keeps.refl _ _, fun g hg => Or.inl (by rw [HN.out] at hg; exact hg)⟩
  case round =>
    obtain ⟨j, cur, a1, c1, hj, rfl, rfl, he, ho, hk, hf⟩ := hrel
    have HE := Lib.hid he
    have HOR := Lib.hid ho
    have HKR := Lib.hid hk
    have HFR := Lib.hid hf
    have HJ := Lib.hid hj
    clear he ho hk hf hj
    cases j with
    | zero =>
      have HE0 : Hid (cur = zs ++ bytesBE n size) := Lib.hid (by have := HE.out; simpa [bytesBE] using this)
      go_wp2
      go_ret
      obtain rfl := HE0.out
      exact ⟨a1, c1, rfl, HOR.out, HKR.out, HFR.out⟩
    | succ j =>
      have j8 : (j : Int) < 8 := by have := HJ.out; have := HS.out; omega
      have hw : wrap64 (8 * (j : Int)) = 8 * (j : Int) := by unfold wrap64; omega
      have hs0 : (0 : Int) ≤ 8 * (j : Int) := by omega
      have hs1 : (8 : Int) * (j : Int) ≤ 64 := by omega
      have HP : Hid ((2 : Int) ^ ((8 * (j : Int)).toNat) = 256 ^ j) := Lib.hid (by
        rw [show (8 * (j : Int)).toNat = 8 * j by omega, show (256 : Int) = 2 ^ 8 from by decide, ← Int.pow_mul])
      have HCL : Hid (cur.length + 1 ≤ n0 + size) := Lib.hid (by
        have h1 := congrArg List.length HE.out
        simp only [List.length_append, bytesBE_len, HN.out] at h1
        omega)
      have HE1 : Hid ((cur ++ [n / 256 ^ j % 256]) ++ bytesBE n j = zs ++ bytesBE n size) := Lib.hid (by
        have h1 := HE.out
        rw [List.append_assoc]; exact h1)
      go_wp2_with (at_builtin; refine wpList_append_any rfl _ _ 68 rfl 5 i0 (.int .u8 0) 1 1 Tryz.underlying68 hi hz0 hz1 hz2 rfl (by decide) (.slice a1 cur.length c1) cur.length (cur.map (Value.int .u8)) rfl (HOR.out.alloc _) (some ⟨wr.heap.size, 0, none⟩) 1 1 [.int .u8 (n / 2 ^ ((8 * (j : Int)).toNat) % 256)] rfl rfl ?c2 (fun ad had => by cases had; exact cell_one_new _ _ _) (by simp [Value.oneCell']) ?c5 ?c6 ?_)
      case c2 => intro e; cases e
      case c5 => have := HCL.out; have := HL.out; have := HS.out; unfold maxLen; omega
      case c6 => have := HCL.out; have := HL.out; have := HS.out; omega
      intro ao' cap' w2 hown hgrow hat hnn
      rw [HP.out] at hown
      have HO2 : Hid (w2.ownsRow 0 5 1 (.slice ao' (cur.length + 1) cap') (cur.length + 1) ((cur ++ [n / 256 ^ j % 256]).map (Value.int .u8))) := Lib.hid (by simpa using hown)
      have HK2 : Hid (Keeps (fun i => (Value.slice ao n0 cap).ownBlock = some i) w w2) := Lib.hid ((HKR.out.alloc _).grown hgrow (fun k hk => HFR.out k hk))
      have HF2 : Hid (∀ g, (Value.slice ao' (cur.length + 1) cap').ownBlock = some g → (Value.slice ao n0 cap).ownBlock = some g ∨ w.heap.size ≤ g) := Lib.hid (fun g hg => by
        rcases hat g hg with h | h
        · exact HFR.out g h
        · exact Or.inr (by have := HKR.out.size; omega))
      clear hown hgrow hat hnn
      go_wp2
      go_roundw
      case rel =>
        first | exact ⟨j, cur ++ [n / 256 ^ j % 256], ao', cap', by have := HJ.out; omega, by go_num, by simp, HE1.out, by simpa using HO2.out, HK2.out, by simpa using HF2.out⟩ | ((repeat apply Exists.intro); refine ⟨?_, rfl⟩; exact ⟨j, cur ++ [n / 256 ^ j % 256], ao', cap', by have := HJ.out; omega, by go_num, by simp, HE1.out, by simpa using HO2.out, HK2.out, by simpa using HF2.out⟩)
      case measure => simp [intOf]; try omega

end Go.Proofs.YtbhoakohpfdeoaaGreat
