/- Contracts of package wire's decoder. -/
import Derived.Test.YtbhoakohpfdeoaaEnc2
import Derived.Test.YtbhoakohpfdeoaaByt
namespace Go.Proofs.Ytbhoakohpfdeoaa
open Go.RowKit
set_option linter.unusedVariables false

def valB (zs : List Int) : Int := zs.foldl (fun n c => n * 256 + c) 0
theorem valB_snoc (zs : List Int) (c : Int) : valB (zs ++ [c]) = valB zs * 256 + c := by simp [valB]
theorem valB_acc : ∀ (zs : List Int) (a : Int) (j : Nat), InB zs → 0 ≤ a → a < 256 ^ j → 0 ≤ zs.foldl (fun n c => n * 256 + c) a ∧ zs.foldl (fun n c => n * 256 + c) a < 256 ^ (j + zs.length)
  | [], a, j, _, h0, h1 => ⟨h0, by simpa using h1⟩
  | c :: zs, a, j, h, h0, h1 => by
    have hc := h c (by simp)
    have h2 : a * 256 + c < 256 ^ (j + 1) := by rw [Int.pow_succ]; omega
    have := valB_acc zs (a * 256 + c) (j + 1) (fun z hz => h z (by simp [hz])) (by omega) h2
    rw [List.foldl_cons, List.length_cons, show j + (zs.length + 1) = j + 1 + zs.length by omega]
    exact this
theorem valB_in (zs : List Int) (h : InB zs) : 0 ≤ valB zs ∧ valB zs < 256 ^ zs.length := by
  have := valB_acc zs 0 0 h (by omega) (by decide)
  rwa [Nat.zero_add] at this
theorem pow256 (k : Nat) (h : k ≤ 7) : (256 : Int) ^ k ≤ 72057594037927936 := by
  have := Nat.pow_le_pow_right (n := 256) (by decide) h
  have e : ((256 ^ k : Nat) : Int) = (256 : Int) ^ k := by rw [Int.natCast_pow]; rfl
  omega
def numF (zs : List Int) (size : Int) : Int × Int :=
  if mayB size then (if (zs.length : Int) < size then (0, 2) else if MA < valB (zs.take size.toNat) then (0, 2) else (valB (zs.take size.toNat), 0)) else (0, 1)

theorem or_byte (x c : Int) (hx : 0 ≤ x) (hx2 : x < 72057594037927936) (hc : 0 ≤ c ∧ c ≤ 255) : bits .or .u64 (x * 256) c = x * 256 + c := by
  rw [u64_or _ _ (by omega) (by omega) hc.1 (by omega)]
  have e : (x * 256).toNat ||| c.toNat = (x * 256).toNat + c.toNat := by
    have := @Nat.two_pow_add_eq_or_of_lt 8 c.toNat (by omega) x.toNat
    rw [show (x * 256).toNat = 2 ^ 8 * x.toNat by omega]
    exact this.symm
  rw [e]; omega

theorem ints_cell {k : IntKind} {w : World} {ao : Option Addr} {zs : List Int} (h : IntsAt k w ao zs) (i : Nat) (hi : i < zs.length) : ∃ b off, ao = some ⟨b, off, none⟩ ∧ w.cell? ⟨b, off + i, none⟩ = some (.int k zs[i]) := by
  rcases h with rfl | ⟨b, off, h1, h2⟩
  · simp at hi
  · exact ⟨b, off, h1, by rw [h2 i hi]; simp [List.getD, hi]⟩

set_option maxHeartbeats 1000000 in
theorem number_any (ao : Option Addr) (zs : List Int) (n cap : Nat) (size : Int) (w : World) (hn : zs.length = n) (h : IntsAt .u8 w ao zs) (hB : InB zs) (hcap : n ≤ cap) :
    Calls Try.prog 92 #[.slice ao n cap, .int .i64 size] w fun e w' => e = .returned (.tuple #[.int .i64 (numF zs size).1, .int .i64 (numF zs size).2]) ∧ w = w' := by
  by_cases hm : mayB size = true
  · have hm' := hm
    simp only [mayB, decide_eq_true_eq] at hm'
    obtain ⟨s, rfl⟩ := Int.eq_ofNat_of_zero_le (show 0 ≤ size by omega)
    obtain ⟨hs1, hs2⟩ := hm'
    by_cases hl : (n : Int) < (s : Int)
    · have HF := Lib.hid (show numF zs s = (0, 2) by simp [numF, hm, hn]; omega)
      clear h hB hn
      go_enter Try.func92, Try.ntmps92
      go_wp2_with (go_at_call 82; refine (may_any _ _).mono ?_; rintro e w' ⟨rfl, rfl⟩)
      go_ret2
      exact ⟨ret_two (congrArg Prod.fst HF.out).symm (congrArg Prod.snd HF.out).symm, rfl⟩
    · have HF := Lib.hid (show numF zs s = if MA < valB (zs.take s) then (0, 2) else (valB (zs.take s), 0) by simp [numF, hm, hn, hl])
      have HBX := Lib.hid hB
      have HI := Lib.hid h
      have HN := Lib.hid hn
      have hle : (s : Int) ≤ (n : Int) := by omega
      have hle2 : (s : Int) ≤ (cap : Int) := by omega
      clear h hB hn hl
      go_enter Try.func92, Try.ntmps92
      go_wp2_with (go_at_call 82; refine (may_any _ _).mono ?_; rintro e w' ⟨rfl, rfl⟩)
      go_loop [6, 20] (fun t i => ∃ k : Nat, k ≤ s ∧ i = .int .i64 k ∧ t = .int .u64 (valB (zs.take k))) (fun _ i => s - (intOf i).toNat)
      case atStart => exact ⟨0, Nat.zero_le _, rfl, rfl⟩
      case round =>
        obtain ⟨k, hk, rfl, rfl⟩ := hrel
        have hv := valB_in (zs.take k) (fun z hz => HBX.out z (List.mem_of_mem_take hz))
        rw [List.length_take, Nat.min_eq_left (by have := HN.out; omega)] at hv
        obtain ⟨hv1, hv2⟩ := hv
        by_cases hlt : k < s
        · have hkn : k < zs.length := by have := HN.out; omega
          obtain ⟨b, off, ha, hc⟩ := ints_cell HI.out k hkn
          have hcb := HBX.out zs[k] (List.getElem_mem hkn)
          have HS := Lib.hid (show valB (zs.take (k + 1)) = valB (zs.take k) * 256 + zs[k] by rw [List.take_succ_eq_append_getElem hkn, valB_snoc])
          have hp := pow256 k (by omega)
          have h56 : valB (zs.take k) < 72057594037927936 := by omega
          have hor := or_byte (valB (zs.take k)) zs[k] hv1 h56 hcb
          have hsh : IntKind.u64.wrap (valB (zs.take k) * 256) = valB (zs.take k) * 256 := by rw [IntKind.wrap_u64]; omega
          have hcu : IntKind.u64.wrap zs[k] = zs[k] := by rw [IntKind.wrap_u64]; omega
          obtain ⟨hc1, hc2⟩ := hcb
          generalize valB (zs.take k) = x at *
          generalize zs[k] = c at *
          subst ha
          clear hp hv2 hkn
          go_wp2
          go_round
          case rel => exact ⟨k + 1, by omega, by go_num, by rw [HS.out]⟩
          case measure => simp [intOf]; omega
        · obtain rfl : k = s := by omega
          have hw : valB (zs.take k) < 18446744073709551616 := by
            rcases Nat.lt_or_ge k 8 with h | h
            · have := pow256 k (by omega); omega
            · obtain rfl : k = 8 := by omega
              have : (256 : Int) ^ 8 = 18446744073709551616 := by decide
              omega
          have hF := HF.out
          unfold MA at hF
          generalize valB (zs.take k) = x at *
          clear hv2
          by_cases hx : 4611686018427387904 < x
          · rw [if_pos hx] at hF
            have HF2 := Lib.hid hF
            clear hF
            go_wp2
            go_ret2
            exact ⟨ret_two (congrArg Prod.fst HF2.out).symm (congrArg Prod.snd HF2.out).symm, rfl⟩
          · rw [if_neg hx] at hF
            have HF2 := Lib.hid hF
            clear hF
            go_wp2
            go_ret2
            exact ⟨ret_two (congrArg Prod.fst HF2.out).symm (congrArg Prod.snd HF2.out).symm, rfl⟩
  · simp at hm
    have HF := Lib.hid (show numF zs size = (0, 1) by simp [numF, hm])
    clear h hB hn
    go_enter Try.func92, Try.ntmps92
    go_wp2_with (go_at_call 82; refine (may_any _ _).mono ?_; rintro e w' ⟨rfl, rfl⟩)
    go_ret2
    exact ⟨ret_two (congrArg Prod.fst HF.out).symm (congrArg Prod.snd HF.out).symm, rfl⟩

end Go.Proofs.Ytbhoakohpfdeoaa
