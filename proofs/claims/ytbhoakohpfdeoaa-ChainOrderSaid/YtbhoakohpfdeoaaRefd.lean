/- Contracts of cflref1's decoder: Num, End. -/
import Derived.Test.YtbhoakohpfdeoaaDec4
namespace Go.Proofs.Ytbhoakohpfdeoaa
open Go.RowKit
set_option linter.unusedVariables false

set_option maxHeartbeats 400000 in
theorem refdec_end (p g : Nat) (zs : List Int) (e : Int) (w : World) (h : DecAt 127 w p g zs e) :
    Calls Try.prog 75 #[.pointer (some ⟨p, 0, none⟩)] w fun en w' => en = .returned (.int .i64 (decEnd zs e)) ∧ w = w' := by
  obtain ⟨ao, cap, h1, h2, h3, h4, h5, h6, h7, h8⟩ := h
  have c0 := blk_cell h1 0
  have c1 := blk_cell h1 1
  simp only [List.getElem?_toArray, List.getElem?_cons_zero, List.getElem?_cons_succ] at c0 c1
  clear h1 h2 h5 h7
  by_cases he : e = 0
  · subst he
    by_cases hl : zs.length = 0
    · have HD := Lib.hid (show decEnd zs 0 = 0 by simp [decEnd, hl])
      have hl' : ¬ (0 : Int) < (zs.length : Int) := by omega
      clear hl
      go_enter Try.func75, Try.ntmps75
      go_wp2
      go_ret
      exact ⟨ret_int HD.out.symm, rfl⟩
    · have HD := Lib.hid (show decEnd zs 0 = 2 by simp [decEnd, hl])
      have hl' : (0 : Int) < (zs.length : Int) := by omega
      clear hl
      go_enter Try.func75, Try.ntmps75
      go_wp2
      go_ret
      exact ⟨ret_int HD.out.symm, rfl⟩
  · have HD := Lib.hid (show decEnd zs e = e by simp [decEnd, he])
    have he' : (e == 0) = false := by simp [he]
    clear he
    go_enter Try.func75, Try.ntmps75
    go_wp2
    go_ret
    exact ⟨ret_int HD.out.symm, rfl⟩

set_option maxHeartbeats 2000000 in
theorem refdec_num (p g : Nat) (zs : List Int) (e size : Int) (w : World) (h : DecAt 127 w p g zs e) :
    Calls Try.prog 74 #[.pointer (some ⟨p, 0, none⟩), .int .i64 size] w (NumPost 127 w p g (decNum zs e size)) := by
  have h' := h
  obtain ⟨ao, cap, h1, h2, h3, h4, h5, h6, h7, h8⟩ := h'
  have c0 := blk_cell h1 0
  have c1 := blk_cell h1 1
  have f0 := blk_frozen h1 0
  have f1 := blk_frozen h1 1
  simp only [List.getElem?_toArray, List.getElem?_cons_zero, List.getElem?_cons_succ] at c0 c1
  by_cases he : e = 0
  · subst he
    by_cases hm : 1 ≤ size ∧ size ≤ 8
    · obtain ⟨s, rfl⟩ := Int.eq_ofNat_of_zero_le (show 0 ≤ size by omega)
      obtain ⟨hs1, hs2⟩ := hm
      by_cases hl : (zs.length : Int) < (s : Int)
      · have HD := Lib.hid (show decNum zs 0 s = (0, zs, 2) by (have hm8 : mayB (s : Int) = true := by (simp [mayB]; omega)); simp [decNum, numF, hm8, hl])
        have HP := Lib.hid (dec_err h 2)
        clear h h1 h2 h5 h7 h8
        go_enter Try.func74, Try.ntmps74
        go_wp2
        go_ret
        exact ⟨ret_int (congrArg Prod.fst HD.out).symm, by rw [HD.out]; exact HP.out⟩
      · have hm8 : mayB (s : Int) = true := by simp [mayB]; omega
        have HF := Lib.hid (show numF zs s = if MA < valB (zs.take s) then (0, 2) else (valB (zs.take s), 0) by simp [numF, hm8, hl])
        have HBX := Lib.hid h5
        have HI := Lib.hid h2
        have hle : (s : Int) ≤ (zs.length : Int) := by omega
        have HPE := Lib.hid (dec_err h 2)
        have HC := Lib.hid (fun ao' n' cap' hv hn' => dec_cut h s (by omega) ao' n' cap' hv hn')
        clear h h1 h2 h5 h7 h8 hm8 hl
        go_enter Try.func74, Try.ntmps74
        go_wp2_with fail
        go_loop [5, 6] (fun t i => ∃ k : Nat, k ≤ s ∧ i = .int .i64 k ∧ t = .int .u64 (valB (zs.take k))) (fun _ i => s - (intOf i).toNat)
        case atStart => exact ⟨0, Nat.zero_le _, rfl, rfl⟩
        case round =>
          obtain ⟨k, hk, rfl, rfl⟩ := hrel
          have hv := valB_in (zs.take k) (fun z hz => HBX.out z (List.mem_of_mem_take hz))
          rw [List.length_take, Nat.min_eq_left (by omega)] at hv
          obtain ⟨hv1, hv2⟩ := hv
          by_cases hlt : k < s
          · have hkn : k < zs.length := by omega
            obtain ⟨b, off, ha, hc⟩ := ints_cell HI.out k hkn
            have hcb := HBX.out zs[k] (List.getElem_mem hkn)
            have HS := Lib.hid (show valB (zs.take (k + 1)) = valB (zs.take k) * 256 + zs[k] by rw [List.take_succ_eq_append_getElem hkn, valB_snoc])
            have hp := pow256 k (by omega)
            have h56 : valB (zs.take k) < 72057594037927936 := by omega
            have hor := or_byte (valB (zs.take k)) zs[k] hv1 h56 hcb
            have hsh : IntKind.u64.wrap (valB (zs.take k) * 256) = valB (zs.take k) * 256 := by rw [IntKind.wrap_u64]; omega
            have hcu : IntKind.u64.wrap zs[k] = zs[k] := by rw [IntKind.wrap_u64]; omega
            obtain ⟨hc1, hc2⟩ := hcb
            generalize valB (zs.take k) = x at *
            generalize zs[k] = c at *
            subst ha
            have i0 : (0 : Int) ≤ (k : Int) := by omega
            have i1 : (k : Int) < (zs.length : Int) := by omega
            have i2 : (k : Int) < (s : Int) := by omega
            clear hp hv2
            go_wp2
            go_round
            case rel => exact ⟨k + 1, by omega, by go_num, by rw [HS.out]⟩
            case measure => simp [intOf]; omega
          · obtain rfl : k = s := by omega
            have hw : valB (zs.take k) < 18446744073709551616 := by
              rcases Nat.lt_or_ge k 8 with h | h
              · have := pow256 k (by omega); omega
              · obtain rfl : k = 8 := by omega
                have : (256 : Int) ^ 8 = 18446744073709551616 := by decide
                omega
            have hF := HF.out
            unfold MA at hF
            generalize valB (zs.take k) = x at *
            clear hv2
            by_cases hx : 4611686018427387904 < x
            · rw [if_pos hx] at hF
              have HD := Lib.hid (show decNum zs 0 k = (0, zs, 2) by simp [decNum, hF])
              clear hF
              go_wp2
              go_ret
              exact ⟨ret_int (congrArg Prod.fst HD.out).symm, by rw [HD.out]; exact HPE.out⟩
            · rw [if_neg hx] at hF
              have HD := Lib.hid (show decNum zs 0 k = (x, zs.drop k, 0) by simp [decNum, hF])
              have hxw : IntKind.i64.wrap x = x := IntWalk.i64_in _ (by omega)
              clear hF
              go_wp2
              all_goals
                go_ret
                refine ⟨ret_int (congrArg Prod.fst HD.out).symm, ?_⟩
                rw [HD.out]
                refine HC.out _ _ _ (fun ao2 cap2 hc2 => ?_) (by omega)
                rw [c0] at hc2
                simp only [Option.some.injEq, Value.slice.injEq, true_and] at hc2
                obtain ⟨rfl, rfl⟩ := hc2
                first | exact Or.inr ⟨rfl, rfl⟩ | exact Or.inl ⟨by omega, rfl, by omega⟩
    · have HD := Lib.hid (show decNum zs 0 size = (0, zs, 1) by (have : mayB size = false := by (simp [mayB]; omega)); simp [decNum, numF, this])
      have HP := Lib.hid (dec_err h 1)
      have hs' : size < 1 ∨ (1 ≤ size ∧ 8 < size) := by omega
      clear h h1 h2 h5 h7 h8 hm
      rcases hs' with hs | ⟨hs, hs2⟩
      all_goals
        go_enter Try.func74, Try.ntmps74
        go_wp2
        go_ret
        exact ⟨ret_int (congrArg Prod.fst HD.out).symm, by rw [HD.out]; exact HP.out⟩
  · have he' : (e == 0) = false := by simp [he]
    have he2 : (e != 0) = true := by simp [he]
    have HD := Lib.hid (show decNum zs e size = (0, zs, e) by simp [decNum, he])
    have HP := Lib.hid (dec_refl h)
    clear h h1 h2 h5 h7 h8 he
    go_enter Try.func74, Try.ntmps74
    go_wp2
    go_ret
    exact ⟨ret_int (congrArg Prod.fst HD.out).symm, by rw [HD.out]; exact HP.out⟩

end Go.Proofs.Ytbhoakohpfdeoaa
