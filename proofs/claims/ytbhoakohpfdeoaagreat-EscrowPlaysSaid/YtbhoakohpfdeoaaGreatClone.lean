/- Contracts of slices.Clone and of cflref.CopyBytes. -/
import Derived.Test.YtbhoakohpfdeoaaGreatHeap
import Derived.Deep.RegionHeld3
namespace Go.Proofs.YtbhoakohpfdeoaaGreat
open Go.RowKit
set_option linter.unusedVariables false

theorem Try_infoU8 : (Tryz.prog.info? 5).map (fun i => (i.zero, i.size, i.bytes)) = some (some (.int .u8 0), 1, 1) := by kernel_rfl

set_option maxHeartbeats 1000000 in
theorem clone_u8 (ao : Option Addr) (zs : List Int) (n cap : Nat) (w : World) (hn : zs.length = n) (h : IntsAt .u8 w ao zs) (hm : n ≤ 140737488355328) :
    Calls Tryz.prog 68 #[.slice ao n cap] w fun e w' => RowPost w zs e w' := by
  have heq := fun w : World => Lib.run_eql_slice_nil (P := Tryz.prog) w 68 5 ao n cap 0 0 Tryz.underlying68
  have HN := Lib.hid hn
  have H := Lib.hid h
  clear hn
  cases ao with
  | none =>
    have h0 := ints_none h
    clear h
    go_enter Tryz.func68, Tryz.ntmps68
    go_wp2
    go_ret
    exact ⟨none, 0, ret_val (a := .slice none 0 0) (by rw [h0]), by rw [h0, List.length_eq_zero_iff.1 h0]; exact ⟨World.ownsRow_nil _ _ _ _, Below.refl _ _, fun g hg => by cases hg⟩⟩
  | some a =>
    obtain ⟨i0, hi, hz0, hz1, hz2⟩ := info_parts Try_infoU8
    clear h
    go_enter Tryz.func68, Tryz.ntmps68
    go_wp2_with (at_builtin; refine wpList_append_any rfl _ _ 68 rfl 5 i0 (.int .u8 0) 1 1 Tryz.underlying68 hi hz0 hz1 hz2 rfl (by decide) (.slice (some ⟨w.heap.size, 0, none⟩) 0 0) 0 [] rfl (World.ownsRow_made w #[] 0 (Nat.zero_le _) (Nat.zero_le _) rfl) (some a) n cap (zs.map (Value.int .u8)) rfl ?c1 ?c2 ?c3 (ints_one _ _) ?c5 ?c6 ?_)
    case c1 => simp; exact HN.out
    case c2 => intro e; cases e
    case c3 => exact src_ints (ints_below H.out ((Below.refl _ _).alloc (Nat.le_refl _) _))
    case c5 => unfold maxLen; omega
    case c6 => omega
    intro ao' cap' w1 hown hgrow hat hnn
    have HR : Hid (RowAt w (.slice ao' n cap') zs w1) := Lib.hid (by
      refine ⟨by rw [HN.out]; simpa using hown, ((Below.refl _ _).alloc (Nat.le_refl _) _).grown hgrow (by simp) (fun k hk => by simp only [Value.ownBlock, Option.some.injEq] at hk; omega), fun g hg => ?_⟩
      rcases hat g hg with e | e
      · simp only [Value.ownBlock, Option.some.injEq] at e; omega
      · rw [e]; simp)
    clear hown hgrow hat hnn
    go_wp2
    go_ret
    exact ⟨ao', cap', ret_val (a := .slice ao' n cap') (by rw [HN.out]), by rw [HN.out]; exact HR.out⟩

set_option maxHeartbeats 1000000 in
theorem copyBytes (ao : Option Addr) (zs : List Int) (n cap : Nat) (w : World) (hn : zs.length = n) (h : IntsAt .u8 w ao zs) (hm : n ≤ 140737488355328) :
    Calls Tryz.prog 55 #[.slice ao n cap] w fun e w' => RowPost w zs e w' := by
  have HN := Lib.hid hn
  have H := Lib.hid h
  obtain ⟨i0, hi, hz0, hz1, hz2⟩ := info_parts Try_infoU8
  clear hn h
  go_enter Tryz.func55, Tryz.ntmps55
  go_wp2_with (at_builtin; refine wpList_append_any rfl _ _ 68 rfl 5 i0 (.int .u8 0) 1 1 Tryz.underlying68 hi hz0 hz1 hz2 rfl (by decide) (.slice (some ⟨w.heap.size, 0, none⟩) 0 0) 0 [] rfl (World.ownsRow_made w #[] 0 (Nat.zero_le _) (Nat.zero_le _) rfl) ao n cap (zs.map (Value.int .u8)) rfl ?c1 ?c2 ?c3 (ints_one _ _) ?c5 ?c6 ?_)
  case c1 => simp; exact HN.out
  case c2 => intro e; have h := H.out; rw [e] at h; have := ints_none h; have := HN.out; omega
  case c3 => exact src_ints (ints_below H.out ((Below.refl _ _).alloc (Nat.le_refl _) _))
  case c5 => unfold maxLen; omega
  case c6 => omega
  intro ao' cap' w1 hown hgrow hat hnn
  have HR : Hid (RowAt w (.slice ao' n cap') zs w1) := Lib.hid (by
    refine ⟨by rw [HN.out]; simpa using hown, ((Below.refl _ _).alloc (Nat.le_refl _) _).grown hgrow (by simp) (fun k hk => by simp only [Value.ownBlock, Option.some.injEq] at hk; omega), fun g hg => ?_⟩
    rcases hat g (by simpa using hg) with e | e
    · simp only [Value.ownBlock, Option.some.injEq] at e; omega
    · rw [e]; simp)
  clear hown hgrow hat hnn
  go_wp2
  go_ret
  exact ⟨ao', cap', ret_val (a := .slice ao' n cap') (by rw [HN.out]), by rw [HN.out]; exact HR.out⟩

end Go.Proofs.YtbhoakohpfdeoaaGreat
