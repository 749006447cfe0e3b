/- Contracts of package wire's decoder: NewDec, Left, Err, End; of cflref.CopyBytes. -/
import Derived.Test.YtadejcpifabpoaaDec3
namespace Go.Proofs.Ytadejcpifabpoaa
open Go.RowKit
set_option linter.unusedVariables false

def NewDecPost (T : TypeId) (w : World) (zs : List Int) (e : Ending) (w' : World) : Prop :=
  ∃ p g, e = .returned (.pointer (some ⟨p, 0, none⟩)) ∧ DecAt T w' p g zs 0 ∧ Below w.heap.size w w' ∧ w.heap.size ≤ p ∧ w.heap.size ≤ g

theorem dec_new {T : TypeId} {w w1 : World} {ao : Option Addr} {zs : List Int} {cap : Nat} (h : RowAt w (.slice ao zs.length cap) zs w1) (hB : InB zs) (hl : zs.length ≤ 140737488355328) :
    ∃ g, DecAt T (w1.alloc (.cells #[.slice ao zs.length cap, .int .i64 0] T)) w1.heap.size g zs 0 ∧ w.heap.size ≤ g := by
  obtain ⟨ho, hb, hf⟩ := h
  obtain ⟨_, h2, h3, h4⟩ := owns_at ho
  have h2' : IntsAt .u8 (w1.alloc (.cells #[.slice ao zs.length cap, .int .i64 0] T)) ao zs := ints_below h2 ((Below.refl _ _).alloc (Nat.le_refl _) _)
  cases ao with
  | none => exact ⟨w1.heap.size + 1, ⟨none, cap, heap_alloc_new w1 _, h2', h3, h4, hB, hl, Or.inl (by have := h3; have h9 := ints_none h2; exact List.eq_nil_of_length_eq_zero h9), by omega⟩, by have := hb.size; omega⟩
  | some a =>
    have hlt := (ho.lt a.block rfl).2
    exact ⟨a.block, ⟨some a, cap, heap_alloc_new w1 _, h2', h3, h4, hB, hl, Or.inr (fun b hb => by cases hb; rfl), by omega⟩, hf a.block rfl⟩

set_option maxHeartbeats 1000000 in
theorem newDec (ao : Option Addr) (zs : List Int) (n cap : Nat) (w : World) (hn : zs.length = n) (h : IntsAt .u8 w ao zs) (hB : InB zs) (hl : n ≤ 140737488355328) :
    Calls Try.prog 93 #[.slice ao n cap] w (NewDecPost 137 w zs) := by
  have HC := Lib.hid (clone_u8 ao zs n cap w hn h hl)
  have HB := Lib.hid hB
  have HL := Lib.hid (show zs.length ≤ 140737488355328 by omega)
  clear h hn hB
  go_enter Try.func93, Try.ntmps93
  go_wp2_with fail
  refine HC.out.mono ?_
  rintro e w1 ⟨ao2, cap2, rfl, hr⟩
  have HD := Lib.hid (dec_new (T := 137) hr HB.out HL.out)
  have HR := Lib.hid hr.2.1
  clear hr
  go_wp2
  go_ret
  obtain ⟨g, h1, h2⟩ := HD.out
  exact ⟨_, g, rfl, h1, HR.out.alloc HR.out.size _, HR.out.size, h2⟩

def decEnd (zs : List Int) (e : Int) : Int := if e = 0 then (if zs.length = 0 then 0 else 2) else e

set_option maxHeartbeats 400000 in
theorem dec_end (p g : Nat) (zs : List Int) (e : Int) (w : World) (h : DecAt 137 w p g zs e) :
    Calls Try.prog 96 #[.pointer (some ⟨p, 0, none⟩)] w fun en w' => en = .returned (.int .i64 (decEnd zs e)) ∧ w = w' := by
  obtain ⟨ao, cap, h1, h2, h3, h4, h5, h6, h7, h8⟩ := h
  have c0 := blk_cell h1 0
  have c1 := blk_cell h1 1
  simp only [List.getElem?_toArray, List.getElem?_cons_zero, List.getElem?_cons_succ] at c0 c1
  clear h1 h2 h5 h7
  by_cases he : e = 0
  · subst he
    by_cases hl : zs.length = 0
    · have HD := Lib.hid (show decEnd zs 0 = 0 by simp [decEnd, hl])
      have hl' : ¬ (0 : Int) < (zs.length : Int) := by omega
      clear hl
      go_enter Try.func96, Try.ntmps96
      go_wp2
      go_ret
      exact ⟨ret_int HD.out.symm, rfl⟩
    · have HD := Lib.hid (show decEnd zs 0 = 2 by simp [decEnd, hl])
      have hl' : (0 : Int) < (zs.length : Int) := by omega
      clear hl
      go_enter Try.func96, Try.ntmps96
      go_wp2
      go_ret
      exact ⟨ret_int HD.out.symm, rfl⟩
  · have HD := Lib.hid (show decEnd zs e = e by simp [decEnd, he])
    have he' : (e == 0) = false := by simp [he]
    clear he
    go_enter Try.func96, Try.ntmps96
    go_wp2
    go_ret
    exact ⟨ret_int HD.out.symm, rfl⟩

set_option maxHeartbeats 1000000 in
theorem copyBytes (ao : Option Addr) (zs : List Int) (n cap : Nat) (w : World) (hn : zs.length = n) (h : IntsAt .u8 w ao zs) (hm : n ≤ 140737488355328) :
    Calls Try.prog 39 #[.slice ao n cap] w fun e w' => RowPost w zs e w' := by
  have HN := Lib.hid hn
  have H := Lib.hid h
  obtain ⟨i0, hi, hz0, hz1, hz2⟩ := info_parts Try_infoU8
  clear hn h
  go_enter Try.func39, Try.ntmps39
  go_wp2_with (at_builtin; refine wpList_append_any rfl _ _ 41 rfl 5 i0 (.int .u8 0) 1 1 Try.underlying41 hi hz0 hz1 hz2 rfl (by decide) (.slice (some ⟨w.heap.size, 0, none⟩) 0 0) 0 [] rfl (World.ownsRow_made w #[] 0 (Nat.zero_le _) (Nat.zero_le _) rfl) ao n cap (zs.map (Value.int .u8)) rfl ?c1 ?c2 ?c3 (ints_one _ _) ?c5 ?c6 ?_)
  case c1 => simp; exact HN.out
  case c2 => intro e; have h := H.out; rw [e] at h; have := ints_none h; have := HN.out; omega
  case c3 => exact src_ints (ints_below H.out ((Below.refl _ _).alloc (Nat.le_refl _) _))
  case c5 => unfold maxLen; omega
  case c6 => omega
  intro ao' cap' w1 hown hgrow hat hnn
  have HR : Hid (RowAt w (.slice ao' n cap') zs w1) := Lib.hid (by
    refine ⟨by rw [HN.out]; simpa using hown, ((Below.refl _ _).alloc (Nat.le_refl _) _).grown hgrow (by simp) (fun k hk => by simp only [Value.ownBlock, Option.some.injEq] at hk; omega), fun g hg => ?_⟩
    rcases hat g (by simpa using hg) with e | e
    · simp only [Value.ownBlock, Option.some.injEq] at e; omega
    · rw [e]; simp)
  clear hown hgrow hat hnn
  go_wp2
  go_ret
  exact ⟨ao', cap', ret_val (a := .slice ao' n cap') (by rw [HN.out]), by rw [HN.out]; exact HR.out⟩

end Go.Proofs.Ytadejcpifabpoaa
