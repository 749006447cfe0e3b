/- Contracts of package wire's decoder: NewDec, Left, Err, End; of cflref.CopyBytes. -/
import Derived.Test.YtbhoakohpfdeoaaDec3
namespace Go.Proofs.Ytbhoakohpfdeoaa
open Go.RowKit
set_option linter.unusedVariables false

def NewDecPost (T : TypeId) (w : World) (zs : List Int) (e : Ending) (w' : World) : Prop :=
  ∃ p g, e = .returned (.pointer (some ⟨p, 0, none⟩)) ∧ DecAt T w' p g zs 0 ∧ Below w.heap.size w w' ∧ w.heap.size ≤ p ∧ w.heap.size ≤ g

theorem dec_new {T : TypeId} {w w1 : World} {ao : Option Addr} {zs : List Int} {cap : Nat} (h : RowAt w (.slice ao zs.length cap) zs w1) (hB : InB zs) (hl : zs.length ≤ 140737488355328) :
    ∃ g, DecAt T (w1.alloc (.cells #[.slice ao zs.length cap, .int .i64 0] T)) w1.heap.size g zs 0 ∧ w.heap.size ≤ g := by
  obtain ⟨ho, hb, hf⟩ := h
  obtain ⟨_, h2, h3, h4⟩ := owns_at ho
  have h2' : IntsAt .u8 (w1.alloc (.cells #[.slice ao zs.length cap, .int .i64 0] T)) ao zs := ints_below h2 ((Below.refl _ _).alloc (Nat.le_refl _) _)
  cases ao with
  | none => exact ⟨w1.heap.size + 1, ⟨none, cap, heap_alloc_new w1 _, h2', h3, h4, hB, hl, Or.inl (by have := h3; have h9 := ints_none h2; exact List.eq_nil_of_length_eq_zero h9), by omega⟩, by have := hb.size; omega⟩
  | some a =>
    have hlt := (ho.lt a.block rfl).2
    exact ⟨a.block, ⟨some a, cap, heap_alloc_new w1 _, h2', h3, h4, hB, hl, Or.inr (fun b hb => by cases hb; rfl), by omega⟩, hf a.block rfl⟩

set_option maxHeartbeats 1000000 in
theorem newDec (ao : Option Addr) (zs : List Int) (n cap : Nat) (w : World) (hn : zs.length = n) (h : IntsAt .u8 w ao zs) (hB : InB zs) (hl : n ≤ 140737488355328) :
    Calls Try.prog 71 #[.slice ao n cap] w (NewDecPost 142 w zs) := by
  have HC := Lib.hid (clone_u8 ao zs n cap w hn h hl)
  have HB := Lib.hid hB
  have HL := Lib.hid (show zs.length ≤ 140737488355328 by omega)
  clear h hn hB
  go_enter Try.func71, Try.ntmps71
  go_wp2_with fail
  refine HC.out.mono ?_
  rintro e w1 ⟨ao2, cap2, rfl, hr⟩
  have HD := Lib.hid (dec_new (T := 142) hr HB.out HL.out)
  have HR := Lib.hid hr.2.1
  clear hr
  go_wp2
  go_ret
  obtain ⟨g, h1, h2⟩ := HD.out
  exact ⟨_, g, rfl, h1, HR.out.alloc HR.out.size _, HR.out.size, h2⟩

def decEnd (zs : List Int) (e : Int) : Int := if e = 0 then (if zs.length = 0 then 0 else 2) else e


end Go.Proofs.Ytbhoakohpfdeoaa
