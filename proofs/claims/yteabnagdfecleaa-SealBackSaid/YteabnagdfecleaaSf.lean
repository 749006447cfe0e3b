/- Package cfllaw14: what the chapter's examples fix. -/
import Derived.Test.YteabnagdfecleaaSl3
import Derived.Lib.SlBytesConst
namespace Go.Proofs.Yteabnagdfecleaa
open Go.RowKit
set_option linter.unusedVariables false
set_option linter.unusedSimpArgs false

def N1 : NR := ⟨0, 0, 0, 1, []⟩
theorem N1_ok : N1.ok := by decide
theorem sealR_N1 : sealR [107] N1 = (sealF [107] N1, 0) := by
  unfold sealR
  rw [if_pos N1_ok, if_neg (by decide)]

set_option maxRecDepth 100000 in
set_option maxHeartbeats 2000000 in
theorem first14_any (w : World) :
    Calls Try.prog 23 #[] w fun e w' => e = .returned (.bool true) ∧ Below w.heap.size w w' := by
  have kc := fun (w : World) (C : Array Value) (n c : Nat) => Lib.run_convert_bytes_const (P := Try.prog) w 22 5 C n c Try.underlying22 Try.underlying5
  go_enter Try.func23, Try.ntmps23
  go_wp2_with fail
  refine (newTable_any w).mono ?_
  rintro e w1 ⟨rfl, ht1, hb1⟩
  have HS1 : Hid (St w w.heap.size w1) := Lib.hid ⟨ht1, hb1, Nat.le_refl _⟩
  clear ht1 hb1
  obtain ⟨w2, hw2⟩ : ∃ w2, w2 = w1.alloc (.cells #[.int .u8 107] 5 (1, 2)) := ⟨_, rfl⟩
  have HB2 : Hid (Below w1.heap.size w1 w2) := Lib.hid (by rw [hw2]; exact (Below.refl _ _).alloc (Nat.le_refl _) _)
  have HA2 : Hid (IntsAt .u8 w2 (some ⟨w1.heap.size, 0, none⟩) [107]) := Lib.hid (by
    refine Or.inr ⟨_, _, rfl, fun i hi => ?_⟩
    rw [Nat.zero_add, hw2, World.cell?_alloc_mark]
    match i, hi with
    | 0, _ => rfl)
  have HW2 := Lib.hid hw2
  have HS2 := Lib.hid (HS1.out.below HB2.out)
  have HP := Lib.hid (seal_st HS2.out (some ⟨w1.heap.size, 0, none⟩) [107] 1 1 N1 none 0 0 ⟨rfl, HA2.out, (fun z hz => by simp at hz; omega), Nat.le_refl _, (by decide), Or.inr (fun a ha => by cases ha; have := HS1.out.lt; dsimp only; omega)⟩ (Lie.empty 0 (Nat.zero_le _) none) (by omega))
  rw [sealR_N1] at HP
  dsimp only at HP
  have HSL := Lib.hid (sealF_len [107] N1)
  rw [HSL.out, show 44 + N1.b.length = 44 from rfl, show N1.p = 0 from rfl, show N1.l = 0 from rfl, show N1.w = 0 from rfl, show N1.s = 1 from rfl] at HP
  clear hw2
  go_wp2_with fail
  rw [← HW2.out]
  refine HP.out.mono ?_
  rintro e w3 ⟨a3, c3, rfl, hs3, hk3, ho3⟩
  have HS3 := Lib.hid hs3
  clear hs3 hk3 ho3 HP HW2 HA2 HS2 HB2
  go_wp2
  go_ret
  exact ⟨rfl, HS3.out.bel⟩

end Go.Proofs.Yteabnagdfecleaa
