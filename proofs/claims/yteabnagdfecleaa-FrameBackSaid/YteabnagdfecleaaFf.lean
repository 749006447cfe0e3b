/- Package cfllaw7: what the chapter's examples fix. -/
import Derived.Test.YteabnagdfecleaaFrQ
import Derived.Test.YteabnagdfecleaaSt
import Derived.Test.YteabnagdfecleaaSha12
import Derived.Lib.SlBytesConst
namespace Go.Proofs.Yteabnagdfecleaa
open Go.RowKit
set_option linter.unusedVariables false
set_option linter.unusedSimpArgs false

/-- What a Put tells, with a table. -/
theorem putR_len (F : FR) : (putR F).1.length ≤ 61056 := by
  unfold putR
  split
  · simp
  · split
    · rw [putF_len]; omega
    · simp
theorem putR_inB {F : FR} (h : InB F.b) : InB (putR F).1 := by
  unfold putR
  split
  · intro z hz; cases hz
  · split
    · exact putF_inB h
    · intro z hz; cases hz
theorem RowT.st {W w w' : World} {tb : Nat} {zs : List Int} {v : Value} (hs : St W tb w) (h : RowT w tb zs v w') : St W tb w' := hs.step h.2.2.1 h.1
/-- Put, within a law. -/
theorem put_st {W w : World} {tb : Nat} (hs : St W tb w) (F : FR) (ao : Option Addr) (m c : Nat) (hl : Lie tb w ao F.b m c) :
    Calls Try.prog 13 #[.pointer (some ⟨tb, 0, none⟩), .agg #[.int .i64 F.k, .int .i64 F.g, .int .i64 F.s, .slice ao m c]] w fun e w' => ∃ a2 c2, e = .returned (.tuple #[.slice a2 (putR F).1.length c2, .int .i64 (putR F).2]) ∧ St W tb w' ∧ Keeps (fun i => i = tb) w w' ∧ Own tb w' a2 (putR F).1 (putR F).1.length c2 := by
  refine (put_any2 tb F ao m c w hs.tab hl.len hl.ints hl.inb hl.off).mono ?_
  rintro e w' ⟨a2, c2, rfl, h⟩
  exact ⟨a2, c2, rfl, h.st hs, h.2.2.1, h.own hs.lt rfl (putR_inB hl.inb)⟩

def F1 : FR := ⟨2, 0, 1, [120]⟩
theorem F1_ok : F1.ok := ⟨by decide, by decide, by decide⟩
theorem putR_F1 : putR F1 = (putF F1, 0) := by
  unfold putR
  rw [if_neg (by decide), if_pos F1_ok]
theorem F1_len : (putF F1).length = 64 := by rw [putF_len]; rfl
theorem F1_take : (putF F1).take 2 = [1, 99] := by
  have h := put_take17 (F := F1) (rest := []) (by decide)
  rw [List.append_nil] at h
  have h2 : (putF F1).take 2 = ((putF F1).take 17).take 2 := by rw [List.take_take]; rfl
  rw [h2, h]
  decide

set_option maxRecDepth 100000 in
set_option maxHeartbeats 2000000 in
theorem first7_any (w : World) :
    Calls Try.prog 12 #[] w fun e w' => e = .returned (.bool true) ∧ Below w.heap.size w w' := by
  have kc := fun (w : World) (C : Array Value) (n c : Nat) => Lib.run_convert_bytes_const (P := Try.prog) w 22 5 C n c Try.underlying22 Try.underlying5
  go_enter Try.func12, Try.ntmps12
  go_wp2_with fail
  refine (newTable_any w).mono ?_
  rintro e w1 ⟨rfl, ht1, hb1⟩
  have HS1 : Hid (St w w.heap.size w1) := Lib.hid ⟨ht1, hb1, Nat.le_refl _⟩
  clear ht1 hb1
  obtain ⟨w2, hw2⟩ : ∃ w2, w2 = w1.alloc (.cells #[.int .u8 120] 5 (1, 2)) := ⟨_, rfl⟩
  have HB2 : Hid (Below w1.heap.size w1 w2) := Lib.hid (by rw [hw2]; exact (Below.refl _ _).alloc (Nat.le_refl _) _)
  have HA2 : Hid (IntsAt .u8 w2 (some ⟨w1.heap.size, 0, none⟩) [120]) := Lib.hid (by
    refine Or.inr ⟨_, _, rfl, fun i hi => ?_⟩
    rw [Nat.zero_add, hw2, World.cell?_alloc_mark]
    match i, hi with
    | 0, _ => rfl)
  have HW2 := Lib.hid hw2
  have HS2 := Lib.hid (HS1.out.below HB2.out)
  have HP := Lib.hid (put_st HS2.out F1 (some ⟨w1.heap.size, 0, none⟩) 1 1 ⟨rfl, HA2.out, (fun z hz => by simp [F1] at hz; omega), Nat.le_refl _, (by decide), Or.inr (fun a ha => by cases ha; have := HS1.out.lt; dsimp only; omega)⟩)
  rw [putR_F1] at HP
  dsimp only at HP
  rw [F1_len, show F1.k = 2 from rfl, show F1.g = 0 from rfl, show F1.s = 1 from rfl] at HP
  clear hw2
  go_wp2_with fail
  rw [← HW2.out]
  refine HP.out.mono ?_
  rintro e w3 ⟨a3, c3, rfl, hs3, hk3, ho3⟩
  have HS3 := Lib.hid hs3
  have hi := ho3.lie.ints
  obtain ⟨b, rfl⟩ : ∃ b, a3 = some ⟨b, 0, none⟩ := by
    rcases hi with h | ⟨b, off, h, _⟩
    · have := F1_len; rw [h] at this; simp at this
    · cases hc : ho3.row.2 with
      | inl h2 => have := h2.2; omega
      | inr h2 => obtain ⟨g, cap, cur, hv, _⟩ := h2; simp only [Value.slice.injEq] at hv; exact ⟨g, hv.1⟩
  have p0 := cell_take hi 2 F1_take 0 (by omega) (by rw [F1_len]; omega)
  have p1 := cell_take hi 2 F1_take 1 (by omega) (by rw [F1_len]; omega)
  simp only [List.getD_cons_zero, List.getD_cons_succ] at p0 p1
  clear hs3 hk3 ho3 hi HP HW2 HA2 HS2 HB2
  have hs39 : secN 39 = 1 := by decide
  have hs40 : secN 40 = 2 := by decide
  have H39 := Lib.hid hs39
  have H40 := Lib.hid hs40
  clear hs39 hs40
  go_wp2_with fail
  refine (sectors_any 39 w3).mono ?_
  rintro e w4 ⟨rfl, rfl⟩
  rename World => w3
  rw [H39.out]
  go_wp2_with fail
  refine (sectors_any 40 w3).mono ?_
  rintro e w4 ⟨rfl, rfl⟩
  rename World => w3
  rw [H40.out]
  go_wp2
  go_ret
  exact ⟨rfl, HS3.out.bel⟩

end Go.Proofs.Yteabnagdfecleaa
