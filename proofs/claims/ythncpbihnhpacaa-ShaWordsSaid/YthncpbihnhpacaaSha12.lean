/- cfllaw2.first is true. -/
import Derived.Test.YthncpbihnhpacaaSha11
import Derived.Lib.SlBytesConst
namespace Go.Proofs.Ythncpbihnhpacaa
open Go.RowKit
set_option linter.unusedVariables false
set_option linter.unusedSimpArgs false

theorem sha_nil : (shaF []).take 4 = [227, 176, 196, 66] := by decide +kernel
theorem sha_abc : (shaF [97, 98, 99]).take 4 = [186, 120, 22, 191] := by decide +kernel

theorem SumPost.row {w w' : World} {tb g cap : Nat} {zs : List Int} (ho : w'.ownsRow 0 5 1 (.slice (some ⟨g, 0, none⟩) 32 cap) 32 (zs.map (Value.int .u8))) : IntsAt .u8 w' (some ⟨g, 0, none⟩) zs := (owns_at ho).2.1
theorem cell_take {w : World} {g : Nat} {zs ys : List Int} (h : IntsAt .u8 w (some ⟨g, 0, none⟩) zs) (n : Nat) (ht : zs.take n = ys) (j : Nat) (hj : j < n) (hl : n ≤ zs.length) : w.cell? ⟨g, j, none⟩ = some (.int .u8 (ys.getD j 0)) := by
  rcases h with h | ⟨b, off, he, hc⟩
  · rw [h] at hl; simp at hl; omega
  · cases he
    have := hc j (by omega)
    rw [Nat.zero_add] at this
    rw [this, ← ht]
    simp [List.getD, List.getElem?_take, hj]

set_option maxRecDepth 100000 in
set_option maxHeartbeats 2000000 in
theorem first2_any (w : World) :
    Calls Try.prog 14 #[] w fun e w' => e = .returned (.bool true) ∧ Below w.heap.size w w' := by
  have kc := fun (w : World) (C : Array Value) (n c : Nat) => Lib.run_convert_bytes_const (P := Try.prog) w 22 5 C n c Try.underlying22 Try.underlying5
  go_enter Try.func14, Try.ntmps14
  go_wp2_with fail
  refine (newTable_any w).mono ?_
  rintro e w1 ⟨rfl, ht1, hb1⟩
  have HT1 := Lib.hid ht1
  have HB1 := Lib.hid hb1
  have HO1 := Lib.hid (one_any w.heap.size none [] 0 0 w1 ht1 rfl (Or.inl rfl) (fun z hz => by cases hz) (Or.inl rfl) (by omega))
  clear ht1 hb1
  go_wp2_with fail
  refine HO1.out.mono ?_
  rintro e w2 ⟨g1, c1, rfl, ht2, ho2, hl2, hk2, hg2⟩
  have HT2 := Lib.hid ht2
  have HR2 := Lib.hid (owns_at ho2).2.1
  have HL2 := Lib.hid hl2
  have HK2 := Lib.hid hk2
  have HG2 := Lib.hid hg2
  have HGL := Lib.hid (ho2.lt g1 rfl).2
  clear ht2 ho2 hl2 hk2 hg2
  obtain ⟨w3, hw3⟩ : ∃ w3, w3 = w2.alloc (.cells #[.int .u8 97, .int .u8 98, .int .u8 99] 5 (3, 4)) := ⟨_, rfl⟩
  have HB3 : Hid (Below w2.heap.size w2 w3) := Lib.hid (by rw [hw3]; exact (Below.refl _ _).alloc (Nat.le_refl _) _)
  have HA3 : Hid (IntsAt .u8 w3 (some ⟨w2.heap.size, 0, none⟩) [97, 98, 99]) := Lib.hid (by
    refine Or.inr ⟨_, _, rfl, fun i hi => ?_⟩
    rw [Nat.zero_add, hw3, World.cell?_alloc_mark]
    match i, hi with
    | 0, _ => rfl
    | 1, _ => rfl
    | 2, _ => rfl)
  have HW3 := Lib.hid hw3
  have HO2 := Lib.hid (one_any w.heap.size (some ⟨w2.heap.size, 0, none⟩) [97, 98, 99] 3 3 w3 (HT2.out.below HB3.out) rfl HA3.out (fun z hz => by simp at hz; omega) (Or.inr (fun a ha => by cases ha; have := HT2.out.lt; dsimp only; omega)) (by omega))
  clear hw3
  go_wp2_with fail
  rw [← HW3.out]
  refine HO2.out.mono ?_
  rintro e w4 ⟨g2, c2, rfl, ht4, ho4, hl4, hk4, hg4⟩
  have HR4 := Lib.hid (owns_at ho4).2.1
  have hb4 : Below w.heap.size w w4 := ((((Keeps.of_below (S := fun _ => False) HB1.out).trans HK2.out (fun i h => Or.inr (by omega))).trans (Keeps.of_below (S := fun _ => False) HB3.out) (fun _ h => h.elim)).trans hk4 (fun i h => Or.inr (by omega))).below (Nat.le_refl _) (fun _ h => h.elim)
  have HB4 := Lib.hid hb4
  have hra : IntsAt .u8 w4 (some ⟨g1, 0, none⟩) (shaF []) := by
    refine HR2.out.same (fun a ha hl => ?_)
    cases ha
    dsimp only at hl
    exact (hk4.block g1 (by have := HB3.out.size; omega) (by have h1 := HG2.out; have h2 := HB1.out.size; have h3 := HT1.out.lt; omega)).trans (HB3.out.block g1 hl)
  have p0 := cell_take hra 4 sha_nil 0 (by omega) (by rw [shaF_len]; omega)
  have p1 := cell_take hra 4 sha_nil 1 (by omega) (by rw [shaF_len]; omega)
  have p2 := cell_take hra 4 sha_nil 2 (by omega) (by rw [shaF_len]; omega)
  have p3 := cell_take hra 4 sha_nil 3 (by omega) (by rw [shaF_len]; omega)
  have q0 := cell_take HR4.out 4 sha_abc 0 (by omega) (by rw [shaF_len]; omega)
  have q1 := cell_take HR4.out 4 sha_abc 1 (by omega) (by rw [shaF_len]; omega)
  have q2 := cell_take HR4.out 4 sha_abc 2 (by omega) (by rw [shaF_len]; omega)
  have q3 := cell_take HR4.out 4 sha_abc 3 (by omega) (by rw [shaF_len]; omega)
  simp only [List.getD_cons_zero, List.getD_cons_succ] at p0 p1 p2 p3 q0 q1 q2 q3
  clear ht4 ho4 hl4 hk4 hg4 hra hb4 HW3 HA3
  go_wp2
  go_ret
  exact ⟨rfl, HB4.out⟩

end Go.Proofs.Ythncpbihnhpacaa
