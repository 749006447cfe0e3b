/- What chapter 3's examples fix. -/
import Derived.Test.YthncpbihnhpacaaMac3
import Derived.Test.YthncpbihnhpacaaSha12
import Derived.Lib.SlBytesConst
namespace Go.Proofs.Ythncpbihnhpacaa
open Go.RowKit
set_option linter.unusedVariables false
set_option linter.unusedSimpArgs false

def hiB : List Int := [72, 105, 32, 84, 104, 101, 114, 101]
theorem mac_hi : (macF (List.replicate 20 11) hiB).take 4 = [176, 52, 76, 97] := by decide +kernel

def tenL (k : Nat) : List Int := (List.range 20).map (fun j => if j < k then 11 else 0)
theorem tenL_step : ∀ k : Fin 20, (tenL k.val).set k.val 11 = tenL (k.val + 1) := by decide
theorem tenL_all : tenL 20 = List.replicate 20 11 := by decide
theorem tenL_zero : tenL 0 = List.replicate 20 0 := by decide
theorem tenL_len (k : Nat) : (tenL k).length = 20 := by simp [tenL]

set_option maxRecDepth 100000 in
set_option maxHeartbeats 2000000 in
theorem first3_any (w : World) :
    Calls Try.prog 30 #[] w fun e w' => e = .returned (.bool true) ∧ Below w.heap.size w w' := by
  have kc := fun (w : World) (C : Array Value) (n c : Nat) => Lib.run_convert_bytes_const (P := Try.prog) w 22 5 C n c Try.underlying22 Try.underlying5
  have hmk : ∀ w : World, (Instr.makeSlice 22 (.int .i64 20) (.int .i64 20)).run Try.prog w = .ok (.slice (some ⟨w.heap.size, 0, none⟩) 20 20) (w.alloc (.cells (madeCells #[.int .u8 0] 20) 5)) := fun w => run_make_row' (P := Try.prog) 22 5 (.int .u8 0) 1 Try.underlying22 Try_infoU8 rfl .i64 .i64 20 (by omega) (by omega) w
  go_enter Try.func30, Try.ntmps30
  go_wp2_with fail
  refine (newTable_any w).mono ?_
  rintro e w1 ⟨rfl, ht1, hb1⟩
  have HT1 := Lib.hid ht1
  have HB1 := Lib.hid hb1
  clear ht1 hb1
  go_upto_region 3 with fail
  obtain ⟨w2, hw2⟩ : ∃ w2, w2 = w1.alloc (.cells (madeCells #[.int .u8 0] 20) 5) := ⟨_, rfl⟩
  have HR2 : Hid (RowL w2 w1.heap.size (tenL 0)) := Lib.hid (by rw [hw2, tenL_zero]; exact RowL.made w1 20)
  have hb2 : Below w1.heap.size w1 w2 := by rw [hw2]; exact (Below.refl _ _).alloc (Nat.le_refl _) _
  have HB2 : Hid (Below w.heap.size w w2) := Lib.hid (below_step HB1.out hb2)
  have HT2 := Lib.hid (HT1.out.below hb2)
  have HGL : Hid (w.heap.size < w1.heap.size) := Lib.hid HT1.out.lt
  rw [← hw2]
  clear hw2 hb2
  generalize w1.heap.size = g at *
  go_wp2_with fail
  go_loopw [3] (fun i wr => ∃ k : Nat, k ≤ 20 ∧ i = .int .i64 k ∧ RowL wr g (tenL k) ∧ Keeps (fun i => i = g) w2 wr) (fun i _ => 20 - (intOf i).toNat)
  case atStart => exact ⟨0, by omega, rfl, HR2.out, Keeps.refl _ _⟩
  case round =>
    obtain ⟨k, hk, rfl, hr, hkp⟩ := hrel
    have HR := Lib.hid hr
    have HK := Lib.hid hkp
    clear hr hkp
    by_cases hlt : k < 20
    · obtain ⟨cc, cf⟩ := HR.out.cell k (by rw [tenL_len]; exact hlt)
      have HS := Lib.hid (HR.out.set k 11)
      rw [tenL_step ⟨k, hlt⟩] at HS
      generalize (tenL k).getD k 0 = z at *
      have b0 : (0 : Int) ≤ (k : Int) := by omega
      have b1 : (k : Int) < 20 := by omega
      have HK2 : Hid (Keeps (fun i => i = g) w2 (wr.setCell ⟨g, k, none⟩ (.int .u8 11))) := Lib.hid (HK.out.setCell (p := ⟨g, k, none⟩) (Or.inl rfl) _)
      have hke : ((k + 1 : Nat) : Int) = (k : Int) + 1 := by omega
      go_wp2_with fail
      refine ⟨⟨k + 1, by omega, by rw [hke], HS.out, HK2.out⟩, ?_⟩
      simp only [intOf]
      omega
    · obtain rfl : k = 20 := by omega
      rw [tenL_all] at HR
      have HT3 : Hid (TabOk wr w.heap.size) := Lib.hid (tab_keep HT2.out HK.out (by have := HGL.out; omega))
      have HB3 : Hid (Below w.heap.size w wr) := Lib.hid (below_fp HB2.out HK.out (by have := HGL.out; intro i hi; omega))
      obtain ⟨w4, hw4⟩ : ∃ w4, w4 = wr.alloc (.cells #[.int .u8 72, .int .u8 105, .int .u8 32, .int .u8 84, .int .u8 104, .int .u8 101, .int .u8 114, .int .u8 101] 5 (8, 9)) := ⟨_, rfl⟩
      have hb4 : Below wr.heap.size wr w4 := by rw [hw4]; exact (Below.refl _ _).alloc (Nat.le_refl _) _
      have HI4 : Hid (IntsAt .u8 w4 (some ⟨wr.heap.size, 0, none⟩) hiB) := Lib.hid (by
        refine Or.inr ⟨_, _, rfl, fun i hi => ?_⟩
        rw [Nat.zero_add, hw4, World.cell?_alloc_mark]
        match i, hi with
        | 0, _ => rfl
        | 1, _ => rfl
        | 2, _ => rfl
        | 3, _ => rfl
        | 4, _ => rfl
        | 5, _ => rfl
        | 6, _ => rfl
        | 7, _ => rfl)
      have HB4 : Hid (Below w.heap.size w w4) := Lib.hid (below_step HB3.out hb4)
      have HON := Lib.hid (macOne_any w.heap.size (some ⟨g, 0, none⟩) (List.replicate 20 11) 20 20 (some ⟨wr.heap.size, 0, none⟩) hiB 8 8 w4 (HT3.out.below hb4) (by simp) (ints_below HR.out.ints hb4) (fun z hz => by rw [List.mem_replicate] at hz; omega) (Or.inr (fun a ha => by cases ha; have := HGL.out; dsimp only; omega)) (by omega) rfl HI4.out (by unfold InB hiB; decide) (Or.inr (fun a ha => by cases ha; have := HT3.out.lt; dsimp only; omega)) (by omega))
      have HW4 := Lib.hid hw4
      clear hw4 hb4
      go_wp2_with fail
      rw [← HW4.out]
      refine HON.out.mono ?_
      rintro e w5 ⟨g5, c5, rfl, ht5, ho5, hl5, hk5, hg5⟩
      have HI5 := Lib.hid (owns_at ho5).2.1
      have HB5 : Hid (Below w.heap.size w w5) := Lib.hid (below_keeps HB4.out hk5 (Nat.le_refl _))
      clear ht5 ho5 hl5 hk5 hg5 HW4 HI4
      have p0 := cell_take HI5.out 4 mac_hi 0 (by omega) (by rw [macF_len]; omega)
      have p1 := cell_take HI5.out 4 mac_hi 1 (by omega) (by rw [macF_len]; omega)
      have p2 := cell_take HI5.out 4 mac_hi 2 (by omega) (by rw [macF_len]; omega)
      have p3 := cell_take HI5.out 4 mac_hi 3 (by omega) (by rw [macF_len]; omega)
      simp only [List.getD_cons_zero, List.getD_cons_succ] at p0 p1 p2 p3
      go_wp2
      go_ret
      exact ⟨rfl, HB5.out⟩

end Go.Proofs.Ythncpbihnhpacaa
