/- Package frame: Sectors, starts, text. -/
import Derived.Test.YteabnagdfecleaaFrP
import Derived.Test.YteabnagdfecleaaEnc2
import Derived.Test.YteabnagdfecleaaMac1
namespace Go.Proofs.Yteabnagdfecleaa
open Go.RowKit
set_option linter.unusedVariables false
set_option linter.unusedSimpArgs false

/-- An encoder under way since a world. -/
def EI (T : TypeId) (w0 : World) (p : Nat) (bs : List Int) (e : Int) (w : World) : Prop := ∃ v, EncAt T w p v bs e ∧ Below w0.heap.size w0 w ∧ w0.heap.size ≤ p ∧ ∀ g, v.ownBlock = some g → w0.heap.size ≤ g
theorem EI.start (T : TypeId) (w : World) : EI T w w.heap.size [] 0 (w.alloc (.cells #[.slice none 0 0, .int .i64 0] T)) :=
  ⟨.slice none 0 0, ⟨heap_alloc_new _ _, World.ownsRow_nil _ _ _ _, fun h => by cases h⟩, (Below.refl _ _).alloc (Nat.le_refl _) _, Nat.le_refl _, fun g h => by cases h⟩
section
variable {T : TypeId} {w0 w w' : World} {p : Nat} {bs bs' : List Int} {e e' : Int}
theorem EI.below (h : EI T w0 p bs e w) : Below w0.heap.size w0 w := by obtain ⟨_, _, h, _⟩ := h; exact h
theorem EI.step {v : Value} (h1 : EncAt T w p v bs e) (h2 : Below w0.heap.size w0 w) (h3 : w0.heap.size ≤ p) (h4 : ∀ g, v.ownBlock = some g → w0.heap.size ≤ g) (hp : EncPost T w p v bs' e' w') : EI T w0 p bs' e' w' := by
  obtain ⟨v', a1, a2, a3⟩ := hp
  refine ⟨v', a1, below_fp h2 a2 (fun i hi => ?_), h3, fun g hg => ?_⟩
  · rcases hi with h | h
    · omega
    · exact h4 i h
  · rcases a3 g hg with h | h
    · exact h4 g h
    · exact Nat.le_trans h2.size h
theorem EI.num (h : EI 104 w0 p bs e w) (n size : Int) (hlen : bs.length ≤ 1000000) :
    Calls Try.prog 40 #[.pointer (some ⟨p, 0, none⟩), .int .i64 n, .int .i64 size] w fun en w' => en = .returned (.tuple #[]) ∧ EI 104 w0 p (encNum bs e n size).1 (encNum bs e n size).2 w' := by
  obtain ⟨v, h1, h2, h3, h4⟩ := h
  refine (enc_num p v bs e n size w h1 (by omega)).mono ?_
  rintro en w' ⟨rfl, hp⟩
  exact ⟨rfl, EI.step h1 h2 h3 h4 hp⟩
theorem EI.done (h : EI 104 w0 p bs 0 w) (hlen : bs.length ≤ 1000000) :
    Calls Try.prog 41 #[.pointer (some ⟨p, 0, none⟩)] w fun en w' => ∃ ao cap, en = .returned (.tuple #[.slice ao bs.length cap, .int .i64 0]) ∧ RowAt w0 (.slice ao bs.length cap) bs w' := by
  obtain ⟨v, h1, h2, h3, h4⟩ := h
  refine (enc_done p v bs 0 w h1 (by omega)).mono ?_
  rintro en w' ⟨ao, cap, rfl, a1, a2, a3⟩
  refine ⟨ao, cap, rfl, a1, below_step h2 a2, fun g hg => Nat.le_trans h2.size (a3 g hg)⟩
end
theorem encNum_ok (bs : List Int) (n : Int) (s : Nat) (hs : 1 ≤ s ∧ s ≤ 7) (h0 : 0 ≤ n) (h1 : n < 2 ^ (8 * s)) : encNum bs 0 n s = (bs ++ putB n s, 0) := by
  have h2 : (2 : Int) ^ (8 * s) ≤ 2 ^ 56 := by
    have : ∀ k : Fin 8, (2 : Int) ^ (8 * k.val) ≤ 2 ^ 56 := by decide
    exact this ⟨s, by omega⟩
  have hf : fitsB n s = true := by
    unfold fitsB mayB amtB MA
    rw [decide_eq_true (show 1 ≤ (s : Int) ∧ (s : Int) ≤ 8 by omega), decide_eq_true (show 0 ≤ n ∧ n ≤ 4611686018427387904 by constructor; exact h0; omega)]
    simp only [Bool.true_and, Bool.or_eq_true, decide_eq_true_eq]
    right
    rw [Int.toNat_natCast, Int.ediv_eq_zero_of_lt h0 h1]
    exact Int.le_refl _
  unfold encNum
  rw [if_pos rfl, if_pos hf, Int.toNat_natCast]

set_option maxHeartbeats 1000000 in
theorem sectors_any (n : Int) (w : World) :
    Calls Try.prog 17 #[.int .i64 n] w fun e w' => e = .returned (.int .i64 (secN n)) ∧ w' = w := by
  by_cases h0 : n < 0
  · have HS := Lib.hid (show secN n = 0 by unfold secN; rw [if_pos (by omega)])
    go_enter Try.func17, Try.ntmps17
    go_wp2
    go_ret
    exact ⟨ret_int HS.out.symm, rfl⟩
  by_cases h1 : 60000 < n
  · have HS := Lib.hid (show secN n = 0 by unfold secN; rw [if_pos (by omega)])
    go_enter Try.func17, Try.ntmps17
    go_wp2
    go_ret
    exact ⟨ret_int HS.out.symm, rfl⟩
  have HS := Lib.hid (show secN n = (n + 86) / 63 by unfold secN; rw [if_neg (by omega)])
  have HR := Lib.hid (show 0 ≤ n ∧ n ≤ 60000 by omega)
  have w1 : wrap64 (24 + n) = 24 + n := by have := HR.out; unfold wrap64; omega
  have w2 : wrap64 (24 + n + 63) = 24 + n + 63 := by have := HR.out; unfold wrap64; omega
  have w3 : wrap64 (24 + n + 63 - 1) = 24 + n + 63 - 1 := by have := HR.out; unfold wrap64; omega
  go_enter Try.func17, Try.ntmps17
  go_wp2
  go_ret
  exact ⟨ret_int (by rw [HS.out, show 24 + n + 63 - 1 = n + 86 by omega]), rfl⟩

/-- A frame in a box. -/
def BoxF (w : World) (b : Nat) (F : FR) (ao : Option Addr) (m c : Nat) : Prop := w.heap[b]? = some (.cells #[.int .i64 F.k, .int .i64 F.g, .int .i64 F.s, .slice ao m c] 24 (0, 0))
theorem BoxF.cells {w : World} {b : Nat} {F : FR} {ao : Option Addr} {m c : Nat} (h : BoxF w b F ao m c) : w.cell? ⟨b, 0, none⟩ = some (.int .i64 F.k) ∧ w.cell? ⟨b, 1, none⟩ = some (.int .i64 F.g) ∧ w.cell? ⟨b, 2, none⟩ = some (.int .i64 F.s) ∧ w.cell? ⟨b, 3, none⟩ = some (.slice ao m c) := ⟨blk_cell h 0, blk_cell h 1, blk_cell h 2, blk_cell h 3⟩
theorem BoxF.below {w w' : World} {b : Nat} {F : FR} {ao : Option Addr} {m c : Nat} (h : BoxF w b F ao m c) (hb : Below w.heap.size w w') : BoxF w' b F ao m c := (hb.block b (blk_lt h)).trans h
theorem BoxF.keep {w w' : World} {b : Nat} {F : FR} {ao : Option Addr} {m c : Nat} {S : Nat → Prop} (h : BoxF w b F ao m c) (hk : Keeps S w w') (hS : ¬ S b) : BoxF w' b F ao m c := (hk.block b (blk_lt h) hS).trans h

set_option maxRecDepth 100000 in
set_option maxHeartbeats 2000000 in
theorem starts_any2 (F : FR) (ao : Option Addr) (m c : Nat) (w : World) (hF : F.ok) (hm : F.b.length = m) (hl : m ≤ 60000) :
    Calls Try.prog 47 #[.agg #[.int .i64 F.k, .int .i64 F.g, .int .i64 F.s, .slice ao m c]] w fun e w' => RowPost w (headF F) e w' := by
  have HF := Lib.hid hF
  have HM := Lib.hid hm
  have HL := Lib.hid hl
  obtain ⟨w1, hw1⟩ : ∃ w1, w1 = w.alloc (.cells #[.int .i64 F.k, .int .i64 F.g, .int .i64 F.s, .slice ao m c] 24) := ⟨_, rfl⟩
  have HX1 : Hid (BoxF w1 w.heap.size F ao m c) := Lib.hid (by rw [hw1]; exact heap_alloc_new _ _)
  have HB1 : Hid (Below w.heap.size w w1) := Lib.hid (by rw [hw1]; exact (Below.refl _ _).alloc (Nat.le_refl _) _)
  have HW1 := Lib.hid hw1
  have HBL : Hid (w.heap.size < w1.heap.size) := Lib.hid (blk_lt HX1.out)
  have HHE : Hid (headF F = putB 25446 2 ++ putB F.k 1 ++ putB 0 1 ++ putB F.g 4 ++ putB F.s 4 ++ putB m 4) := Lib.hid (by unfold headF; rw [hm])
  have HHL := Lib.hid (headF_len F)
  clear hF hm hl hw1
  go_enter Try.func47, Try.ntmps47
  go_wp2_with fail
  rw [← HW1.out]
  refine (newEnc w1).mono ?_
  rintro e w2 ⟨rfl, rfl⟩
  have HE2 := Lib.hid (EI.start 104 w1)
  generalize (w1.alloc (.cells #[.slice none 0 0, .int .i64 0] 104)) = w2 at *
  generalize w1.heap.size = p at *
  have HC2 := Lib.hid (HE2.out.num 25446 2 (by simp [putB_length]))
  rw [show encNum ([]) 0 25446 2 = (putB 25446 2, 0) from encNum_ok ([]) 25446 2 (by omega) (by omega) (by decide)] at HC2
  obtain ⟨c0, c1, c2, c3⟩ := (BoxF.below (HX1.out) (HE2.out.below.mono (Nat.le_refl _))).cells
  go_wp2_with fail
  refine HC2.out.mono ?_
  rintro e w3 ⟨rfl, he⟩
  have HE3 := Lib.hid he
  clear he c0 c1 c2 c3
  have HC3 := Lib.hid (HE3.out.num F.k 1 (by simp [putB_length]))
  rw [show encNum (putB 25446 2) 0 F.k 1 = (putB 25446 2 ++ putB F.k 1, 0) from encNum_ok (putB 25446 2) F.k 1 (by omega) HF.out.1.1 (by have := HF.out.1.2; omega)] at HC3
  obtain ⟨c0, c1, c2, c3⟩ := (BoxF.below (HX1.out) (HE3.out.below.mono (Nat.le_refl _))).cells
  go_wp2_with fail
  refine HC3.out.mono ?_
  rintro e w4 ⟨rfl, he⟩
  have HE4 := Lib.hid he
  clear he c0 c1 c2 c3
  have HC4 := Lib.hid (HE4.out.num 0 1 (by simp [putB_length]))
  rw [show encNum (putB 25446 2 ++ putB F.k 1) 0 0 1 = (putB 25446 2 ++ putB F.k 1 ++ putB 0 1, 0) from encNum_ok (putB 25446 2 ++ putB F.k 1) 0 1 (by omega) (by omega) (by decide)] at HC4
  obtain ⟨c0, c1, c2, c3⟩ := (BoxF.below (HX1.out) (HE4.out.below.mono (Nat.le_refl _))).cells
  go_wp2_with fail
  refine HC4.out.mono ?_
  rintro e w5 ⟨rfl, he⟩
  have HE5 := Lib.hid he
  clear he c0 c1 c2 c3
  have HC5 := Lib.hid (HE5.out.num F.g 4 (by simp [putB_length]))
  rw [show encNum (putB 25446 2 ++ putB F.k 1 ++ putB 0 1) 0 F.g 4 = (putB 25446 2 ++ putB F.k 1 ++ putB 0 1 ++ putB F.g 4, 0) from encNum_ok (putB 25446 2 ++ putB F.k 1 ++ putB 0 1) F.g 4 (by omega) HF.out.2.1.1 (by have := HF.out.2.1.2; omega)] at HC5
  obtain ⟨c0, c1, c2, c3⟩ := (BoxF.below (HX1.out) (HE5.out.below.mono (Nat.le_refl _))).cells
  go_wp2_with fail
  refine HC5.out.mono ?_
  rintro e w6 ⟨rfl, he⟩
  have HE6 := Lib.hid he
  clear he c0 c1 c2 c3
  have HC6 := Lib.hid (HE6.out.num F.s 4 (by simp [putB_length]))
  rw [show encNum (putB 25446 2 ++ putB F.k 1 ++ putB 0 1 ++ putB F.g 4) 0 F.s 4 = (putB 25446 2 ++ putB F.k 1 ++ putB 0 1 ++ putB F.g 4 ++ putB F.s 4, 0) from encNum_ok (putB 25446 2 ++ putB F.k 1 ++ putB 0 1 ++ putB F.g 4) F.s 4 (by omega) HF.out.2.2.1 (by have := HF.out.2.2.2; omega)] at HC6
  obtain ⟨c0, c1, c2, c3⟩ := (BoxF.below (HX1.out) (HE6.out.below.mono (Nat.le_refl _))).cells
  go_wp2_with fail
  refine HC6.out.mono ?_
  rintro e w7 ⟨rfl, he⟩
  have HE7 := Lib.hid he
  clear he c0 c1 c2 c3
  have HC7 := Lib.hid (HE7.out.num (m : Int) 4 (by simp [putB_length]))
  rw [show encNum (putB 25446 2 ++ putB F.k 1 ++ putB 0 1 ++ putB F.g 4 ++ putB F.s 4) 0 (m : Int) 4 = (putB 25446 2 ++ putB F.k 1 ++ putB 0 1 ++ putB F.g 4 ++ putB F.s 4 ++ putB m 4, 0) from encNum_ok (putB 25446 2 ++ putB F.k 1 ++ putB 0 1 ++ putB F.g 4 ++ putB F.s 4) (m : Int) 4 (by omega) (by omega) (by have := HL.out; omega)] at HC7
  obtain ⟨c0, c1, c2, c3⟩ := (BoxF.below (HX1.out) (HE7.out.below.mono (Nat.le_refl _))).cells
  go_wp2_with fail
  refine HC7.out.mono ?_
  rintro e w8 ⟨rfl, he⟩
  have HE8 := Lib.hid he
  clear he c0 c1 c2 c3
  rw [← HHE.out] at HE8
  have HDN := Lib.hid (HE8.out.done (by rw [HHL.out]; omega))
  go_wp2_with fail
  refine HDN.out.mono ?_
  rintro e w9 ⟨ao9, c9, rfl, ho9, hb9, hf9⟩
  have HP : Hid (RowPost w (headF F) (.returned (.slice ao9 (headF F).length c9)) w9) := Lib.hid ⟨ao9, c9, rfl, ho9, below_step HB1.out hb9, fun g hg => Nat.le_trans HB1.out.size (hf9 g hg)⟩
  clear ho9 hb9 hf9
  go_wp2
  go_ret
  exact HP.out

end Go.Proofs.Yteabnagdfecleaa
