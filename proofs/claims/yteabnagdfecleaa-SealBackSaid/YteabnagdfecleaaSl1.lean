/- Package seal: Seal. -/
import Derived.Test.YteabnagdfecleaaSlP
import Derived.Test.YteabnagdfecleaaMac2
import Derived.Test.YteabnagdfecleaaTake
namespace Go.Proofs.Yteabnagdfecleaa
open Go.RowKit
set_option linter.unusedVariables false
set_option linter.unusedSimpArgs false

/-- A note's cells in a block. -/
def NBox (w : World) (b : Nat) (p l x s : Int) (v : Value) : Prop := w.heap[b]? = some (.cells #[.int .i64 p, .int .i64 l, .int .i64 x, .int .i64 s, v] 46 (0, 0))
section
variable {w w' : World} {b : Nat} {p l x s : Int} {v : Value}
theorem NBox.lt (h : NBox w b p l x s v) : b < w.heap.size := blk_lt h
theorem NBox.new (w : World) (p l x s : Int) (v : Value) : NBox (w.alloc (.cells #[.int .i64 p, .int .i64 l, .int .i64 x, .int .i64 s, v] 46)) w.heap.size p l x s v := heap_alloc_new _ _
theorem NBox.cells (h : NBox w b p l x s v) : w.cell? ⟨b, 0, none⟩ = some (.int .i64 p) ∧ w.cell? ⟨b, 1, none⟩ = some (.int .i64 l) ∧ w.cell? ⟨b, 2, none⟩ = some (.int .i64 x) ∧ w.cell? ⟨b, 3, none⟩ = some (.int .i64 s) ∧ w.cell? ⟨b, 4, none⟩ = some v := ⟨blk_cell h 0, blk_cell h 1, blk_cell h 2, blk_cell h 3, blk_cell h 4⟩
theorem NBox.free (h : NBox w b p l x s v) : w.frozen? ⟨b, 0, none⟩ = false ∧ w.frozen? ⟨b, 1, none⟩ = false ∧ w.frozen? ⟨b, 2, none⟩ = false ∧ w.frozen? ⟨b, 3, none⟩ = false ∧ w.frozen? ⟨b, 4, none⟩ = false := ⟨blk_frozen h 0, blk_frozen h 1, blk_frozen h 2, blk_frozen h 3, blk_frozen h 4⟩
theorem NBox.keep {S : Nat → Prop} (h : NBox w b p l x s v) (hk : Keeps S w w') (hS : ¬ S b) : NBox w' b p l x s v := (hk.block b (blk_lt h) hS).trans h
theorem NBox.below (h : NBox w b p l x s v) (hb : Below w.heap.size w w') : NBox w' b p l x s v := (hb.block b (blk_lt h)).trans h
theorem NBox.set4 (h : NBox w b p l x s v) (u : Value) : NBox (w.setCell ⟨b, 4, none⟩ u) b p l x s u := by unfold NBox; simpa using blk_set h 4 u
/-- All five cells written. -/
def fillN (w : World) (b : Nat) (p l x s : Int) (v : Value) : World := ((((w.setCell ⟨b, 0, none⟩ (.int .i64 p)).setCell ⟨b, 1, none⟩ (.int .i64 l)).setCell ⟨b, 2, none⟩ (.int .i64 x)).setCell ⟨b, 3, none⟩ (.int .i64 s)).setCell ⟨b, 4, none⟩ v
theorem NBox.fill (h : NBox w b p l x s v) (p' l' x' s' : Int) (v' : Value) : NBox (fillN w b p' l' x' s' v') b p' l' x' s' v' := by
  unfold fillN NBox
  simpa using blk_set (blk_set (blk_set (blk_set (blk_set h 0 (.int .i64 p')) 1 (.int .i64 l')) 2 (.int .i64 x')) 3 (.int .i64 s')) 4 v'
theorem fillN_keeps (w : World) (b : Nat) (p l x s : Int) (v : Value) : Keeps (fun i => i = b) w (fillN w b p l x s v) :=
  (((((Keeps.refl (fun i => i = b) w).setCell (p := ⟨b, 0, none⟩) (Or.inl rfl) _).setCell (p := ⟨b, 1, none⟩) (Or.inl rfl) _).setCell (p := ⟨b, 2, none⟩) (Or.inl rfl) _).setCell (p := ⟨b, 3, none⟩) (Or.inl rfl) _).setCell (p := ⟨b, 4, none⟩) (Or.inl rfl) _
end
/-- A note as a value. -/
def NR.val (N : NR) (v : Value) : Value := .agg #[.int .i64 N.p, .int .i64 N.l, .int .i64 N.w, .int .i64 N.s, v]
/-- What Seal hands back. -/
def SealPost (w : World) (tb : Nat) (r : List Int × Int) (e : Ending) (w' : World) : Prop := ∃ ao cap, e = .returned (.tuple #[.slice ao r.1.length cap, .int .i64 r.2]) ∧ RowT w tb r.1 (.slice ao r.1.length cap) w'

set_option maxRecDepth 100000 in
set_option maxHeartbeats 4000000 in
theorem seal_any (tb : Nat) (ko : Option Addr) (key : List Int) (kn kc : Nat) (N : NR) (ao : Option Addr) (m c : Nat) (w : World) (ht : TabOk w tb) (hk : Lie tb w ko key kn kc) (hl : Lie tb w ao N.b m c) (hkn : kn ≤ 1000000) :
    Calls Try.prog 24 #[.pointer (some ⟨tb, 0, none⟩), .slice ko kn kc, .agg #[.int .i64 N.p, .int .i64 N.l, .int .i64 N.w, .int .i64 N.s, .slice ao m c]] w fun e w' => SealPost w tb (sealR key N) e w' := by
  have HT := Lib.hid ht
  have HTL := Lib.hid ht.lt
  have HKY := Lib.hid hk
  have HL := Lib.hid hl
  have HKN := Lib.hid hkn
  obtain ⟨w1, hw1⟩ : ∃ w1, w1 = w.alloc (.cells #[.int .i64 N.p, .int .i64 N.l, .int .i64 N.w, .int .i64 N.s, .slice ao m c] 46) := ⟨_, rfl⟩
  have HX1 : Hid (NBox w1 w.heap.size N.p N.l N.w N.s (.slice ao m c)) := Lib.hid (by rw [hw1]; exact NBox.new _ _ _ _ _ _)
  have HB1 : Hid (Below w.heap.size w w1) := Lib.hid (by rw [hw1]; exact (Below.refl _ _).alloc (Nat.le_refl _) _)
  have HT1 := Lib.hid (ht.below HB1.out)
  have HW1 := Lib.hid hw1
  clear ht hk hl hkn
  obtain ⟨c0, c1, c2, c3, c4⟩ := HX1.out.cells
  rw [hw1] at c0 c1 c2 c3 c4
  clear hw1
  have HNIL : Hid (RowT w tb [] (.slice none 0 0) w1) := Lib.hid ⟨HT1.out, World.ownsRow_nil _ _ _ _, Keeps.of_below HB1.out, fun g (h : (Value.slice none 0 0).ownBlock = some g) => by cases h⟩
  by_cases hok : N.ok
  case neg =>
    have HR := Lib.hid (show sealR key N = ([], 1) by unfold sealR; rw [if_neg hok])
    have HOK := Lib.hid hok
    clear hok
    go_enter Try.func24, Try.ntmps24
    by_cases q0 : N.p < 0
    · go_wp2_with fail
      rw [← HW1.out]
      go_ret2
      rw [HR.out]
      exact ⟨none, 0, rfl, HNIL.out⟩
    by_cases q1 : 16 ≤ N.p
    · go_wp2_with fail
      rw [← HW1.out]
      go_ret2
      rw [HR.out]
      exact ⟨none, 0, rfl, HNIL.out⟩
    by_cases q2 : N.l < 0
    · go_wp2_with fail
      rw [← HW1.out]
      go_ret2
      rw [HR.out]
      exact ⟨none, 0, rfl, HNIL.out⟩
    by_cases q3 : 1 < N.l
    · go_wp2_with fail
      rw [← HW1.out]
      go_ret2
      rw [HR.out]
      exact ⟨none, 0, rfl, HNIL.out⟩
    by_cases q4 : N.w < 0
    · go_wp2_with fail
      rw [← HW1.out]
      go_ret2
      rw [HR.out]
      exact ⟨none, 0, rfl, HNIL.out⟩
    by_cases q5 : 1 < N.w
    · go_wp2_with fail
      rw [← HW1.out]
      go_ret2
      rw [HR.out]
      exact ⟨none, 0, rfl, HNIL.out⟩
    by_cases q6 : N.s < 1
    · go_wp2_with fail
      rw [← HW1.out]
      go_ret2
      rw [HR.out]
      exact ⟨none, 0, rfl, HNIL.out⟩
    by_cases q7 : 4294967295 < N.s
    · go_wp2_with fail
      rw [← HW1.out]
      go_ret2
      rw [HR.out]
      exact ⟨none, 0, rfl, HNIL.out⟩
    exact absurd ⟨⟨by omega, by omega⟩, ⟨by omega, by omega⟩, ⟨by omega, by omega⟩, ⟨by omega, by omega⟩⟩ HOK.out
  case pos =>
  have HOK := Lib.hid hok
  obtain ⟨⟨o1, o2⟩, ⟨o3, o4⟩, ⟨o5, o6⟩, ⟨o7, o8⟩⟩ := hok
  by_cases hbig : (60000 : Int) < (m : Int)
  · have HR := Lib.hid (show sealR key N = ([], 3) by unfold sealR; rw [if_pos HOK.out, if_pos (by have := HL.out.len; omega)])
    have n1 : ¬ N.p < 0 := by omega
    have n2 : ¬ 16 ≤ N.p := by omega
    have n3 : ¬ N.l < 0 := by omega
    have n4 : ¬ 1 < N.l := by omega
    have n5 : ¬ N.w < 0 := by omega
    have n6 : ¬ 1 < N.w := by omega
    have n7 : ¬ N.s < 1 := by omega
    have n8 : ¬ 4294967295 < N.s := by omega
    clear o1 o2 o3 o4 o5 o6 o7 o8
    go_enter Try.func24, Try.ntmps24
    go_wp2_with fail
    rw [← HW1.out]
    go_ret2
    rw [HR.out]
    exact ⟨none, 0, rfl, HNIL.out⟩
  have HML : Hid (m ≤ 60000) := Lib.hid (by omega)
  have HR := Lib.hid (show sealR key N = (sealF key N, 0) by unfold sealR; rw [if_pos HOK.out, if_neg (by have := HL.out.len; omega)])
  have HHE : Hid (headN N = putB 110 1 ++ putB N.p 1 ++ putB N.l 1 ++ putB N.w 1 ++ putB N.s 4 ++ putB m 4) := Lib.hid (by unfold headN; rw [HL.out.len])
  have HHL := Lib.hid (headN_len N)
  have n1 : ¬ N.p < 0 := by omega
  have n2 : ¬ 16 ≤ N.p := by omega
  have n3 : ¬ N.l < 0 := by omega
  have n4 : ¬ 1 < N.l := by omega
  have n5 : ¬ N.w < 0 := by omega
  have n6 : ¬ 1 < N.w := by omega
  have n7 : ¬ N.s < 1 := by omega
  have n8 : ¬ 4294967295 < N.s := by omega
  clear o1 o2 o3 o4 o5 o6 o7 o8
  have HBL : Hid (w.heap.size < w1.heap.size) := Lib.hid HX1.out.lt
  go_enter Try.func24, Try.ntmps24
  go_upto_region 5 with fail
  rw [← HW1.out]
  clear c0 c1 c2 c3 c4 n1 n2 n3 n4 n5 n6 n7 n8 hbig
  go_wp2_with fail
  (with_reducible refine (newEnc w1).mono ?_)
  rintro e w2 ⟨rfl, rfl⟩
  have HE2 := Lib.hid (EI.start 104 w1)
  generalize (w1.alloc (.cells #[.slice none 0 0, .int .i64 0] 104)) = w2 at *
  generalize w1.heap.size = p at *
  have HC2 := Lib.hid (HE2.out.num 110 1 (by simp [putB_length]))
  rw [show encNum ([]) 0 110 1 = (putB 110 1, 0) from encNum_ok ([]) 110 1 (by omega) (by omega) (by decide)] at HC2
  obtain ⟨c0, c1, c2, c3, c4⟩ := (HX1.out.below (HE2.out.below.mono (Nat.le_refl _))).cells
  go_wp2_with fail
  (with_reducible refine HC2.out.mono ?_)
  rintro e w3 ⟨rfl, he⟩
  have HE3 := Lib.hid he
  clear he c0 c1 c2 c3 c4 HC2 HE2
  have HC3 := Lib.hid (HE3.out.num N.p 1 (by simp [putB_length]))
  rw [show encNum (putB 110 1) 0 N.p 1 = (putB 110 1 ++ putB N.p 1, 0) from encNum_ok (putB 110 1) N.p 1 (by omega) HOK.out.1.1 (by have := HOK.out.1.2; omega)] at HC3
  obtain ⟨c0, c1, c2, c3, c4⟩ := (HX1.out.below (HE3.out.below.mono (Nat.le_refl _))).cells
  go_wp2_with fail
  (with_reducible refine HC3.out.mono ?_)
  rintro e w4 ⟨rfl, he⟩
  have HE4 := Lib.hid he
  clear he c0 c1 c2 c3 c4 HC3 HE3
  have HC4 := Lib.hid (HE4.out.num N.l 1 (by simp [putB_length]))
  rw [show encNum (putB 110 1 ++ putB N.p 1) 0 N.l 1 = (putB 110 1 ++ putB N.p 1 ++ putB N.l 1, 0) from encNum_ok (putB 110 1 ++ putB N.p 1) N.l 1 (by omega) HOK.out.2.1.1 (by have := HOK.out.2.1.2; omega)] at HC4
  obtain ⟨c0, c1, c2, c3, c4⟩ := (HX1.out.below (HE4.out.below.mono (Nat.le_refl _))).cells
  go_wp2_with fail
  (with_reducible refine HC4.out.mono ?_)
  rintro e w5 ⟨rfl, he⟩
  have HE5 := Lib.hid he
  clear he c0 c1 c2 c3 c4 HC4 HE4
  have HC5 := Lib.hid (HE5.out.num N.w 1 (by simp [putB_length]))
  rw [show encNum (putB 110 1 ++ putB N.p 1 ++ putB N.l 1) 0 N.w 1 = (putB 110 1 ++ putB N.p 1 ++ putB N.l 1 ++ putB N.w 1, 0) from encNum_ok (putB 110 1 ++ putB N.p 1 ++ putB N.l 1) N.w 1 (by omega) HOK.out.2.2.1.1 (by have := HOK.out.2.2.1.2; omega)] at HC5
  obtain ⟨c0, c1, c2, c3, c4⟩ := (HX1.out.below (HE5.out.below.mono (Nat.le_refl _))).cells
  go_wp2_with fail
  (with_reducible refine HC5.out.mono ?_)
  rintro e w6 ⟨rfl, he⟩
  have HE6 := Lib.hid he
  clear he c0 c1 c2 c3 c4 HC5 HE5
  have HC6 := Lib.hid (HE6.out.num N.s 4 (by simp [putB_length]))
  rw [show encNum (putB 110 1 ++ putB N.p 1 ++ putB N.l 1 ++ putB N.w 1) 0 N.s 4 = (putB 110 1 ++ putB N.p 1 ++ putB N.l 1 ++ putB N.w 1 ++ putB N.s 4, 0) from encNum_ok (putB 110 1 ++ putB N.p 1 ++ putB N.l 1 ++ putB N.w 1) N.s 4 (by omega) (by have := HOK.out.2.2.2.1; omega) (by have := HOK.out.2.2.2.2; omega)] at HC6
  obtain ⟨c0, c1, c2, c3, c4⟩ := (HX1.out.below (HE6.out.below.mono (Nat.le_refl _))).cells
  go_wp2_with fail
  (with_reducible refine HC6.out.mono ?_)
  rintro e w7 ⟨rfl, he⟩
  have HE7 := Lib.hid he
  clear he c0 c1 c2 c3 c4 HC6 HE6
  have HC7 := Lib.hid (HE7.out.num (m : Int) 4 (by simp [putB_length]))
  rw [show encNum (putB 110 1 ++ putB N.p 1 ++ putB N.l 1 ++ putB N.w 1 ++ putB N.s 4) 0 (m : Int) 4 = (putB 110 1 ++ putB N.p 1 ++ putB N.l 1 ++ putB N.w 1 ++ putB N.s 4 ++ putB (m : Int) 4, 0) from encNum_ok (putB 110 1 ++ putB N.p 1 ++ putB N.l 1 ++ putB N.w 1 ++ putB N.s 4) (m : Int) 4 (by omega) (by omega) (by have := HML.out; omega)] at HC7
  obtain ⟨c0, c1, c2, c3, c4⟩ := (HX1.out.below (HE7.out.below.mono (Nat.le_refl _))).cells
  go_wp2_with fail
  (with_reducible refine HC7.out.mono ?_)
  rintro e w8 ⟨rfl, he⟩
  have HE8 := Lib.hid he
  clear he c0 c1 c2 c3 c4 HC7 HE7
  rw [← HHE.out] at HE8
  have HDN := Lib.hid (HE8.out.done (by rw [HHL.out]; omega))
  have HXE := Lib.hid (HX1.out.below HE8.out.below)
  go_wp2_with fail
  (with_reducible refine HDN.out.mono ?_)
  rintro e w9 ⟨ao9, c9, rfl, hr9⟩
  rw [HHL.out] at hr9 ⊢
  have HB9 : Hid (Below w.heap.size w w9) := Lib.hid (below_step HB1.out hr9.2.1)
  have HX9 := Lib.hid (HX1.out.below hr9.2.1)
  have HF9 : Hid (∀ g, (Value.slice ao9 12 c9).ownBlock = some g → w.heap.size < g) := Lib.hid (fun g hg => Nat.lt_of_lt_of_le HX1.out.lt (hr9.2.2 g hg))
  have HO9 : Hid (w9.ownsRow 0 5 1 (.slice ao9 12 c9) 12 ((headN N).map (Value.int .u8))) := Lib.hid (by have h := hr9.1; rw [HHL.out] at h; exact h)
  clear hr9 HDN HXE HX1 HE8
  have HL9 := Lib.hid (HL.out.below HB9.out)
  obtain ⟨c0, c1, c2, c3, c4⟩ := HX9.out.cells
  obtain ⟨i0, hi, hz0, hz1, hz2⟩ := info_parts Try_infoU8
  go_wp2_with (at_builtin; refine wpList_append_any rfl _ _ 22 rfl 5 i0 (.int .u8 0) 1 1 Try.underlying22 hi hz0 hz1 hz2 rfl (by decide) (.slice ao9 12 c9) 12 _ rfl HO9.out ao m c (N.b.map (Value.int .u8)) rfl ?c1 ?c2 ?c3 (ints_one _ _) ?c5 ?c6 ?_)
  case c1 => rw [List.length_map, HL.out.len, Nat.mul_one]
  case c2 => intro e; have h := HL9.out.ints; rw [e] at h; have h1 := ints_none h; have := HL.out.len; omega
  case c3 => exact src_ints HL9.out.ints
  case c5 => have := HML.out; unfold maxLen; omega
  case c6 => have := HML.out; omega
  intro ao7 cap7 w10 hown hgrow hat hnn
  rw [← List.map_append] at hown
  have HBN : Hid ((bodyN N).length = 12 + m) := Lib.hid (by rw [bodyN_len, HL.out.len])
  have HBI := Lib.hid (bodyN_inB HL.out.inb)
  have HSF : Hid (sealF key N = bodyN N ++ macF key (bodyN N)) := Lib.hid rfl
  have HSL : Hid ((sealF key N).length = 12 + m + 32) := Lib.hid (by rw [sealF_len, HL.out.len]; omega)
  have hown' : w10.ownsRow 0 5 1 (.slice ao7 (12 + m) cap7) (12 + m) ((bodyN N).map (Value.int .u8)) := hown
  have HO10 := Lib.hid hown'
  generalize bodyN N = BN at *
  have HB10 : Hid (Below w.heap.size w w10) := Lib.hid (below_fp HB9.out ((Keeps.refl _ w9).grown hgrow (fun i hi => Or.inl hi)) (fun i hi => Nat.le_of_lt (HF9.out i hi)))
  have HF10 : Hid (∀ g, (Value.slice ao7 (12 + m) cap7).ownBlock = some g → w.heap.size ≤ g) := Lib.hid (fun g hg => by
    rcases hat g hg with h | h
    · exact Nat.le_of_lt (HF9.out g h)
    · have := HB9.out.size; omega)
  clear hown hown' hgrow hat hnn c0 c1 c2 c3 c4 HO9 HF9 HX9 HL9
  have HT10 := Lib.hid (HT.out.below HB10.out)
  have HMO := Lib.hid (macOne_any tb ko key kn kc ao7 BN (12 + m) cap7 w10 HT10.out HKY.out.len (ints_below HKY.out.ints HB10.out) HKY.out.inb HKY.out.off (by have := HKN.out; omega) HBN.out (owns_at HO10.out).2.1 HBI.out (Or.inr (fun a ha e => by have := HF10.out a.block (by rw [ha]; rfl); have := HTL.out; omega)) (by have := HML.out; omega))
  go_wp2_with fail
  (with_reducible refine HMO.out.mono ?_)
  rintro e w11 ⟨g11, c11, rfl, ht11, ho11, hl11, hk11, hg11⟩
  have HT11 := Lib.hid ht11
  have HI11 := Lib.hid (owns_at ho11).2.1
  have HK11 : Hid (Keeps (fun i => i = tb) w w11) := Lib.hid ((Keeps.of_below HB10.out).trans hk11 (fun i h => Or.inl h))
  have HO11 : Hid (w11.ownsRow 0 5 1 (.slice ao7 (12 + m) cap7) (12 + m) (BN.map (Value.int .u8))) := Lib.hid (ownsRow_same HO10.out (fun x hx => hk11.block x (HO10.out.lt x hx).2 (by have := HF10.out x hx; have := HTL.out; omega)))
  have HTG := Lib.hid hl11
  generalize macF key BN = TG at *
  clear ht11 ho11 hl11 hk11 hg11 HMO HO10
  go_wp2_with (at_builtin; refine wpList_append_any rfl _ _ 22 rfl 5 i0 (.int .u8 0) 1 1 Try.underlying22 hi hz0 hz1 hz2 rfl (by decide) (.slice ao7 (12 + m) cap7) (12 + m) _ rfl HO11.out (some ⟨g11, 0, none⟩) 32 c11 (TG.map (Value.int .u8)) rfl ?c1 ?c2 ?c3 (ints_one _ _) ?c5 ?c6 ?_)
  case c1 => rw [List.length_map, HTG.out]
  case c2 => intro e; cases e
  case c3 => exact src_ints HI11.out
  case c5 => have := HML.out; unfold maxLen; omega
  case c6 => have := HML.out; omega
  intro ao8 cap8 w12 hown hgrow hat hnn
  rw [← List.map_append] at hown
  have HP : Hid (RowT w tb (sealF key N) (.slice ao8 (12 + m + 32) cap8) w12) := Lib.hid (by
    have hk8 : Keeps (fun i => (Value.slice ao7 (12 + m) cap7).ownBlock = some i) w11 w12 := (Keeps.refl _ w11).grown hgrow (fun i hi => Or.inl hi)
    refine ⟨tab_keep HT11.out hk8 (fun e => by have := HF10.out tb e; have := HTL.out; omega), ?_, HK11.out.trans hk8 (fun i hi => Or.inr (HF10.out i hi)), ?_⟩
    · rw [HSL.out, HSF.out]
      exact hown
    · intro g hg
      rcases hat g hg with h | h
      · exact HF10.out g h
      · have := HK11.out.size; omega)
  clear hown hgrow hat hnn
  go_wp2_with fail
  go_ret2
  rw [HR.out]
  refine ⟨ao8, cap8, ?_, ?_⟩
  · dsimp only; rw [HSL.out]; rfl
  · dsimp only; rw [HSL.out]; exact HP.out

/-- Seal, within a law. -/
theorem seal_st {W w : World} {tb : Nat} (hs : St W tb w) (ko : Option Addr) (key : List Int) (kn kc : Nat) (N : NR) (ao : Option Addr) (m c : Nat) (hk : Lie tb w ko key kn kc) (hl : Lie tb w ao N.b m c) (hkn : kn ≤ 1000000) :
    Calls Try.prog 24 #[.pointer (some ⟨tb, 0, none⟩), .slice ko kn kc, .agg #[.int .i64 N.p, .int .i64 N.l, .int .i64 N.w, .int .i64 N.s, .slice ao m c]] w fun e w' => ∃ a2 c2, e = .returned (.tuple #[.slice a2 (sealR key N).1.length c2, .int .i64 (sealR key N).2]) ∧ St W tb w' ∧ Keeps (fun i => i = tb) w w' ∧ Own tb w' a2 (sealR key N).1 (sealR key N).1.length c2 := by
  refine (seal_any tb ko key kn kc N ao m c w hs.tab hk hl hkn).mono ?_
  rintro e w' ⟨a2, c2, rfl, h⟩
  exact ⟨a2, c2, rfl, hs.step h.2.2.1 h.1, h.2.2.1, h.own hs.lt rfl (sealR_inB key hl.inb)⟩

end Go.Proofs.Yteabnagdfecleaa
