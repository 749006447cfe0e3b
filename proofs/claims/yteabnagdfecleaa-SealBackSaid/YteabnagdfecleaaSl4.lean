/- The reference's head, Seal, Peek of a note; SameNote. -/
import Derived.Test.YteabnagdfecleaaSl3
import Derived.Test.YteabnagdfecleaaMac3
import Derived.Lib.SlBytesConst
namespace Go.Proofs.Yteabnagdfecleaa
open Go.RowKit
set_option linter.unusedVariables false
set_option linter.unusedSimpArgs false

set_option maxRecDepth 100000 in
set_option maxHeartbeats 4000000 in
theorem rhead_any (N : NR) (ao : Option Addr) (m c : Nat) (w : World) (hok : N.ok) (hl : N.b.length = m) (hz : IntsAt .u8 w ao N.b) (hm : m ≤ 60000) :
    Calls Try.prog 45 #[.agg #[.int .i64 N.p, .int .i64 N.l, .int .i64 N.w, .int .i64 N.s, .slice ao m c]] w fun e w' => RowPost w (bodyN N) e w' := by
  have HOK := Lib.hid hok
  have HLN := Lib.hid hl
  have HZ := Lib.hid hz
  have HML := Lib.hid hm
  obtain ⟨w1, hw1⟩ : ∃ w1, w1 = w.alloc (.cells #[.int .i64 N.p, .int .i64 N.l, .int .i64 N.w, .int .i64 N.s, .slice ao m c] 46) := ⟨_, rfl⟩
  have HX1 : Hid (NBox w1 w.heap.size N.p N.l N.w N.s (.slice ao m c)) := Lib.hid (by rw [hw1]; exact NBox.new _ _ _ _ _ _)
  have HB1 : Hid (Below w.heap.size w w1) := Lib.hid (by rw [hw1]; exact (Below.refl _ _).alloc (Nat.le_refl _) _)
  have HBL : Hid (w.heap.size < w1.heap.size) := Lib.hid HX1.out.lt
  have HW1 := Lib.hid hw1
  have HHE : Hid (headN N = putB 110 1 ++ putB N.p 1 ++ putB N.l 1 ++ putB N.w 1 ++ putB N.s 4 ++ putB m 4) := Lib.hid (by unfold headN; rw [hl])
  have HHL := Lib.hid (headN_len N)
  have kc := fun (w : World) (C : Array Value) (n c : Nat) => Lib.run_convert_bytes_const (P := Try.prog) w 22 5 C n c Try.underlying22 Try.underlying5
  clear hok hl hz hm hw1
  have HE2 := Lib.hid (EI.start 98 w1)
  obtain ⟨w2, hw2⟩ : ∃ w2, w2 = w1.alloc (.cells #[.slice none 0 0, .int .i64 0] 98) := ⟨_, rfl⟩
  rw [← hw2] at HE2
  have HW2 := Lib.hid hw2
  obtain ⟨w3, hw3⟩ : ∃ w3, w3 = w2.alloc (.cells #[.int .u8 110] 5 (1, 2)) := ⟨_, rfl⟩
  have hb3 : Below w2.heap.size w2 w3 := by rw [hw3]; exact (Below.refl _ _).alloc (Nat.le_refl _) _
  have HA3 : Hid (IntsAt .u8 w3 (some ⟨w2.heap.size, 0, none⟩) [110]) := Lib.hid (by
    refine Or.inr ⟨_, _, rfl, fun i hi => ?_⟩
    rw [Nat.zero_add, hw3, World.cell?_alloc_mark]
    match i, hi with
    | 0, _ => rfl)
  have HE3 := Lib.hid (HE2.out.later hb3)
  have HW3 := Lib.hid hw3
  have HC3 := Lib.hid (HE3.out.raw (some ⟨w2.heap.size, 0, none⟩) [110] 1 1 rfl HA3.out (by simp))
  rw [show ([] : List Int) ++ [110] = putB 110 1 by decide] at HC3
  clear hw2 hw3 hb3 HE2
  generalize hp : w1.heap.size = p at HE3 HC3
  have HPE := Lib.hid hp
  clear hp
  go_enter Try.func45, Try.ntmps45
  go_upto_region 1 with fail
  rw [← HW1.out]
  go_upto_region 2 with fail
  rw [← HW2.out, HPE.out]
  go_wp2_with fail
  rw [← HW3.out]
  refine HC3.out.mono ?_
  rintro e w4 ⟨rfl, he⟩
  have HE4 := Lib.hid he
  clear he HC3 HE3 HA3
  have HC4 := Lib.hid (HE4.out.rnum N.p 1 (by simp [putB_length]))
  rw [show refNum (putB 110 1) 0 N.p 1 = (putB 110 1 ++ putB N.p 1, 0) from refNum_ok (putB 110 1) N.p 1 (by omega) HOK.out.1.1 (by have := HOK.out.1.2; omega)] at HC4
  obtain ⟨c0, c1, c2, c3, c4⟩ := (HX1.out.below (HE4.out.below.mono (Nat.le_refl _))).cells
  go_wp2_with fail
  refine HC4.out.mono ?_
  rintro e w5 ⟨rfl, he⟩
  have HE5 := Lib.hid he
  clear he c0 c1 c2 c3 c4 HC4 HE4
  have HC5 := Lib.hid (HE5.out.rnum N.l 1 (by simp [putB_length]))
  rw [show refNum (putB 110 1 ++ putB N.p 1) 0 N.l 1 = (putB 110 1 ++ putB N.p 1 ++ putB N.l 1, 0) from refNum_ok (putB 110 1 ++ putB N.p 1) N.l 1 (by omega) HOK.out.2.1.1 (by have := HOK.out.2.1.2; omega)] at HC5
  obtain ⟨c0, c1, c2, c3, c4⟩ := (HX1.out.below (HE5.out.below.mono (Nat.le_refl _))).cells
  go_wp2_with fail
  refine HC5.out.mono ?_
  rintro e w6 ⟨rfl, he⟩
  have HE6 := Lib.hid he
  clear he c0 c1 c2 c3 c4 HC5 HE5
  have HC6 := Lib.hid (HE6.out.rnum N.w 1 (by simp [putB_length]))
  rw [show refNum (putB 110 1 ++ putB N.p 1 ++ putB N.l 1) 0 N.w 1 = (putB 110 1 ++ putB N.p 1 ++ putB N.l 1 ++ putB N.w 1, 0) from refNum_ok (putB 110 1 ++ putB N.p 1 ++ putB N.l 1) N.w 1 (by omega) HOK.out.2.2.1.1 (by have := HOK.out.2.2.1.2; omega)] at HC6
  obtain ⟨c0, c1, c2, c3, c4⟩ := (HX1.out.below (HE6.out.below.mono (Nat.le_refl _))).cells
  go_wp2_with fail
  refine HC6.out.mono ?_
  rintro e w7 ⟨rfl, he⟩
  have HE7 := Lib.hid he
  clear he c0 c1 c2 c3 c4 HC6 HE6
  have HC7 := Lib.hid (HE7.out.rnum N.s 4 (by simp [putB_length]))
  rw [show refNum (putB 110 1 ++ putB N.p 1 ++ putB N.l 1 ++ putB N.w 1) 0 N.s 4 = (putB 110 1 ++ putB N.p 1 ++ putB N.l 1 ++ putB N.w 1 ++ putB N.s 4, 0) from refNum_ok (putB 110 1 ++ putB N.p 1 ++ putB N.l 1 ++ putB N.w 1) N.s 4 (by omega) (by have := HOK.out.2.2.2.1; omega) (by have := HOK.out.2.2.2.2; omega)] at HC7
  obtain ⟨c0, c1, c2, c3, c4⟩ := (HX1.out.below (HE7.out.below.mono (Nat.le_refl _))).cells
  go_wp2_with fail
  refine HC7.out.mono ?_
  rintro e w8 ⟨rfl, he⟩
  have HE8 := Lib.hid he
  clear he c0 c1 c2 c3 c4 HC7 HE7
  have HC8 := Lib.hid (HE8.out.rnum (m : Int) 4 (by simp [putB_length]))
  rw [show refNum (putB 110 1 ++ putB N.p 1 ++ putB N.l 1 ++ putB N.w 1 ++ putB N.s 4) 0 (m : Int) 4 = (putB 110 1 ++ putB N.p 1 ++ putB N.l 1 ++ putB N.w 1 ++ putB N.s 4 ++ putB (m : Int) 4, 0) from refNum_ok (putB 110 1 ++ putB N.p 1 ++ putB N.l 1 ++ putB N.w 1 ++ putB N.s 4) (m : Int) 4 (by omega) (by omega) (by have := HML.out; omega)] at HC8
  obtain ⟨c0, c1, c2, c3, c4⟩ := (HX1.out.below (HE8.out.below.mono (Nat.le_refl _))).cells
  go_wp2_with fail
  refine HC8.out.mono ?_
  rintro e w9 ⟨rfl, he⟩
  have HE9 := Lib.hid he
  clear he c0 c1 c2 c3 c4 HC8 HE8
  rw [← HHE.out] at HE9
  go_upto_region 8 with fail
  have HX9 := Lib.hid (HX1.out.below (HE9.out.below.mono (Nat.le_refl _)))
  have HB9 : Hid (Below w.heap.size w w9) := Lib.hid (below_step HB1.out HE9.out.below)
  have HZ9 := Lib.hid (ints_below HZ.out HB9.out)
  obtain ⟨vo, vc, cv, hrow⟩ := HE9.out.open
  rw [HHL.out] at cv
  have HO9 : Hid (w9.ownsRow 0 5 1 (.slice vo 12 vc) 12 ((headN N).map (Value.int .u8))) := Lib.hid (by have h := hrow.1; rw [HHL.out] at h; exact h)
  have HF9 : Hid (∀ g, (Value.slice vo 12 vc).ownBlock = some g → w.heap.size < g) := Lib.hid (fun g hg => Nat.lt_of_lt_of_le HX1.out.lt (hrow.2.2 g (by rw [HHL.out]; exact hg)))
  clear hrow
  obtain ⟨_, _, _, _, cb⟩ := HX9.out.cells
  obtain ⟨i0, hi, hz0, hz1, hz2⟩ := info_parts Try_infoU8
  have HOD : Hid (w9.drew.ownsRow 0 5 1 (.slice vo 12 vc) 12 ((headN N).map (Value.int .u8))) := Lib.hid HO9.out
  have HZD : Hid (IntsAt .u8 w9.drew ao N.b) := Lib.hid HZ9.out
  have HNP : Hid ((Value.slice vo 12 vc).ownBlock ≠ some p) := Lib.hid (by
    obtain ⟨v, h1, _⟩ := HE9.out
    have h2 := blk_cell h1.1 0
    rw [cv] at h2
    have h3 : v = .slice vo 12 vc := by simpa using h2.symm
    rw [← h3]
    exact h1.2.2)
  have HPL : Hid (p < w9.heap.size) := Lib.hid (World.block_lt_of_cell? w9 _ cv)
  refine wp_region_held_drew (S := fun w' => w'.cell? ⟨p, 0, none⟩ = some (.slice vo 12 vc) ∧ w'.cell? ⟨w.heap.size, 4, none⟩ = some (.slice ao m c)) (by kernel_rfl) ?_ (fun hHeld => ?_)
  · exact ⟨cv, cb⟩
  refine take_at (i := 0) (d := 31) (v := ?_) rfl rfl (by kernel_rfl) (by kernel_rfl) (by kernel_rfl) (fun _ _ _ h => h) (Or.inl ⟨by rfl, by intro w' hSw; (try dsimp only at hSw); go_simp; try with_reducible rfl⟩) (by assumption) ?_
  simp only [List.setIfInBounds_toArray, List.set_cons_zero, List.set_cons_succ]
  refine take_at (i := 1) (d := 32) (v := ?_) rfl rfl (by kernel_rfl) (by kernel_rfl) (by kernel_rfl) (fun _ _ _ h => h) (Or.inl ⟨by rfl, by intro w' hSw; (try dsimp only at hSw); go_simp; try with_reducible rfl⟩) (by assumption) ?_
  simp only [List.setIfInBounds_toArray, List.set_cons_zero, List.set_cons_succ]
  refine take_at (i := 2) (d := 33) (v := ?_) rfl rfl (by kernel_rfl) (by kernel_rfl) (by kernel_rfl) (fun _ _ _ h => h) (Or.inl ⟨by rfl, by intro w' hSw; (try dsimp only at hSw); go_simp; try with_reducible rfl⟩) (by assumption) ?_
  simp only [List.setIfInBounds_toArray, List.set_cons_zero, List.set_cons_succ]
  refine take_at (i := 3) (d := 34) (v := ?_) rfl rfl (by kernel_rfl) (by kernel_rfl) (by kernel_rfl) (fun _ _ _ h => h) (Or.inl ⟨by rfl, by intro w' hSw; (try dsimp only at hSw); go_simp; try with_reducible rfl⟩) (by assumption) ?_
  simp only [List.setIfInBounds_toArray, List.set_cons_zero, List.set_cons_succ]
  refine take_at (i := 4) (d := 35) (v := ?_) rfl rfl (by kernel_rfl) (by kernel_rfl) (by kernel_rfl) (fun _ _ _ h => h) (Or.inl ⟨by rfl, by intro w' hSw; (try dsimp only at hSw); go_simp; try with_reducible rfl⟩) (by assumption) ?_
  simp only [List.setIfInBounds_toArray, List.set_cons_zero, List.set_cons_succ]
  refine take_at (i := 5) (d := 36) (v := ?_) rfl rfl (by kernel_rfl) (by kernel_rfl) (by kernel_rfl) (fun _ _ _ h => h) (Or.inl ⟨by rfl, by intro w' hSw; (try dsimp only at hSw); go_simp; try with_reducible rfl⟩) (by assumption) ?_
  simp only [List.setIfInBounds_toArray, List.set_cons_zero, List.set_cons_succ]
  refine wpAnyH_ready (rs := [6]) (by kernel_rfl) (by simp) ?_
  refine AllReadyH.cons rfl (fun K hK => ?_) AllReadyH.nil
  refine step_append_any (by rfl) _ _ 22 (by rfl) 5 i0 (.int .u8 0) 1 1 Try.underlying22 hi hz0 hz1 hz2 rfl (by decide) (.slice vo 12 vc) 12 ((headN N).map (Value.int .u8)) (by rfl) HOD.out ao m c (N.b.map (Value.int .u8)) (by rfl) (by rw [List.length_map, HLN.out, Nat.mul_one]) (fun e => by have h := HZD.out; rw [e] at h; have h1 := ints_none h; have := HLN.out; omega) (src_ints HZD.out) (ints_one _ _) (by have := HML.out; unfold maxLen; omega) (by have := HML.out; omega) ?_
  intro ao11 cap11 w11 hown hgrow hat hnn
  rw [← List.map_append] at hown
  have HBN : Hid ((bodyN N).length = 12 + m) := Lib.hid (by rw [bodyN_len, HLN.out])
  have HP : Hid (RowAt w (.slice ao11 (12 + m) cap11) (bodyN N) w11) := Lib.hid (by
    refine ⟨by rw [HBN.out]; exact hown, below_fp HB9.out (((Keeps.refl _ w9).drew).grown hgrow (fun i hi => Or.inl hi)) (fun i hi => Nat.le_of_lt (HF9.out i hi)), fun g hg => ?_⟩
    rcases hat g hg with h | h
    · exact Nat.le_of_lt (HF9.out g h)
    · have := HB9.out.size
      have h2 : g = w9.heap.size := h
      omega)
  have HK11 : Hid (Keeps (fun i => (Value.slice vo 12 vc).ownBlock = some i) w9 w11) := Lib.hid (((Keeps.refl _ w9).drew).grown hgrow (fun i hi => Or.inl hi))
  clear hown hgrow hat hnn
  go_wp2_with fail
  refine hK.out _ _ ?_ (fun hHeld => ?_)
  · exact ⟨(World.cell?_of_block (a := ⟨p, 0, none⟩) (HK11.out.block p HPL.out HNP.out)).trans cv, (World.cell?_of_block (a := ⟨w.heap.size, 4, none⟩) (HK11.out.block _ HX9.out.lt (fun h => Nat.lt_irrefl _ (HF9.out _ h)))).trans cb⟩
  clear hK K
  try simp only [Act.put, List.getElem_toArray, List.getElem_cons_succ, List.getElem_cons_zero]
  try simp only [List.setIfInBounds_toArray, List.set_cons_zero, List.set_cons_succ]
  refine take_at (i := 7) (d := 2) (v := ?_) rfl rfl (by kernel_rfl) (by kernel_rfl) (by kernel_rfl) (fun _ _ _ h => h) (Or.inl ⟨by rfl, by intro w' hSw; (try dsimp only at hSw); go_simp; try with_reducible rfl⟩) (by assumption) ?_
  simp only [List.setIfInBounds_toArray, List.set_cons_zero, List.set_cons_succ]
  refine wpAnyH_done (by kernel_rfl) ?_ _
  clear hHeld
  have HBN : Hid ((bodyN N).length = 12 + m) := Lib.hid (by rw [bodyN_len, HLN.out])
  go_wp2_with fail
  go_ret
  exact ⟨ao11, cap11, by rw [HBN.out]; rfl, by rw [HBN.out]; exact HP.out⟩

set_option maxRecDepth 100000 in
set_option maxHeartbeats 4000000 in
theorem rseal_any (ko : Option Addr) (key : List Int) (kn kc : Nat) (N : NR) (ao : Option Addr) (m c : Nat) (w : World) (hkl : key.length = kn) (hkz : IntsAt .u8 w ko key) (hkB : InB key) (hkn : kn ≤ 1000000) (hl : N.b.length = m) (hz : IntsAt .u8 w ao N.b) (hB : InB N.b) :
    Calls Try.prog 26 #[.slice ko kn kc, .agg #[.int .i64 N.p, .int .i64 N.l, .int .i64 N.w, .int .i64 N.s, .slice ao m c]] w fun e w' => RowPost2 w (sealR key N).1 (sealR key N).2 e w' := by
  have HKA : Hid (key.length = kn ∧ IntsAt .u8 w ko key ∧ InB key ∧ kn ≤ 1000000) := Lib.hid ⟨hkl, hkz, hkB, hkn⟩
  have HLN := Lib.hid hl
  have HZ := Lib.hid hz
  have HBI := Lib.hid hB
  obtain ⟨w1, hw1⟩ : ∃ w1, w1 = w.alloc (.cells #[.int .i64 N.p, .int .i64 N.l, .int .i64 N.w, .int .i64 N.s, .slice ao m c] 46) := ⟨_, rfl⟩
  have HX1 : Hid (NBox w1 w.heap.size N.p N.l N.w N.s (.slice ao m c)) := Lib.hid (by rw [hw1]; exact NBox.new _ _ _ _ _ _)
  have HB1 : Hid (Below w.heap.size w w1) := Lib.hid (by rw [hw1]; exact (Below.refl _ _).alloc (Nat.le_refl _) _)
  have HW1 := Lib.hid hw1
  clear hkl hkz hkB hkn hl hz hB
  obtain ⟨c0, c1, c2, c3, c4⟩ := HX1.out.cells
  rw [hw1] at c0 c1 c2 c3 c4
  clear hw1
  have HNIL : Hid (RowAt w (.slice none 0 0) [] w1) := Lib.hid ⟨World.ownsRow_nil _ _ _ _, HB1.out, fun g (h : (Value.slice none 0 0).ownBlock = some g) => by cases h⟩
  by_cases hok : N.ok
  case neg =>
    have HR := Lib.hid (show sealR key N = ([], 1) by unfold sealR; rw [if_neg hok])
    have HOK := Lib.hid hok
    clear hok
    go_enter Try.func26, Try.ntmps26
    by_cases q0 : N.p < 0
    · go_wp2_with fail
      rw [← HW1.out]
      go_ret2
      rw [HR.out]
      exact ⟨none, 0, rfl, HNIL.out⟩
    by_cases q1 : 16 ≤ N.p
    · go_wp2_with fail
      rw [← HW1.out]
      go_ret2
      rw [HR.out]
      exact ⟨none, 0, rfl, HNIL.out⟩
    by_cases q2 : N.l < 0
    · go_wp2_with fail
      rw [← HW1.out]
      go_ret2
      rw [HR.out]
      exact ⟨none, 0, rfl, HNIL.out⟩
    by_cases q3 : 1 < N.l
    · go_wp2_with fail
      rw [← HW1.out]
      go_ret2
      rw [HR.out]
      exact ⟨none, 0, rfl, HNIL.out⟩
    by_cases q4 : N.w < 0
    · go_wp2_with fail
      rw [← HW1.out]
      go_ret2
      rw [HR.out]
      exact ⟨none, 0, rfl, HNIL.out⟩
    by_cases q5 : 1 < N.w
    · go_wp2_with fail
      rw [← HW1.out]
      go_ret2
      rw [HR.out]
      exact ⟨none, 0, rfl, HNIL.out⟩
    by_cases q6 : N.s < 1
    · go_wp2_with fail
      rw [← HW1.out]
      go_ret2
      rw [HR.out]
      exact ⟨none, 0, rfl, HNIL.out⟩
    by_cases q7 : 4294967295 < N.s
    · go_wp2_with fail
      rw [← HW1.out]
      go_ret2
      rw [HR.out]
      exact ⟨none, 0, rfl, HNIL.out⟩
    exact absurd ⟨⟨by omega, by omega⟩, ⟨by omega, by omega⟩, ⟨by omega, by omega⟩, ⟨by omega, by omega⟩⟩ HOK.out
  case pos =>
  have HOK := Lib.hid hok
  obtain ⟨⟨o1, o2⟩, ⟨o3, o4⟩, ⟨o5, o6⟩, ⟨o7, o8⟩⟩ := hok
  have n1 : ¬ N.p < 0 := by omega
  have n2 : ¬ 16 ≤ N.p := by omega
  have n3 : ¬ N.l < 0 := by omega
  have n4 : ¬ 1 < N.l := by omega
  have n5 : ¬ N.w < 0 := by omega
  have n6 : ¬ 1 < N.w := by omega
  have n7 : ¬ N.s < 1 := by omega
  have n8 : ¬ 4294967295 < N.s := by omega
  clear o1 o2 o3 o4 o5 o6 o7 o8
  by_cases hbig : (60000 : Int) < (m : Int)
  · have HR := Lib.hid (show sealR key N = ([], 3) by unfold sealR; rw [if_pos HOK.out, if_pos (by have := HLN.out; omega)])
    go_enter Try.func26, Try.ntmps26
    go_wp2_with fail
    rw [← HW1.out]
    go_ret2
    rw [HR.out]
    exact ⟨none, 0, rfl, HNIL.out⟩
  have HML : Hid (m ≤ 60000) := Lib.hid (by omega)
  have HR := Lib.hid (show sealR key N = (sealF key N, 0) by unfold sealR; rw [if_pos HOK.out, if_neg (by have := HLN.out; omega)])
  have HHC := Lib.hid (rhead_any N ao m c w1 HOK.out HLN.out (ints_below HZ.out HB1.out) HML.out)
  go_enter Try.func26, Try.ntmps26
  go_upto_region 5 with fail
  rw [← HW1.out]
  clear c0 c1 c2 c3 c4 n1 n2 n3 n4 n5 n6 n7 n8 hbig
  obtain ⟨c0, c1, c2, c3, c4⟩ := HX1.out.cells
  go_wp2_with fail
  (with_reducible refine HHC.out.mono ?_)
  rintro e w2 ⟨a2, k2, rfl, hr2⟩
  have HBN : Hid ((bodyN N).length = 12 + m) := Lib.hid (by rw [bodyN_len, HLN.out])
  have HBB := Lib.hid (bodyN_inB HBI.out)
  have HSF : Hid (sealF key N = bodyN N ++ macF key (bodyN N)) := Lib.hid rfl
  have HSL : Hid ((sealF key N).length = 12 + m + 32) := Lib.hid (by rw [sealF_len, HLN.out]; omega)
  generalize bodyN N = BN at *
  rw [HBN.out] at hr2 ⊢
  have HO2 : Hid (w2.ownsRow 0 5 1 (.slice a2 (12 + m) k2) (12 + m) (BN.map (Value.int .u8))) := Lib.hid (by have h := hr2.1; rw [HBN.out] at h; exact h)
  have HF2 : Hid (∀ g, (Value.slice a2 (12 + m) k2).ownBlock = some g → w.heap.size ≤ g) := Lib.hid (fun g hg => Nat.le_trans HB1.out.size (hr2.2.2 g hg))
  have HB2 : Hid (Below w.heap.size w w2) := Lib.hid (below_step HB1.out hr2.2.1)
  clear hr2 c0 c1 c2 c3 c4 HHC
  have HMO := Lib.hid (rmac_any ko key kn kc a2 BN (12 + m) k2 w2 HKA.out.1 (ints_below HKA.out.2.1 HB2.out) HKA.out.2.2.1 (by have := HKA.out.2.2.2; omega) HBN.out (owns_at HO2.out).2.1 HBB.out (by have := HML.out; omega))
  have HTG := Lib.hid (macF_len key BN)
  generalize macF key BN = TG at *
  go_wp2_with fail
  (with_reducible refine HMO.out.mono ?_)
  rintro e w3 ⟨a3, k3, rfl, hr3⟩
  rw [HTG.out] at hr3 ⊢
  have HI3 : Hid (IntsAt .u8 w3 a3 TG) := Lib.hid (by have h := hr3.1; rw [HTG.out] at h; exact (owns_at h).2.1)
  have HO3 : Hid (w3.ownsRow 0 5 1 (.slice a2 (12 + m) k2) (12 + m) (BN.map (Value.int .u8))) := Lib.hid (ownsRow_same HO2.out (fun x hx => hr3.2.1.block x (HO2.out.lt x hx).2))
  have HB3 : Hid (Below w.heap.size w w3) := Lib.hid (below_step HB2.out hr3.2.1)
  clear hr3 HMO
  obtain ⟨i0, hi, hz0, hz1, hz2⟩ := info_parts Try_infoU8
  go_wp2_with (at_builtin; refine wpList_append_any rfl _ _ 22 rfl 5 i0 (.int .u8 0) 1 1 Try.underlying22 hi hz0 hz1 hz2 rfl (by decide) (.slice a2 (12 + m) k2) (12 + m) _ rfl HO3.out a3 32 k3 (TG.map (Value.int .u8)) rfl ?c1 ?c2 ?c3 (ints_one _ _) ?c5 ?c6 ?_)
  case c1 => rw [List.length_map, HTG.out]
  case c2 => intro e; have h := HI3.out; rw [e] at h; have h1 := ints_none h; have := HTG.out; omega
  case c3 => exact src_ints HI3.out
  case c5 => have := HML.out; unfold maxLen; omega
  case c6 => have := HML.out; omega
  intro ao8 cap8 w12 hown hgrow hat hnn
  rw [← List.map_append] at hown
  have HP : Hid (RowAt w (.slice ao8 (12 + m + 32) cap8) (sealF key N) w12) := Lib.hid (by
    refine ⟨?_, below_fp HB3.out ((Keeps.refl _ w3).grown hgrow (fun i hi => Or.inl hi)) (fun i hi => HF2.out i hi), ?_⟩
    · rw [HSL.out, HSF.out]
      exact hown
    · intro g hg
      rcases hat g hg with h | h
      · exact HF2.out g h
      · have := HB3.out.size; omega)
  clear hown hgrow hat hnn
  go_wp2_with fail
  go_ret2
  rw [HR.out]
  refine ⟨ao8, cap8, ?_, ?_⟩
  · dsimp only; rw [HSL.out]; rfl
  · dsimp only; rw [HSL.out]; exact HP.out

set_option maxRecDepth 100000 in
set_option maxHeartbeats 2000000 in
theorem sameNote_any (N : NR) (ao bo : Option Addr) (c d : Nat) (w : World) (hx : IntsAt .u8 w ao N.b) (hy : IntsAt .u8 w bo N.b) (hB : InB N.b) :
    Calls Try.prog 30 #[.agg #[.int .i64 N.p, .int .i64 N.l, .int .i64 N.w, .int .i64 N.s, .slice ao N.b.length c], .agg #[.int .i64 N.p, .int .i64 N.l, .int .i64 N.w, .int .i64 N.s, .slice bo N.b.length d]] w fun e w' => e = .returned (.bool true) ∧ Below w.heap.size w w' := by
  obtain ⟨k, g, q, s, b⟩ := N
  dsimp only at hx hy hB ⊢
  obtain ⟨w1, hw1⟩ : ∃ w1, w1 = (w.alloc (.cells #[.int .i64 k, .int .i64 g, .int .i64 q, .int .i64 s, .slice ao b.length c] 46)).alloc (.cells #[.int .i64 k, .int .i64 g, .int .i64 q, .int .i64 s, .slice bo b.length d] 46) := ⟨_, rfl⟩
  have HX1 : Hid (NBox w1 w.heap.size k g q s (.slice ao b.length c)) := Lib.hid (by rw [hw1]; exact (Below.heap_alloc _ _ _ (by simp)).trans (heap_alloc_new w _))
  have HN1 : Hid (NBox w1 (w.heap.size + 1) k g q s (.slice bo b.length d)) := Lib.hid (by rw [hw1]; have h := heap_alloc_new (w.alloc (.cells #[.int .i64 k, .int .i64 g, .int .i64 q, .int .i64 s, .slice ao b.length c] 46)) (.cells #[.int .i64 k, .int .i64 g, .int .i64 q, .int .i64 s, .slice bo b.length d] 46); simpa [NBox] using h)
  have HB1 : Hid (Below w.heap.size w w1) := Lib.hid (by rw [hw1]; exact ((Below.refl _ _).alloc (Nat.le_refl _) _).alloc (by simp) _)
  have HBE := Lib.hid (bytes_eq ao bo b b b.length b.length c d w1 rfl rfl (ints_below hx HB1.out) (ints_below hy HB1.out) hB hB)
  rw [eqB_self] at HBE
  obtain ⟨y0, y1, y2, y3, y4⟩ := HX1.out.cells
  obtain ⟨n0, n1, n2, n3, n4⟩ := HN1.out.cells
  rw [hw1] at y0 y1 y2 y3 y4 n0 n1 n2 n3 n4
  have HW1 := Lib.hid hw1
  clear hx hy hB hw1
  go_enter Try.func30, Try.ntmps30
  go_wp2_with fail
  rw [← HW1.out]
  refine HBE.out.mono ?_
  rintro e w2 ⟨rfl, rfl⟩
  go_wp2
  go_ret
  exact ⟨rfl, HB1.out⟩

end Go.Proofs.Yteabnagdfecleaa
