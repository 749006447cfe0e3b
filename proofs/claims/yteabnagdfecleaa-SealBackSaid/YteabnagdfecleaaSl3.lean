/- Package seal: Open. -/
import Derived.Test.YteabnagdfecleaaSl2
namespace Go.Proofs.Yteabnagdfecleaa
open Go.RowKit
set_option linter.unusedVariables false
set_option linter.unusedSimpArgs false

/-- What Open hands back. -/
def OpenPost (w : World) (tb : Nat) (r : NR × Int) (e : Ending) (w' : World) : Prop := ∃ ao c, e = .returned (.tuple #[.agg #[.int .i64 r.1.p, .int .i64 r.1.l, .int .i64 r.1.w, .int .i64 r.1.s, .slice ao r.1.b.length c], .int .i64 r.2]) ∧ RowT w tb r.1.b (.slice ao r.1.b.length c) w'
theorem open_none {w wr : World} {tb b : Nat} (er : Int) (hk : Keeps (fun i => i = tb) w wr) (ht : TabOk wr tb) (hR : w.heap.size ≤ b) (htb : tb < w.heap.size) :
    OpenPost w tb (noN, er) (.returned (.tuple #[.agg #[.int .i64 0, .int .i64 0, .int .i64 0, .int .i64 0, .slice none 0 0], .int .i64 er])) (fillN wr b 0 0 0 0 (.slice none 0 0)) :=
  ⟨none, 0, rfl, tab_keep ht (fillN_keeps _ _ _ _ _ _ _) (by omega), World.ownsRow_nil _ _ _ _, hk.trans (fillN_keeps _ _ _ _ _ _ _) (fun i hi => Or.inr (by omega)), fun g (hg : (Value.slice none 0 0).ownBlock = some g) => by cases hg⟩

set_option maxRecDepth 100000 in
set_option maxHeartbeats 4000000 in
theorem open_any (tb : Nat) (ko : Option Addr) (key : List Int) (kn kc : Nat) (ao : Option Addr) (zs : List Int) (m c : Nat) (w : World) (ht : TabOk w tb) (hk : Lie tb w ko key kn kc) (hl : Lie tb w ao zs m c) (hkn : kn ≤ 1000000) (hm : m ≤ 1000000) :
    Calls Try.prog 25 #[.pointer (some ⟨tb, 0, none⟩), .slice ko kn kc, .slice ao m c] w fun e w' => OpenPost w tb (openF key zs) e w' := by
  have HT := Lib.hid ht
  have HTL := Lib.hid ht.lt
  have HKY := Lib.hid hk
  have HL := Lib.hid hl
  have HKN := Lib.hid hkn
  have HM := Lib.hid hm
  obtain ⟨w1, hw1⟩ : ∃ w1, w1 = w.alloc (.cells #[.int .i64 0, .int .i64 0, .int .i64 0, .int .i64 0, .slice none 0 0] 46) := ⟨_, rfl⟩
  have HX1 : Hid (NBox w1 w.heap.size 0 0 0 0 (.slice none 0 0)) := Lib.hid (by rw [hw1]; exact NBox.new _ _ _ _ _ _)
  have HB1 : Hid (Below w.heap.size w w1) := Lib.hid (by rw [hw1]; exact (Below.refl _ _).alloc (Nat.le_refl _) _)
  have HW1 := Lib.hid hw1
  have HSP := Lib.hid (split_any ao zs m c w1 hl.len (ints_below hl.ints HB1.out) hl.inb hl.cap hl.cm hm)
  clear ht hk hl hkn hm hw1
  unfold SplitPost at HSP
  by_cases her : (splitF zs).2 = 0
  case neg =>
    have HG : Hid (openF key zs = (noN, 2)) := Lib.hid (openF_no her)
    have hs : splitF zs = (noN, 2) := (splitF_err zs).resolve_left her
    rw [hs] at HSP
    dsimp only at HSP
    clear her hs
    go_enter Try.func25, Try.ntmps25
    go_wp2_with fail
    rw [← HW1.out]
    (with_reducible refine HSP.out.mono ?_)
    rintro e w2 ⟨a2, c2, rfl, hr2⟩
    obtain ⟨w3, hw3⟩ : ∃ w3, w3 = w2.alloc (.cells #[.int .i64 noN.p, .int .i64 noN.l, .int .i64 noN.w, .int .i64 noN.s, .slice a2 noN.b.length c2] 46) := ⟨_, rfl⟩
    have hb3 : Below w2.heap.size w2 w3 := by rw [hw3]; exact (Below.refl _ _).alloc (Nat.le_refl _) _
    have HX3 := Lib.hid ((HX1.out.below hr2.2.1).below hb3)
    have HB3 : Hid (Below w.heap.size w w3) := Lib.hid (below_step (below_step HB1.out hr2.2.1) hb3)
    have HT3 := Lib.hid (HT.out.below HB3.out)
    have HW3 := Lib.hid hw3
    clear hr2 hb3 hw3 HSP
    go_upto_region 3 with fail
    rw [← HW3.out]
    obtain ⟨f0', f1, f2, f3, f4⟩ := HX3.out.free
    obtain ⟨n0, n1, n2, n3, n4⟩ := HX3.out.cells
    go_wp2_with fail
    rw [show ((((w3.setCell ⟨w.heap.size, 0, none⟩ (.int .i64 0)).setCell ⟨w.heap.size, 1, none⟩ (.int .i64 0)).setCell ⟨w.heap.size, 2, none⟩ (.int .i64 0)).setCell ⟨w.heap.size, 3, none⟩ (.int .i64 0)).setCell ⟨w.heap.size, 4, none⟩ (.slice none 0 0) = fillN w3 w.heap.size 0 0 0 0 (.slice none 0 0) from rfl]
    obtain ⟨q0, q1, q2, q3, q4⟩ := (HX3.out.fill 0 0 0 0 (.slice none 0 0)).cells
    refine bodyPost_ret (v := .tuple #[.agg #[.int .i64 0, .int .i64 0, .int .i64 0, .int .i64 0, .slice none 0 0], .int .i64 2]) (by simp [results, Try.results25, go_sem, q0, q1, q2, q3, q4]) rfl ?_
    rw [HG.out]
    exact open_none 2 (Keeps.of_below HB3.out) HT3.out (Nat.le_refl _) HTL.out
  case pos =>
  have HS := Lib.hid (splitF_ok her)
  have HSL := Lib.hid (splitF_len her)
  have HSI := Lib.hid (splitF_inB HL.out.inb)
  have HOP : Hid (openF key zs = if (splitF zs).1.s = 0 then (noN, 2) else if macF key (zs.take (m - 32)) = zs.drop (m - 32) then ((splitF zs).1, 0) else (noN, 4)) := Lib.hid (by unfold openF; rw [if_pos her, HL.out.len])
  have HM44 : Hid (44 ≤ m) := Lib.hid (by rw [← HL.out.len]; exact HS.out.1)
  rw [her] at HSP
  clear her HS
  generalize (splitF zs).1 = N at *
  go_enter Try.func25, Try.ntmps25
  go_wp2_with fail
  rw [← HW1.out]
  (with_reducible refine HSP.out.mono ?_)
  rintro e w2 ⟨a2, c2, rfl, hr2⟩
  obtain ⟨bn, hbn⟩ : ∃ bn, bn = N.b.length := ⟨_, rfl⟩
  have HBN := Lib.hid hbn
  obtain ⟨w3, hw3⟩ : ∃ w3, w3 = w2.alloc (.cells #[.int .i64 N.p, .int .i64 N.l, .int .i64 N.w, .int .i64 N.s, .slice a2 bn c2] 46) := ⟨_, rfl⟩
  have hb3 : Below w2.heap.size w2 w3 := by rw [hw3]; exact (Below.refl _ _).alloc (Nat.le_refl _) _
  have HX3 := Lib.hid ((HX1.out.below hr2.2.1).below hb3)
  have HB3 : Hid (Below w.heap.size w w3) := Lib.hid (below_step (below_step HB1.out hr2.2.1) hb3)
  have HT3 := Lib.hid (HT.out.below HB3.out)
  have HF3 : Hid (NBox w3 w2.heap.size N.p N.l N.w N.s (.slice a2 bn c2)) := Lib.hid (by rw [hw3]; exact NBox.new _ _ _ _ _ _)
  have HO3 : Hid (w3.ownsRow 0 5 1 (.slice a2 bn c2) bn (N.b.map (Value.int .u8))) := Lib.hid (by
    have h := hr2.1
    rw [← hbn] at h
    exact ownsRow_same h (fun g hg => hb3.block g (h.lt g hg).2))
  have HG3 : Hid (∀ x, (Value.slice a2 bn c2).ownBlock = some x → x ≠ w2.heap.size ∧ w.heap.size < x) := Lib.hid (fun x hx => by
    have h := hr2.1
    rw [← hbn] at h
    have h1 := (h.lt x hx).2
    have h2 := hr2.2.2 x (by rw [← hbn]; exact hx)
    have := HX1.out.lt
    omega)
  have HXL : Hid (w.heap.size < w2.heap.size) := Lib.hid (by have := HX1.out.lt; have := hr2.2.1.size; omega)
  have HW3 := Lib.hid hw3
  rw [← hbn]
  clear hr2 hb3 hw3 hbn HSP
  obtain ⟨y0, y1, y2, y3, y4⟩ := HF3.out.cells
  rw [HW3.out] at y0 y1 y2 y3 y4
  by_cases hs0 : N.s = 0
  · have HG : Hid (openF key zs = (noN, 2)) := Lib.hid (by rw [HOP.out, if_pos hs0])
    have hb : (N.s == (0 : Int)) = true := by simp [hs0]
    have HSE := Lib.hid hs0
    clear hs0
    go_upto_region 5 with fail
    rw [← HW3.out]
    clear y0 y1 y2 y3 y4
    obtain ⟨f0', f1, f2, f3, f4⟩ := HX3.out.free
    obtain ⟨n0, n1, n2, n3, n4⟩ := HX3.out.cells
    go_wp2_with fail
    rw [show ((((w3.setCell ⟨w.heap.size, 0, none⟩ (.int .i64 0)).setCell ⟨w.heap.size, 1, none⟩ (.int .i64 0)).setCell ⟨w.heap.size, 2, none⟩ (.int .i64 0)).setCell ⟨w.heap.size, 3, none⟩ (.int .i64 0)).setCell ⟨w.heap.size, 4, none⟩ (.slice none 0 0) = fillN w3 w.heap.size 0 0 0 0 (.slice none 0 0) from rfl]
    obtain ⟨q0, q1, q2, q3, q4⟩ := (HX3.out.fill 0 0 0 0 (.slice none 0 0)).cells
    refine bodyPost_ret (v := .tuple #[.agg #[.int .i64 0, .int .i64 0, .int .i64 0, .int .i64 0, .slice none 0 0], .int .i64 2]) (by simp [results, Try.results25, go_sem, q0, q1, q2, q3, q4]) rfl ?_
    rw [HG.out]
    exact open_none 2 (Keeps.of_below HB3.out) HT3.out (Nat.le_refl _) HTL.out
  have hb : (N.s == (0 : Int)) = false := by simp [hs0]
  have HO2 : Hid (openF key zs = if macF key (zs.take (m - 32)) = zs.drop (m - 32) then (N, 0) else (noN, 4)) := Lib.hid (by rw [HOP.out, if_neg hs0])
  clear hs0
  go_upto_region 6 with fail
  rw [← HW3.out]
  generalize w2.heap.size = X at *
  clear y0 y1 y2 y3 y4 hb
  obtain ⟨bb, bo, rfl⟩ : ∃ b off, ao = some ⟨b, off, none⟩ := by
    rcases HL.out.ints with h | ⟨b, off, h, _⟩
    · have h1 := HL.out.len; have := HM44.out; rw [h] at h1; simp at h1; omega
    · exact ⟨b, off, h⟩
  obtain ⟨A, hA⟩ : ∃ A, A = m - 32 := ⟨_, rfl⟩
  have HA : Hid (A + 32 = m) := Lib.hid (by have := HM44.out; omega)
  rw [← hA] at HO2
  clear hA HOP
  have HL3 := Lib.hid (HL.out.below HB3.out)
  have HK3 := Lib.hid (HKY.out.below HB3.out)
  have HLT := Lib.hid (HL3.out.take A (by have := HA.out; omega))
  have HLD := Lib.hid (Lie.drop HL3.out A (by have := HA.out; omega))
  have HMO : Hid (Calls Try.prog 42 #[.pointer (some ⟨tb, 0, none⟩), .slice ko kn kc, .slice (some ⟨bb, bo, none⟩) A c] w3.drew fun e w' => SumPost w3.drew tb (macF key (zs.take A)) e w') := Lib.hid (macOne_any tb ko key kn kc (some ⟨bb, bo, none⟩) (zs.take A) A c w3.drew HT3.out HK3.out.len HK3.out.ints HK3.out.inb HK3.out.off (by have := HKN.out; omega) HLT.out.len HLT.out.ints HLT.out.inb HLT.out.off (by have := HM.out; have := HA.out; omega))
  have r1 : (m : Int) - 32 = (A : Int) := by have := HA.out; omega
  have r2 : (0 : Int) ≤ (A : Int) := by omega
  have r3 : (A : Int) ≤ (m : Int) := by have := HA.out; omega
  have r4 : (A : Int) ≤ (c : Int) := by have := HL.out.cap; have := HA.out; omega
  have r5 : ¬ c = A := by have := HL.out.cap; have := HA.out; omega
  have r6 : m - A = 32 := by have := HA.out; omega
  have r7 : A ≤ m := by have := HA.out; omega
  have r8 : (m : Int) ≤ (c : Int) := by have := HL.out.cap; omega
  have HRW : Hid (IntKind.i64.wrap (A : Int) = (A : Int)) := Lib.hid (by have := HM.out; have := HA.out; rw [IntKind.wrap_i64]; omega)
  have HFX : Hid (X ≠ tb ∧ w.heap.size ≠ tb) := Lib.hid (by have := HTL.out; have := HXL.out; omega)
  have r9 := HRW.out
  refine wp_region_held_drew (S := fun w' => True) (by kernel_rfl) ?_ (fun hHeld => ?_)
  · exact trivial
  refine take_at (i := 0) (d := 26) (v := ?_) rfl rfl (by kernel_rfl) (by kernel_rfl) (by kernel_rfl) (fun _ _ _ h => h) (Or.inl ⟨by rfl, by intro w' hSw; (try dsimp only at hSw); go_simp; try with_reducible rfl⟩) (by assumption) ?_
  simp only [List.setIfInBounds_toArray, List.set_cons_zero, List.set_cons_succ]
  refine take_at (i := 1) (d := 27) (v := ?_) rfl rfl (by kernel_rfl) (by kernel_rfl) (by kernel_rfl) (fun _ _ _ h => h) (Or.inl ⟨by rfl, by intro w' hSw; (try dsimp only at hSw); go_simp; try with_reducible rfl⟩) (by assumption) ?_
  simp only [List.setIfInBounds_toArray, List.set_cons_zero, List.set_cons_succ]
  refine take_at (i := 2) (d := 28) (v := ?_) rfl rfl (by kernel_rfl) (by kernel_rfl) (by kernel_rfl) (fun _ _ _ h => h) (Or.inl ⟨by rfl, by intro w' hSw; (try dsimp only at hSw); go_simp; try with_reducible rfl⟩) (by assumption) ?_
  simp only [List.setIfInBounds_toArray, List.set_cons_zero, List.set_cons_succ]
  refine take_at (i := 3) (d := 29) (v := ?_) rfl rfl (by kernel_rfl) (by kernel_rfl) (by kernel_rfl) (fun _ _ _ h => h) (Or.inl ⟨by rfl, by intro w' hSw; (try dsimp only at hSw); go_simp; try with_reducible rfl⟩) (by assumption) ?_
  simp only [List.setIfInBounds_toArray, List.set_cons_zero, List.set_cons_succ]
  refine take_at (i := 4) (d := 30) (v := ?_) rfl rfl (by kernel_rfl) (by kernel_rfl) (by kernel_rfl) (fun _ _ _ h => h) (Or.inl ⟨by rfl, by intro w' hSw; (try dsimp only at hSw); go_simp; try with_reducible rfl⟩) (by assumption) ?_
  simp only [List.setIfInBounds_toArray, List.set_cons_zero, List.set_cons_succ]
  refine take_at (i := 5) (d := 31) (v := ?_) rfl rfl (by kernel_rfl) (by kernel_rfl) (by kernel_rfl) (fun _ _ _ h => h) (Or.inl ⟨by rfl, by intro w' hSw; (try dsimp only at hSw); go_simp; try with_reducible rfl⟩) (by assumption) ?_
  simp only [List.setIfInBounds_toArray, List.set_cons_zero, List.set_cons_succ]
  refine take_at (i := 6) (d := 32) (v := ?_) rfl rfl (by kernel_rfl) (by kernel_rfl) (by kernel_rfl) (fun _ _ _ h => h) (Or.inl ⟨by rfl, by intro w' hSw; (try dsimp only at hSw); go_simp; try with_reducible rfl⟩) (by assumption) ?_
  simp only [List.setIfInBounds_toArray, List.set_cons_zero, List.set_cons_succ]
  refine take_at (i := 8) (d := 34) (v := ?_) rfl rfl (by kernel_rfl) (by kernel_rfl) (by kernel_rfl) (fun _ _ _ h => h) (Or.inl ⟨by rfl, by intro w' hSw; (try dsimp only at hSw); go_simp; try with_reducible rfl⟩) (by assumption) ?_
  simp only [List.setIfInBounds_toArray, List.set_cons_zero, List.set_cons_succ]
  refine take_at (i := 9) (d := 35) (v := ?_) rfl rfl (by kernel_rfl) (by kernel_rfl) (by kernel_rfl) (fun _ _ _ h => h) (Or.inl ⟨by rfl, by intro w' hSw; (try dsimp only at hSw); go_simp; try with_reducible rfl⟩) (by assumption) ?_
  simp only [List.setIfInBounds_toArray, List.set_cons_zero, List.set_cons_succ]
  refine take_at (i := 10) (d := 36) (v := ?_) rfl rfl (by kernel_rfl) (by kernel_rfl) (by kernel_rfl) (fun _ _ _ h => h) (Or.inl ⟨by rfl, by intro w' hSw; (try dsimp only at hSw); go_simp; try with_reducible rfl⟩) (by assumption) ?_
  simp only [List.setIfInBounds_toArray, List.set_cons_zero, List.set_cons_succ]
  refine take_at (i := 11) (d := 37) (v := ?_) rfl rfl (by kernel_rfl) (by kernel_rfl) (by kernel_rfl) (fun _ _ _ h => h) (Or.inl ⟨by rfl, by intro w' hSw; (try dsimp only at hSw); go_simp; try with_reducible rfl⟩) (by assumption) ?_
  simp only [List.setIfInBounds_toArray, List.set_cons_zero, List.set_cons_succ]
  refine take_at (i := 12) (d := 38) (v := ?_) rfl rfl (by kernel_rfl) (by kernel_rfl) (by kernel_rfl) (fun _ _ _ h => h) (Or.inl ⟨by rfl, by intro w' hSw; (try dsimp only at hSw); go_simp; try with_reducible rfl⟩) (by assumption) ?_
  simp only [List.setIfInBounds_toArray, List.set_cons_zero, List.set_cons_succ]
  refine wpAnyH_ready (rs := [7]) (by kernel_rfl) (by simp) ?_
  refine AllReadyH.cons rfl (fun K hK => ?_) AllReadyH.nil
  go_simp
  go_at_call 42
  refine HMO.out.mono ?_
  rintro e w4 ⟨g4, c4, rfl, ht4, ho4, hl4, hk4, hg4⟩
  have HT4 := Lib.hid ht4
  have HK4 : Hid (Keeps (fun i => i = tb) w3 w4) := Lib.hid ⟨hk4.os, hk4.tape, hk4.output, hk4.size, hk4.block⟩
  have HL4 := Lib.hid (HLD.out.step HK4.out)
  have HEQ := Lib.hid (equal_any (some ⟨g4, 0, none⟩) (some ⟨bb, bo + A, none⟩) (macF key (zs.take A)) (zs.drop A) 32 (m - A) c4 (c - A) w4 hl4 HL4.out.len (owns_at ho4).2.1 HL4.out.ints (macF_inB _ _) HL4.out.inb (by omega))
  rw [show m - A = 32 by have := HA.out; omega] at HEQ
  clear ht4 ho4 hl4 hk4 hg4
  dsimp only
  go_wp2_with fail
  refine hK.out _ _ ?_ (fun hHeld => ?_)
  · exact trivial
  clear hK K
  try simp only [Act.put, List.getElem_toArray, List.getElem_cons_succ, List.getElem_cons_zero]
  try simp only [List.setIfInBounds_toArray, List.set_cons_zero, List.set_cons_succ]
  refine wpAnyH_ready (rs := [13]) (by kernel_rfl) (by simp) ?_
  refine AllReadyH.cons rfl (fun K hK => ?_) AllReadyH.nil
  go_simp
  go_at_call 44
  refine HEQ.out.mono ?_
  rintro e w5 ⟨rfl, hb5⟩
  have HB5 := Lib.hid hb5
  clear hb5
  dsimp only
  go_wp2_with fail
  refine hK.out _ _ ?_ (fun hHeld => ?_)
  · exact trivial
  clear hK K
  try simp only [Act.put, List.getElem_toArray, List.getElem_cons_succ, List.getElem_cons_zero]
  try simp only [List.setIfInBounds_toArray, List.set_cons_zero, List.set_cons_succ]
  refine take_at (i := 14) (d := 40) (v := ?_) rfl rfl (by kernel_rfl) (by kernel_rfl) (by kernel_rfl) (fun _ _ _ h => h) (Or.inl ⟨by rfl, by intro w' hSw; (try dsimp only at hSw); go_simp; try with_reducible rfl⟩) (by assumption) ?_
  simp only [List.setIfInBounds_toArray, List.set_cons_zero, List.set_cons_succ]
  refine take_at (i := 15) (d := 25) (v := ?_) rfl rfl (by kernel_rfl) (by kernel_rfl) (by kernel_rfl) (fun _ _ _ h => h) (Or.inl ⟨by rfl, by intro w' hSw; (try dsimp only at hSw); go_simp; try with_reducible rfl⟩) (by assumption) ?_
  simp only [List.setIfInBounds_toArray, List.set_cons_zero, List.set_cons_succ]
  refine wpAnyH_done (by kernel_rfl) ?_ _
  clear hHeld r1 r2 r3 r4 r5 r6 r7 r8 r9
  have HX4 := Lib.hid (HX3.out.keep HK4.out HFX.out.2)
  have HF4 := Lib.hid (HF3.out.keep HK4.out HFX.out.1)
  have HKW : Hid (Keeps (fun i => i = tb) w w4) := Lib.hid ((Keeps.of_below HB3.out).trans HK4.out (fun i hi => Or.inl hi))
  have HO4 : Hid (w4.ownsRow 0 5 1 (.slice a2 bn c2) bn (N.b.map (Value.int .u8))) := Lib.hid (ownsRow_same HO3.out (fun x hx => HK4.out.block x (HO3.out.lt x hx).2 (by have := (HG3.out x hx).2; have := HTL.out; omega)))
  have HT5 := Lib.hid (HT4.out.below HB5.out)
  have HX5 := Lib.hid (HX4.out.below HB5.out)
  have HF5 := Lib.hid (HF4.out.below HB5.out)
  have HKW5 : Hid (Keeps (fun i => i = tb) w w5) := Lib.hid (HKW.out.step HB5.out)
  have HO5 : Hid (w5.ownsRow 0 5 1 (.slice a2 bn c2) bn (N.b.map (Value.int .u8))) := Lib.hid (ownsRow_same HO4.out (fun x hx => HB5.out.block x (HO4.out.lt x hx).2))
  cases hq : eqB (macF key (zs.take A)) (zs.drop A)
  · have HG : Hid (openF key zs = (noN, 4)) := Lib.hid (by
      rw [HO2.out, if_neg]
      unfold eqB at hq
      simpa using hq)
    clear hq
    obtain ⟨f0', f1, f2, f3, f4⟩ := HX5.out.free
    obtain ⟨n0, n1, n2, n3, n4⟩ := HX5.out.cells
    go_wp2_with fail
    rw [show ((((w5.setCell ⟨w.heap.size, 0, none⟩ (.int .i64 0)).setCell ⟨w.heap.size, 1, none⟩ (.int .i64 0)).setCell ⟨w.heap.size, 2, none⟩ (.int .i64 0)).setCell ⟨w.heap.size, 3, none⟩ (.int .i64 0)).setCell ⟨w.heap.size, 4, none⟩ (.slice none 0 0) = fillN w5 w.heap.size 0 0 0 0 (.slice none 0 0) from rfl]
    obtain ⟨q0, q1, q2, q3, q4⟩ := (HX5.out.fill 0 0 0 0 (.slice none 0 0)).cells
    refine bodyPost_ret (v := .tuple #[.agg #[.int .i64 0, .int .i64 0, .int .i64 0, .int .i64 0, .slice none 0 0], .int .i64 4]) (by simp [results, Try.results25, go_sem, q0, q1, q2, q3, q4]) rfl ?_
    rw [HG.out]
    exact open_none 4 HKW5.out HT5.out (Nat.le_refl _) HTL.out
  have HG : Hid (openF key zs = (N, 0)) := Lib.hid (by
    rw [HO2.out, if_pos]
    unfold eqB at hq
    simpa using hq)
  clear hq HO2
  obtain ⟨f0', f1, f2, f3, f4⟩ := HX5.out.free
  obtain ⟨n0, n1, n2, n3, n4⟩ := HX5.out.cells
  obtain ⟨y0, y1, y2, y3, y4⟩ := HF5.out.cells
  go_wp2_with fail
  obtain ⟨wF, hwF⟩ : ∃ wF, wF = fillN w5 w.heap.size N.p N.l N.w N.s (.slice a2 bn c2) := ⟨_, rfl⟩
  rw [show ((((w5.setCell ⟨w.heap.size, 0, none⟩ (.int .i64 N.p)).setCell ⟨w.heap.size, 1, none⟩ (.int .i64 N.l)).setCell ⟨w.heap.size, 2, none⟩ (.int .i64 N.w)).setCell ⟨w.heap.size, 3, none⟩ (.int .i64 N.s)).setCell ⟨w.heap.size, 4, none⟩ (.slice a2 bn c2) = wF from hwF.symm]
  have HKF : Hid (Keeps (fun i => i = w.heap.size) w5 wF) := Lib.hid (by rw [hwF]; exact fillN_keeps _ _ _ _ _ _ _)
  have HXF : Hid (NBox wF w.heap.size N.p N.l N.w N.s (.slice a2 bn c2)) := Lib.hid (by rw [hwF]; exact HX5.out.fill _ _ _ _ _)
  clear hwF f0' f1 f2 f3 f4 n0 n1 n2 n3 n4 y0 y1 y2 y3 y4
  obtain ⟨q0, q1, q2, q3, q4⟩ := HXF.out.cells
  refine bodyPost_ret (v := .tuple #[.agg #[.int .i64 N.p, .int .i64 N.l, .int .i64 N.w, .int .i64 N.s, .slice a2 bn c2], .int .i64 0]) (by simp [results, Try.results25, go_sem, q0, q1, q2, q3, q4]) rfl ?_
  rw [HG.out]
  have HTF : Hid (TabOk wF tb) := Lib.hid (tab_keep HT5.out HKF.out (by have := HFX.out; omega))
  refine ⟨a2, c2, ?_, HTF.out, ?_, HKW5.out.trans HKF.out (fun i hi => Or.inr (by omega)), fun x hx => ?_⟩
  · dsimp only; rw [← HBN.out]
  · dsimp only
    rw [← HBN.out]
    exact ownsRow_same HO5.out (fun x hx => HKF.out.block x (HO5.out.lt x hx).2 (by have := (HG3.out x hx).2; omega))
  · dsimp only at hx
    rw [← HBN.out] at hx
    have := (HG3.out x hx).2
    omega

/-- Open, within a law. -/
theorem open_st {W w : World} {tb : Nat} (hs : St W tb w) (ko : Option Addr) (key : List Int) (kn kc : Nat) (ao : Option Addr) (zs : List Int) (m c : Nat) (hk : Lie tb w ko key kn kc) (hl : Lie tb w ao zs m c) (hkn : kn ≤ 1000000) (hm : m ≤ 1000000) :
    Calls Try.prog 25 #[.pointer (some ⟨tb, 0, none⟩), .slice ko kn kc, .slice ao m c] w fun e w' => ∃ a2 c2, e = .returned (.tuple #[.agg #[.int .i64 (openF key zs).1.p, .int .i64 (openF key zs).1.l, .int .i64 (openF key zs).1.w, .int .i64 (openF key zs).1.s, .slice a2 (openF key zs).1.b.length c2], .int .i64 (openF key zs).2]) ∧ St W tb w' ∧ Keeps (fun i => i = tb) w w' ∧ Own tb w' a2 (openF key zs).1.b (openF key zs).1.b.length c2 := by
  refine (open_any tb ko key kn kc ao zs m c w hs.tab hk hl hkn hm).mono ?_
  rintro e w' ⟨a2, c2, rfl, h⟩
  exact ⟨a2, c2, rfl, hs.step h.2.2.1 h.1, h.2.2.1, h.own hs.lt rfl (openF_inB hl.inb)⟩

end Go.Proofs.Yteabnagdfecleaa
