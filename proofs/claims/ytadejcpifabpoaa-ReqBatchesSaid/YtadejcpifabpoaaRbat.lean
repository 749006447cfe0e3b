/- ReqBatches' walk. -/
import Derived.Test.YtadejcpifabpoaaRefv
import Derived.Test.YtadejcpifabpoaaIn5
import Derived.Test.YtadejcpifabpoaaReq8
import Derived.Test.YtadejcpifabpoaaRefw
import Derived.Test.YtadejcpifabpoaaArgs
import Derived.Test.YtadejcpifabpoaaTake
namespace Go.Proofs.Ytadejcpifabpoaa
open Go.RowKit
set_option linter.unusedVariables false
set_option linter.unusedSimpArgs false

set_option maxRecDepth 100000 in
set_option maxHeartbeats 8000000 in
theorem batches_core (W : World) (s1 : Int) (ao : Option Addr) (xs : List RQ) (n c : Nat) (s2 : Int) (bo : Option Addr) (ys : List RQ) (m d : Nat) (po : Option Addr) (zs : List Int) (l pc : Nat)
    (hn : xs.length = n) (hx : RqsAt W ao xs) (hc : n ≤ c ∧ c ≤ maxLen) (hm : ys.length = m) (hy : RqsAt W bo ys) (hd : m ≤ d ∧ d ≤ maxLen)
    (hl : zs.length = l) (hz : IntsAt .u8 W po zs) (hzb : InB zs) (hpc : l ≤ pc ∧ pc ≤ maxLen) :
    Calls Try.prog 10 #[.agg (#[.int .i64 s1, .slice ao n c], 46).1, .agg (#[.int .i64 s2, .slice bo m d], 46).1, .slice po l pc] W fun e w' => e = .returned (.bool true) ∧ Below W.heap.size W w' := by
  obtain ⟨w2, hw2⟩ : ∃ w2, w2 = (W.alloc (.cells #[.int .i64 s1, .slice ao n c] 46)).alloc (.cells #[.int .i64 s2, .slice bo m d] 46) := ⟨_, rfl⟩
  obtain ⟨BS, hBS⟩ : ∃ BS : List (Array Value × TypeId), BS = [(#[.int .i64 s1, .slice ao n c], 46), (#[.int .i64 s2, .slice bo m d], 46)] := ⟨_, rfl⟩
  have HB2 : Hid (Boxes W w2 BS) := Lib.hid (by
    subst hw2
    subst hBS
    exact ((Boxes.nil W).push (by simp) _ _).push (by simp) _ _)
  have HC : Hid (∀ w', Boxes W w' BS → w'.cell? ⟨W.heap.size, 0, none⟩ = some (.int .i64 s1) ∧ w'.cell? ⟨W.heap.size, 1, none⟩ = some (.slice ao n c) ∧ w'.cell? ⟨W.heap.size + 1, 0, none⟩ = some (.int .i64 s2) ∧ w'.cell? ⟨W.heap.size + 1, 1, none⟩ = some (.slice bo m d)) := Lib.hid (by
    intro w' h
    subst hBS
    exact ⟨h.cell 0 0 rfl, h.cell 0 1 rfl, h.cell 1 0 rfl, h.cell 1 1 rfl⟩)
  have HFX := Lib.hid (fun w' (h : Below W.heap.size W w') => few11_any s1 ao xs n c w' hn (hx.below h) hc.1 hc.2)
  have HFY := Lib.hid (fun w' (h : Below W.heap.size W w') => few11_any s2 bo ys m d w' hm (hy.below h) hd.1 hd.2)
  have HEX := Lib.hid (fun (hs : fewRq xs = true) w' (h : Below W.heap.size W w') => encodeBatch s1 ao xs n c w' hn (hx.below h) (by have := (fewRq_facts xs hs).2; omega))
  have HRX := Lib.hid (fun w' (h : Below W.heap.size W w') => rencodeBatch s1 ao xs n c w' hn (hx.below h))
  have HDX := Lib.hid (fun (h40 : l ≤ 20000) w' (h : Below W.heap.size W w') => decodeBatch po zs l pc w' hl (ints_below hz h) hzb hpc.1 hpc.2 (by omega))
  have HRD := Lib.hid (fun (h40 : l ≤ 20000) w' (h : Below W.heap.size W w') => rdecodeBatch po zs l pc w' hl (ints_below hz h) hzb hpc.1 hpc.2 (by omega))
  have HS2 := Lib.hid (fun (h1 : fewRq xs = true) (h2 : fewRq ys = true) w' (h : Below W.heap.size W w') => sameBatch s1 ao xs n c s2 bo ys m d w' hn hm (hx.below h) (hy.below h) (by have := (fewRq_facts xs h1).1; have := (fewRq_facts ys h2).1; omega))
  have HS3 := Lib.hid (fun (h1 : fewRq xs = true) (h2 : fewRq ys = true) w' (h : Below W.heap.size W w') => rsameBatch s1 ao xs n c s2 bo ys m d w' hn hm (hx.below h) (hy.below h) (by have := (fewRq_facts xs h1).1; have := (fewRq_facts ys h2).1; omega))
  have HIX := Lib.hid (encF_in s1 xs)
  rw [rdecF_eq] at HRD
  have HW2 := Lib.hid hw2
  clear hn hx hc hm hy hd hl hz hzb hpc hw2 hBS
  go_enter Try.func10, Try.ntmps10
  go_wp2_with fail
  rw [← HW2.out]
  refine (first11_any w2).mono ?_
  rintro e w3 ⟨rfl, hb3⟩
  have HB3 := Lib.hid (HB2.out.below hb3)
  obtain ⟨a0, a1, a2, a3⟩ := HC.out w3 HB3.out
  clear hb3
  go_wp2_with fail
  refine (HFX.out w3 HB3.out.base).mono ?_
  rintro e w4 ⟨rfl, hb4⟩
  have HB4 := Lib.hid (HB3.out.below hb4)
  clear hb4 a0 a1 a2 a3
  obtain ⟨a0, a1, a2, a3⟩ := HC.out w4 HB4.out
  by_cases hf : fewRq xs = true
  case neg =>
    have hf' : fewRq xs = false := by simpa using hf
    rw [hf']
    clear hf hf'
    go_wp2_with fail
    refine (first11_any w4).mono ?_
    rintro e w5 ⟨rfl, hb⟩
    go_wp2
    go_ret
    exact ⟨rfl, (HB4.out.below hb).base⟩
  have HF := Lib.hid hf
  rw [hf]
  clear hf
  go_wp2_with fail
  refine (HFY.out w4 HB4.out.base).mono ?_
  rintro e w5 ⟨rfl, hb5⟩
  have HB5 := Lib.hid (HB4.out.below hb5)
  clear hb5 a0 a1 a2 a3
  obtain ⟨a0, a1, a2, a3⟩ := HC.out w5 HB5.out
  by_cases hg : fewRq ys = true
  case neg =>
    have hg' : fewRq ys = false := by simpa using hg
    rw [hg']
    clear hg hg'
    go_wp2_with fail
    refine (first11_any w5).mono ?_
    rintro e w6 ⟨rfl, hb⟩
    go_wp2
    go_ret
    exact ⟨rfl, (HB5.out.below hb).base⟩
  have HG := Lib.hid hg
  rw [hg]
  clear hg
  by_cases h40 : (20000 : Int) < (l : Int)
  case pos =>
    go_wp2_with fail
    refine (first11_any w5).mono ?_
    rintro e w6 ⟨rfl, hb⟩
    go_wp2
    go_ret
    exact ⟨rfl, (HB5.out.below hb).base⟩
  have H40 := Lib.hid (show l ≤ 20000 by omega)
  go_wp2_with fail
  refine (HEX.out HF.out w5 HB5.out.base).mono ?_
  rintro e w6 ⟨eo, ecap, rfl, hi6, hb6, _, _⟩
  have HB6 := Lib.hid (HB5.out.below hb6)
  have HI6 := Lib.hid hi6
  clear hb6 hi6 a0 a1 a2 a3
  obtain ⟨a0, a1, a2, a3⟩ := HC.out w6 HB6.out
  go_wp2_with fail
  refine (HRX.out w6 HB6.out.base).mono ?_
  rintro e w7 ⟨fo, fcap, rfl, hi7, hb7⟩
  have HB7 := Lib.hid (HB6.out.below hb7)
  have HI7 := Lib.hid (ints_below HI6.out hb7)
  have HJ7 := Lib.hid hi7
  generalize encF s1 xs = E at *
  obtain ⟨pk, er⟩ := E
  clear hb7 hi7 a0 a1 a2 a3 HI6
  go_wp2_with fail
  refine (HDX.out H40.out w7 HB7.out.base).mono ?_
  rintro e w8 ⟨yo, m1, c1, rfl, hm1, hy1, _, _, h255, _, hb8⟩
  have HB8 := Lib.hid (HB7.out.below hb8)
  have HI8 := Lib.hid (ints_below HI7.out hb8)
  have HJ8 := Lib.hid (ints_below HJ7.out hb8)
  have HY1 := Lib.hid hy1
  have HM1 := Lib.hid hm1
  have H255 := Lib.hid h255
  generalize decF zs = D at *
  obtain ⟨⟨q1, ds⟩, de⟩ := D
  clear hb8 hy1 hm1 h255 HI7 HJ7
  obtain ⟨wa, hwa⟩ : ∃ wa, wa = w8.alloc (.cells #[.int .i64 q1, .slice yo m1 c1] 46) := ⟨_, rfl⟩
  have HBA : Hid (Below w8.heap.size w8 wa) := Lib.hid (by rw [hwa]; exact (Below.refl _ _).alloc (Nat.le_refl _) _)
  have HXA : Hid (wa.heap[w8.heap.size]? = some (.cells #[.int .i64 q1, .slice yo m1 c1] 46 (0, 0))) := Lib.hid (by rw [hwa]; exact heap_alloc_new w8 _)
  have HWA := Lib.hid hwa
  clear hwa
  go_wp2_with fail
  rw [← HWA.out]
  refine (HRD.out H40.out wa (HB8.out.below HBA.out).base).mono ?_
  rintro e w9 ⟨zo, m2, c2, rfl, hm2, hy2, h256, hb9⟩
  obtain ⟨wq, hwq⟩ : ∃ wq, wq = w9.alloc (.cells #[.int .i64 q1, .slice zo m2 c2] 46) := ⟨_, rfl⟩
  have HBQ : Hid (Below w9.heap.size w9 wq) := Lib.hid (by rw [hwq]; exact (Below.refl _ _).alloc (Nat.le_refl _) _)
  have HXV : Hid (wq.heap[w9.heap.size]? = some (.cells #[.int .i64 q1, .slice zo m2 c2] 46 (0, 0))) := Lib.hid (by rw [hwq]; exact heap_alloc_new w9 _)
  have HWQ := Lib.hid hwq
  have H8Q : Hid (Below w8.heap.size w8 wq) := Lib.hid (by
    have h1 := HBA.out.trans (hb9.mono HBA.out.size)
    exact h1.trans (HBQ.out.mono h1.size))
  have HXU : Hid (wq.heap[w8.heap.size]? = some (.cells #[.int .i64 q1, .slice yo m1 c1] 46 (0, 0))) := Lib.hid (by
    have h1 := (hb9.block _ (blk_lt HXA.out)).trans HXA.out
    exact (HBQ.out.block _ (blk_lt h1)).trans h1)
  have HBXQ : Hid (Boxes W wq BS) := Lib.hid (HB8.out.below H8Q.out)
  have HBY : Hid (∀ w', Below wq.heap.size wq w' → Calls Try.prog 35 #[.slice eo pk.length ecap, .slice fo pk.length fcap] w' fun e w'' => e = .returned (.bool true) ∧ w' = w'') := Lib.hid (fun w' h => by
    have hq := H8Q.out.trans (h.mono H8Q.out.size)
    have := bytes_eq eo fo pk pk pk.length pk.length ecap fcap w' rfl rfl (ints_below HI8.out hq) (ints_below HJ8.out hq) HIX.out HIX.out
    rwa [eqB_self] at this)
  have HS1 : Hid (∀ w', Below wq.heap.size wq w' → Calls Try.prog 42 #[.agg #[.int .i64 q1, .slice yo m1 c1], .agg #[.int .i64 q1, .slice zo m2 c2]] w' fun e w'' => e = .returned (.bool true) ∧ Below w'.heap.size w' w'') := Lib.hid (fun w' h => by
    have hq := H8Q.out.trans (h.mono H8Q.out.size)
    have h9 := HBQ.out.trans (h.mono HBQ.out.size)
    have := rsameBatch q1 yo ds m1 c1 q1 zo ds m2 c2 w' HM1.out hm2 (HY1.out.below hq) (hy2.below h9) (by have := H255.out; omega)
    rwa [(sameB_iff q1 ds q1 ds).2 ⟨rfl, rfl⟩] at this)
  have HS2' := Lib.hid (fun w' (h : Below wq.heap.size wq w') => HS2.out HF.out HG.out w' (HBXQ.out.below h).base)
  have HS3' := Lib.hid (fun w' (h : Below wq.heap.size wq w') => HS3.out HF.out HG.out w' (HBXQ.out.below h).base)
  have HSK : Hid (∀ w', Below wq.heap.size wq w' → Below wq.heap.size wq w' ∧ w'.cell? ⟨w8.heap.size, 0, none⟩ = some (.int .i64 q1) ∧ w'.cell? ⟨w8.heap.size, 1, none⟩ = some (.slice yo m1 c1) ∧ w'.cell? ⟨w9.heap.size, 0, none⟩ = some (.int .i64 q1) ∧ w'.cell? ⟨w9.heap.size, 1, none⟩ = some (.slice zo m2 c2) ∧ w'.cell? ⟨W.heap.size, 0, none⟩ = some (.int .i64 s1) ∧ w'.cell? ⟨W.heap.size, 1, none⟩ = some (.slice ao n c) ∧ w'.cell? ⟨W.heap.size + 1, 0, none⟩ = some (.int .i64 s2) ∧ w'.cell? ⟨W.heap.size + 1, 1, none⟩ = some (.slice bo m d)) := Lib.hid (fun w' h => by
    have u1 := (h.block _ (blk_lt HXU.out)).trans HXU.out
    have u2 := (h.block _ (blk_lt HXV.out)).trans HXV.out
    obtain ⟨b0, b1, b2, b3⟩ := HC.out w' (HBXQ.out.below h)
    exact ⟨h, blk_cell u1 0, blk_cell u1 1, blk_cell u2 0, blk_cell u2 1, b0, b1, b2, b3⟩)
  have HDR : Hid (Below wq.heap.size wq wq.drew) := Lib.hid (below_drew wq)
  clear hwq hm2 hy2 h256 hb9 HBA HXA HWA HXV HBQ HXU H8Q HI8 HJ8 HY1 HM1 H255 HB8 HS2 HS3 HFX HFY HEX HRX HDX HRD
  generalize sameB s1 xs s2 ys = SB at *
  go_upto_region 9 with fail
  rw [← HWQ.out]
  clear HWQ
  generalize w8.heap.size = U at *
  generalize w9.heap.size = V at *
  refine wp_region_held_drew (S := fun w' => Below wq.heap.size wq w' ∧ w'.cell? ⟨U, 0, none⟩ = some (.int .i64 q1) ∧ w'.cell? ⟨U, 1, none⟩ = some (.slice yo m1 c1) ∧ w'.cell? ⟨V, 0, none⟩ = some (.int .i64 q1) ∧ w'.cell? ⟨V, 1, none⟩ = some (.slice zo m2 c2) ∧ w'.cell? ⟨W.heap.size, 0, none⟩ = some (.int .i64 s1) ∧ w'.cell? ⟨W.heap.size, 1, none⟩ = some (.slice ao n c) ∧ w'.cell? ⟨W.heap.size + 1, 0, none⟩ = some (.int .i64 s2) ∧ w'.cell? ⟨W.heap.size + 1, 1, none⟩ = some (.slice bo m d)) (by kernel_rfl) ?_ (fun hHeld => ?_)
  · exact HSK.out _ HDR.out
  refine wpAnyH_ready (rs := [0]) (by kernel_rfl) (by simp) ?_
  refine AllReadyH.cons rfl (fun K hK => ?_) AllReadyH.nil
  go_simp
  go_at_call 22
  refine (first11_any _).mono ?_
  rintro e w10 ⟨rfl, hb10⟩
  have HB10 := Lib.hid (HDR.out.trans (hb10.mono HDR.out.size))
  clear hb10
  go_wp2_with fail
  refine hK.out _ _ ?_ (fun hHeld => ?_)
  · exact HSK.out _ HB10.out
  clear hK K
  try simp only [Act.put, List.getElem_toArray, List.getElem_cons_succ, List.getElem_cons_zero]
  try simp only [List.setIfInBounds_toArray, List.set_cons_zero, List.set_cons_succ]
  refine take_at (i := 1) (d := 52) (v := ?_) rfl rfl (by kernel_rfl) (by kernel_rfl) (by kernel_rfl) (fun _ _ _ h => h) (Or.inl ⟨by rfl, by intro w' hSw; (try dsimp only at hSw); go_simp; try with_reducible rfl⟩) (by assumption) ?_
  simp only [List.setIfInBounds_toArray, List.set_cons_zero, List.set_cons_succ]
  refine take_at (i := 2) (d := 53) (v := ?_) rfl rfl (by kernel_rfl) (by kernel_rfl) (by kernel_rfl) (fun _ _ _ h => h) (Or.inl ⟨by rfl, by intro w' hSw; (try dsimp only at hSw); go_simp; try with_reducible rfl⟩) (by assumption) ?_
  simp only [List.setIfInBounds_toArray, List.set_cons_zero, List.set_cons_succ]
  refine take_at (i := 3) (d := 54) (v := ?_) rfl rfl (by kernel_rfl) (by kernel_rfl) (by kernel_rfl) (fun _ _ _ h => h) (Or.inl ⟨by rfl, by intro w' hSw; (try dsimp only at hSw); go_simp; try with_reducible rfl⟩) (by assumption) ?_
  simp only [List.setIfInBounds_toArray, List.set_cons_zero, List.set_cons_succ]
  refine wpAnyH_ready (rs := [4]) (by kernel_rfl) (by simp) ?_
  refine AllReadyH.cons rfl (fun K hK => ?_) AllReadyH.nil
  go_simp
  go_at_call 35
  refine (HBY.out w10 HB10.out).mono ?_
  rintro e w11 ⟨rfl, rfl⟩
  go_wp2_with fail
  refine hK.out _ _ ?_ (fun hHeld => ?_)
  · exact HSK.out _ HB10.out
  clear hK K
  try simp only [Act.put, List.getElem_toArray, List.getElem_cons_succ, List.getElem_cons_zero]
  try simp only [List.setIfInBounds_toArray, List.set_cons_zero, List.set_cons_succ]
  refine take_at (i := 5) (d := 56) (v := ?_) rfl rfl (by kernel_rfl) (by kernel_rfl) (by kernel_rfl) (fun _ _ _ h => h) (Or.inl ⟨by rfl, by intro w' hSw; (try dsimp only at hSw); go_simp; try with_reducible rfl⟩) (by assumption) ?_
  simp only [List.setIfInBounds_toArray, List.set_cons_zero, List.set_cons_succ]
  refine take_at (i := 6) (d := 57) (v := ?_) rfl rfl (by kernel_rfl) (by kernel_rfl) (by kernel_rfl) (fun _ _ _ h => h) (Or.inl ⟨by rfl, by intro w' hSw; (try dsimp only at hSw); go_simp; try with_reducible rfl⟩) (by assumption) ?_
  simp only [List.setIfInBounds_toArray, List.set_cons_zero, List.set_cons_succ]
  refine take_at (i := 7) (d := 58) (v := ?_) rfl rfl (by kernel_rfl) (by kernel_rfl) (by kernel_rfl) (fun _ _ _ h => h) (Or.inl ⟨by rfl, by intro w' hSw; (try dsimp only at hSw); go_simp; try with_reducible rfl⟩) (by assumption) ?_
  simp only [List.setIfInBounds_toArray, List.set_cons_zero, List.set_cons_succ]
  refine take_at (i := 8) (d := 59) (v := ?_) rfl rfl (by kernel_rfl) (by kernel_rfl) (by kernel_rfl) (fun _ _ _ h => h) (Or.inl ⟨by rfl, by intro w' hSw; (try dsimp only at hSw); go_simp; try with_reducible rfl⟩) (by assumption) ?_
  simp only [List.setIfInBounds_toArray, List.set_cons_zero, List.set_cons_succ]
  refine take_at (i := 9) (d := 60) (v := ?_) rfl rfl (by kernel_rfl) (by kernel_rfl) (by kernel_rfl) (fun _ _ _ h => h) (Or.inl ⟨by rfl, by intro w' hSw; (try dsimp only at hSw); go_simp; try with_reducible rfl⟩) (by assumption) ?_
  simp only [List.setIfInBounds_toArray, List.set_cons_zero, List.set_cons_succ]
  refine take_at (i := 10) (d := 61) (v := ?_) rfl rfl (by kernel_rfl) (by kernel_rfl) (by kernel_rfl) (fun _ _ _ h => h) (Or.inl ⟨by rfl, by intro w' hSw; (try dsimp only at hSw); go_simp; try with_reducible rfl⟩) (by assumption) ?_
  simp only [List.setIfInBounds_toArray, List.set_cons_zero, List.set_cons_succ]
  refine take_at (i := 11) (d := 62) (v := ?_) rfl rfl (by kernel_rfl) (by kernel_rfl) (by kernel_rfl) (fun _ _ _ h => h) (Or.inl ⟨by rfl, by intro w' hSw; (try dsimp only at hSw); go_simp; try with_reducible rfl⟩) (by assumption) ?_
  simp only [List.setIfInBounds_toArray, List.set_cons_zero, List.set_cons_succ]
  refine take_at (i := 12) (d := 63) (v := ?_) rfl rfl (by kernel_rfl) (by kernel_rfl) (by kernel_rfl) (fun _ _ _ h => h) (Or.inl ⟨by rfl, by intro w' hSw; (try dsimp only at hSw); go_simp; try with_reducible rfl⟩) (by assumption) ?_
  simp only [List.setIfInBounds_toArray, List.set_cons_zero, List.set_cons_succ]
  refine take_at (i := 13) (d := 64) (v := ?_) rfl rfl (by kernel_rfl) (by kernel_rfl) (by kernel_rfl) (fun _ _ _ h => h) (Or.inl ⟨by rfl, by intro w' hSw; (try dsimp only at hSw); go_simp; try with_reducible rfl⟩) (by assumption) ?_
  simp only [List.setIfInBounds_toArray, List.set_cons_zero, List.set_cons_succ]
  refine wpAnyH_ready (rs := [14]) (by kernel_rfl) (by simp) ?_
  refine AllReadyH.cons rfl (fun K hK => ?_) AllReadyH.nil
  go_simp
  go_at_call 42
  refine (HS1.out w10 HB10.out).mono ?_
  rintro e w12 ⟨rfl, hb12⟩
  have HB12 := Lib.hid (HB10.out.trans (hb12.mono HB10.out.size))
  clear hb12
  go_wp2_with fail
  refine hK.out _ _ ?_ (fun hHeld => ?_)
  · exact HSK.out _ HB12.out
  clear hK K
  try simp only [Act.put, List.getElem_toArray, List.getElem_cons_succ, List.getElem_cons_zero]
  try simp only [List.setIfInBounds_toArray, List.set_cons_zero, List.set_cons_succ]
  refine take_at (i := 15) (d := 66) (v := ?_) rfl rfl (by kernel_rfl) (by kernel_rfl) (by kernel_rfl) (fun _ _ _ h => h) (Or.inl ⟨by rfl, by intro w' hSw; (try dsimp only at hSw); go_simp; try with_reducible rfl⟩) (by assumption) ?_
  simp only [List.setIfInBounds_toArray, List.set_cons_zero, List.set_cons_succ]
  refine take_at (i := 16) (d := 67) (v := ?_) rfl rfl (by kernel_rfl) (by kernel_rfl) (by kernel_rfl) (fun _ _ _ h => h) (Or.inl ⟨by rfl, by intro w' hSw; (try dsimp only at hSw); go_simp; try with_reducible rfl⟩) (by assumption) ?_
  simp only [List.setIfInBounds_toArray, List.set_cons_zero, List.set_cons_succ]
  refine take_at (i := 17) (d := 68) (v := ?_) rfl rfl (by kernel_rfl) (by kernel_rfl) (by kernel_rfl) (fun _ _ _ h => h) (Or.inl ⟨by rfl, by intro w' hSw; (try dsimp only at hSw); go_simp; try with_reducible rfl⟩) (by assumption) ?_
  simp only [List.setIfInBounds_toArray, List.set_cons_zero, List.set_cons_succ]
  refine take_at (i := 18) (d := 69) (v := ?_) rfl rfl (by kernel_rfl) (by kernel_rfl) (by kernel_rfl) (fun _ _ _ h => h) (Or.inl ⟨by rfl, by intro w' hSw; (try dsimp only at hSw); go_simp; try with_reducible rfl⟩) (by assumption) ?_
  simp only [List.setIfInBounds_toArray, List.set_cons_zero, List.set_cons_succ]
  refine take_at (i := 19) (d := 70) (v := ?_) rfl rfl (by kernel_rfl) (by kernel_rfl) (by kernel_rfl) (fun _ _ _ h => h) (Or.inl ⟨by rfl, by intro w' hSw; (try dsimp only at hSw); go_simp; try with_reducible rfl⟩) (by assumption) ?_
  simp only [List.setIfInBounds_toArray, List.set_cons_zero, List.set_cons_succ]
  refine take_at (i := 20) (d := 71) (v := ?_) rfl rfl (by kernel_rfl) (by kernel_rfl) (by kernel_rfl) (fun _ _ _ h => h) (Or.inl ⟨by rfl, by intro w' hSw; (try dsimp only at hSw); go_simp; try with_reducible rfl⟩) (by assumption) ?_
  simp only [List.setIfInBounds_toArray, List.set_cons_zero, List.set_cons_succ]
  refine take_at (i := 21) (d := 72) (v := ?_) rfl rfl (by kernel_rfl) (by kernel_rfl) (by kernel_rfl) (fun _ _ _ h => h) (Or.inl ⟨by rfl, by intro w' hSw; (try dsimp only at hSw); go_simp; try with_reducible rfl⟩) (by assumption) ?_
  simp only [List.setIfInBounds_toArray, List.set_cons_zero, List.set_cons_succ]
  refine take_at (i := 22) (d := 73) (v := ?_) rfl rfl (by kernel_rfl) (by kernel_rfl) (by kernel_rfl) (fun _ _ _ h => h) (Or.inl ⟨by rfl, by intro w' hSw; (try dsimp only at hSw); go_simp; try with_reducible rfl⟩) (by assumption) ?_
  simp only [List.setIfInBounds_toArray, List.set_cons_zero, List.set_cons_succ]
  refine take_at (i := 23) (d := 74) (v := ?_) rfl rfl (by kernel_rfl) (by kernel_rfl) (by kernel_rfl) (fun _ _ _ h => h) (Or.inl ⟨by rfl, by intro w' hSw; (try dsimp only at hSw); go_simp; try with_reducible rfl⟩) (by assumption) ?_
  simp only [List.setIfInBounds_toArray, List.set_cons_zero, List.set_cons_succ]
  refine take_at (i := 25) (d := 76) (v := ?_) rfl rfl (by kernel_rfl) (by kernel_rfl) (by kernel_rfl) (fun _ _ _ h => h) (Or.inl ⟨by rfl, by intro w' hSw; (try dsimp only at hSw); go_simp; try with_reducible rfl⟩) (by assumption) ?_
  simp only [List.setIfInBounds_toArray, List.set_cons_zero, List.set_cons_succ]
  refine take_at (i := 26) (d := 77) (v := ?_) rfl rfl (by kernel_rfl) (by kernel_rfl) (by kernel_rfl) (fun _ _ _ h => h) (Or.inl ⟨by rfl, by intro w' hSw; (try dsimp only at hSw); go_simp; try with_reducible rfl⟩) (by assumption) ?_
  simp only [List.setIfInBounds_toArray, List.set_cons_zero, List.set_cons_succ]
  refine wpAnyH_ready (rs := [24]) (by kernel_rfl) (by simp) ?_
  refine AllReadyH.cons rfl (fun K hK => ?_) AllReadyH.nil
  go_simp
  go_at_call 36
  refine (HS2'.out w12 HB12.out).mono ?_
  rintro e w13 ⟨rfl, hb13⟩
  have HB13 := Lib.hid (HB12.out.trans (hb13.mono HB12.out.size))
  clear hb13
  go_wp2_with fail
  refine hK.out _ _ ?_ (fun hHeld => ?_)
  · exact HSK.out _ HB13.out
  clear hK K
  try simp only [Act.put, List.getElem_toArray, List.getElem_cons_succ, List.getElem_cons_zero]
  try simp only [List.setIfInBounds_toArray, List.set_cons_zero, List.set_cons_succ]
  refine wpAnyH_ready (rs := [27]) (by kernel_rfl) (by simp) ?_
  refine AllReadyH.cons rfl (fun K hK => ?_) AllReadyH.nil
  go_simp
  go_at_call 42
  refine (HS3'.out w13 HB13.out).mono ?_
  rintro e w14 ⟨rfl, hb14⟩
  have HB14 := Lib.hid (HB13.out.trans (hb14.mono HB13.out.size))
  clear hb14
  go_wp2_with fail
  refine hK.out _ _ ?_ (fun hHeld => ?_)
  · exact HSK.out _ HB14.out
  clear hK K
  try simp only [Act.put, List.getElem_toArray, List.getElem_cons_succ, List.getElem_cons_zero]
  try simp only [List.setIfInBounds_toArray, List.set_cons_zero, List.set_cons_succ]
  refine take_at (i := 28) (d := 79) (v := ?_) rfl rfl (by kernel_rfl) (by kernel_rfl) (by kernel_rfl) (fun _ _ _ h => h) (Or.inl ⟨by rfl, by intro w' hSw; (try dsimp only at hSw); go_simp; try with_reducible rfl⟩) (by assumption) ?_
  simp only [List.setIfInBounds_toArray, List.set_cons_zero, List.set_cons_succ]
  refine take_at (i := 29) (d := 80) (v := ?_) rfl rfl (by kernel_rfl) (by kernel_rfl) (by kernel_rfl) (fun _ _ _ h => h) (Or.inl ⟨by rfl, by intro w' hSw; (try dsimp only at hSw); go_simp; try with_reducible rfl⟩) (by assumption) ?_
  simp only [List.setIfInBounds_toArray, List.set_cons_zero, List.set_cons_succ]
  refine take_at (i := 30) (d := 6) (v := ?_) rfl rfl (by kernel_rfl) (by kernel_rfl) (by kernel_rfl) (fun _ _ _ h => h) (Or.inl ⟨by rfl, by intro w' hSw; (try dsimp only at hSw); go_simp; try with_reducible rfl⟩) (by assumption) ?_
  simp only [List.setIfInBounds_toArray, List.set_cons_zero, List.set_cons_succ]
  refine wpAnyH_done (by kernel_rfl) ?_ _
  go_wp2
  go_ret
  exact ⟨rfl, (HBXQ.out.below HB14.out).base⟩

theorem walk_reqBatches (W : World) (s1 : Int) (ao : Option Addr) (xs : List RQ) (n c : Nat) (hn : xs.length = n) (hx : RqsAt W ao xs) (hc : n ≤ c) (hc' : c ≤ maxLen) (s2 : Int) (bo : Option Addr) (ys : List RQ) (m d : Nat) (hm : ys.length = m) (hy : RqsAt W bo ys) (hd : m ≤ d) (hd' : d ≤ maxLen)
    (po : Option Addr) (zs : List Int) (pc : Nat) (hz : IntsAt .u8 W po zs) (hpc : zs.length ≤ pc) (wf : pc ≤ maxLen ∧ ∀ z ∈ zs, (Lit.int .u8 z).wf = true) :
    Calls Try.prog 10 #[.agg #[.int .i64 s1, .slice ao n c], .agg #[.int .i64 s2, .slice bo m d], .slice po zs.length pc] W fun e w' => e = .returned (.bool true) ∧ Below W.heap.size W w' :=
  batches_core W s1 ao xs n c s2 bo ys m d po zs zs.length pc hn hx ⟨hc, hc'⟩ hm hy ⟨hd, hd'⟩ rfl hz (inB_of_wf wf.2) ⟨hpc, wf.1⟩

end Go.Proofs.Ytadejcpifabpoaa
