/- LedgerTells: the walk. -/
import Derived.Test.YtkaciaehlibidaaGreatLl2
namespace Go.Proofs.YtkaciaehlibidaaGreat
open Go.RowKit
set_option linter.unusedVariables false
set_option linter.unusedSimpArgs false

set_option maxRecDepth 100000 in
set_option maxHeartbeats 4000000 in
theorem walk_ledgerTells (W : World) (ao : Option Addr) (bs : List ISl) (n cap : Nat) (E : Int) (hn : bs.length = n) (h : IntsList W ao bs) (hcap : n ≤ cap) (hcm : cap ≤ maxLen)
    (lo : Option Addr) (ls : List LO) (r lc : Nat) (hr : ls.length = r) (h2 : LosAt W lo ls) (hrc : r ≤ lc) (hrm : lc ≤ maxLen) (fr : Int) (wfr : (Lit.int .i64 fr).wf = true) :
    Calls Tryz.prog 3 #[.agg #[.slice ao n cap, .int .i64 E], .slice lo r lc, .int .i64 fr] W fun e w' => e = .returned (.bool true) ∧ Below W.heap.size W w' := by
  have HOUT : Hid (∀ w1, Below W.heap.size W w1 → Calls Tryz.prog 8 #[] w1 fun e w' => e = .returned (.bool true) ∧ Below W.heap.size W w') := Lib.hid (fun w1 h1 => (first12_any w1).mono (fun e w' h => ⟨h.1, below_step h1 h.2⟩))
  have HI := Lib.hid h
  have HN := Lib.hid hn
  have HLS := Lib.hid h2
  have HR := Lib.hid hr
  have HFW := Lib.hid (fun w1 (hb : Below W.heap.size W w1) => few12_any ao bs n cap E w1 hn (h.below hb) hcap hcm lo ls r lc hr (h2.below hb) hrc hrm)
  clear h hn h2 hr hcap hcm hrc hrm wfr
  obtain ⟨w1, hw1⟩ : ∃ w1, w1 = W.alloc (.cells #[.slice ao n cap, .int .i64 E] 24) := ⟨_, rfl⟩
  obtain ⟨C, hC⟩ : ∃ C, C = W.heap.size := ⟨_, rfl⟩
  have hb1 : Below W.heap.size W w1 := by rw [hw1]; exact (Below.refl _ _).alloc (Nat.le_refl _) _
  have HX1 : Hid (w1.heap[C]? = some (.cells #[.slice ao n cap, .int .i64 E] 24 (0, 0))) := Lib.hid (by rw [hw1, hC]; exact heap_alloc_new _ _)
  have HB1 := Lib.hid hb1
  have HW1 := Lib.hid hw1
  have HC := Lib.hid hC
  clear hw1 hC hb1
  go_enter Tryz.func3, Tryz.ntmps3
  go_upto_region 1 with fail
  rw [← HW1.out, ← HC.out]
  clear HW1
  go_wp2_with fail
  refine (first12_any w1).mono ?_
  rintro e w2 ⟨rfl, hb2⟩
  have HX2 : Hid (w2.heap[C]? = some (.cells #[.slice ao n cap, .int .i64 E] 24 (0, 0))) := Lib.hid ((hb2.block C (blk_lt HX1.out)).trans HX1.out)
  have HB2 := Lib.hid (below_step HB1.out hb2)
  clear hb2 HX1 HB1
  have q0 := blk_cell HX2.out 0
  have q1 := blk_cell HX2.out 1
  simp only [List.getElem?_toArray, List.getElem?_cons_zero, List.getElem?_cons_succ] at q0 q1
  go_wp2_with fail
  refine (HFW.out w2 HB2.out).mono ?_
  rintro e w3 ⟨F, rfl, hb3, hF⟩
  have HF := Lib.hid hF
  have HX3 : Hid (w3.heap[C]? = some (.cells #[.slice ao n cap, .int .i64 E] 24 (0, 0))) := Lib.hid ((hb3.block C (blk_lt HX2.out)).trans HX2.out)
  have HB3 := Lib.hid (below_step HB2.out hb3)
  clear hb3 hF HX2 HB2 HFW q0 q1
  have q0 := blk_cell HX3.out 0
  have q1 := blk_cell HX3.out 1
  simp only [List.getElem?_toArray, List.getElem?_cons_zero, List.getElem?_cons_succ] at q0 q1
  cases F
  case false =>
    go_wp2_with fail
    refine (HOUT.out w3 HB3.out).mono ?_
    rintro e w4 ⟨rfl, hb4⟩
    have HB4 := Lib.hid hb4
    clear hb4
    go_wp2
    go_ret
    exact ⟨rfl, HB4.out⟩
  have HFE := Lib.hid (HF.out rfl)
  clear HF
  obtain ⟨tb, htb⟩ : ∃ tb, tb = w3.heap.size := ⟨_, rfl⟩
  have HTB := Lib.hid htb
  clear htb
  cases hcf : confOK bs E
  case false =>
    have HCF := Lib.hid hcf
    clear hcf
    go_upto_region 5 with fail
    refine wp_region_held_drew (S := fun w' => w'.cell? ⟨C, 0, none⟩ = some (.slice ao n cap) ∧ w'.cell? ⟨C, 1, none⟩ = some (.int .i64 E)) (by kernel_rfl) ?_ (fun hHeld => ?_)
    · exact ⟨q0, q1⟩
    refine take_at (i := 1) (d := 22) (v := ?_) rfl rfl (by kernel_rfl) (by kernel_rfl) (by kernel_rfl) (fun _ _ _ h => h) (Or.inl ⟨by rfl, by intro w' hSw; (try dsimp only at hSw); go_simp; try with_reducible rfl⟩) (by assumption) ?_
    simp only [List.setIfInBounds_toArray, List.set_cons_zero, List.set_cons_succ]
    refine wpAnyH_ready (rs := [0]) (by kernel_rfl) (by simp) ?_
    refine AllReadyH.cons rfl (fun K hK => ?_) AllReadyH.nil
    go_simp
    refine (newTable_any w3.drew).mono ?_
    rintro e w4 ⟨rfl, ht, hb⟩
    have hb := below_undrew hb
    have hsz : w3.drew.heap.size = tb := HTB.out.symm
    rw [hsz]
    have HX4 : Hid (w4.heap[C]? = some (.cells #[.slice ao n cap, .int .i64 E] 24 (0, 0))) := Lib.hid ((hb.block C (blk_lt HX3.out)).trans HX3.out)
    have HB4 := Lib.hid (below_step HB3.out hb)
    have p0 := blk_cell HX4.out 0
    have p1 := blk_cell HX4.out 1
    simp only [List.getElem?_toArray, List.getElem?_cons_zero, List.getElem?_cons_succ] at p0 p1
    clear ht hb hsz
    dsimp only
    go_wp2_with fail
    refine hK.out _ _ ?_ (fun hHeld => ?_)
    · exact ⟨p0, p1⟩
    clear hK K
    try simp only [Act.put, List.getElem_toArray, List.getElem_cons_succ, List.getElem_cons_zero]
    try simp only [List.setIfInBounds_toArray, List.set_cons_zero, List.set_cons_succ]
    refine wpAnyH_ready (rs := [2]) (by kernel_rfl) (by simp) ?_
    refine AllReadyH.cons rfl (fun K hK => ?_) AllReadyH.nil
    go_simp
    refine (ledger_no tb ao bs n cap E w4 HN.out (HI.out.below HB4.out) HCF.out).mono ?_
    rintro e w5 ⟨rfl, hb⟩
    have HX5 : Hid (w5.heap[C]? = some (.cells #[.slice ao n cap, .int .i64 E] 24 (0, 0))) := Lib.hid ((hb.block C (blk_lt HX4.out)).trans HX4.out)
    have HB5 := Lib.hid (below_step HB4.out hb)
    clear p0 p1
    have p0 := blk_cell HX5.out 0
    have p1 := blk_cell HX5.out 1
    simp only [List.getElem?_toArray, List.getElem?_cons_zero, List.getElem?_cons_succ] at p0 p1
    clear hb
    dsimp only
    go_wp2_with fail
    refine hK.out _ _ ?_ (fun hHeld => ?_)
    · exact ⟨p0, p1⟩
    clear hK K
    try simp only [Act.put, List.getElem_toArray, List.getElem_cons_succ, List.getElem_cons_zero]
    try simp only [List.setIfInBounds_toArray, List.set_cons_zero, List.set_cons_succ]
    refine take_at (i := 3) (d := 20) (v := ?_) rfl rfl (by kernel_rfl) (by kernel_rfl) (by kernel_rfl) (fun _ _ _ h => h) (Or.inl ⟨by rfl, by intro w' hSw; (try dsimp only at hSw); go_simp; try with_reducible rfl⟩) (by assumption) ?_
    simp only [List.setIfInBounds_toArray, List.set_cons_zero, List.set_cons_succ]
    refine take_at (i := 4) (d := 24) (v := ?_) rfl rfl (by kernel_rfl) (by kernel_rfl) (by kernel_rfl) (fun _ _ _ h => h) (Or.inl ⟨by rfl, by intro w' hSw; (try dsimp only at hSw); go_simp; try with_reducible rfl⟩) (by assumption) ?_
    simp only [List.setIfInBounds_toArray, List.set_cons_zero, List.set_cons_succ]
    refine take_at (i := 5) (d := 25) (v := ?_) rfl rfl (by kernel_rfl) (by kernel_rfl) (by kernel_rfl) (fun _ _ _ h => h) (Or.inl ⟨by rfl, by intro w' hSw; (try dsimp only at hSw); go_simp; try with_reducible rfl⟩) (by assumption) ?_
    simp only [List.setIfInBounds_toArray, List.set_cons_zero, List.set_cons_succ]
    refine take_at (i := 6) (d := 7) (v := ?_) rfl rfl (by kernel_rfl) (by kernel_rfl) (by kernel_rfl) (fun _ _ _ h => h) (Or.inl ⟨by rfl, by intro w' hSw; (try dsimp only at hSw); go_simp; try with_reducible rfl⟩) (by assumption) ?_
    simp only [List.setIfInBounds_toArray, List.set_cons_zero, List.set_cons_succ]
    refine take_at (i := 7) (d := 8) (v := ?_) rfl rfl (by kernel_rfl) (by kernel_rfl) (by kernel_rfl) (fun _ _ _ h => h) (Or.inl ⟨by rfl, by intro w' hSw; (try dsimp only at hSw); go_simp; try with_reducible rfl⟩) (by assumption) ?_
    simp only [List.setIfInBounds_toArray, List.set_cons_zero, List.set_cons_succ]
    refine wpAnyH_done (by kernel_rfl) ?_ _
    clear hHeld p0 p1 q0 q1
    go_wp2_with fail
    refine (HOUT.out w5 HB5.out).mono ?_
    rintro e w6 ⟨rfl, hb6⟩
    have HB6 := Lib.hid hb6
    clear hb6
    go_wp2
    go_ret
    exact ⟨rfl, HB6.out⟩
  have HCF := Lib.hid hcf
  clear hcf
  obtain ⟨m, hm⟩ : ∃ m, m = (bs.getD 0 default).zs.length := ⟨_, rfl⟩
  have HM := Lib.hid hm
  clear hm
  go_upto_region 5 with fail
  refine wp_region_held_drew (S := fun w' => w'.cell? ⟨C, 0, none⟩ = some (.slice ao n cap) ∧ w'.cell? ⟨C, 1, none⟩ = some (.int .i64 E)) (by kernel_rfl) ?_ (fun hHeld => ?_)
  · exact ⟨q0, q1⟩
  refine take_at (i := 1) (d := 22) (v := ?_) rfl rfl (by kernel_rfl) (by kernel_rfl) (by kernel_rfl) (fun _ _ _ h => h) (Or.inl ⟨by rfl, by intro w' hSw; (try dsimp only at hSw); go_simp; try with_reducible rfl⟩) (by assumption) ?_
  simp only [List.setIfInBounds_toArray, List.set_cons_zero, List.set_cons_succ]
  refine wpAnyH_ready (rs := [0]) (by kernel_rfl) (by simp) ?_
  refine AllReadyH.cons rfl (fun K hK => ?_) AllReadyH.nil
  go_simp
  refine (newTable_any w3.drew).mono ?_
  rintro e w4 ⟨rfl, ht, hb⟩
  have hb := below_undrew hb
  have hsz : w3.drew.heap.size = tb := HTB.out.symm
  rw [hsz] at ht ⊢
  have HT4 := Lib.hid ht
  have HX4 : Hid (w4.heap[C]? = some (.cells #[.slice ao n cap, .int .i64 E] 24 (0, 0))) := Lib.hid ((hb.block C (blk_lt HX3.out)).trans HX3.out)
  have HB4 := Lib.hid (below_step HB3.out hb)
  have p0 := blk_cell HX4.out 0
  have p1 := blk_cell HX4.out 1
  simp only [List.getElem?_toArray, List.getElem?_cons_zero, List.getElem?_cons_succ] at p0 p1
  clear ht hb hsz
  dsimp only
  go_wp2_with fail
  refine hK.out _ _ ?_ (fun hHeld => ?_)
  · exact ⟨p0, p1⟩
  clear hK K
  try simp only [Act.put, List.getElem_toArray, List.getElem_cons_succ, List.getElem_cons_zero]
  try simp only [List.setIfInBounds_toArray, List.set_cons_zero, List.set_cons_succ]
  refine wpAnyH_ready (rs := [2]) (by kernel_rfl) (by simp) ?_
  refine AllReadyH.cons rfl (fun K hK => ?_) AllReadyH.nil
  go_simp
  refine (ledger_yes W tb ao bs n cap m E w4 HB4.out HT4.out (by have := HTB.out; have := HB3.out.size; omega) HN.out (HI.out.below HB4.out) HCF.out HM.out.symm).mono ?_
  rintro e w5 ⟨S0, A, B, q, rfl, hd, hb, _⟩
  have HD5 := Lib.hid hd
  have HX5 : Hid (w5.heap[C]? = some (.cells #[.slice ao n cap, .int .i64 E] 24 (0, 0))) := Lib.hid ((hb.block C (blk_lt HX4.out)).trans HX4.out)
  clear p0 p1
  have p0 := blk_cell HX5.out 0
  have p1 := blk_cell HX5.out 1
  simp only [List.getElem?_toArray, List.getElem?_cons_zero, List.getElem?_cons_succ] at p0 p1
  clear hd hb
  dsimp only
  go_wp2_with fail
  refine hK.out _ _ ?_ (fun hHeld => ?_)
  · exact ⟨p0, p1⟩
  clear hK K
  try simp only [Act.put, List.getElem_toArray, List.getElem_cons_succ, List.getElem_cons_zero]
  try simp only [List.setIfInBounds_toArray, List.set_cons_zero, List.set_cons_succ]
  refine take_at (i := 3) (d := 20) (v := ?_) rfl rfl (by kernel_rfl) (by kernel_rfl) (by kernel_rfl) (fun _ _ _ h => h) (Or.inl ⟨by rfl, by intro w' hSw; (try dsimp only at hSw); go_simp; try with_reducible rfl⟩) (by assumption) ?_
  simp only [List.setIfInBounds_toArray, List.set_cons_zero, List.set_cons_succ]
  refine take_at (i := 4) (d := 24) (v := ?_) rfl rfl (by kernel_rfl) (by kernel_rfl) (by kernel_rfl) (fun _ _ _ h => h) (Or.inl ⟨by rfl, by intro w' hSw; (try dsimp only at hSw); go_simp; try with_reducible rfl⟩) (by assumption) ?_
  simp only [List.setIfInBounds_toArray, List.set_cons_zero, List.set_cons_succ]
  refine take_at (i := 5) (d := 25) (v := ?_) rfl rfl (by kernel_rfl) (by kernel_rfl) (by kernel_rfl) (fun _ _ _ h => h) (Or.inl ⟨by rfl, by intro w' hSw; (try dsimp only at hSw); go_simp; try with_reducible rfl⟩) (by assumption) ?_
  simp only [List.setIfInBounds_toArray, List.set_cons_zero, List.set_cons_succ]
  refine take_at (i := 6) (d := 7) (v := ?_) rfl rfl (by kernel_rfl) (by kernel_rfl) (by kernel_rfl) (fun _ _ _ h => h) (Or.inl ⟨by rfl, by intro w' hSw; (try dsimp only at hSw); go_simp; try with_reducible rfl⟩) (by assumption) ?_
  simp only [List.setIfInBounds_toArray, List.set_cons_zero, List.set_cons_succ]
  refine take_at (i := 7) (d := 8) (v := ?_) rfl rfl (by kernel_rfl) (by kernel_rfl) (by kernel_rfl) (fun _ _ _ h => h) (Or.inl ⟨by rfl, by intro w' hSw; (try dsimp only at hSw); go_simp; try with_reducible rfl⟩) (by assumption) ?_
  simp only [List.setIfInBounds_toArray, List.set_cons_zero, List.set_cons_succ]
  refine wpAnyH_done (by kernel_rfl) ?_ _
  clear hHeld p0 p1 q0 q1 HX3 HX4 HX5 HB3 HB4 HT4 HCF HM HN HI HTB HC
  obtain ⟨T, hT⟩ : ∃ T : Nat → Int, T = fun j => tot (balOf bs) j n := ⟨_, rfl⟩
  rw [← hT] at HD5
  obtain ⟨s0, hs0⟩ : ∃ s0 : LS, s0 = ⟨balOf bs, [], 0, []⟩ := ⟨_, rfl⟩
  rw [← hs0] at HD5
  clear hT hs0
  have HR100 : Hid (r ≤ 100) := Lib.hid HFE.out.1
  go_wp2_with fail
  go_loopw [9] (fun i wr => ∃ j : Nat, j ≤ r ∧ i = .int .i64 j ∧ ∃ S s, LD S W wr n m E s T A B tb q) (fun i _ => r - (intOf i).toNat)
  case atStart => exact ⟨0, by omega, rfl, S0, s0, HD5.out⟩
  case round =>
    obtain ⟨j, hj, rfl, S, s, hd⟩ := hrel
    have HD := Lib.hid hd
    clear hd HD5
    by_cases hlt : j < r
    case neg =>
      obtain rfl : j = r := by omega
      go_wp2_with fail
      refine (HOUT.out _ HD.out.bel).mono ?_
      rintro e w6 ⟨rfl, hb6⟩
      have HB6 := Lib.hid hb6
      clear hb6
      go_wp2
      go_ret
      exact ⟨rfl, HB6.out⟩
    have j0 : (0 : Int) ≤ (j : Int) := by omega
    have j1 : (j : Int) < (r : Int) := by omega
    have HLT := Lib.hid hlt
    have hjl : j < ls.length := by rw [HR.out]; exact hlt
    have HCE := Lib.hid (fun w' (hb : Below W.heap.size W w') => (HLS.out.below hb).at_ j hjl)
    have HOK := Lib.hid (HLS.out.2 ls[j] (List.getElem_mem hjl))
    have HFO := Lib.hid (HFE.out.2 ls[j] (List.getElem_mem hjl))
    generalize ls[j] = o at *
    obtain ⟨ob, off, rfl, c0, c1, c2, c3⟩ := HCE.out wr HD.out.bel
    have HSZ := Lib.hid (rq_sizes HFO.out)
    have HDd := Lib.hid (HD.out.below (below_drew _))
    have HRR : Hid (r - (j + 1) < r - j) := Lib.hid (by omega)
    clear hlt hjl hj
    go_upto_region 11 with fail
    refine wp_region_held_drew (S := fun w' => w'.cell? ⟨ob, off + j * 4, none⟩ = some (.int .i64 o.p) ∧ w'.cell? ⟨ob, off + j * 4 + 1, none⟩ = some (.int .i64 o.c) ∧ w'.cell? ⟨ob, off + j * 4 + 2, none⟩ = some (.int .i64 o.q) ∧ w'.cell? ⟨ob, off + j * 4 + 3, none⟩ = some (.slice o.ro o.n o.cap)) (by kernel_rfl) ?_ (fun hHeld => ?_)
    · exact ⟨c0, c1, c2, c3⟩
    refine take_at (i := 0) (d := 39) (v := ?_) rfl rfl (by kernel_rfl) (by kernel_rfl) (by kernel_rfl) (fun _ _ _ h => h) (Or.inl ⟨by rfl, by intro w' hSw; (try dsimp only at hSw); go_simp; try with_reducible rfl⟩) (by assumption) ?_
    simp only [List.setIfInBounds_toArray, List.set_cons_zero, List.set_cons_succ]
    refine take_at (i := 1) (d := 40) (v := ?_) rfl rfl (by kernel_rfl) (by kernel_rfl) (by kernel_rfl) (fun _ _ _ h => h) (Or.inl ⟨by rfl, by intro w' hSw; (try dsimp only at hSw); go_simp; try with_reducible rfl⟩) (by assumption) ?_
    simp only [List.setIfInBounds_toArray, List.set_cons_zero, List.set_cons_succ]
    refine take_at (i := 2) (d := 41) (v := ?_) rfl rfl (by kernel_rfl) (by kernel_rfl) (by kernel_rfl) (fun _ _ _ h => h) (Or.inl ⟨by rfl, by intro w' hSw; (try dsimp only at hSw); go_simp; try with_reducible rfl⟩) (by assumption) ?_
    simp only [List.setIfInBounds_toArray, List.set_cons_zero, List.set_cons_succ]
    refine take_at (i := 3) (d := 42) (v := ?_) rfl rfl (by kernel_rfl) (by kernel_rfl) (by kernel_rfl) (fun _ _ _ h => h) (Or.inl ⟨by rfl, by intro w' hSw; (try dsimp only at hSw); go_simp; try with_reducible rfl⟩) (by assumption) ?_
    simp only [List.setIfInBounds_toArray, List.set_cons_zero, List.set_cons_succ]
    refine take_at (i := 4) (d := 43) (v := ?_) rfl rfl (by kernel_rfl) (by kernel_rfl) (by kernel_rfl) (fun _ _ _ h => h) (Or.inl ⟨by rfl, by intro w' hSw; (try dsimp only at hSw); go_simp; try with_reducible rfl⟩) (by assumption) ?_
    simp only [List.setIfInBounds_toArray, List.set_cons_zero, List.set_cons_succ]
    refine take_at (i := 5) (d := 44) (v := ?_) rfl rfl (by kernel_rfl) (by kernel_rfl) (by kernel_rfl) (fun _ _ _ h => h) (Or.inl ⟨by rfl, by intro w' hSw; (try dsimp only at hSw); go_simp; try with_reducible rfl⟩) (by assumption) ?_
    simp only [List.setIfInBounds_toArray, List.set_cons_zero, List.set_cons_succ]
    refine take_at (i := 6) (d := 45) (v := ?_) rfl rfl (by kernel_rfl) (by kernel_rfl) (by kernel_rfl) (fun _ _ _ h => h) (Or.inl ⟨by rfl, by intro w' hSw; (try dsimp only at hSw); go_simp; try with_reducible rfl⟩) (by assumption) ?_
    simp only [List.setIfInBounds_toArray, List.set_cons_zero, List.set_cons_succ]
    refine take_at (i := 7) (d := 46) (v := ?_) rfl rfl (by kernel_rfl) (by kernel_rfl) (by kernel_rfl) (fun _ _ _ h => h) (Or.inl ⟨by rfl, by intro w' hSw; (try dsimp only at hSw); go_simp; try with_reducible rfl⟩) (by assumption) ?_
    simp only [List.setIfInBounds_toArray, List.set_cons_zero, List.set_cons_succ]
    refine take_at (i := 8) (d := 47) (v := ?_) rfl rfl (by kernel_rfl) (by kernel_rfl) (by kernel_rfl) (fun _ _ _ h => h) (Or.inl ⟨by rfl, by intro w' hSw; (try dsimp only at hSw); go_simp; try with_reducible rfl⟩) (by assumption) ?_
    simp only [List.setIfInBounds_toArray, List.set_cons_zero, List.set_cons_succ]
    refine take_at (i := 9) (d := 48) (v := ?_) rfl rfl (by kernel_rfl) (by kernel_rfl) (by kernel_rfl) (fun _ _ _ h => h) (Or.inl ⟨by rfl, by intro w' hSw; (try dsimp only at hSw); go_simp; try with_reducible rfl⟩) (by assumption) ?_
    simp only [List.setIfInBounds_toArray, List.set_cons_zero, List.set_cons_succ]
    refine take_at (i := 10) (d := 49) (v := ?_) rfl rfl (by kernel_rfl) (by kernel_rfl) (by kernel_rfl) (fun _ _ _ h => h) (Or.inl ⟨by rfl, by intro w' hSw; (try dsimp only at hSw); go_simp; try with_reducible rfl⟩) (by assumption) ?_
    simp only [List.setIfInBounds_toArray, List.set_cons_zero, List.set_cons_succ]
    refine take_at (i := 11) (d := 50) (v := ?_) rfl rfl (by kernel_rfl) (by kernel_rfl) (by kernel_rfl) (fun _ _ _ h => h) (Or.inl ⟨by rfl, by intro w' hSw; (try dsimp only at hSw); go_simp; try with_reducible rfl⟩) (by assumption) ?_
    simp only [List.setIfInBounds_toArray, List.set_cons_zero, List.set_cons_succ]
    refine take_at (i := 12) (d := 51) (v := ?_) rfl rfl (by kernel_rfl) (by kernel_rfl) (by kernel_rfl) (fun _ _ _ h => h) (Or.inl ⟨by rfl, by intro w' hSw; (try dsimp only at hSw); go_simp; try with_reducible rfl⟩) (by assumption) ?_
    simp only [List.setIfInBounds_toArray, List.set_cons_zero, List.set_cons_succ]
    refine take_at (i := 13) (d := 52) (v := ?_) rfl rfl (by kernel_rfl) (by kernel_rfl) (by kernel_rfl) (fun _ _ _ h => h) (Or.inl ⟨by rfl, by intro w' hSw; (try dsimp only at hSw); go_simp; try with_reducible rfl⟩) (by assumption) ?_
    simp only [List.setIfInBounds_toArray, List.set_cons_zero, List.set_cons_succ]
    refine take_at (i := 14) (d := 53) (v := ?_) rfl rfl (by kernel_rfl) (by kernel_rfl) (by kernel_rfl) (fun _ _ _ h => h) (Or.inl ⟨by rfl, by intro w' hSw; (try dsimp only at hSw); go_simp; try with_reducible rfl⟩) (by assumption) ?_
    simp only [List.setIfInBounds_toArray, List.set_cons_zero, List.set_cons_succ]
    refine take_at (i := 15) (d := 54) (v := ?_) rfl rfl (by kernel_rfl) (by kernel_rfl) (by kernel_rfl) (fun _ _ _ h => h) (Or.inl ⟨by rfl, by intro w' hSw; (try dsimp only at hSw); go_simp; try with_reducible rfl⟩) (by assumption) ?_
    simp only [List.setIfInBounds_toArray, List.set_cons_zero, List.set_cons_succ]
    refine wpAnyH_ready (rs := [16]) (by kernel_rfl) (by simp) ?_
    refine AllReadyH.cons rfl (fun K hK => ?_) AllReadyH.nil
    go_simp
    refine (ledger_apply HDd.out o.p o.c o.q o.ro o.rs o.n o.cap HOK.out.2.1 HOK.out.2.2.1 HOK.out.2.2.2 (rqs_stay HOK.out.1 HDd.out) HSZ.out).mono ?_
    rintro e w6 ⟨ra, rc, ea, ec, rfl, _, _, _, _, S6, hd6, _⟩
    have HD6 := Lib.hid hd6
    clear hd6 c0 c1 c2 c3
    obtain ⟨ob', off', he, c0, c1, c2, c3⟩ := HCE.out w6 HD6.out.bel
    simp only [Option.some.injEq, Addr.mk.injEq, and_true] at he
    obtain ⟨rfl, rfl⟩ := he
    dsimp only
    go_wp2_with fail
    refine hK.out _ _ ?_ (fun hHeld => ?_)
    · exact ⟨c0, c1, c2, c3⟩
    clear hK K
    try simp only [Act.put, List.getElem_toArray, List.getElem_cons_succ, List.getElem_cons_zero]
    try simp only [List.setIfInBounds_toArray, List.set_cons_zero, List.set_cons_succ]
    refine wpAnyH_done (by kernel_rfl) ?_ _
    clear hHeld c0 c1 c2 c3 HD HDd HCE HOK HFO HSZ
    generalize applyF n m E s o.p o.c o.rs = s1 at *
    have HI1 := Lib.hid HD6.out.inv
    obtain ⟨Sb6, v6, hd6, _, _⟩ := HD6.out.dat
    have HEV := Lib.hid (ledger_events hd6 HI1.out.len.2.1)
    clear hd6
    go_wp2_with fail
    refine HEV.out.mono ?_
    rintro e w7 ⟨al, cl, rfl, hrow, hb7, hnew⟩
    have HD7 := Lib.hid (HD6.out.below hb7)
    have HAL7 : Hid (EvsAt w7 al s1.evs ∧ ∀ a, al = some a → ¬ S6 a.block ∧ a.block < w7.heap.size) := Lib.hid ⟨evs_of_own (evs_len s1) hrow, fun a ha => ⟨fun hs => by have := HD6.out.lt _ hs; have := hnew a.block (own_blk hrow a ha); omega, (hrow.lt a.block (own_blk hrow a ha)).2⟩⟩
    have HCL := Lib.hid (own_cap hrow)
    clear hrow hb7 hnew HEV HD6
    obtain ⟨Sb7, v7, hd7, _, _⟩ := HD7.out.dat
    have HCK := Lib.hid (ledger_clock hd7)
    clear hd7
    go_wp2_with fail
    refine HCK.out.mono ?_
    rintro e wx ⟨rfl, rfl⟩
    rename World => w7
    have HP1 := Lib.hid (poll_state HI1.out 0 s1.ck (Or.inl rfl))
    have HAP := Lib.hid (ledger_apply HD7.out 0 s1.ck fr none [] 0 0 rfl (Nat.le_refl _) (Nat.zero_le _) (fun _ _ => Or.inl rfl) (fun r h => by cases h))
    rw [HP1.out.1, HP1.out.2] at HAP
    clear HCK
    go_wp2_with fail
    refine HAP.out.mono ?_
    rintro e w8 ⟨ra8, rc8, ea8, ec8, rfl, _, hea8, _, _, S8, hd8, hk8, hn8, _, hae8⟩
    have HAL8 : Hid (EvsAt w8 al s1.evs ∧ ∀ a, al = some a → ¬ S8 a.block ∧ a.block < w8.heap.size) := Lib.hid ⟨HAL7.out.1.keep hk8 (fun a ha => (HAL7.out.2 a ha).1), fun a ha => ⟨fun hs => by
      rcases hn8 _ hs with e | e
      · exact (HAL7.out.2 a ha).1 e
      · have := (HAL7.out.2 a ha).2; omega, Nat.lt_of_lt_of_le (HAL7.out.2 a ha).2 hk8.size⟩⟩
    have HD8 := Lib.hid hd8
    have HEA8 : Hid (EvsAt w8 ea8 (dropF s1.evs fr) ∧ ∀ a, ea8 = some a → ¬ S8 a.block) := Lib.hid ⟨hea8, fun a ha => (hae8 a ha).1⟩
    obtain ⟨le, hle⟩ : ∃ le : Nat, le = s1.es.length := ⟨_, rfl⟩
    obtain ⟨ke, hke⟩ : ∃ ke : Nat, ke = (dropF s1.evs fr).length := ⟨_, rfl⟩
    have HLE : Hid (s1.es.length = le ∧ (dropF s1.evs fr).length = ke ∧ s1.evs.length = le ∧ le ≤ 400 ∧ ke ≤ 400) := Lib.hid ⟨hle.symm, hke.symm, by rw [evs_len, hle], by rw [hle]; exact HI1.out.len.2.1, by rw [hke]; have := drop_len s1 fr; have := HI1.out.len.2.1; omega⟩
    rw [← hle, ← hke]
    clear hd8 hk8 hn8 hae8 hea8 hle hke HAL7 HD7 HAP
    go_upto_region 14 with fail
    obtain ⟨V, hV⟩ : ∃ V, V = w8.heap.size := ⟨_, rfl⟩
    obtain ⟨w9, hw9⟩ : ∃ w9, w9 = w8.alloc (.cells #[.int .i64 s1.ck, .int .i64 (le : Int), .slice ra8 0 rc8, .slice ea8 ke ec8] 37) := ⟨_, rfl⟩
    rw [← hw9, ← hV]
    have hb9 : Below w8.heap.size w8 w9 := by rw [hw9]; exact (Below.refl _ _).alloc (Nat.le_refl _) _
    have HV9 : Hid (w9.heap[V]? = some (.cells #[.int .i64 s1.ck, .int .i64 (le : Int), .slice ra8 0 rc8, .slice ea8 ke ec8] 37 (0, 0))) := Lib.hid (by rw [hw9, hV]; exact heap_alloc_new _ _)
    have HD9 := Lib.hid (HD8.out.below hb9)
    have HVS : Hid (¬ S8 V) := Lib.hid (fun hs => by have := HD8.out.lt V hs; omega)
    have HAL9 : Hid (EvsAt w9 al s1.evs) := Lib.hid (HAL8.out.1.below hb9)
    have HEA9 : Hid (EvsAt w9 ea8 (dropF s1.evs fr)) := Lib.hid (HEA8.out.1.below hb9)
    clear hw9 hV hb9 HD8
    have HP2 := Lib.hid (poll_state HI1.out 1 0 (Or.inr rfl))
    have HAPb := Lib.hid (ledger_apply HD9.out 1 0 fr none [] 0 0 rfl (Nat.le_refl _) (Nat.zero_le _) (fun _ _ => Or.inl rfl) (fun r h => by cases h))
    rw [HP2.out.1, HP2.out.2] at HAPb
    go_wp2_with fail
    refine HAPb.out.mono ?_
    rintro e w10 ⟨rb, rcb, eb, ecb, rfl, _, heb, _, _, S10, hd10, hk10, _, _, _⟩
    rw [HLE.out.1, HLE.out.2.1]
    have HD10 := Lib.hid hd10
    have HV10 : Hid (w10.heap[V]? = some (.cells #[.int .i64 s1.ck, .int .i64 (le : Int), .slice ra8 0 rc8, .slice ea8 ke ec8] 37 (0, 0))) := Lib.hid ((hk10.block V (blk_lt HV9.out) HVS.out).trans HV9.out)
    have HAL10 : Hid (EvsAt w10 al s1.evs) := Lib.hid (HAL9.out.keep hk10 (fun a ha => (HAL8.out.2 a ha).1))
    have HEA10 : Hid (EvsAt w10 ea8 (dropF s1.evs fr)) := Lib.hid (HEA9.out.keep hk10 (fun a ha => HEA8.out.2 a ha))
    have HEB10 := Lib.hid heb
    clear hd10 hk10 heb HV9 HVS HAL9 HEA9 HAPb HD9 HAL8 HEA8
    go_upto_region 15 with fail
    obtain ⟨U, hU⟩ : ∃ U, U = w10.heap.size := ⟨_, rfl⟩
    obtain ⟨w11, hw11⟩ : ∃ w11, w11 = w10.alloc (.cells #[.int .i64 s1.ck, .int .i64 (le : Int), .slice rb 0 rcb, .slice eb ke ecb] 37) := ⟨_, rfl⟩
    rw [← hw11, ← hU]
    obtain ⟨TA, hTA⟩ : ∃ TA : World → Prop, TA = fun w => LD S10 W w n m E s1 T A B tb q ∧ w.heap[V]? = some (.cells #[.int .i64 s1.ck, .int .i64 (le : Int), .slice ra8 0 rc8, .slice ea8 ke ec8] 37 (0, 0)) ∧ w.heap[U]? = some (.cells #[.int .i64 s1.ck, .int .i64 (le : Int), .slice rb 0 rcb, .slice eb ke ecb] 37 (0, 0)) ∧ EvsAt w al s1.evs ∧ EvsAt w ea8 (dropF s1.evs fr) ∧ EvsAt w eb (dropF s1.evs fr) := ⟨_, rfl⟩
    have HTA : Hid (∀ w, TA w ↔ (LD S10 W w n m E s1 T A B tb q ∧ w.heap[V]? = some (.cells #[.int .i64 s1.ck, .int .i64 (le : Int), .slice ra8 0 rc8, .slice ea8 ke ec8] 37 (0, 0)) ∧ w.heap[U]? = some (.cells #[.int .i64 s1.ck, .int .i64 (le : Int), .slice rb 0 rcb, .slice eb ke ecb] 37 (0, 0)) ∧ EvsAt w al s1.evs ∧ EvsAt w ea8 (dropF s1.evs fr) ∧ EvsAt w eb (dropF s1.evs fr))) := Lib.hid (fun w => by rw [hTA])
    have HTB : Hid (∀ w w', TA w → Below w.heap.size w w' → TA w') := Lib.hid (fun w w' h hb => by
      obtain ⟨a1, a2, a3, a4, a5, a6⟩ := (HTA.out w).1 h
      exact (HTA.out w').2 ⟨a1.below hb, (hb.block V (blk_lt a2)).trans a2, (hb.block U (blk_lt a3)).trans a3, a4.below hb, a5.below hb, a6.below hb⟩)
    have HTC : Hid (∀ w, TA w → w.cell? ⟨V, 0, none⟩ = some (.int .i64 s1.ck) ∧ w.cell? ⟨V, 1, none⟩ = some (.int .i64 (le : Int)) ∧ w.cell? ⟨V, 2, none⟩ = some (.slice ra8 0 rc8) ∧ w.cell? ⟨V, 3, none⟩ = some (.slice ea8 ke ec8) ∧ w.cell? ⟨U, 0, none⟩ = some (.int .i64 s1.ck) ∧ w.cell? ⟨U, 1, none⟩ = some (.int .i64 (le : Int)) ∧ w.cell? ⟨U, 2, none⟩ = some (.slice rb 0 rcb) ∧ w.cell? ⟨U, 3, none⟩ = some (.slice eb ke ecb)) := Lib.hid (fun w h => by
      obtain ⟨_, a2, a3, _⟩ := (HTA.out w).1 h
      exact ⟨blk_cell a2 0, blk_cell a2 1, blk_cell a2 2, blk_cell a2 3, blk_cell a3 0, blk_cell a3 1, blk_cell a3 2, blk_cell a3 3⟩)
    have hb11 : Below w10.heap.size w10 w11 := by rw [hw11]; exact (Below.refl _ _).alloc (Nat.le_refl _) _
    have HT11 : Hid (TA w11) := Lib.hid ((HTA.out w11).2 ⟨HD10.out.below hb11, (hb11.block V (blk_lt HV10.out)).trans HV10.out, by rw [hw11, hU]; exact heap_alloc_new _ _, HAL10.out.below hb11, HEA10.out.below hb11, HEB10.out.below hb11⟩)
    have HTd := Lib.hid (HTB.out _ _ HT11.out (below_drew w11))
    clear hw11 hU hTA hb11 HD10 HV10 HAL10 HEA10 HEB10
    obtain ⟨v0, v1, v2, v3, u0, u1, u2, u3⟩ := HTC.out w11 HT11.out
    have HCK := Lib.hid (show Calls Tryz.prog 14 #[.pointer (some ⟨A, 0, none⟩)] w11.drew fun e w' => e = .returned (.int .i64 s1.ck) ∧ w11.drew = w' by
      obtain ⟨_, _, hd, _, _⟩ := ((HTA.out _).1 HTd.out).1.dat
      exact ledger_clock hd)
    have HEVW : Hid (∀ w, TA w → Calls Tryz.prog 13 #[.pointer (some ⟨A, 0, none⟩)] w fun e w' => ∃ ao c, e = .returned (.slice ao le c) ∧ EvsAt w' ao s1.evs ∧ Below w.heap.size w w') := Lib.hid (fun w h => by
      obtain ⟨_, _, hd, hi, _⟩ := ((HTA.out _).1 h).1.dat
      refine (ledger_events hd hi.len.2.1).mono ?_
      rintro e w' ⟨ao, c, rfl, hrow, hb, _⟩
      exact ⟨ao, c, by rw [HLE.out.1], evs_of_own (evs_len s1) hrow, hb⟩)
    have hne1 : ((le : Int) != (le : Int)) = false := by simp
    have hne2 : (s1.ck != s1.ck) = false := by simp
    go_cut [98] (fun a wx => a = .bool false ∧ TA wx)
    case first =>
      refine wp_region_held_drew (S := fun w' => w'.cell? ⟨V, 0, none⟩ = some (.int .i64 s1.ck) ∧ w'.cell? ⟨V, 1, none⟩ = some (.int .i64 (le : Int)) ∧ w'.cell? ⟨V, 2, none⟩ = some (.slice ra8 0 rc8) ∧ w'.cell? ⟨V, 3, none⟩ = some (.slice ea8 ke ec8) ∧ w'.cell? ⟨U, 0, none⟩ = some (.int .i64 s1.ck) ∧ w'.cell? ⟨U, 1, none⟩ = some (.int .i64 (le : Int)) ∧ w'.cell? ⟨U, 2, none⟩ = some (.slice rb 0 rcb) ∧ w'.cell? ⟨U, 3, none⟩ = some (.slice eb ke ecb)) (by kernel_rfl) ?_ (fun hHeld => ?_)
      · exact ⟨v0, v1, v2, v3, u0, u1, u2, u3⟩
      refine take_at (i := 0) (d := 68) (v := ?_) rfl rfl (by kernel_rfl) (by kernel_rfl) (by kernel_rfl) (fun _ _ _ h => h) (Or.inl ⟨by rfl, by intro w' hSw; (try dsimp only at hSw); go_simp; try with_reducible rfl⟩) (by assumption) ?_
      simp only [List.setIfInBounds_toArray, List.set_cons_zero, List.set_cons_succ]
      refine take_at (i := 1) (d := 69) (v := ?_) rfl rfl (by kernel_rfl) (by kernel_rfl) (by kernel_rfl) (fun _ _ _ h => h) (Or.inl ⟨by rfl, by intro w' hSw; (try dsimp only at hSw); go_simp; try with_reducible rfl⟩) (by assumption) ?_
      simp only [List.setIfInBounds_toArray, List.set_cons_zero, List.set_cons_succ]
      refine take_at (i := 2) (d := 70) (v := ?_) rfl rfl (by kernel_rfl) (by kernel_rfl) (by kernel_rfl) (fun _ _ _ h => h) (Or.inl ⟨by rfl, by intro w' hSw; (try dsimp only at hSw); go_simp; try with_reducible rfl⟩) (by assumption) ?_
      simp only [List.setIfInBounds_toArray, List.set_cons_zero, List.set_cons_succ]
      refine take_at (i := 3) (d := 71) (v := ?_) rfl rfl (by kernel_rfl) (by kernel_rfl) (by kernel_rfl) (fun _ _ _ h => h) (Or.inl ⟨by rfl, by intro w' hSw; (try dsimp only at hSw); go_simp; try with_reducible rfl⟩) (by assumption) ?_
      simp only [List.setIfInBounds_toArray, List.set_cons_zero, List.set_cons_succ]
      refine take_at (i := 4) (d := 72) (v := ?_) rfl rfl (by kernel_rfl) (by kernel_rfl) (by kernel_rfl) (fun _ _ _ h => h) (Or.inl ⟨by rfl, by intro w' hSw; (try dsimp only at hSw); go_simp; try with_reducible rfl⟩) (by assumption) ?_
      simp only [List.setIfInBounds_toArray, List.set_cons_zero, List.set_cons_succ]
      refine take_at (i := 5) (d := 73) (v := ?_) rfl rfl (by kernel_rfl) (by kernel_rfl) (by kernel_rfl) (fun _ _ _ h => h) (Or.inl ⟨by rfl, by intro w' hSw; (try dsimp only at hSw); go_simp; try with_reducible rfl⟩) (by assumption) ?_
      simp only [List.setIfInBounds_toArray, List.set_cons_zero, List.set_cons_succ]
      refine take_at (i := 6) (d := 74) (v := ?_) rfl rfl (by kernel_rfl) (by kernel_rfl) (by kernel_rfl) (fun _ _ _ h => h) (Or.inl ⟨by rfl, by intro w' hSw; (try dsimp only at hSw); go_simp; try with_reducible rfl⟩) (by assumption) ?_
      simp only [List.setIfInBounds_toArray, List.set_cons_zero, List.set_cons_succ]
      refine take_at (i := 7) (d := 75) (v := ?_) rfl rfl (by kernel_rfl) (by kernel_rfl) (by kernel_rfl) (fun _ _ _ h => h) (Or.inl ⟨by rfl, by intro w' hSw; (try dsimp only at hSw); go_simp; try with_reducible rfl⟩) (by assumption) ?_
      simp only [List.setIfInBounds_toArray, List.set_cons_zero, List.set_cons_succ]
      refine take_at (i := 8) (d := 76) (v := ?_) rfl rfl (by kernel_rfl) (by kernel_rfl) (by kernel_rfl) (fun _ _ _ h => h) (Or.inl ⟨by rfl, by intro w' hSw; (try dsimp only at hSw); go_simp; try with_reducible rfl⟩) (by assumption) ?_
      simp only [List.setIfInBounds_toArray, List.set_cons_zero, List.set_cons_succ]
      refine wpAnyH_ready (rs := [9]) (by kernel_rfl) (by simp) ?_
      refine AllReadyH.cons rfl (fun K hK => ?_) AllReadyH.nil
      go_simp
      refine HCK.out.mono ?_
      rintro e wx ⟨rfl, rfl⟩
      dsimp only
      go_wp2_with fail
      refine hK.out _ _ ?_ (fun hHeld => ?_)
      · exact ⟨v0, v1, v2, v3, u0, u1, u2, u3⟩
      clear hK K
      try simp only [Act.put, List.getElem_toArray, List.getElem_cons_succ, List.getElem_cons_zero]
      try simp only [List.setIfInBounds_toArray, List.set_cons_zero, List.set_cons_succ]
      refine take_at (i := 10) (d := 78) (v := ?_) rfl rfl (by kernel_rfl) (by kernel_rfl) (by kernel_rfl) (fun _ _ _ h => h) (Or.inl ⟨by rfl, by intro w' hSw; (try dsimp only at hSw); go_simp; try with_reducible rfl⟩) (by assumption) ?_
      simp only [List.setIfInBounds_toArray, List.set_cons_zero, List.set_cons_succ]
      refine take_at (i := 11) (d := 79) (v := ?_) rfl rfl (by kernel_rfl) (by kernel_rfl) (by kernel_rfl) (fun _ _ _ h => h) (Or.inl ⟨by rfl, by intro w' hSw; (try dsimp only at hSw); go_simp; try with_reducible rfl⟩) (by assumption) ?_
      simp only [List.setIfInBounds_toArray, List.set_cons_zero, List.set_cons_succ]
      refine take_at (i := 12) (d := 80) (v := ?_) rfl rfl (by kernel_rfl) (by kernel_rfl) (by kernel_rfl) (fun _ _ _ h => h) (Or.inl ⟨by rfl, by intro w' hSw; (try dsimp only at hSw); go_simp; try with_reducible rfl⟩) (by assumption) ?_
      simp only [List.setIfInBounds_toArray, List.set_cons_zero, List.set_cons_succ]
      refine take_at (i := 13) (d := 81) (v := ?_) rfl rfl (by kernel_rfl) (by kernel_rfl) (by kernel_rfl) (fun _ _ _ h => h) (Or.inl ⟨by rfl, by intro w' hSw; (try dsimp only at hSw); go_simp; try with_reducible rfl⟩) (by assumption) ?_
      simp only [List.setIfInBounds_toArray, List.set_cons_zero, List.set_cons_succ]
      refine take_at (i := 14) (d := 82) (v := ?_) rfl rfl (by kernel_rfl) (by kernel_rfl) (by kernel_rfl) (fun _ _ _ h => h) (Or.inl ⟨by rfl, by intro w' hSw; (try dsimp only at hSw); go_simp; try with_reducible rfl⟩) (by assumption) ?_
      simp only [List.setIfInBounds_toArray, List.set_cons_zero, List.set_cons_succ]
      refine take_at (i := 15) (d := 83) (v := ?_) rfl rfl (by kernel_rfl) (by kernel_rfl) (by kernel_rfl) (fun _ _ _ h => h) (Or.inl ⟨by rfl, by intro w' hSw; (try dsimp only at hSw); go_simp; try with_reducible rfl⟩) (by assumption) ?_
      simp only [List.setIfInBounds_toArray, List.set_cons_zero, List.set_cons_succ]
      refine take_at (i := 16) (d := 84) (v := ?_) rfl rfl (by kernel_rfl) (by kernel_rfl) (by kernel_rfl) (fun _ _ _ h => h) (Or.inl ⟨by rfl, by intro w' hSw; (try dsimp only at hSw); go_simp; try with_reducible rfl⟩) (by assumption) ?_
      simp only [List.setIfInBounds_toArray, List.set_cons_zero, List.set_cons_succ]
      refine take_at (i := 17) (d := 85) (v := ?_) rfl rfl (by kernel_rfl) (by kernel_rfl) (by kernel_rfl) (fun _ _ _ h => h) (Or.inl ⟨by rfl, by intro w' hSw; (try dsimp only at hSw); go_simp; try with_reducible rfl⟩) (by assumption) ?_
      simp only [List.setIfInBounds_toArray, List.set_cons_zero, List.set_cons_succ]
      refine take_at (i := 18) (d := 86) (v := ?_) rfl rfl (by kernel_rfl) (by kernel_rfl) (by kernel_rfl) (fun _ _ _ h => h) (Or.inl ⟨by rfl, by intro w' hSw; (try dsimp only at hSw); go_simp; try with_reducible rfl⟩) (by assumption) ?_
      simp only [List.setIfInBounds_toArray, List.set_cons_zero, List.set_cons_succ]
      refine take_at (i := 19) (d := 87) (v := ?_) rfl rfl (by kernel_rfl) (by kernel_rfl) (by kernel_rfl) (fun _ _ _ h => h) (Or.inl ⟨by rfl, by intro w' hSw; (try dsimp only at hSw); go_simp; try with_reducible rfl⟩) (by assumption) ?_
      simp only [List.setIfInBounds_toArray, List.set_cons_zero, List.set_cons_succ]
      refine take_at (i := 20) (d := 88) (v := ?_) rfl rfl (by kernel_rfl) (by kernel_rfl) (by kernel_rfl) (fun _ _ _ h => h) (Or.inl ⟨by rfl, by intro w' hSw; (try dsimp only at hSw); go_simp; try with_reducible rfl⟩) (by assumption) ?_
      simp only [List.setIfInBounds_toArray, List.set_cons_zero, List.set_cons_succ]
      refine wpAnyH_ready (rs := [21]) (by kernel_rfl) (by simp) ?_
      refine AllReadyH.cons rfl (fun K hK => ?_) AllReadyH.nil
      go_simp
      refine (rsameAnswer s1.ck (le : Int) ra8 [] 0 rc8 ea8 (dropF s1.evs fr) ke ec8 s1.ck (le : Int) rb [] 0 rcb eb (dropF s1.evs fr) ke ecb w11.drew rfl HLE.out.2.1 rfl HLE.out.2.1 (Or.inl rfl) (Or.inl rfl) ((HTA.out _).1 HTd.out).2.2.2.2.1 ((HTA.out _).1 HTd.out).2.2.2.2.2 ⟨by omega, by omega⟩ (by have := HLE.out; omega)).mono ?_
      rintro e w12 ⟨rfl, hb12⟩
      rw [sameA_same]
      have HT12 := Lib.hid (HTB.out _ _ HTd.out hb12)
      clear v0 v1 v2 v3 u0 u1 u2 u3 hb12
      obtain ⟨v0, v1, v2, v3, u0, u1, u2, u3⟩ := HTC.out w12 HT12.out
      dsimp only
      go_wp2_with fail
      refine hK.out _ _ ?_ (fun hHeld => ?_)
      · exact ⟨v0, v1, v2, v3, u0, u1, u2, u3⟩
      clear hK K
      try simp only [Act.put, List.getElem_toArray, List.getElem_cons_succ, List.getElem_cons_zero]
      try simp only [List.setIfInBounds_toArray, List.set_cons_zero, List.set_cons_succ]
      refine take_at (i := 22) (d := 90) (v := ?_) rfl rfl (by kernel_rfl) (by kernel_rfl) (by kernel_rfl) (fun _ _ _ h => h) (Or.inl ⟨by rfl, by intro w' hSw; (try dsimp only at hSw); go_simp; try with_reducible rfl⟩) (by assumption) ?_
      simp only [List.setIfInBounds_toArray, List.set_cons_zero, List.set_cons_succ]
      refine take_at (i := 23) (d := 91) (v := ?_) rfl rfl (by kernel_rfl) (by kernel_rfl) (by kernel_rfl) (fun _ _ _ h => h) (Or.inl ⟨by rfl, by intro w' hSw; (try dsimp only at hSw); go_simp; try with_reducible rfl⟩) (by assumption) ?_
      simp only [List.setIfInBounds_toArray, List.set_cons_zero, List.set_cons_succ]
      refine take_at (i := 24) (d := 92) (v := ?_) rfl rfl (by kernel_rfl) (by kernel_rfl) (by kernel_rfl) (fun _ _ _ h => h) (Or.inl ⟨by rfl, by intro w' hSw; (try dsimp only at hSw); go_simp; try with_reducible rfl⟩) (by assumption) ?_
      simp only [List.setIfInBounds_toArray, List.set_cons_zero, List.set_cons_succ]
      refine take_at (i := 25) (d := 93) (v := ?_) rfl rfl (by kernel_rfl) (by kernel_rfl) (by kernel_rfl) (fun _ _ _ h => h) (Or.inl ⟨by rfl, by intro w' hSw; (try dsimp only at hSw); go_simp; try with_reducible rfl⟩) (by assumption) ?_
      simp only [List.setIfInBounds_toArray, List.set_cons_zero, List.set_cons_succ]
      refine take_at (i := 27) (d := 95) (v := ?_) rfl rfl (by kernel_rfl) (by kernel_rfl) (by kernel_rfl) (fun _ _ _ h => h) (Or.inl ⟨by rfl, by intro w' hSw; (try dsimp only at hSw); go_simp; try with_reducible rfl⟩) (by assumption) ?_
      simp only [List.setIfInBounds_toArray, List.set_cons_zero, List.set_cons_succ]
      refine wpAnyH_ready (rs := [26]) (by kernel_rfl) (by simp) ?_
      refine AllReadyH.cons rfl (fun K hK => ?_) AllReadyH.nil
      go_simp
      refine (HEVW.out w12 HT12.out).mono ?_
      rintro e w13 ⟨am, cm, rfl, hev, hb13⟩
      have HEV13 := Lib.hid hev
      have HT13 := Lib.hid (HTB.out _ _ HT12.out hb13)
      clear v0 v1 v2 v3 u0 u1 u2 u3 hb13 hev
      obtain ⟨v0, v1, v2, v3, u0, u1, u2, u3⟩ := HTC.out w13 HT13.out
      dsimp only
      go_wp2_with fail
      refine hK.out _ _ ?_ (fun hHeld => ?_)
      · exact ⟨v0, v1, v2, v3, u0, u1, u2, u3⟩
      clear hK K
      try simp only [Act.put, List.getElem_toArray, List.getElem_cons_succ, List.getElem_cons_zero]
      try simp only [List.setIfInBounds_toArray, List.set_cons_zero, List.set_cons_succ]
      refine wpAnyH_ready (rs := [28]) (by kernel_rfl) (by simp) ?_
      refine AllReadyH.cons rfl (fun K hK => ?_) AllReadyH.nil
      go_simp
      refine (rsameEvents am al s1.evs s1.evs le le cm cl w13 HLE.out.2.2.1 HLE.out.2.2.1 HEV13.out ((HTA.out _).1 HT13.out).2.2.2.1 (by have := HLE.out; omega)).mono ?_
      rintro e w14 ⟨rfl, hb14⟩
      rw [allB_same]
      have HT14 := Lib.hid (HTB.out _ _ HT13.out hb14)
      clear v0 v1 v2 v3 u0 u1 u2 u3 hb14
      obtain ⟨v0, v1, v2, v3, u0, u1, u2, u3⟩ := HTC.out w14 HT14.out
      dsimp only
      go_wp2_with fail
      refine hK.out _ _ ?_ (fun hHeld => ?_)
      · exact ⟨v0, v1, v2, v3, u0, u1, u2, u3⟩
      clear hK K
      try simp only [Act.put, List.getElem_toArray, List.getElem_cons_succ, List.getElem_cons_zero]
      try simp only [List.setIfInBounds_toArray, List.set_cons_zero, List.set_cons_succ]
      refine take_at (i := 29) (d := 97) (v := ?_) rfl rfl (by kernel_rfl) (by kernel_rfl) (by kernel_rfl) (fun _ _ _ h => h) (Or.inl ⟨by rfl, by intro w' hSw; (try dsimp only at hSw); go_simp; try with_reducible rfl⟩) (by assumption) ?_
      simp only [List.setIfInBounds_toArray, List.set_cons_zero, List.set_cons_succ]
      refine take_at (i := 30) (d := 98) (v := ?_) rfl rfl (by kernel_rfl) (by kernel_rfl) (by kernel_rfl) (fun _ _ _ h => h) (Or.inl ⟨by rfl, by intro w' hSw; (try dsimp only at hSw); go_simp; try with_reducible rfl⟩) (by assumption) ?_
      simp only [List.setIfInBounds_toArray, List.set_cons_zero, List.set_cons_succ]
      refine wpAnyH_done (by kernel_rfl) ?_ _
      clear hHeld
      go_wp2_with fail
      go_meet
      case rel => exact ⟨rfl, HT14.out⟩
    case rest =>
    obtain ⟨rfl, ht⟩ := hcut
    rename World => w15
    have HT15 := Lib.hid ht
    clear ht v0 v1 v2 v3 u0 u1 u2 u3 HT11 HTd HCK
    obtain ⟨_, _, _, v3, _⟩ := HTC.out w15 HT15.out
    have hr1 := HR100.out
    by_cases hf0 : fr < 0
    · have HK0 : Hid (ke = 0) := Lib.hid (by rw [← HLE.out.2.1]; unfold dropF; rw [if_neg (by omega)]; rfl)
      have hk := HK0.out
      subst hk
      go_wp2
      go_roundw
      case rel => exact ⟨j + 1, HLT.out, by go_num, S10, s1, ((HTA.out _).1 HT15.out).1⟩
      case measure => simpa [intOf] using HRR.out
    by_cases hf1 : (le : Int) < fr
    · have HK0 : Hid (ke = 0) := Lib.hid (by rw [← HLE.out.2.1]; unfold dropF; rw [if_neg (by rw [HLE.out.2.2.1]; omega)]; rfl)
      have hk := HK0.out
      subst hk
      go_wp2
      go_roundw
      case rel => exact ⟨j + 1, HLT.out, by go_num, S10, s1, ((HTA.out _).1 HT15.out).1⟩
      case measure => simpa [intOf] using HRR.out
    obtain ⟨fn, rfl⟩ : ∃ fn : Nat, fr = (fn : Int) := ⟨fr.toNat, by omega⟩
    have hfn : fn ≤ le := by omega
    have hs : ∀ w, (Instr.slice 35 (.slice al le cl) (some (.int .i64 (fn : Int))) none none).run Tryz.prog w = .ok (.slice (slcE al fn cl) (le - fn) (cl - fn)) w := fun w => slice_ev al le cl fn hfn w
    have HDR : Hid (dropF s1.evs (fn : Int) = s1.evs.drop fn) := Lib.hid (by unfold dropF; rw [if_pos (by rw [HLE.out.2.2.1]; omega), Int.toNat_natCast])
    have HFN := Lib.hid hfn
    clear hfn
    go_upto_region 18 with fail
    refine wp_region_held_drew (S := fun w' => w'.cell? ⟨V, 3, none⟩ = some (.slice ea8 ke ec8)) (by kernel_rfl) ?_ (fun hHeld => ?_)
    · exact v3
    refine take_at (i := 0) (d := 107) (v := ?_) rfl rfl (by kernel_rfl) (by kernel_rfl) (by kernel_rfl) (fun _ _ _ h => h) (Or.inl ⟨by rfl, by intro w' hSw; (try dsimp only at hSw); go_simp; try with_reducible rfl⟩) (by assumption) ?_
    simp only [List.setIfInBounds_toArray, List.set_cons_zero, List.set_cons_succ]
    refine take_at (i := 1) (d := 108) (v := ?_) rfl rfl (by kernel_rfl) (by kernel_rfl) (by kernel_rfl) (fun _ _ _ h => h) (Or.inl ⟨by rfl, by intro w' hSw; (try dsimp only at hSw); go_simp; try with_reducible rfl⟩) (by assumption) ?_
    simp only [List.setIfInBounds_toArray, List.set_cons_zero, List.set_cons_succ]
    refine take_at (i := 2) (d := 109) (v := ?_) rfl rfl (by kernel_rfl) (by kernel_rfl) (by kernel_rfl) (fun _ _ _ h => h) (Or.inl ⟨by rfl, by intro w' hSw; (try dsimp only at hSw); go_simp; try with_reducible rfl⟩) (by assumption) ?_
    simp only [List.setIfInBounds_toArray, List.set_cons_zero, List.set_cons_succ]
    refine take_at (i := 3) (d := 110) (v := ?_) rfl rfl (by kernel_rfl) (by kernel_rfl) (by kernel_rfl) (fun _ _ _ h => h) (Or.inl ⟨by rfl, by intro w' hSw; (try dsimp only at hSw); go_simp; try with_reducible rfl⟩) (by assumption) ?_
    simp only [List.setIfInBounds_toArray, List.set_cons_zero, List.set_cons_succ]
    refine take_at (i := 4) (d := 111) (v := ?_) rfl rfl (by kernel_rfl) (by kernel_rfl) (by kernel_rfl) (fun _ _ _ h => h) (Or.inl ⟨by rfl, by intro w' hSw; (try dsimp only at hSw); go_simp; try with_reducible rfl⟩) (by assumption) ?_
    simp only [List.setIfInBounds_toArray, List.set_cons_zero, List.set_cons_succ]
    refine wpAnyH_ready (rs := [5]) (by kernel_rfl) (by simp) ?_
    refine AllReadyH.cons rfl (fun K hK => ?_) AllReadyH.nil
    go_simp
    refine (rsameEvents ea8 (slcE al fn cl) (dropF s1.evs (fn : Int)) (s1.evs.drop fn) ke (le - fn) ec8 (cl - fn) w15.drew HLE.out.2.1 (by rw [List.length_drop, HLE.out.2.2.1]) ((HTA.out _).1 HT15.out).2.2.2.2.1 (slcE_at ((HTA.out _).1 HT15.out).2.2.2.1 fn (by rw [HLE.out.2.2.1]; exact HFN.out) (by rw [evs_len]; exact HCL.out.1)) (by have := HLE.out; omega)).mono ?_
    rintro e w16 ⟨rfl, hb16⟩
    rw [HDR.out, allB_same]
    have HT16 := Lib.hid (HTB.out _ _ HT15.out (below_undrew hb16))
    clear hb16
    obtain ⟨_, _, _, v36, _⟩ := HTC.out w16 HT16.out
    dsimp only
    go_wp2_with fail
    refine hK.out _ _ ?_ (fun hHeld => ?_)
    · exact v36
    clear hK K
    try simp only [Act.put, List.getElem_toArray, List.getElem_cons_succ, List.getElem_cons_zero]
    try simp only [List.setIfInBounds_toArray, List.set_cons_zero, List.set_cons_succ]
    refine take_at (i := 6) (d := 113) (v := ?_) rfl rfl (by kernel_rfl) (by kernel_rfl) (by kernel_rfl) (fun _ _ _ h => h) (Or.inl ⟨by rfl, by intro w' hSw; (try dsimp only at hSw); go_simp; try with_reducible rfl⟩) (by assumption) ?_
    simp only [List.setIfInBounds_toArray, List.set_cons_zero, List.set_cons_succ]
    refine wpAnyH_done (by kernel_rfl) ?_ _
    clear hHeld v3 v36 hs
    go_wp2
    go_roundw
    case rel => exact ⟨j + 1, HLT.out, by go_num, S10, s1, ((HTA.out _).1 HT16.out).1⟩
    case measure => simpa [intOf] using HRR.out

end Go.Proofs.YtkaciaehlibidaaGreat
