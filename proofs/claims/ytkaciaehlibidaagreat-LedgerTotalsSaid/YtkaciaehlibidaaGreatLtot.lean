/- LedgerTotals: the walk. -/
import Derived.Test.YtkaciaehlibidaaGreatLl2
import Derived.Test.YtkaciaehlibidaaGreatLr3
namespace Go.Proofs.YtkaciaehlibidaaGreat
open Go.RowKit
set_option linter.unusedVariables false
set_option linter.unusedSimpArgs false

set_option maxRecDepth 100000 in
set_option maxHeartbeats 4000000 in
theorem walk_ledgerTotals (W : World) (ao : Option Addr) (bs : List ISl) (n cap : Nat) (E : Int) (hn : bs.length = n) (h : IntsList W ao bs) (hcap : n ≤ cap) (hcm : cap ≤ maxLen)
    (lo : Option Addr) (ls : List LO) (r lc : Nat) (hr : ls.length = r) (h2 : LosAt W lo ls) (hrc : r ≤ lc) (hrm : lc ≤ maxLen) :
    Calls Tryz.prog 5 #[.agg #[.slice ao n cap, .int .i64 E], .slice lo r lc] W fun e w' => e = .returned (.bool true) ∧ Below W.heap.size W w' := by
  have HOUT : Hid (∀ w1, Below W.heap.size W w1 → Calls Tryz.prog 8 #[] w1 fun e w' => e = .returned (.bool true) ∧ Below W.heap.size W w') := Lib.hid (fun w1 h1 => (first12_any w1).mono (fun e w' h => ⟨h.1, below_step h1 h.2⟩))
  have HI := Lib.hid h
  have HN := Lib.hid hn
  have HLS := Lib.hid h2
  have HR := Lib.hid hr
  have HFW := Lib.hid (fun w1 (hb : Below W.heap.size W w1) => few12_any ao bs n cap E w1 hn (h.below hb) hcap hcm lo ls r lc hr (h2.below hb) hrc hrm)
  clear h hn h2 hr hcap hcm hrc hrm
  obtain ⟨w1, hw1⟩ : ∃ w1, w1 = W.alloc (.cells #[.slice ao n cap, .int .i64 E] 24) := ⟨_, rfl⟩
  obtain ⟨C, hC⟩ : ∃ C, C = W.heap.size := ⟨_, rfl⟩
  have hb1 : Below W.heap.size W w1 := by rw [hw1]; exact (Below.refl _ _).alloc (Nat.le_refl _) _
  have HX1 : Hid (w1.heap[C]? = some (.cells #[.slice ao n cap, .int .i64 E] 24 (0, 0))) := Lib.hid (by rw [hw1, hC]; exact heap_alloc_new _ _)
  have HB1 := Lib.hid hb1
  have HW1 := Lib.hid hw1
  have HC := Lib.hid hC
  clear hw1 hC hb1
  go_enter Tryz.func5, Tryz.ntmps5
  go_upto_region 1 with fail
  rw [← HW1.out, ← HC.out]
  clear HW1
  go_wp2_with fail
  refine (first12_any w1).mono ?_
  rintro e w2 ⟨rfl, hb2⟩
  have HX2 : Hid (w2.heap[C]? = some (.cells #[.slice ao n cap, .int .i64 E] 24 (0, 0))) := Lib.hid ((hb2.block C (blk_lt HX1.out)).trans HX1.out)
  have HB2 := Lib.hid (below_step HB1.out hb2)
  clear hb2 HX1 HB1
  have q0 := blk_cell HX2.out 0
  have q1 := blk_cell HX2.out 1
  simp only [List.getElem?_toArray, List.getElem?_cons_zero, List.getElem?_cons_succ] at q0 q1
  go_wp2_with fail
  refine (HFW.out w2 HB2.out).mono ?_
  rintro e w3 ⟨F, rfl, hb3, hF⟩
  have HF := Lib.hid hF
  have HX3 : Hid (w3.heap[C]? = some (.cells #[.slice ao n cap, .int .i64 E] 24 (0, 0))) := Lib.hid ((hb3.block C (blk_lt HX2.out)).trans HX2.out)
  have HB3 := Lib.hid (below_step HB2.out hb3)
  clear hb3 hF HX2 HB2 HFW q0 q1
  have q0 := blk_cell HX3.out 0
  have q1 := blk_cell HX3.out 1
  simp only [List.getElem?_toArray, List.getElem?_cons_zero, List.getElem?_cons_succ] at q0 q1
  cases F
  case false =>
    go_wp2_with fail
    refine (HOUT.out w3 HB3.out).mono ?_
    rintro e w4 ⟨rfl, hb4⟩
    have HB4 := Lib.hid hb4
    clear hb4
    go_wp2
    go_ret
    exact ⟨rfl, HB4.out⟩
  have HFE := Lib.hid (HF.out rfl)
  clear HF
  obtain ⟨tb, htb⟩ : ∃ tb, tb = w3.heap.size := ⟨_, rfl⟩
  have HTB := Lib.hid htb
  clear htb
  cases hcf : confOK bs E
  case false =>
    have HCF := Lib.hid hcf
    clear hcf
    go_upto_region 5 with fail
    refine wp_region_held_drew (S := fun w' => w'.cell? ⟨C, 0, none⟩ = some (.slice ao n cap) ∧ w'.cell? ⟨C, 1, none⟩ = some (.int .i64 E)) (by kernel_rfl) ?_ (fun hHeld => ?_)
    · exact ⟨q0, q1⟩
    refine take_at (i := 1) (d := 31) (v := ?_) rfl rfl (by kernel_rfl) (by kernel_rfl) (by kernel_rfl) (fun _ _ _ h => h) (Or.inl ⟨by rfl, by intro w' hSw; (try dsimp only at hSw); go_simp; try with_reducible rfl⟩) (by assumption) ?_
    simp only [List.setIfInBounds_toArray, List.set_cons_zero, List.set_cons_succ]
    refine wpAnyH_ready (rs := [0]) (by kernel_rfl) (by simp) ?_
    refine AllReadyH.cons rfl (fun K hK => ?_) AllReadyH.nil
    go_simp
    refine (newTable_any w3.drew).mono ?_
    rintro e w4 ⟨rfl, ht, hb⟩
    have hb := below_undrew hb
    have hsz : w3.drew.heap.size = tb := HTB.out.symm
    rw [hsz]
    have HX4 : Hid (w4.heap[C]? = some (.cells #[.slice ao n cap, .int .i64 E] 24 (0, 0))) := Lib.hid ((hb.block C (blk_lt HX3.out)).trans HX3.out)
    have HB4 := Lib.hid (below_step HB3.out hb)
    have p0 := blk_cell HX4.out 0
    have p1 := blk_cell HX4.out 1
    simp only [List.getElem?_toArray, List.getElem?_cons_zero, List.getElem?_cons_succ] at p0 p1
    clear ht hb hsz
    dsimp only
    go_wp2_with fail
    refine hK.out _ _ ?_ (fun hHeld => ?_)
    · exact ⟨p0, p1⟩
    clear hK K
    try simp only [Act.put, List.getElem_toArray, List.getElem_cons_succ, List.getElem_cons_zero]
    try simp only [List.setIfInBounds_toArray, List.set_cons_zero, List.set_cons_succ]
    refine wpAnyH_ready (rs := [2]) (by kernel_rfl) (by simp) ?_
    refine AllReadyH.cons rfl (fun K hK => ?_) AllReadyH.nil
    go_simp
    refine (ledger_no tb ao bs n cap E w4 HN.out (HI.out.below HB4.out) HCF.out).mono ?_
    rintro e w5 ⟨rfl, hb⟩
    have HX5 : Hid (w5.heap[C]? = some (.cells #[.slice ao n cap, .int .i64 E] 24 (0, 0))) := Lib.hid ((hb.block C (blk_lt HX4.out)).trans HX4.out)
    have HB5 := Lib.hid (below_step HB4.out hb)
    clear p0 p1
    have p0 := blk_cell HX5.out 0
    have p1 := blk_cell HX5.out 1
    simp only [List.getElem?_toArray, List.getElem?_cons_zero, List.getElem?_cons_succ] at p0 p1
    clear hb
    dsimp only
    go_wp2_with fail
    refine hK.out _ _ ?_ (fun hHeld => ?_)
    · exact ⟨p0, p1⟩
    clear hK K
    try simp only [Act.put, List.getElem_toArray, List.getElem_cons_succ, List.getElem_cons_zero]
    try simp only [List.setIfInBounds_toArray, List.set_cons_zero, List.set_cons_succ]
    refine take_at (i := 3) (d := 29) (v := ?_) rfl rfl (by kernel_rfl) (by kernel_rfl) (by kernel_rfl) (fun _ _ _ h => h) (Or.inl ⟨by rfl, by intro w' hSw; (try dsimp only at hSw); go_simp; try with_reducible rfl⟩) (by assumption) ?_
    simp only [List.setIfInBounds_toArray, List.set_cons_zero, List.set_cons_succ]
    refine take_at (i := 4) (d := 33) (v := ?_) rfl rfl (by kernel_rfl) (by kernel_rfl) (by kernel_rfl) (fun _ _ _ h => h) (Or.inl ⟨by rfl, by intro w' hSw; (try dsimp only at hSw); go_simp; try with_reducible rfl⟩) (by assumption) ?_
    simp only [List.setIfInBounds_toArray, List.set_cons_zero, List.set_cons_succ]
    refine take_at (i := 5) (d := 34) (v := ?_) rfl rfl (by kernel_rfl) (by kernel_rfl) (by kernel_rfl) (fun _ _ _ h => h) (Or.inl ⟨by rfl, by intro w' hSw; (try dsimp only at hSw); go_simp; try with_reducible rfl⟩) (by assumption) ?_
    simp only [List.setIfInBounds_toArray, List.set_cons_zero, List.set_cons_succ]
    refine take_at (i := 6) (d := 5) (v := ?_) rfl rfl (by kernel_rfl) (by kernel_rfl) (by kernel_rfl) (fun _ _ _ h => h) (Or.inl ⟨by rfl, by intro w' hSw; (try dsimp only at hSw); go_simp; try with_reducible rfl⟩) (by assumption) ?_
    simp only [List.setIfInBounds_toArray, List.set_cons_zero, List.set_cons_succ]
    refine take_at (i := 7) (d := 6) (v := ?_) rfl rfl (by kernel_rfl) (by kernel_rfl) (by kernel_rfl) (fun _ _ _ h => h) (Or.inl ⟨by rfl, by intro w' hSw; (try dsimp only at hSw); go_simp; try with_reducible rfl⟩) (by assumption) ?_
    simp only [List.setIfInBounds_toArray, List.set_cons_zero, List.set_cons_succ]
    refine wpAnyH_done (by kernel_rfl) ?_ _
    clear hHeld p0 p1 q0 q1
    go_wp2_with fail
    refine (HOUT.out w5 HB5.out).mono ?_
    rintro e w6 ⟨rfl, hb6⟩
    have HB6 := Lib.hid hb6
    clear hb6
    go_wp2
    go_ret
    exact ⟨rfl, HB6.out⟩
  have HCF := Lib.hid hcf
  clear hcf
  obtain ⟨m, hm⟩ : ∃ m, m = (bs.getD 0 default).zs.length := ⟨_, rfl⟩
  have HM := Lib.hid hm
  clear hm
  go_upto_region 5 with fail
  refine wp_region_held_drew (S := fun w' => w'.cell? ⟨C, 0, none⟩ = some (.slice ao n cap) ∧ w'.cell? ⟨C, 1, none⟩ = some (.int .i64 E)) (by kernel_rfl) ?_ (fun hHeld => ?_)
  · exact ⟨q0, q1⟩
  refine take_at (i := 1) (d := 31) (v := ?_) rfl rfl (by kernel_rfl) (by kernel_rfl) (by kernel_rfl) (fun _ _ _ h => h) (Or.inl ⟨by rfl, by intro w' hSw; (try dsimp only at hSw); go_simp; try with_reducible rfl⟩) (by assumption) ?_
  simp only [List.setIfInBounds_toArray, List.set_cons_zero, List.set_cons_succ]
  refine wpAnyH_ready (rs := [0]) (by kernel_rfl) (by simp) ?_
  refine AllReadyH.cons rfl (fun K hK => ?_) AllReadyH.nil
  go_simp
  refine (newTable_any w3.drew).mono ?_
  rintro e w4 ⟨rfl, ht, hb⟩
  have hb := below_undrew hb
  have hsz : w3.drew.heap.size = tb := HTB.out.symm
  rw [hsz] at ht ⊢
  have HT4 := Lib.hid ht
  have HX4 : Hid (w4.heap[C]? = some (.cells #[.slice ao n cap, .int .i64 E] 24 (0, 0))) := Lib.hid ((hb.block C (blk_lt HX3.out)).trans HX3.out)
  have HB4 := Lib.hid (below_step HB3.out hb)
  have p0 := blk_cell HX4.out 0
  have p1 := blk_cell HX4.out 1
  simp only [List.getElem?_toArray, List.getElem?_cons_zero, List.getElem?_cons_succ] at p0 p1
  clear ht hb hsz
  dsimp only
  go_wp2_with fail
  refine hK.out _ _ ?_ (fun hHeld => ?_)
  · exact ⟨p0, p1⟩
  clear hK K
  try simp only [Act.put, List.getElem_toArray, List.getElem_cons_succ, List.getElem_cons_zero]
  try simp only [List.setIfInBounds_toArray, List.set_cons_zero, List.set_cons_succ]
  refine wpAnyH_ready (rs := [2]) (by kernel_rfl) (by simp) ?_
  refine AllReadyH.cons rfl (fun K hK => ?_) AllReadyH.nil
  go_simp
  refine (ledger_yes W tb ao bs n cap m E w4 HB4.out HT4.out (by have := HTB.out; have := HB3.out.size; omega) HN.out (HI.out.below HB4.out) HCF.out HM.out.symm).mono ?_
  rintro e w5 ⟨S0, A, B, q, rfl, hd, hb, hS0⟩
  have HS0 := Lib.hid hS0
  clear hS0
  have HD5 := Lib.hid hd
  have HX5 : Hid (w5.heap[C]? = some (.cells #[.slice ao n cap, .int .i64 E] 24 (0, 0))) := Lib.hid ((hb.block C (blk_lt HX4.out)).trans HX4.out)
  clear p0 p1
  have p0 := blk_cell HX5.out 0
  have p1 := blk_cell HX5.out 1
  simp only [List.getElem?_toArray, List.getElem?_cons_zero, List.getElem?_cons_succ] at p0 p1
  clear hd hb
  dsimp only
  go_wp2_with fail
  refine hK.out _ _ ?_ (fun hHeld => ?_)
  · exact ⟨p0, p1⟩
  clear hK K
  try simp only [Act.put, List.getElem_toArray, List.getElem_cons_succ, List.getElem_cons_zero]
  try simp only [List.setIfInBounds_toArray, List.set_cons_zero, List.set_cons_succ]
  refine take_at (i := 3) (d := 29) (v := ?_) rfl rfl (by kernel_rfl) (by kernel_rfl) (by kernel_rfl) (fun _ _ _ h => h) (Or.inl ⟨by rfl, by intro w' hSw; (try dsimp only at hSw); go_simp; try with_reducible rfl⟩) (by assumption) ?_
  simp only [List.setIfInBounds_toArray, List.set_cons_zero, List.set_cons_succ]
  refine take_at (i := 4) (d := 33) (v := ?_) rfl rfl (by kernel_rfl) (by kernel_rfl) (by kernel_rfl) (fun _ _ _ h => h) (Or.inl ⟨by rfl, by intro w' hSw; (try dsimp only at hSw); go_simp; try with_reducible rfl⟩) (by assumption) ?_
  simp only [List.setIfInBounds_toArray, List.set_cons_zero, List.set_cons_succ]
  refine take_at (i := 5) (d := 34) (v := ?_) rfl rfl (by kernel_rfl) (by kernel_rfl) (by kernel_rfl) (fun _ _ _ h => h) (Or.inl ⟨by rfl, by intro w' hSw; (try dsimp only at hSw); go_simp; try with_reducible rfl⟩) (by assumption) ?_
  simp only [List.setIfInBounds_toArray, List.set_cons_zero, List.set_cons_succ]
  refine take_at (i := 6) (d := 5) (v := ?_) rfl rfl (by kernel_rfl) (by kernel_rfl) (by kernel_rfl) (fun _ _ _ h => h) (Or.inl ⟨by rfl, by intro w' hSw; (try dsimp only at hSw); go_simp; try with_reducible rfl⟩) (by assumption) ?_
  simp only [List.setIfInBounds_toArray, List.set_cons_zero, List.set_cons_succ]
  refine take_at (i := 7) (d := 6) (v := ?_) rfl rfl (by kernel_rfl) (by kernel_rfl) (by kernel_rfl) (fun _ _ _ h => h) (Or.inl ⟨by rfl, by intro w' hSw; (try dsimp only at hSw); go_simp; try with_reducible rfl⟩) (by assumption) ?_
  simp only [List.setIfInBounds_toArray, List.set_cons_zero, List.set_cons_succ]
  refine wpAnyH_done (by kernel_rfl) ?_ _
  clear hHeld q0 q1 p1
  obtain ⟨hg, hall⟩ := mayF_good (show mayF bs = true by have := HCF.out; unfold confOK at this; rw [Bool.and_eq_true] at this; exact this.1)
  rw [HN.out, ← HM.out] at hg
  rw [← HM.out] at hall
  have HALL := Lib.hid hall
  have HG := Lib.hid hg
  have h0b : 0 < bs.length := by rw [HN.out]; have := hg.n2; omega
  have hn1 : (0 : Int) < (n : Int) := by have := hg.n2; omega
  have hnz : ((n : Int) == 0) = false := by simp; have := hg.n2; omega
  obtain ⟨sb, soff, rfl, hxx⟩ := il_cell HI.out 0 h0b
  have HC0 : Hid (∀ w', Below W.heap.size W w' → w'.cell? ⟨sb, soff, none⟩ = some (.slice bs[0].ao m bs[0].cap)) := Lib.hid (fun w' hb => by
    obtain ⟨_, _, he, hc⟩ := il_cell (HI.out.below hb) 0 h0b
    simp only [Option.some.injEq, Addr.mk.injEq, and_true] at he
    obtain ⟨rfl, rfl⟩ := he
    rw [Nat.add_zero] at hc
    have : bs[0].zs.length = m := by rw [HM.out]; simp [List.getD, h0b]
    rw [this] at hc
    exact hc)
  have HSC : Hid (¬ S0 C) := Lib.hid (fun hs => by
    have h1 := blk_lt HX3.out; have h2 := blk_lt HX4.out; have h3 := HTB.out
    rcases HS0.out C hs with e | e <;> omega)
  have HN1 := Lib.hid hn1
  clear hxx hall hg HX3 HX4 HB3 HB4 HT4 HCF HTB HC HS0
  obtain ⟨b0, hb0⟩ : ∃ b0, b0 = balOf bs := ⟨_, rfl⟩
  rw [← hb0] at HD5 HG
  have HB0 := Lib.hid hb0
  clear hb0
  obtain ⟨T, hT⟩ : ∃ T : Nat → Int, T = fun j => tot b0 j n := ⟨_, rfl⟩
  rw [← hT] at HD5
  have HTT := Lib.hid hT
  obtain ⟨s0, hs0⟩ : ∃ s0 : LS, s0 = ⟨b0, [], 0, []⟩ := ⟨_, rfl⟩
  rw [← hs0] at HD5
  have HTL0 : Hid (LTell s0) := Lib.hid (by rw [hs0]; exact Rel.nil)
  clear hT hs0
  have HR100 : Hid (r ≤ 100) := Lib.hid HFE.out.1
  go_wp2_with fail
  go_loopw [7] (fun i wr => ∃ j : Nat, j ≤ r ∧ i = .int .i64 j ∧ ∃ S s, LD S W wr n m E s T A B tb q ∧ LTell s ∧ wr.heap[C]? = some (.cells #[.slice (some ⟨sb, soff, none⟩) n cap, .int .i64 E] 24 (0, 0)) ∧ ¬ S C) (fun i _ => r - (intOf i).toNat)
  case atStart => exact ⟨0, by omega, rfl, S0, s0, HD5.out, HTL0.out, HX5.out, HSC.out⟩
  case round =>
    obtain ⟨j, hj, rfl, S, s, hd, htl, hcb, hsc⟩ := hrel
    have HD := Lib.hid hd
    have HTL := Lib.hid htl
    have HCB := Lib.hid hcb
    have HSC := Lib.hid hsc
    clear hd htl hcb hsc HD5 HTL0 HX5 p0
    by_cases hlt : j < r
    case neg =>
      obtain rfl : j = r := by omega
      go_wp2_with fail
      refine (HOUT.out _ HD.out.bel).mono ?_
      rintro e w6 ⟨rfl, hb6⟩
      have HB6 := Lib.hid hb6
      clear hb6
      go_wp2
      go_ret
      exact ⟨rfl, HB6.out⟩
    have j0 : (0 : Int) ≤ (j : Int) := by omega
    have j1 : (j : Int) < (r : Int) := by omega
    have HLT := Lib.hid hlt
    have hjl : j < ls.length := by rw [HR.out]; exact hlt
    have HCE := Lib.hid ((HLS.out.below HD.out.bel).at_ j hjl)
    have HOK := Lib.hid (HLS.out.2 ls[j] (List.getElem_mem hjl))
    have HFO := Lib.hid (HFE.out.2 ls[j] (List.getElem_mem hjl))
    generalize ls[j] = o at *
    obtain ⟨ob, off, rfl, c0, c1, c2, c3⟩ := HCE.out
    have HSZ := Lib.hid (rq_sizes HFO.out)
    have HRR : Hid (r - (j + 1) < r - j) := Lib.hid (by omega)
    clear hlt hjl hj HCE
    go_upto_region 12 with fail
    obtain ⟨O, hO⟩ : ∃ O, O = wr.heap.size := ⟨_, rfl⟩
    obtain ⟨w6, hw6⟩ : ∃ w6, w6 = wr.alloc (.cells #[.int .i64 o.p, .int .i64 o.c, .int .i64 o.q, .slice o.ro o.n o.cap] 43) := ⟨_, rfl⟩
    rw [← hw6, ← hO]
    have hb6 : Below wr.heap.size wr w6 := by rw [hw6]; exact (Below.refl _ _).alloc (Nat.le_refl _) _
    have HO6 : Hid (w6.heap[O]? = some (.cells #[.int .i64 o.p, .int .i64 o.c, .int .i64 o.q, .slice o.ro o.n o.cap] 43 (0, 0))) := Lib.hid (by rw [hw6, hO]; exact heap_alloc_new _ _)
    have HSO : Hid (¬ S O) := Lib.hid (fun hs => by have := HD.out.lt O hs; omega)
    have HD6 := Lib.hid (HD.out.below hb6)
    have HC6 : Hid (w6.heap[C]? = some (.cells #[.slice (some ⟨sb, soff, none⟩) n cap, .int .i64 E] 24 (0, 0))) := Lib.hid ((hb6.block C (blk_lt HCB.out)).trans HCB.out)
    clear hw6 hO hb6 c0 c1 c2 c3 HD HCB
    have HI0 := Lib.hid HD6.out.inv
    obtain ⟨Sb6, v6, hd6, _, _⟩ := HD6.out.dat
    have HEV := Lib.hid (ledger_events hd6 HI0.out.len.2.1)
    clear hd6
    go_wp2_with fail
    refine HEV.out.mono ?_
    rintro e w7 ⟨al, cl, rfl, hrow, hb7, hnew⟩
    have HD7 := Lib.hid (HD6.out.below hb7)
    have HAL7 : Hid (EvsAt w7 al s.evs ∧ ∀ a, al = some a → ¬ S a.block) := Lib.hid ⟨evs_of_own (evs_len s) hrow, fun a ha hs => by have := HD6.out.lt _ hs; have := hnew a.block (own_blk hrow a ha); omega⟩
    have HC7 : Hid (w7.heap[C]? = some (.cells #[.slice (some ⟨sb, soff, none⟩) n cap, .int .i64 E] 24 (0, 0))) := Lib.hid ((hb7.block C (blk_lt HC6.out)).trans HC6.out)
    have HO7 : Hid (w7.heap[O]? = some (.cells #[.int .i64 o.p, .int .i64 o.c, .int .i64 o.q, .slice o.ro o.n o.cap] 43 (0, 0))) := Lib.hid ((hb7.block O (blk_lt HO6.out)).trans HO6.out)
    clear hrow hb7 hnew HEV HD6 HC6 HO6
    obtain ⟨Sb7, v7, hd7, _, _⟩ := HD7.out.dat
    have HCK := Lib.hid (ledger_clock hd7)
    clear hd7
    go_wp2_with fail
    refine HCK.out.mono ?_
    rintro e wx ⟨rfl, rfl⟩
    rename World => w7
    clear HCK
    have HAP := Lib.hid (ledger_apply HD7.out o.p o.c o.q o.ro o.rs o.n o.cap HOK.out.2.1 HOK.out.2.2.1 HOK.out.2.2.2 (rqs_stay HOK.out.1 HD7.out) HSZ.out)
    obtain ⟨s1, hs1⟩ : ∃ s1, s1 = applyF n m E s o.p o.c o.rs := ⟨_, rfl⟩
    obtain ⟨ys, hys⟩ : ∃ ys, ys = appR n m E s o.p o.c o.rs := ⟨_, rfl⟩
    obtain ⟨le0, hle0⟩ : ∃ le0 : Nat, le0 = s.es.length := ⟨_, rfl⟩
    obtain ⟨le1, hle1⟩ : ∃ le1 : Nat, le1 = s1.es.length := ⟨_, rfl⟩
    obtain ⟨ly, hly⟩ : ∃ ly : Nat, ly = ys.length := ⟨_, rfl⟩
    have HLY : Hid (ly = min o.n 64 ∧ ys.length = ly) := Lib.hid ⟨by rw [hly, hys, app_len, HOK.out.2.1], hly.symm⟩
    have HDN : Hid (le1 = le0 + doneN ys) := Lib.hid (by rw [hle1, hs1, app_done, hle0, hys])
    have HTK : Hid (s1.evs.take le0 = s.evs) := Lib.hid (by rw [hs1, hle0]; exact app_evs s o.p o.c o.rs)
    have HCL : Hid (s.ck ≤ s1.ck) := Lib.hid (by rw [hs1]; exact app_ck s o.p o.c o.rs)
    have HFL : Hid (∀ (k : Nat) (h : k < ys.length) (hk : k < o.rs.length), o.rs[k].k > 2 → ys[k].1 ≠ 12) := Lib.hid (fun k h hk hr => by subst hys; exact app_full s o.p o.c o.rs k h hk hr)
    have HTL1 : Hid (LTell s1) := Lib.hid (by rw [hs1]; exact HTL.out.app o.p o.c o.rs)
    rw [← hs1, ← hys] at HAP
    have HL0 := Lib.hid hle0
    have HL1 := Lib.hid hle1
    have HL2 := Lib.hid hly
    rw [← hle0]
    clear hys hs1 hle0 hle1 hly
    have o0 := blk_cell HO7.out 0
    have o1 := blk_cell HO7.out 1
    have o2 := blk_cell HO7.out 2
    have o3 := blk_cell HO7.out 3
    simp only [List.getElem?_toArray, List.getElem?_cons_zero, List.getElem?_cons_succ] at o0 o1 o2 o3
    go_wp2_with fail
    refine HAP.out.mono ?_
    rintro e w8 ⟨ra, rc, ea, ec, rfl, hra, _, _, _, S8, hd8, hk8, hn8, har, _⟩
    rw [← HL1.out, ← HL2.out]
    have hsn : ∀ i, ¬ S i → i < w7.heap.size → ¬ S8 i := fun i h1 h2 h3 => by
      rcases hn8 i h3 with e | e
      · exact h1 e
      · omega
    have HD8 := Lib.hid hd8
    have HAL8 : Hid (EvsAt w8 al s.evs) := Lib.hid (HAL7.out.1.keep hk8 (fun a ha => HAL7.out.2 a ha))
    have HRA8 := Lib.hid hra
    have HSC8 := Lib.hid (hsn C HSC.out (blk_lt HC7.out))
    have HC8 : Hid (w8.heap[C]? = some (.cells #[.slice (some ⟨sb, soff, none⟩) n cap, .int .i64 E] 24 (0, 0))) := Lib.hid ((hk8.block C (blk_lt HC7.out) HSC.out).trans HC7.out)
    have HO8 : Hid (w8.heap[O]? = some (.cells #[.int .i64 o.p, .int .i64 o.c, .int .i64 o.q, .slice o.ro o.n o.cap] 43 (0, 0))) := Lib.hid ((hk8.block O (blk_lt HO7.out) HSO.out).trans HO7.out)
    clear hra hd8 hk8 hn8 har hsn HAP HAL7 HD7 HC7 HO7 HSC HSO o0 o1 o2 o3
    go_upto_region 14 with fail
    obtain ⟨V, hV⟩ : ∃ V, V = w8.heap.size := ⟨_, rfl⟩
    obtain ⟨w9, hw9⟩ : ∃ w9, w9 = w8.alloc (.cells #[.int .i64 s1.ck, .int .i64 (le1 : Int), .slice ra ly rc, .slice ea (dropF s1.evs o.q).length ec] 37) := ⟨_, rfl⟩
    rw [← hw9, ← hV]
    have hb9 : Below w8.heap.size w8 w9 := by rw [hw9]; exact (Below.refl _ _).alloc (Nat.le_refl _) _
    obtain ⟨TA, hTA⟩ : ∃ TA : World → Prop, TA = fun w => LD S8 W w n m E s1 T A B tb q ∧ w.heap[V]? = some (.cells #[.int .i64 s1.ck, .int .i64 (le1 : Int), .slice ra ly rc, .slice ea (dropF s1.evs o.q).length ec] 37 (0, 0)) ∧ w.heap[O]? = some (.cells #[.int .i64 o.p, .int .i64 o.c, .int .i64 o.q, .slice o.ro o.n o.cap] 43 (0, 0)) ∧ w.heap[C]? = some (.cells #[.slice (some ⟨sb, soff, none⟩) n cap, .int .i64 E] 24 (0, 0)) ∧ EvsAt w al s.evs ∧ RepsAt w ra ys := ⟨_, rfl⟩
    have HTA : Hid (∀ w, TA w ↔ (LD S8 W w n m E s1 T A B tb q ∧ w.heap[V]? = some (.cells #[.int .i64 s1.ck, .int .i64 (le1 : Int), .slice ra ly rc, .slice ea (dropF s1.evs o.q).length ec] 37 (0, 0)) ∧ w.heap[O]? = some (.cells #[.int .i64 o.p, .int .i64 o.c, .int .i64 o.q, .slice o.ro o.n o.cap] 43 (0, 0)) ∧ w.heap[C]? = some (.cells #[.slice (some ⟨sb, soff, none⟩) n cap, .int .i64 E] 24 (0, 0)) ∧ EvsAt w al s.evs ∧ RepsAt w ra ys)) := Lib.hid (fun w => by rw [hTA])
    have HTB : Hid (∀ w w', TA w → Below w.heap.size w w' → TA w') := Lib.hid (fun w w' h hb => by
      obtain ⟨a1, a2, a3, a4, a5, a6⟩ := (HTA.out w).1 h
      exact (HTA.out w').2 ⟨a1.below hb, (hb.block V (blk_lt a2)).trans a2, (hb.block O (blk_lt a3)).trans a3, (hb.block C (blk_lt a4)).trans a4, a5.below hb, a6.below hb⟩)
    have HTC : Hid (∀ w, TA w → w.cell? ⟨V, 1, none⟩ = some (.int .i64 (le1 : Int)) ∧ w.cell? ⟨V, 2, none⟩ = some (.slice ra ly rc) ∧ w.cell? ⟨O, 3, none⟩ = some (.slice o.ro o.n o.cap) ∧ w.cell? ⟨C, 0, none⟩ = some (.slice (some ⟨sb, soff, none⟩) n cap) ∧ w.cell? ⟨C, 1, none⟩ = some (.int .i64 E)) := Lib.hid (fun w h => by
      obtain ⟨_, a2, a3, a4, _⟩ := (HTA.out w).1 h
      exact ⟨blk_cell a2 1, blk_cell a2 2, blk_cell a3 3, blk_cell a4 0, blk_cell a4 1⟩)
    have HT9 : Hid (TA w9) := Lib.hid ((HTA.out w9).2 ⟨HD8.out.below hb9, by rw [hw9, hV]; exact heap_alloc_new _ _, (hb9.block O (blk_lt HO8.out)).trans HO8.out, (hb9.block C (blk_lt HC8.out)).trans HC8.out, HAL8.out.below hb9, HRA8.out.below hb9⟩)
    have HTD : Hid (∀ w, TA w → ∃ Sb v, LDat Sb W w n m E s1 T A B tb q v ∧ LInv n m E s1 T) := Lib.hid (fun w h => by
      obtain ⟨Sb, v, a1, a2, _⟩ := ((HTA.out w).1 h).1.dat
      exact ⟨Sb, v, a1, a2⟩)
    have HI1 := Lib.hid HD8.out.inv
    have HLL : Hid (le0 ≤ 400 ∧ le1 ≤ 400 ∧ s1.evs.length = le1 ∧ s.evs.length = le0) := Lib.hid ⟨by rw [HL0.out]; exact HI0.out.len.2.1, by rw [HL1.out]; exact HI1.out.len.2.1, by rw [evs_len, HL1.out], by rw [evs_len, HL0.out]⟩
    have HLE := Lib.hid (And.intro HL0.out HL1.out)
    have HRQ : Hid (∀ w, TA w → RqsAt w o.ro o.rs) := Lib.hid (fun w h => rqs_below HOK.out.1 ((HTA.out w).1 h).1.bel)
    have HNX : Hid (∀ w, TA w → ∃ S s, LD S W w n m E s T A B tb q ∧ LTell s ∧ w.heap[C]? = some (.cells #[.slice (some ⟨sb, soff, none⟩) n cap, .int .i64 E] 24 (0, 0)) ∧ ¬ S C) := Lib.hid (fun w h => by
      have h2 := (HTA.out w).1 h
      exact ⟨S8, s1, h2.1, HTL1.out, h2.2.2.2.1, HSC8.out⟩)
    have HBL : Hid (∀ w, TA w → Below W.heap.size W w) := Lib.hid (fun w h => ((HTA.out w).1 h).1.bel)
    have HRP : Hid (∀ w, TA w → RepsAt w ra ys) := Lib.hid (fun w h => ((HTA.out w).1 h).2.2.2.2.2)
    have HAL : Hid (∀ w, TA w → EvsAt w al s.evs) := Lib.hid (fun w h => ((HTA.out w).1 h).2.2.2.2.1)
    have HON : Hid (ly ≤ o.n ∧ o.rs.length = o.n ∧ o.n ≤ o.cap ∧ ly ≤ 64) := Lib.hid ⟨by have := HLY.out.1; omega, HOK.out.2.1, HOK.out.2.2.1, by have := HLY.out.1; omega⟩
    clear hw9 hV hb9 HD8 HC8 HO8 HAL8 HRA8 hTA HTA HOK HSZ HFO HL0 HL1 HL2 HI0 HTL HSC8
    have HMS : Hid (∀ p : Nat, p < m → m - (p + 1) < m - p) := Lib.hid (fun p h => by omega)
    have HNS : Hid (∀ p : Nat, p < n → n - (p + 1) < n - p) := Lib.hid (fun p h => by omega)
    have HYS : Hid (∀ p : Nat, p < ly → ly - (p + 1) < ly - p) := Lib.hid (fun p h => by omega)
    have HES : Hid (∀ p : Nat, p < le1 → le1 - (p + 1) < le1 - p) := Lib.hid (fun p h => by omega)
    go_wp2_with fail
    go_loopw [12, 13] (fun d k wz => ∃ u : Nat, u ≤ ly ∧ k = .int .i64 u ∧ d = .int .i64 (doneN (ys.take u) : Nat) ∧ TA wz) (fun _ k _ => ly - (intOf k).toNat)
    case atStart => exact ⟨0, Nat.zero_le _, rfl, rfl, HT9.out⟩
    case round => as_aux_lemma =>
      obtain ⟨u, hu, rfl, rfl, htz⟩ := hrel
      rename World => wz
      have HTZ := Lib.hid htz
      obtain ⟨v1, v2, o3, x0, x1⟩ := HTC.out _ htz
      clear htz HT9
      by_cases hul : u < ly
      · have huy : u < ys.length := by rw [HLY.out.2]; exact hul
        have hur : u < o.rs.length := by have := HON.out; omega
        have HDT := Lib.hid (doneN_take ys u huy)
        have HFU := Lib.hid (HFL.out u huy hur)
        have HDB : Hid (doneN (ys.take u) ≤ 64) := Lib.hid (by
          unfold doneN
          have h1 := List.length_filter_le (fun y : Int × Int => y.1 == 0) (ys.take u)
          rw [List.length_take] at h1
          have := HON.out; omega)
        obtain ⟨rb, roff, hre, y0⟩ : ∃ rb roff, ra = some ⟨rb, roff, none⟩ ∧ wz.cell? ⟨rb, roff + u * 2, none⟩ = some (.int .i64 ys[u].1) := by
          rcases HRP.out _ HTZ.out with h | ⟨b, off, h1, h2⟩
          · rw [h] at huy; simp at huy
          · exact ⟨b, off, h1, (h2 u huy).1⟩
        obtain ⟨qb, qoff, hqe, z0⟩ : ∃ qb qoff, o.ro = some ⟨qb, qoff, none⟩ ∧ wz.cell? ⟨qb, qoff + u * 8, none⟩ = some (.int .i64 o.rs[u].k) := by
          rcases HRQ.out _ HTZ.out with h | ⟨b, off, h1, h2⟩
          · rw [h] at hur; simp at hur
          · exact ⟨b, off, h1, (h2 u hur).all.1⟩
        rw [hre] at v2
        rw [hqe] at o3
        have HUL := Lib.hid hul
        have u0 : (0 : Int) ≤ (u : Int) := by omega
        have u1 : (u : Int) < (ly : Int) := by omega
        have u2 : (u : Int) < (o.n : Int) := by have := HON.out; omega
        have u3 : (u : Int) ≤ 64 := by have := HON.out; omega
        generalize ys[u] = y at *
        generalize o.rs[u] = z at *
        obtain ⟨d0, hd0⟩ : ∃ d0 : Nat, d0 = doneN (ys.take u) := ⟨_, rfl⟩
        rw [← hd0] at HDT HDB ⊢
        have d1 : (d0 : Int) ≤ 64 := by have := HDB.out; omega
        have d2 : (0 : Int) ≤ (d0 : Int) := by omega
        clear hd0 huy hur hre hqe hul
        by_cases hy : y.1 = 0
        · rw [hy] at y0
          have HE1 : Hid (doneN (ys.take (u + 1)) = d0 + 1) := Lib.hid (by rw [HDT.out, if_pos hy])
          clear hy
          go_wp2
          go_roundw
          case rel => exact ⟨u + 1, HUL.out, by go_num, by rw [HE1.out]; go_num, HTZ.out⟩
          case measure => simpa [intOf] using HYS.out u HUL.out
        · have HE1 : Hid (doneN (ys.take (u + 1)) = d0) := Lib.hid (by rw [HDT.out, if_neg hy, Nat.add_zero])
          by_cases hy12 : y.1 = 12
          · have hz : ¬ z.k > 2 := fun h => HFU.out h hy12
            rw [hy12] at y0
            clear hy hy12
            go_wp2
            go_roundw
            case rel => exact ⟨u + 1, HUL.out, by go_num, by rw [HE1.out], HTZ.out⟩
            case measure => simpa [intOf] using HYS.out u HUL.out
          · go_wp2
            go_roundw
            case rel => exact ⟨u + 1, HUL.out, by go_num, by rw [HE1.out], HTZ.out⟩
            case measure => simpa [intOf] using HYS.out u HUL.out
      obtain rfl : u = ly := by omega
      have HDT : Hid (doneN (ys.take u) = doneN ys) := Lib.hid (by rw [List.take_of_length_le (by have := HLY.out.2; omega)])
      rw [HDT.out]
      obtain ⟨dn, hdn⟩ : ∃ dn : Nat, dn = doneN ys := ⟨_, rfl⟩
      rw [← hdn] at HDN ⊢
      clear v1 o3 x0 x1 hul hu hdn HDT HFL HRQ HYS
      obtain ⟨Sba, va, hda, hia⟩ := HTD.out _ HTZ.out
      have HEV := Lib.hid (ledger_events hda hia.len.2.1)
      clear hda hia
      go_wp2_with fail
      clear v2
      refine HEV.out.mono ?_
      rintro e wa ⟨am, cm, rfl, hrow, hba, _⟩
      have HEM := Lib.hid (evs_of_own (evs_len s1) hrow)
      have HCM := Lib.hid (own_cap hrow)
      have HTa := Lib.hid (HTB.out _ _ HTZ.out hba)
      rw [← HLE.out.2]
      rw [← HLE.out.2] at HCM
      clear hrow hba HEV HTZ
      go_wp2_with fail
      go_loopw [15, 16] (fun d k wz => ∃ u : Nat, u ≤ le1 ∧ k = .int .i64 u ∧ d = .int .i64 (openE s1.l (s1.evs.take u) : Nat) ∧ TA wz ∧ EvsAt wz am s1.evs) (fun _ k _ => le1 - (intOf k).toNat)
      case atStart => exact ⟨0, Nat.zero_le _, rfl, rfl, HTa.out, HEM.out⟩
      case round => as_aux_lemma =>
        obtain ⟨f, hf, rfl, rfl, htz, hem⟩ := hrel
        rename World => wz
        have HTZ := Lib.hid htz
        have HEM := Lib.hid hem
        clear htz hem HTa
        by_cases hul : f < le1
        · have hue : f < s1.evs.length := by rw [HLL.out.2.2.1]; exact hul
          obtain ⟨eb, eoff, rfl, hat⟩ := ev_cells HEM.out f hue
          have HOT := Lib.hid (openE_take s1.l s1.evs f hue)
          obtain ⟨Sba, va, hda, _⟩ := HTD.out _ HTZ.out
          have HESC := Lib.hid (ledger_escrow hda s1.evs[f].i)
          have HK := Lib.hid (fun w' (hb : Below wz.heap.size wz w') => (hat.below hb).two)
          obtain ⟨k0, k5⟩ := hat.two
          have HDB : Hid (openE s1.l (s1.evs.take f) ≤ 400) := Lib.hid (by
            unfold openE
            have h1 := List.length_filter_le (openB s1.l) (s1.evs.take f)
            rw [List.length_take] at h1
            have := HLL.out; omega)
          have HOB : Hid (openB s1.l s1.evs[f] = (s1.evs[f].k == 2 && (!idB s1.l s1.evs[f].i || (getX s1.l s1.evs[f].i).s == 0))) := Lib.hid rfl
          have HUL := Lib.hid hul
          have u0 : (0 : Int) ≤ (f : Int) := by omega
          have u1 : (f : Int) < (le1 : Int) := by omega
          have u3 : (le1 : Int) ≤ 400 := by have := HLL.out; omega
          generalize s1.evs[f] = v at *
          generalize getX s1.l v.i = x at *
          generalize idB s1.l v.i = ib at *
          obtain ⟨d0, hd0⟩ : ∃ d0 : Nat, d0 = openE s1.l (s1.evs.take f) := ⟨_, rfl⟩
          rw [← hd0] at HOT HDB ⊢
          have d1 : (d0 : Int) ≤ 400 := by have := HDB.out; omega
          have d2 : (0 : Int) ≤ (d0 : Int) := by omega
          clear hd0 hul hue hat hda
          go_wp2_with fail
          refine HESC.out.mono ?_
          rintro e wb ⟨rfl, hbb⟩
          have HTb := Lib.hid (HTB.out _ _ HTZ.out hbb)
          have HEMb := Lib.hid (HEM.out.below hbb)
          have HBB := Lib.hid hbb
          clear hbb k0 k5 HESC
          unfold XR.cells
          go_upto_region 28 with fail
          obtain ⟨X, hX⟩ : ∃ X, X = wb.heap.size := ⟨_, rfl⟩
          obtain ⟨wc, hwc⟩ : ∃ wc, wc = wb.alloc (.cells #[.int .i64 x.f, .int .i64 x.t, .int .i64 x.a, .int .i64 x.n, .int .i64 x.d, .int .i64 x.s, .string x.h, .string x.x] 57) := ⟨_, rfl⟩
          rw [← hwc, ← hX]
          have hbc : Below wb.heap.size wb wc := by rw [hwc]; exact (Below.refl _ _).alloc (Nat.le_refl _) _
          have HXc : Hid (wc.heap[X]? = some (.cells x.cells 57 (0, 0))) := Lib.hid (by rw [hwc, hX]; exact heap_alloc_new _ _)
          have HTc := Lib.hid (HTB.out _ _ HTb.out hbc)
          have HEMc := Lib.hid (HEMb.out.below hbc)
          obtain ⟨k0, _⟩ := HK.out wc (below_step HBB.out hbc)
          obtain ⟨_, _, _, _, _, x5, _⟩ := X_cells HXc.out
          clear hwc hX hbc HTb HEMb HXc HBB HK HTZ HEM
          by_cases hk : v.k = 2
          · rw [hk] at k0
            cases ib
            · have HE1 : Hid (openE s1.l (s1.evs.take (f + 1)) = d0 + 1) := Lib.hid (by rw [HOT.out, HOB.out, hk]; rfl)
              clear hk
              go_wp2
              go_roundw
              case rel => exact ⟨f + 1, HUL.out, by go_num, by rw [HE1.out]; go_num, HTc.out, HEMc.out⟩
              case measure => simpa [intOf] using HES.out f HUL.out
            · by_cases hx : x.s = 0
              · have HE1 : Hid (openE s1.l (s1.evs.take (f + 1)) = d0 + 1) := Lib.hid (by rw [HOT.out, HOB.out, hk, hx]; rfl)
                rw [hx] at x5
                clear hk hx
                go_wp2
                go_roundw
                case rel => exact ⟨f + 1, HUL.out, by go_num, by rw [HE1.out]; go_num, HTc.out, HEMc.out⟩
                case measure => simpa [intOf] using HES.out f HUL.out
              · have HE1 : Hid (openE s1.l (s1.evs.take (f + 1)) = d0) := Lib.hid (by rw [HOT.out, HOB.out, hk]; simp [hx])
                clear hk
                go_wp2
                go_roundw
                case rel => exact ⟨f + 1, HUL.out, by go_num, by rw [HE1.out], HTc.out, HEMc.out⟩
                case measure => simpa [intOf] using HES.out f HUL.out
          · have HE1 : Hid (openE s1.l (s1.evs.take (f + 1)) = d0) := Lib.hid (by rw [HOT.out, HOB.out]; simp [hk])
            go_wp2
            go_roundw
            case rel => exact ⟨f + 1, HUL.out, by go_num, by rw [HE1.out], HTc.out, HEMc.out⟩
            case measure => simpa [intOf] using HES.out f HUL.out
        obtain rfl : f = le1 := by omega
        have HOX : Hid (openE s1.l (s1.evs.take f) = openX s1.l) := Lib.hid (by rw [List.take_of_length_le (by have := HLL.out.2.2.1; omega)]; exact openE_all HTL1.out)
        rw [HOX.out]
        have HRO : Hid ((f : Int) + (openX s1.l : Int) ≤ E ∧ openX s1.l ≤ 400) := Lib.hid ⟨by have := HI1.out.room; rw [← HLE.out.2] at this; exact this, HI1.out.len.2.2⟩
        generalize openX s1.l = ox at *
        have HEMT := Lib.hid (HEM.out.take le0)
        rw [HTK.out] at HEMT
        have hs : ∀ w, (Instr.slice 35 (.slice am f cm) none (some (.int .i64 (le0 : Int))) none).run Tryz.prog w = .ok (.slice am le0 cm) w := fun w => slice_evh am f cm le0 (by have := HDN.out; have := HCM.out.1; omega) w
        have hA : ((f : Int) != (le0 : Int) + (dn : Int)) = false := by have := HDN.out; simp; omega
        have b1 : (le0 : Int) ≤ 400 := by have := HLL.out; omega
        have b2 : (dn : Int) ≤ 400 := by have := HDN.out; have := HLL.out; omega
        have b3 : (0 : Int) ≤ (le0 : Int) := by omega
        have b4 : (0 : Int) ≤ (dn : Int) := by omega
        have HSE := Lib.hid (rsameEvents am al s.evs s.evs le0 le0 cm cl _ HLL.out.2.2.2 HLL.out.2.2.2 HEMT.out (HAL.out _ HTZ.out) (by have := HLL.out; omega))
        rw [allB_same] at HSE
        clear hul hf HOX
        go_upto_region 30 with fail
        go_cut [198] (fun a wx => a = .bool false ∧ TA wx)
        case first => as_aux_lemma =>
          go_wp2_with fail
          refine HSE.out.mono ?_
          rintro e wd ⟨rfl, hbd⟩
          have HTd := Lib.hid (HTB.out _ _ HTZ.out hbd)
          clear hbd hs hA b1 b2 b3 b4 HSE HTZ HEM HEMT
          obtain ⟨Sba, va, hda, _⟩ := HTD.out _ HTd.out
          have HCK := Lib.hid (ledger_clock hda)
          clear hda
          go_wp2_with fail
          refine HCK.out.mono ?_
          rintro e wx ⟨rfl, rfl⟩
          rename World => wd
          clear HCK
          obtain ⟨v1, v2, o3, x0, x1⟩ := HTC.out _ HTd.out
          have hc1 : ¬ (s1.ck < s.ck) := by have := HCL.out; omega
          have b1 : (0 : Int) ≤ (f : Int) := by omega
          have b2 : (f : Int) ≤ 400 := by have := HLL.out; omega
          have b3 : (0 : Int) ≤ (ox : Int) := by omega
          have b4 : (ox : Int) ≤ 400 := by have := HRO.out; omega
          have hc2 : ¬ (E < (f : Int) + (ox : Int)) := by have := HRO.out; omega
          by_cases hmm : (o.n : Int) ≤ 64
          · have hc3 : ((u : Int) != (o.n : Int)) = false := by have := HLY.out.1; simp; omega
            have hc4 : min (o.n : Int) 64 = (o.n : Int) := by omega
            go_wp2_with fail
            go_meet
            case rel =>
              refine ⟨?_, HTd.out⟩
              rw [decide_eq_false (show ¬ (s1.ck < s.ck) by omega), decide_eq_false (show ¬ (E < (f : Int) + (ox : Int)) by omega)]
              rfl
          · have hc3 : ((u : Int) != 64) = false := by have := HLY.out.1; simp; omega
            have hc4 : min (o.n : Int) 64 = 64 := by omega
            go_wp2_with fail
            go_meet
            case rel =>
              refine ⟨?_, HTd.out⟩
              rw [decide_eq_false (show ¬ (s1.ck < s.ck) by omega), decide_eq_false (show ¬ (E < (f : Int) + (ox : Int)) by omega)]
              rfl
        case rest =>
        obtain ⟨rfl, ht⟩ := hcut
        rename World => wd
        have HTd := Lib.hid ht
        clear ht hs hA b1 b2 b3 b4 HSE HTZ HEM HEMT
        obtain ⟨v1, v2, o3, x0, x1⟩ := HTC.out _ HTd.out
        go_wp2_with fail
        clear v1 v2 o3 x0 x1
        go_loopw [19] (fun s wy => ∃ p : Nat, p ≤ m ∧ s = .int .i64 p ∧ TA wy) (fun s _ => m - (intOf s).toNat)
        case atStart => exact ⟨0, Nat.zero_le _, rfl, HTd.out⟩
        case round => as_aux_lemma =>
          obtain ⟨p, hp, rfl, hty⟩ := hrel
          have HTY := Lib.hid hty
          obtain ⟨v1, v2, o3, x0, x1⟩ := HTC.out _ hty
          have cz := HC0.out _ (HBL.out _ hty)
          have hm4 := HG.out.m4
          have hn1 := HN1.out
          clear hty HTd v1 v2 o3 x1
          by_cases hpm : p < m
          · have p0 : (0 : Int) ≤ (p : Int) := by omega
            have p1 : (p : Int) < (m : Int) := by omega
            have p2 : (p : Int) < 4 := by omega
            have HPM := Lib.hid hpm
            clear hpm hm4
            go_wp2_with fail
            go_loopw [20, 21] (fun v i wz => ∃ u : Nat, u ≤ n ∧ i = .int .i64 u ∧ v = .int .i64 (tot b0 p u) ∧ TA wz) (fun _ i _ => n - (intOf i).toNat)
            case atStart => exact ⟨0, Nat.zero_le _, rfl, rfl, HTY.out⟩
            case round => as_aux_lemma =>
              obtain ⟨g, hg, rfl, rfl, htz⟩ := hrel
              rename World => wz
              have hn16 := HG.out.n16
              have HTZ := Lib.hid htz
              obtain ⟨v1, v2, o3, x0, x1⟩ := HTC.out _ htz
              clear v1 v2 o3 x1 htz
              by_cases hun : g < n
              · have hub : g < bs.length := by rw [HN.out]; exact hun
                obtain ⟨b', off', he', hcell⟩ := il_cell (HI.out.below (HBL.out _ HTZ.out)) g hub
                simp only [Option.some.injEq, Addr.mk.injEq, and_true] at he'
                obtain ⟨rfl, rfl⟩ := he'
                have hin := (il_ok (HI.out.below (HBL.out _ HTZ.out)) g hub).1
                have hxl := HALL.out g hub
                have hBp : bs[g].zs.getD p 0 = b0 g p := by rw [HB0.out]; simp [balOf, List.getD, hub]
                rw [hxl] at hcell
                generalize bs[g] = y at *
                obtain ⟨xb, xoff, hxa, hxc⟩ : ∃ xb xoff, y.ao = some ⟨xb, xoff, none⟩ ∧ wz.cell? ⟨xb, xoff + p, none⟩ = some (.int .i64 (b0 g p)) := by
                  have hpm := HPM.out
                  rcases hin with h | ⟨xb, xoff, h1, h2⟩
                  · rw [h] at hxl; simp at hxl; omega
                  · exact ⟨xb, xoff, h1, by rw [h2 p (by omega), hBp]⟩
                rw [hxa] at hcell
                have HS : Hid (tot b0 p (g + 1) = tot b0 p g + b0 g p) := Lib.hid rfl
                have t1 := tot_nonneg (b := b0) (j := p) (n := g) (fun i hi => HG.out.pos i (by omega) p HPM.out)
                have t2 := tot_mono (b := b0) (j := p) (n := n) (fun i hi => HG.out.pos i hi p HPM.out) (k := g + 1) (by omega)
                have t3 := HG.out.sum p HPM.out
                have t4 := HG.out.pos g hun p HPM.out
                rw [HS.out] at t2
                have t5 : 0 ≤ tot b0 p g + b0 g p ∧ tot b0 p g + b0 g p ≤ 4611686018427387904 := ⟨by omega, by omega⟩
                obtain ⟨t5, t6⟩ := t5
                have j0 : (0 : Int) ≤ (g : Int) := by omega
                have j1 : (g : Int) < (n : Int) := by omega
                clear hin hxl hxa hBp t2 t3
                generalize b0 g p = z at *
                generalize tot b0 p g = t0 at *
                go_wp2
                go_roundw
                case rel => exact ⟨g + 1, by omega, by go_num, by rw [HS.out], HTZ.out⟩
                case measure => simpa [intOf] using HNS.out g hun
              · obtain rfl : g = n := by omega
                have HTOT : Hid (allX g m s1.b s1.l (p : Int) = tot b0 p g) := Lib.hid (by rw [(HI1.out.bi.bound p).2.2 p rfl HPM.out, HTT.out])
                clear hun
                obtain ⟨Sba, va, hda, _⟩ := HTD.out _ HTZ.out
                have HTL := Lib.hid (ledger_total hda (p : Int))
                clear hda
                go_wp2_with fail
                refine HTL.out.mono ?_
                rintro e8 w8 ⟨rfl, hb8⟩
                rw [HTOT.out]
                have HT8 := Lib.hid (HTB.out _ _ HTZ.out hb8)
                clear hb8 x0
                generalize tot b0 p g = t0 at *
                go_wp2
                go_roundw
                case rel => exact ⟨p + 1, by have := HPM.out; omega, by go_num, HT8.out⟩
                case measure => simpa [intOf] using HMS.out p HPM.out
          · obtain rfl : p = m := by omega
            clear hpm hm4
            have hr1 := HR100.out
            go_wp2
            go_roundw
            case rel => exact ⟨j + 1, HLT.out, by go_num, HNX.out _ HTY.out⟩
            case measure => simpa [intOf] using HRR.out

end Go.Proofs.YtkaciaehlibidaaGreat
