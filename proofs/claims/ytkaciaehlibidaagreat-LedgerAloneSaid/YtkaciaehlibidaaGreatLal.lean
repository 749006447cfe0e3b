/- LedgerAlone: the walk. -/
import Derived.Test.YtkaciaehlibidaaGreatLsh
import Derived.Test.YtkaciaehlibidaaGreatLv2
namespace Go.Proofs.YtkaciaehlibidaaGreat
open Go.RowKit
set_option linter.unusedVariables false
set_option linter.unusedSimpArgs false

set_option maxRecDepth 100000 in
set_option maxHeartbeats 4000000 in
theorem walk_ledgerAlone (W : World) (ao : Option Addr) (bs : List ISl) (n cap : Nat) (E : Int) (hn : bs.length = n) (h : IntsList W ao bs) (hcap : n ≤ cap) (hcm : cap ≤ maxLen)
    (lo : Option Addr) (ls : List LO) (r lc : Nat) (hr : ls.length = r) (h2 : LosAt W lo ls) (hrc : r ≤ lc) (hrm : lc ≤ maxLen) :
    Calls Tryz.prog 6 #[.agg #[.slice ao n cap, .int .i64 E], .slice lo r lc] W fun e w' => e = .returned (.bool true) ∧ Below W.heap.size W w' := by
  have HOUT : Hid (∀ w1, Below W.heap.size W w1 → Calls Tryz.prog 8 #[] w1 fun e w' => e = .returned (.bool true) ∧ Below W.heap.size W w') := Lib.hid (fun w1 h1 => (first12_any w1).mono (fun e w' h => ⟨h.1, below_step h1 h.2⟩))
  have HI := Lib.hid h
  have HN := Lib.hid hn
  have HLS := Lib.hid h2
  have HR := Lib.hid hr
  have HFW := Lib.hid (fun w1 (hb : Below W.heap.size W w1) => few12_any ao bs n cap E w1 hn (h.below hb) hcap hcm lo ls r lc hr (h2.below hb) hrc hrm)
  clear h hn h2 hr hcap hcm hrc hrm
  obtain ⟨w1, hw1⟩ : ∃ w1, w1 = W.alloc (.cells #[.slice ao n cap, .int .i64 E] 24) := ⟨_, rfl⟩
  obtain ⟨C, hC⟩ : ∃ C, C = W.heap.size := ⟨_, rfl⟩
  have hb1 : Below W.heap.size W w1 := by rw [hw1]; exact (Below.refl _ _).alloc (Nat.le_refl _) _
  have HX1 : Hid (w1.heap[C]? = some (.cells #[.slice ao n cap, .int .i64 E] 24 (0, 0))) := Lib.hid (by rw [hw1, hC]; exact heap_alloc_new _ _)
  have HB1 := Lib.hid hb1
  have HW1 := Lib.hid hw1
  have HC := Lib.hid hC
  clear hw1 hC hb1
  go_enter Tryz.func6, Tryz.ntmps6
  go_upto_region 1 with fail
  rw [← HW1.out, ← HC.out]
  clear HW1
  go_wp2_with fail
  refine (first12_any w1).mono ?_
  rintro e w2 ⟨rfl, hb2⟩
  have HX2 : Hid (w2.heap[C]? = some (.cells #[.slice ao n cap, .int .i64 E] 24 (0, 0))) := Lib.hid ((hb2.block C (blk_lt HX1.out)).trans HX1.out)
  have HB2 := Lib.hid (below_step HB1.out hb2)
  clear hb2 HX1 HB1
  have q0 := blk_cell HX2.out 0
  have q1 := blk_cell HX2.out 1
  simp only [List.getElem?_toArray, List.getElem?_cons_zero, List.getElem?_cons_succ] at q0 q1
  go_wp2_with fail
  refine (HFW.out w2 HB2.out).mono ?_
  rintro e w3 ⟨F, rfl, hb3, hF⟩
  have HF := Lib.hid hF
  have HX3 : Hid (w3.heap[C]? = some (.cells #[.slice ao n cap, .int .i64 E] 24 (0, 0))) := Lib.hid ((hb3.block C (blk_lt HX2.out)).trans HX2.out)
  have HB3 := Lib.hid (below_step HB2.out hb3)
  clear hb3 hF HX2 HB2 HFW q0 q1
  have q0 := blk_cell HX3.out 0
  have q1 := blk_cell HX3.out 1
  simp only [List.getElem?_toArray, List.getElem?_cons_zero, List.getElem?_cons_succ] at q0 q1
  cases F
  case false =>
    go_wp2_with fail
    refine (HOUT.out w3 HB3.out).mono ?_
    rintro e w4 ⟨rfl, hb4⟩
    have HB4 := Lib.hid hb4
    clear hb4
    go_wp2
    go_ret
    exact ⟨rfl, HB4.out⟩
  have HFE := Lib.hid (HF.out rfl)
  clear HF
  obtain ⟨tb, htb⟩ : ∃ tb, tb = w3.heap.size := ⟨_, rfl⟩
  have HTB := Lib.hid htb
  clear htb
  cases hcf : confOK bs E
  case false =>
    have HCF := Lib.hid hcf
    clear hcf
    go_wp2_with fail
    refine (newTable_any w3).mono ?_
    rintro e w4 ⟨rfl, _, hb⟩
    rw [← HTB.out]
    have HX4 : Hid (w4.heap[C]? = some (.cells #[.slice ao n cap, .int .i64 E] 24 (0, 0))) := Lib.hid ((hb.block C (blk_lt HX3.out)).trans HX3.out)
    have HB4 := Lib.hid (below_step HB3.out hb)
    clear hb q0 q1
    have q0 := blk_cell HX4.out 0
    have q1 := blk_cell HX4.out 1
    simp only [List.getElem?_toArray, List.getElem?_cons_zero, List.getElem?_cons_succ] at q0 q1
    go_wp2_with fail
    refine (ledger_no tb ao bs n cap E w4 HN.out (HI.out.below HB4.out) HCF.out).mono ?_
    rintro e w5 ⟨rfl, hb⟩
    have HX5 : Hid (w5.heap[C]? = some (.cells #[.slice ao n cap, .int .i64 E] 24 (0, 0))) := Lib.hid ((hb.block C (blk_lt HX4.out)).trans HX4.out)
    have HB5 := Lib.hid (below_step HB4.out hb)
    clear hb q0 q1
    have q0 := blk_cell HX5.out 0
    have q1 := blk_cell HX5.out 1
    simp only [List.getElem?_toArray, List.getElem?_cons_zero, List.getElem?_cons_succ] at q0 q1
    go_wp2_with fail
    refine (ledger_no tb ao bs n cap E w5 HN.out (HI.out.below HB5.out) HCF.out).mono ?_
    rintro e w6 ⟨rfl, hb⟩
    have HX6 : Hid (w6.heap[C]? = some (.cells #[.slice ao n cap, .int .i64 E] 24 (0, 0))) := Lib.hid ((hb.block C (blk_lt HX5.out)).trans HX5.out)
    have HB6 := Lib.hid (below_step HB5.out hb)
    clear hb q0 q1
    have q0 := blk_cell HX6.out 0
    have q1 := blk_cell HX6.out 1
    simp only [List.getElem?_toArray, List.getElem?_cons_zero, List.getElem?_cons_succ] at q0 q1
    go_wp2_with fail
    refine (ledger_no tb ao bs n cap E w6 HN.out (HI.out.below HB6.out) HCF.out).mono ?_
    rintro e w7 ⟨rfl, hb⟩
    have HX7 : Hid (w7.heap[C]? = some (.cells #[.slice ao n cap, .int .i64 E] 24 (0, 0))) := Lib.hid ((hb.block C (blk_lt HX6.out)).trans HX6.out)
    have HB7 := Lib.hid (below_step HB6.out hb)
    clear hb q0 q1
    have q0 := blk_cell HX7.out 0
    have q1 := blk_cell HX7.out 1
    simp only [List.getElem?_toArray, List.getElem?_cons_zero, List.getElem?_cons_succ] at q0 q1
    clear q0 q1
    go_wp2_with fail
    refine (HOUT.out w7 HB7.out).mono ?_
    rintro e w8 ⟨rfl, hb8⟩
    have HB8 := Lib.hid hb8
    clear hb8
    go_wp2
    go_ret
    exact ⟨rfl, HB8.out⟩
  have HCF := Lib.hid hcf
  clear hcf
  obtain ⟨m, hm⟩ : ∃ m, m = (bs.getD 0 default).zs.length := ⟨_, rfl⟩
  have HM := Lib.hid hm
  clear hm
  obtain ⟨T, hT⟩ : ∃ T : Nat → Int, T = fun j => tot (balOf bs) j n := ⟨_, rfl⟩
  obtain ⟨s0, hs0⟩ : ∃ s0 : LS, s0 = ⟨balOf bs, [], 0, []⟩ := ⟨_, rfl⟩
  have HS0 := Lib.hid hs0
  have HT0 := Lib.hid hT
  clear hT hs0
  go_wp2_with fail
  refine (newTable_any w3).mono ?_
  rintro e w4 ⟨rfl, ht, hb⟩
  rw [← HTB.out] at ht ⊢
  have HT4 := Lib.hid ht
  clear ht
  have HX4 : Hid (w4.heap[C]? = some (.cells #[.slice ao n cap, .int .i64 E] 24 (0, 0))) := Lib.hid ((hb.block C (blk_lt HX3.out)).trans HX3.out)
  have HB4 := Lib.hid (below_step HB3.out hb)
  clear hb q0 q1
  have q0 := blk_cell HX4.out 0
  have q1 := blk_cell HX4.out 1
  simp only [List.getElem?_toArray, List.getElem?_cons_zero, List.getElem?_cons_succ] at q0 q1
  go_wp2_with fail
  refine (ledger_yes W tb ao bs n cap m E w4 HB4.out HT4.out (by have := HTB.out; have := HB3.out.size; omega) HN.out (HI.out.below HB4.out) HCF.out HM.out.symm).mono ?_
  rintro e w5 ⟨Sx, Ax, Bx, qx, rfl, hd, hb, hn4⟩
  rw [← HS0.out, ← HT0.out] at hd
  have HDx5 := Lib.hid hd
  have HN4 := Lib.hid hn4
  clear hd hn4
  have HX5 : Hid (w5.heap[C]? = some (.cells #[.slice ao n cap, .int .i64 E] 24 (0, 0))) := Lib.hid ((hb.block C (blk_lt HX4.out)).trans HX4.out)
  have HB5 := Lib.hid (below_step HB4.out hb)
  clear hb q0 q1
  have q0 := blk_cell HX5.out 0
  have q1 := blk_cell HX5.out 1
  simp only [List.getElem?_toArray, List.getElem?_cons_zero, List.getElem?_cons_succ] at q0 q1
  go_wp2_with fail
  refine (ledger_yes W tb ao bs n cap m E w5 HB5.out HDx5.out.tab (by have := HTB.out; have := HB3.out.size; omega) HN.out (HI.out.below HB5.out) HCF.out HM.out.symm).mono ?_
  rintro e w6 ⟨Sy, Ay, By, qy, rfl, hd, hb, hn5⟩
  rw [← HS0.out, ← HT0.out] at hd
  have HDy6 := Lib.hid hd
  have HN5 := Lib.hid hn5
  have HDx6 := Lib.hid (HDx5.out.below hb)
  clear hd hn5
  have HX6 : Hid (w6.heap[C]? = some (.cells #[.slice ao n cap, .int .i64 E] 24 (0, 0))) := Lib.hid ((hb.block C (blk_lt HX5.out)).trans HX5.out)
  have HB6 := Lib.hid (below_step HB5.out hb)
  clear hb q0 q1
  have q0 := blk_cell HX6.out 0
  have q1 := blk_cell HX6.out 1
  simp only [List.getElem?_toArray, List.getElem?_cons_zero, List.getElem?_cons_succ] at q0 q1
  go_wp2_with fail
  refine (ledger_yes W tb ao bs n cap m E w6 HB6.out HDx6.out.tab (by have := HTB.out; have := HB3.out.size; omega) HN.out (HI.out.below HB6.out) HCF.out HM.out.symm).mono ?_
  rintro e w7 ⟨Sz, Az, Bz, qz, rfl, hd, hb, hn6⟩
  rw [← HS0.out, ← HT0.out] at hd
  have HDz7 := Lib.hid hd
  have HN6 := Lib.hid hn6
  have HDx7 := Lib.hid (HDx6.out.below hb)
  have HDy7 := Lib.hid (HDy6.out.below hb)
  clear hd hn6
  have HX7 : Hid (w7.heap[C]? = some (.cells #[.slice ao n cap, .int .i64 E] 24 (0, 0))) := Lib.hid ((hb.block C (blk_lt HX6.out)).trans HX6.out)
  have HB7 := Lib.hid (below_step HB6.out hb)
  clear hb q0 q1
  have q0 := blk_cell HX7.out 0
  have q1 := blk_cell HX7.out 1
  simp only [List.getElem?_toArray, List.getElem?_cons_zero, List.getElem?_cons_succ] at q0 q1
  have HTR : Hid (Tri Sx Sy Sz W w7 n m E s0 s0 s0 T tb Ax Bx qx Ay By qy Az Bz qz) := Lib.hid ⟨HDx7.out, HDy7.out, HDz7.out,
    fun i a b => by
      rcases HN5.out i b with e | e
      · exact e
      · have := HDx5.out.lt i a; omega,
    fun i a b => by
      rcases HN6.out i b with e | e
      · exact e
      · have := HDx6.out.lt i a; omega,
    fun i a b => by
      rcases HN6.out i b with e | e
      · exact e
      · have := HDy6.out.lt i a; omega⟩
  have HO0 : Hid (LOk n s0) := Lib.hid (by rw [HS0.out]; exact LOk.nil _ _ _)
  have HZ0 : Hid (s0.es = [] ∧ s0.ck = 0) := Lib.hid (by rw [HS0.out]; exact ⟨rfl, rfl⟩)
  have HR100 : Hid (r ≤ 100) := Lib.hid HFE.out.1
  clear q0 q1 HDx5 HDx6 HDx7 HDy6 HDy7 HDz7 HN4 HN5 HN6 HX3 HX4 HX5 HX6 HX7 HB3 HB4 HB5 HB6 HB7 HT4 HCF HM HN HI HTB HC HS0 HT0
  go_wp2_with fail
  go_loopw [12] (fun i wr => ∃ j : Nat, j ≤ r ∧ i = .int .i64 j ∧ ∃ Sx Sy Sz s, Tri Sx Sy Sz W wr n m E s s s0 T tb Ax Bx qx Ay By qy Az Bz qz ∧ LOk n s) (fun i _ => r - (intOf i).toNat)
  case atStart => exact ⟨0, by omega, rfl, Sx, Sy, Sz, s0, HTR.out, HO0.out⟩
  case round =>
    obtain ⟨j, hj, rfl, Sx, Sy, Sz, s, htr, hok⟩ := hrel
    have HT := Lib.hid htr
    have HO := Lib.hid hok
    clear htr hok HTR HO0
    by_cases hlt : j < r
    case pos => as_aux_lemma =>
      have j0 : (0 : Int) ≤ (j : Int) := by omega
      have j1 : (j : Int) < (r : Int) := by omega
      have HLT := Lib.hid hlt
      have hjl : j < ls.length := by rw [HR.out]; exact hlt
      have HCE := Lib.hid (fun w' (hb : Below W.heap.size W w') => (HLS.out.below hb).at_ j hjl)
      have HOK := Lib.hid (HLS.out.2 ls[j] (List.getElem_mem hjl))
      have HFO := Lib.hid (HFE.out.2 ls[j] (List.getElem_mem hjl))
      generalize ls[j] = o at *
      obtain ⟨ob, off, rfl, c0, c1, c2, c3⟩ := HCE.out wr HT.out.x.bel
      have HSZ := Lib.hid (rq_sizes HFO.out)
      have HTd := Lib.hid (HT.out.below (below_drew _))
      have HRR : Hid (r - (j + 1) < r - j) := Lib.hid (by omega)
      have HAX := Lib.hid (ledger_apply HTd.out.x o.p o.c o.q o.ro o.rs o.n o.cap HOK.out.2.1 HOK.out.2.2.1 HOK.out.2.2.2 (rqs_stay HOK.out.1 HTd.out.x) HSZ.out)
      have HAY := Lib.hid (fun w' (hd : LD Sy W w' n m E s T Ay By tb qy) => ledger_apply hd o.p o.c o.q o.ro o.rs o.n o.cap HOK.out.2.1 HOK.out.2.2.1 HOK.out.2.2.2 (rqs_stay HOK.out.1 hd) HSZ.out)
      have HO1 := Lib.hid (HO.out.app HT.out.x.inv o.p o.c o.rs)
      have HI1 := Lib.hid (HT.out.x.inv.app o.p o.c o.rs)
      have HYL : Hid ((appR n m E s o.p o.c o.rs).length ≤ 64) := Lib.hid (by rw [app_len]; omega)
      generalize applyF n m E s o.p o.c o.rs = s1 at *
      generalize appR n m E s o.p o.c o.rs = ys at *
      have HEL : Hid ((dropF s1.evs o.q).length ≤ 400) := Lib.hid (by have := drop_len s1 o.q; have := HI1.out.len.2.1; omega)
      generalize dropF s1.evs o.q = es at *
      obtain ⟨ly, hly⟩ : ∃ ly, ly = ys.length := ⟨_, rfl⟩
      obtain ⟨le, hle⟩ : ∃ le, le = es.length := ⟨_, rfl⟩
      have HLL : Hid (ys.length = ly ∧ es.length = le ∧ ly ≤ 64 ∧ le ≤ 400) := Lib.hid ⟨hly.symm, hle.symm, by rw [hly]; exact HYL.out, by rw [hle]; exact HEL.out⟩
      unfold AppPost at HAX HAY
      rw [← hly, ← hle] at HAX
      have HAY2 := Lib.hid (fun w' hd => HAY.out w' hd)
      simp only [← hly, ← hle] at HAY2
      clear hlt hjl hj hly hle HAY HYL HEL
      go_upto_region 14 with fail
      refine wp_region_held_drew (S := fun w' => w'.cell? ⟨ob, off + j * 4, none⟩ = some (.int .i64 o.p) ∧ w'.cell? ⟨ob, off + j * 4 + 1, none⟩ = some (.int .i64 o.c) ∧ w'.cell? ⟨ob, off + j * 4 + 2, none⟩ = some (.int .i64 o.q) ∧ w'.cell? ⟨ob, off + j * 4 + 3, none⟩ = some (.slice o.ro o.n o.cap)) (by kernel_rfl) ?_ (fun hHeld => ?_)
      · exact ⟨c0, c1, c2, c3⟩
      refine take_at (i := 0) (d := 74) (v := ?_) rfl rfl (by kernel_rfl) (by kernel_rfl) (by kernel_rfl) (fun _ _ _ h => h) (Or.inl ⟨by rfl, by intro w' hSw; (try dsimp only at hSw); go_simp; try with_reducible rfl⟩) (by assumption) ?_
      simp only [List.setIfInBounds_toArray, List.set_cons_zero, List.set_cons_succ]
      refine take_at (i := 1) (d := 75) (v := ?_) rfl rfl (by kernel_rfl) (by kernel_rfl) (by kernel_rfl) (fun _ _ _ h => h) (Or.inl ⟨by rfl, by intro w' hSw; (try dsimp only at hSw); go_simp; try with_reducible rfl⟩) (by assumption) ?_
      simp only [List.setIfInBounds_toArray, List.set_cons_zero, List.set_cons_succ]
      refine take_at (i := 2) (d := 76) (v := ?_) rfl rfl (by kernel_rfl) (by kernel_rfl) (by kernel_rfl) (fun _ _ _ h => h) (Or.inl ⟨by rfl, by intro w' hSw; (try dsimp only at hSw); go_simp; try with_reducible rfl⟩) (by assumption) ?_
      simp only [List.setIfInBounds_toArray, List.set_cons_zero, List.set_cons_succ]
      refine take_at (i := 3) (d := 77) (v := ?_) rfl rfl (by kernel_rfl) (by kernel_rfl) (by kernel_rfl) (fun _ _ _ h => h) (Or.inl ⟨by rfl, by intro w' hSw; (try dsimp only at hSw); go_simp; try with_reducible rfl⟩) (by assumption) ?_
      simp only [List.setIfInBounds_toArray, List.set_cons_zero, List.set_cons_succ]
      refine take_at (i := 4) (d := 78) (v := ?_) rfl rfl (by kernel_rfl) (by kernel_rfl) (by kernel_rfl) (fun _ _ _ h => h) (Or.inl ⟨by rfl, by intro w' hSw; (try dsimp only at hSw); go_simp; try with_reducible rfl⟩) (by assumption) ?_
      simp only [List.setIfInBounds_toArray, List.set_cons_zero, List.set_cons_succ]
      refine take_at (i := 5) (d := 79) (v := ?_) rfl rfl (by kernel_rfl) (by kernel_rfl) (by kernel_rfl) (fun _ _ _ h => h) (Or.inl ⟨by rfl, by intro w' hSw; (try dsimp only at hSw); go_simp; try with_reducible rfl⟩) (by assumption) ?_
      simp only [List.setIfInBounds_toArray, List.set_cons_zero, List.set_cons_succ]
      refine take_at (i := 6) (d := 80) (v := ?_) rfl rfl (by kernel_rfl) (by kernel_rfl) (by kernel_rfl) (fun _ _ _ h => h) (Or.inl ⟨by rfl, by intro w' hSw; (try dsimp only at hSw); go_simp; try with_reducible rfl⟩) (by assumption) ?_
      simp only [List.setIfInBounds_toArray, List.set_cons_zero, List.set_cons_succ]
      refine take_at (i := 7) (d := 81) (v := ?_) rfl rfl (by kernel_rfl) (by kernel_rfl) (by kernel_rfl) (fun _ _ _ h => h) (Or.inl ⟨by rfl, by intro w' hSw; (try dsimp only at hSw); go_simp; try with_reducible rfl⟩) (by assumption) ?_
      simp only [List.setIfInBounds_toArray, List.set_cons_zero, List.set_cons_succ]
      refine take_at (i := 8) (d := 82) (v := ?_) rfl rfl (by kernel_rfl) (by kernel_rfl) (by kernel_rfl) (fun _ _ _ h => h) (Or.inl ⟨by rfl, by intro w' hSw; (try dsimp only at hSw); go_simp; try with_reducible rfl⟩) (by assumption) ?_
      simp only [List.setIfInBounds_toArray, List.set_cons_zero, List.set_cons_succ]
      refine take_at (i := 9) (d := 83) (v := ?_) rfl rfl (by kernel_rfl) (by kernel_rfl) (by kernel_rfl) (fun _ _ _ h => h) (Or.inl ⟨by rfl, by intro w' hSw; (try dsimp only at hSw); go_simp; try with_reducible rfl⟩) (by assumption) ?_
      simp only [List.setIfInBounds_toArray, List.set_cons_zero, List.set_cons_succ]
      refine take_at (i := 10) (d := 84) (v := ?_) rfl rfl (by kernel_rfl) (by kernel_rfl) (by kernel_rfl) (fun _ _ _ h => h) (Or.inl ⟨by rfl, by intro w' hSw; (try dsimp only at hSw); go_simp; try with_reducible rfl⟩) (by assumption) ?_
      simp only [List.setIfInBounds_toArray, List.set_cons_zero, List.set_cons_succ]
      refine take_at (i := 11) (d := 85) (v := ?_) rfl rfl (by kernel_rfl) (by kernel_rfl) (by kernel_rfl) (fun _ _ _ h => h) (Or.inl ⟨by rfl, by intro w' hSw; (try dsimp only at hSw); go_simp; try with_reducible rfl⟩) (by assumption) ?_
      simp only [List.setIfInBounds_toArray, List.set_cons_zero, List.set_cons_succ]
      refine take_at (i := 12) (d := 86) (v := ?_) rfl rfl (by kernel_rfl) (by kernel_rfl) (by kernel_rfl) (fun _ _ _ h => h) (Or.inl ⟨by rfl, by intro w' hSw; (try dsimp only at hSw); go_simp; try with_reducible rfl⟩) (by assumption) ?_
      simp only [List.setIfInBounds_toArray, List.set_cons_zero, List.set_cons_succ]
      refine take_at (i := 13) (d := 87) (v := ?_) rfl rfl (by kernel_rfl) (by kernel_rfl) (by kernel_rfl) (fun _ _ _ h => h) (Or.inl ⟨by rfl, by intro w' hSw; (try dsimp only at hSw); go_simp; try with_reducible rfl⟩) (by assumption) ?_
      simp only [List.setIfInBounds_toArray, List.set_cons_zero, List.set_cons_succ]
      refine take_at (i := 14) (d := 88) (v := ?_) rfl rfl (by kernel_rfl) (by kernel_rfl) (by kernel_rfl) (fun _ _ _ h => h) (Or.inl ⟨by rfl, by intro w' hSw; (try dsimp only at hSw); go_simp; try with_reducible rfl⟩) (by assumption) ?_
      simp only [List.setIfInBounds_toArray, List.set_cons_zero, List.set_cons_succ]
      refine take_at (i := 15) (d := 89) (v := ?_) rfl rfl (by kernel_rfl) (by kernel_rfl) (by kernel_rfl) (fun _ _ _ h => h) (Or.inl ⟨by rfl, by intro w' hSw; (try dsimp only at hSw); go_simp; try with_reducible rfl⟩) (by assumption) ?_
      simp only [List.setIfInBounds_toArray, List.set_cons_zero, List.set_cons_succ]
      refine take_at (i := 17) (d := 91) (v := ?_) rfl rfl (by kernel_rfl) (by kernel_rfl) (by kernel_rfl) (fun _ _ _ h => h) (Or.inl ⟨by rfl, by intro w' hSw; (try dsimp only at hSw); go_simp; try with_reducible rfl⟩) (by assumption) ?_
      simp only [List.setIfInBounds_toArray, List.set_cons_zero, List.set_cons_succ]
      refine take_at (i := 18) (d := 92) (v := ?_) rfl rfl (by kernel_rfl) (by kernel_rfl) (by kernel_rfl) (fun _ _ _ h => h) (Or.inl ⟨by rfl, by intro w' hSw; (try dsimp only at hSw); go_simp; try with_reducible rfl⟩) (by assumption) ?_
      simp only [List.setIfInBounds_toArray, List.set_cons_zero, List.set_cons_succ]
      refine take_at (i := 19) (d := 93) (v := ?_) rfl rfl (by kernel_rfl) (by kernel_rfl) (by kernel_rfl) (fun _ _ _ h => h) (Or.inl ⟨by rfl, by intro w' hSw; (try dsimp only at hSw); go_simp; try with_reducible rfl⟩) (by assumption) ?_
      simp only [List.setIfInBounds_toArray, List.set_cons_zero, List.set_cons_succ]
      refine take_at (i := 20) (d := 94) (v := ?_) rfl rfl (by kernel_rfl) (by kernel_rfl) (by kernel_rfl) (fun _ _ _ h => h) (Or.inl ⟨by rfl, by intro w' hSw; (try dsimp only at hSw); go_simp; try with_reducible rfl⟩) (by assumption) ?_
      simp only [List.setIfInBounds_toArray, List.set_cons_zero, List.set_cons_succ]
      refine take_at (i := 21) (d := 95) (v := ?_) rfl rfl (by kernel_rfl) (by kernel_rfl) (by kernel_rfl) (fun _ _ _ h => h) (Or.inl ⟨by rfl, by intro w' hSw; (try dsimp only at hSw); go_simp; try with_reducible rfl⟩) (by assumption) ?_
      simp only [List.setIfInBounds_toArray, List.set_cons_zero, List.set_cons_succ]
      refine take_at (i := 22) (d := 96) (v := ?_) rfl rfl (by kernel_rfl) (by kernel_rfl) (by kernel_rfl) (fun _ _ _ h => h) (Or.inl ⟨by rfl, by intro w' hSw; (try dsimp only at hSw); go_simp; try with_reducible rfl⟩) (by assumption) ?_
      simp only [List.setIfInBounds_toArray, List.set_cons_zero, List.set_cons_succ]
      refine take_at (i := 23) (d := 97) (v := ?_) rfl rfl (by kernel_rfl) (by kernel_rfl) (by kernel_rfl) (fun _ _ _ h => h) (Or.inl ⟨by rfl, by intro w' hSw; (try dsimp only at hSw); go_simp; try with_reducible rfl⟩) (by assumption) ?_
      simp only [List.setIfInBounds_toArray, List.set_cons_zero, List.set_cons_succ]
      refine take_at (i := 24) (d := 98) (v := ?_) rfl rfl (by kernel_rfl) (by kernel_rfl) (by kernel_rfl) (fun _ _ _ h => h) (Or.inl ⟨by rfl, by intro w' hSw; (try dsimp only at hSw); go_simp; try with_reducible rfl⟩) (by assumption) ?_
      simp only [List.setIfInBounds_toArray, List.set_cons_zero, List.set_cons_succ]
      refine take_at (i := 25) (d := 99) (v := ?_) rfl rfl (by kernel_rfl) (by kernel_rfl) (by kernel_rfl) (fun _ _ _ h => h) (Or.inl ⟨by rfl, by intro w' hSw; (try dsimp only at hSw); go_simp; try with_reducible rfl⟩) (by assumption) ?_
      simp only [List.setIfInBounds_toArray, List.set_cons_zero, List.set_cons_succ]
      refine take_at (i := 26) (d := 100) (v := ?_) rfl rfl (by kernel_rfl) (by kernel_rfl) (by kernel_rfl) (fun _ _ _ h => h) (Or.inl ⟨by rfl, by intro w' hSw; (try dsimp only at hSw); go_simp; try with_reducible rfl⟩) (by assumption) ?_
      simp only [List.setIfInBounds_toArray, List.set_cons_zero, List.set_cons_succ]
      refine take_at (i := 27) (d := 101) (v := ?_) rfl rfl (by kernel_rfl) (by kernel_rfl) (by kernel_rfl) (fun _ _ _ h => h) (Or.inl ⟨by rfl, by intro w' hSw; (try dsimp only at hSw); go_simp; try with_reducible rfl⟩) (by assumption) ?_
      simp only [List.setIfInBounds_toArray, List.set_cons_zero, List.set_cons_succ]
      refine take_at (i := 28) (d := 102) (v := ?_) rfl rfl (by kernel_rfl) (by kernel_rfl) (by kernel_rfl) (fun _ _ _ h => h) (Or.inl ⟨by rfl, by intro w' hSw; (try dsimp only at hSw); go_simp; try with_reducible rfl⟩) (by assumption) ?_
      simp only [List.setIfInBounds_toArray, List.set_cons_zero, List.set_cons_succ]
      refine take_at (i := 29) (d := 103) (v := ?_) rfl rfl (by kernel_rfl) (by kernel_rfl) (by kernel_rfl) (fun _ _ _ h => h) (Or.inl ⟨by rfl, by intro w' hSw; (try dsimp only at hSw); go_simp; try with_reducible rfl⟩) (by assumption) ?_
      simp only [List.setIfInBounds_toArray, List.set_cons_zero, List.set_cons_succ]
      refine take_at (i := 30) (d := 104) (v := ?_) rfl rfl (by kernel_rfl) (by kernel_rfl) (by kernel_rfl) (fun _ _ _ h => h) (Or.inl ⟨by rfl, by intro w' hSw; (try dsimp only at hSw); go_simp; try with_reducible rfl⟩) (by assumption) ?_
      simp only [List.setIfInBounds_toArray, List.set_cons_zero, List.set_cons_succ]
      refine take_at (i := 31) (d := 105) (v := ?_) rfl rfl (by kernel_rfl) (by kernel_rfl) (by kernel_rfl) (fun _ _ _ h => h) (Or.inl ⟨by rfl, by intro w' hSw; (try dsimp only at hSw); go_simp; try with_reducible rfl⟩) (by assumption) ?_
      simp only [List.setIfInBounds_toArray, List.set_cons_zero, List.set_cons_succ]
      refine take_at (i := 32) (d := 106) (v := ?_) rfl rfl (by kernel_rfl) (by kernel_rfl) (by kernel_rfl) (fun _ _ _ h => h) (Or.inl ⟨by rfl, by intro w' hSw; (try dsimp only at hSw); go_simp; try with_reducible rfl⟩) (by assumption) ?_
      simp only [List.setIfInBounds_toArray, List.set_cons_zero, List.set_cons_succ]
      refine wpAnyH_ready (rs := [16]) (by kernel_rfl) (by simp) ?_
      refine AllReadyH.cons rfl (fun K hK => ?_) AllReadyH.nil
      go_simp
      refine HAX.out.mono ?_
      rintro e w6 ⟨ra, rc, ea, ec, rfl, hra, hea, _, _, S6, hd6, hk6, hn6, har, hae⟩
      have HT6 := Lib.hid (HTd.out.turnx hd6 hk6 hn6)
      have HRA6 := Lib.hid hra
      have HEA6 := Lib.hid hea
      have HNA : Hid ((∀ a, ra = some a → ¬ Sy a.block) ∧ ∀ a, ea = some a → ¬ Sy a.block) := Lib.hid ⟨fun a ha hs => by have h1 := (har a ha).2; have h2 := HTd.out.y.lt _ hs; omega, fun a ha hs => by have h1 := (hae a ha).2; have h2 := HTd.out.y.lt _ hs; omega⟩
      clear hd6 hk6 hn6 har hae hra hea c0 c1 c2 c3
      obtain ⟨ob', off', he, c0, c1, c2, c3⟩ := HCE.out w6 HT6.out.x.bel
      simp only [Option.some.injEq, Addr.mk.injEq, and_true] at he
      obtain ⟨rfl, rfl⟩ := he
      dsimp only
      go_wp2_with fail
      refine hK.out _ _ ?_ (fun hHeld => ?_)
      · exact ⟨c0, c1, c2, c3⟩
      clear hK K
      try simp only [Act.put, List.getElem_toArray, List.getElem_cons_succ, List.getElem_cons_zero]
      try simp only [List.setIfInBounds_toArray, List.set_cons_zero, List.set_cons_succ]
      refine wpAnyH_ready (rs := [33]) (by kernel_rfl) (by simp) ?_
      refine AllReadyH.cons rfl (fun K hK => ?_) AllReadyH.nil
      go_simp
      refine (HAY2.out w6 HT6.out.y).mono ?_
      rintro e w7 ⟨rb, rcb, eb, ecb, rfl, hrb, heb, _, _, S7, hd7, hk7, hn7, _, _⟩
      have HT7 := Lib.hid (HT6.out.turny hd7 hk7 hn7)
      have HRA7 := Lib.hid (HRA6.out.keep hk7 HNA.out.1)
      have HEA7 := Lib.hid (HEA6.out.keep hk7 HNA.out.2)
      have HRB7 := Lib.hid hrb
      have HEB7 := Lib.hid heb
      clear hd7 hk7 hn7 hrb heb c0 c1 c2 c3
      obtain ⟨ob', off', he, c0, c1, c2, c3⟩ := HCE.out w7 HT7.out.x.bel
      simp only [Option.some.injEq, Addr.mk.injEq, and_true] at he
      obtain ⟨rfl, rfl⟩ := he
      dsimp only
      go_wp2_with fail
      refine hK.out _ _ ?_ (fun hHeld => ?_)
      · exact ⟨c0, c1, c2, c3⟩
      clear hK K
      try simp only [Act.put, List.getElem_toArray, List.getElem_cons_succ, List.getElem_cons_zero]
      try simp only [List.setIfInBounds_toArray, List.set_cons_zero, List.set_cons_succ]
      refine wpAnyH_ready (rs := [34]) (by kernel_rfl) (by simp) ?_
      refine AllReadyH.cons rfl (fun K hK => ?_) AllReadyH.nil
      go_simp
      refine (rsameAnswer s1.ck (s1.es.length : Int) ra ys ly rc ea es le ec s1.ck (s1.es.length : Int) rb ys ly rcb eb es le ecb w7 HLL.out.1 HLL.out.2.1 HLL.out.1 HLL.out.2.1 HRA7.out HRB7.out HEA7.out HEB7.out (by have := HLL.out; omega) (by have := HLL.out; omega)).mono ?_
      rintro e w8 ⟨rfl, hb8⟩
      rw [(sameA_iff s1.ck (s1.es.length : Int) ys es s1.ck (s1.es.length : Int) ys es).2 ⟨rfl, rfl, rfl, rfl⟩]
      have HT8 := Lib.hid (HT7.out.below hb8)
      clear hb8 c0 c1 c2 c3
      obtain ⟨ob', off', he, c0, c1, c2, c3⟩ := HCE.out w8 HT8.out.x.bel
      simp only [Option.some.injEq, Addr.mk.injEq, and_true] at he
      obtain ⟨rfl, rfl⟩ := he
      dsimp only
      go_wp2_with fail
      refine hK.out _ _ ?_ (fun hHeld => ?_)
      · exact ⟨c0, c1, c2, c3⟩
      clear hK K
      try simp only [Act.put, List.getElem_toArray, List.getElem_cons_succ, List.getElem_cons_zero]
      try simp only [List.setIfInBounds_toArray, List.set_cons_zero, List.set_cons_succ]
      refine take_at (i := 35) (d := 109) (v := ?_) rfl rfl (by kernel_rfl) (by kernel_rfl) (by kernel_rfl) (fun _ _ _ h => h) (Or.inl ⟨by rfl, by intro w' hSw; (try dsimp only at hSw); go_simp; try with_reducible rfl⟩) (by assumption) ?_
      simp only [List.setIfInBounds_toArray, List.set_cons_zero, List.set_cons_succ]
      refine wpAnyH_done (by kernel_rfl) ?_ _
      clear hHeld c0 c1 c2 c3
      have hr1 := HR100.out
      go_wp2
      go_roundw
      case rel => exact ⟨j + 1, HLT.out, by go_num, S6, S7, Sz, s1, HT8.out, HO1.out⟩
      case measure => simpa [intOf] using HRR.out
    case neg => as_aux_lemma =>
      obtain rfl : j = r := by omega
      clear hj hlt
      obtain ⟨_, _, hdx, hix, _⟩ := HT.out.x.dat
      have HSX := Lib.hid (ledger_save hdx hix HO.out)
      clear hdx
      have HSB := Lib.hid (saveB_in s)
      go_wp2_with fail
      refine HSX.out.mono ?_
      rintro e w4 ⟨ba, bc, rfl, hba, hb4, _, _, _⟩
      obtain ⟨L, hL⟩ : ∃ L, L = (saveB s).length := ⟨_, rfl⟩
      dsimp only at hba ⊢
      rw [← hL]
      have HBA := Lib.hid hba
      have HT4 := Lib.hid (HT.out.below hb4)
      have HL := Lib.hid hL
      clear hba hb4 hL HSX
      obtain ⟨_, _, hdy, _, _⟩ := HT4.out.y.dat
      have HSY := Lib.hid (ledger_save hdy hix HO.out)
      clear hdy hix
      go_wp2_with fail
      refine HSY.out.mono ?_
      rintro e w5 ⟨bb, bd, rfl, hbb, hb5, _, _, _⟩
      dsimp only at hbb ⊢
      rw [← HL.out]
      have HBB := Lib.hid hbb
      have HBA5 := Lib.hid (ints_below HBA.out hb5)
      have HT5 := Lib.hid (HT4.out.below hb5)
      clear hbb hb5 HSY
      go_wp2_with fail
      refine (first12_any w5).mono ?_
      rintro e w6 ⟨rfl, hb6⟩
      have HT6 := Lib.hid (HT5.out.below hb6)
      have HBE := Lib.hid (bytes_eq ba bb (saveB s) (saveB s) L L bc bd w6 HL.out.symm HL.out.symm (ints_below HBA5.out hb6) (ints_below HBB.out hb6) HSB.out HSB.out)
      rw [eqB_self] at HBE
      clear hb6
      go_wp2_with fail
      refine HBE.out.mono ?_
      rintro e wx ⟨rfl, rfl⟩
      rename World => w6
      obtain ⟨_, _, hdz, _, _⟩ := HT6.out.z.dat
      have HEV := Lib.hid (ledger_events hdz (by rw [HZ0.out.1]; simp))
      clear hdz
      rw [HZ0.out.1] at HEV
      go_wp2_with fail
      refine HEV.out.mono ?_
      rintro e w7 ⟨al, cl, rfl, _, hb7, _⟩
      have HT7 := Lib.hid (HT6.out.below hb7)
      clear hb7
      obtain ⟨_, _, hdz, _, _⟩ := HT7.out.z.dat
      have HCK := Lib.hid (ledger_clock hdz)
      rw [HZ0.out.2] at HCK
      clear hdz
      dsimp only [List.length_nil]
      go_wp2_with fail
      refine HCK.out.mono ?_
      rintro e wx ⟨rfl, rfl⟩
      go_wp2
      go_ret
      exact ⟨rfl, HT7.out.x.bel⟩

end Go.Proofs.YtkaciaehlibidaaGreat
