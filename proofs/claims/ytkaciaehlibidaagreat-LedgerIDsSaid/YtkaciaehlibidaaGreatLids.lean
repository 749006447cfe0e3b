/- LedgerIDs: the walk. -/
import Derived.Test.YtkaciaehlibidaaGreatLl2
import Derived.Test.YtkaciaehlibidaaGreatLr5
namespace Go.Proofs.YtkaciaehlibidaaGreat
open Go.RowKit
set_option linter.unusedVariables false
set_option linter.unusedSimpArgs false

def w_cells (ob off j : Nat) (o : LO) (w : World) : Prop := w.cell? ⟨ob, off + j * 4, none⟩ = some (.int .i64 o.p) ∧ w.cell? ⟨ob, off + j * 4 + 1, none⟩ = some (.int .i64 o.c) ∧ w.cell? ⟨ob, off + j * 4 + 2, none⟩ = some (.int .i64 o.q) ∧ w.cell? ⟨ob, off + j * 4 + 3, none⟩ = some (.slice o.ro o.n o.cap)
theorem z500 : Tryz.zeroCells53 = Array.replicate 500 (.int .i64 0) := by kernel_rfl
theorem w_fill {w : World} {ob off j V : Nat} {o : LO} (hne : ob ≠ V) (h : w_cells ob off j o w) (a0 a1 a2 a3 : Value) : w_cells ob off j o (fillA w V a0 a1 a2 a3) := by
  have hl := World.block_lt_of_cell? w _ h.1
  have he := (fillA_keeps w V a0 a1 a2 a3).block ob hl hne
  exact ⟨(World.cell?_of_block (a := ⟨ob, off + j * 4, none⟩) he).trans h.1, (World.cell?_of_block (a := ⟨ob, off + j * 4 + 1, none⟩) he).trans h.2.1, (World.cell?_of_block (a := ⟨ob, off + j * 4 + 2, none⟩) he).trans h.2.2.1, (World.cell?_of_block (a := ⟨ob, off + j * 4 + 3, none⟩) he).trans h.2.2.2⟩

set_option maxRecDepth 100000 in
set_option maxHeartbeats 4000000 in
theorem walk_ledgerIDs (W : World) (ao : Option Addr) (bs : List ISl) (n cap : Nat) (E : Int) (hn : bs.length = n) (h : IntsList W ao bs) (hcap : n ≤ cap) (hcm : cap ≤ maxLen)
    (lo : Option Addr) (ls : List LO) (r lc : Nat) (hr : ls.length = r) (h2 : LosAt W lo ls) (hrc : r ≤ lc) (hrm : lc ≤ maxLen) :
    Calls Tryz.prog 4 #[.agg #[.slice ao n cap, .int .i64 E], .slice lo r lc] W fun e w' => e = .returned (.bool true) ∧ Below W.heap.size W w' := by
  have HOUT : Hid (∀ w1, Below W.heap.size W w1 → Calls Tryz.prog 8 #[] w1 fun e w' => e = .returned (.bool true) ∧ Below W.heap.size W w') := Lib.hid (fun w1 h1 => (first12_any w1).mono (fun e w' h => ⟨h.1, below_step h1 h.2⟩))
  have HI := Lib.hid h
  have HN := Lib.hid hn
  have HLS := Lib.hid h2
  have HR := Lib.hid hr
  have HFW := Lib.hid (fun w1 (hb : Below W.heap.size W w1) => few12_any ao bs n cap E w1 hn (h.below hb) hcap hcm lo ls r lc hr (h2.below hb) hrc hrm)
  clear h hn h2 hr hcap hcm hrc hrm
  obtain ⟨w1, hw1⟩ : ∃ w1, w1 = W.alloc (.cells #[.slice ao n cap, .int .i64 E] 24) := ⟨_, rfl⟩
  obtain ⟨C, hC⟩ : ∃ C, C = W.heap.size := ⟨_, rfl⟩
  have hb1 : Below W.heap.size W w1 := by rw [hw1]; exact (Below.refl _ _).alloc (Nat.le_refl _) _
  have HX1 : Hid (w1.heap[C]? = some (.cells #[.slice ao n cap, .int .i64 E] 24 (0, 0))) := Lib.hid (by rw [hw1, hC]; exact heap_alloc_new _ _)
  have HB1 := Lib.hid hb1
  have HW1 := Lib.hid hw1
  have HC := Lib.hid hC
  clear hw1 hC hb1
  go_enter Tryz.func4, Tryz.ntmps4
  go_upto_region 1 with fail
  rw [← HW1.out, ← HC.out]
  clear HW1
  go_wp2_with fail
  refine (first12_any w1).mono ?_
  rintro e w2 ⟨rfl, hb2⟩
  have HX2 : Hid (w2.heap[C]? = some (.cells #[.slice ao n cap, .int .i64 E] 24 (0, 0))) := Lib.hid ((hb2.block C (blk_lt HX1.out)).trans HX1.out)
  have HB2 := Lib.hid (below_step HB1.out hb2)
  clear hb2 HX1 HB1
  have q0 := blk_cell HX2.out 0
  have q1 := blk_cell HX2.out 1
  simp only [List.getElem?_toArray, List.getElem?_cons_zero, List.getElem?_cons_succ] at q0 q1
  go_wp2_with fail
  refine (HFW.out w2 HB2.out).mono ?_
  rintro e w3 ⟨F, rfl, hb3, hF⟩
  have HF := Lib.hid hF
  have HX3 : Hid (w3.heap[C]? = some (.cells #[.slice ao n cap, .int .i64 E] 24 (0, 0))) := Lib.hid ((hb3.block C (blk_lt HX2.out)).trans HX2.out)
  have HB3 := Lib.hid (below_step HB2.out hb3)
  clear hb3 hF HX2 HB2 HFW q0 q1
  have q0 := blk_cell HX3.out 0
  have q1 := blk_cell HX3.out 1
  simp only [List.getElem?_toArray, List.getElem?_cons_zero, List.getElem?_cons_succ] at q0 q1
  cases F
  case false =>
    go_wp2_with fail
    refine (HOUT.out w3 HB3.out).mono ?_
    rintro e w4 ⟨rfl, hb4⟩
    have HB4 := Lib.hid hb4
    clear hb4
    go_wp2
    go_ret
    exact ⟨rfl, HB4.out⟩
  have HFE := Lib.hid (HF.out rfl)
  clear HF
  obtain ⟨tb, htb⟩ : ∃ tb, tb = w3.heap.size := ⟨_, rfl⟩
  have HTB := Lib.hid htb
  clear htb
  cases hcf : confOK bs E
  case false =>
    have HCF := Lib.hid hcf
    clear hcf
    go_upto_region 5 with fail
    refine wp_region_held_drew (S := fun w' => w'.cell? ⟨C, 0, none⟩ = some (.slice ao n cap) ∧ w'.cell? ⟨C, 1, none⟩ = some (.int .i64 E)) (by kernel_rfl) ?_ (fun hHeld => ?_)
    · exact ⟨q0, q1⟩
    refine take_at (i := 1) (d := 33) (v := ?_) rfl rfl (by kernel_rfl) (by kernel_rfl) (by kernel_rfl) (fun _ _ _ h => h) (Or.inl ⟨by rfl, by intro w' hSw; (try dsimp only at hSw); go_simp; try with_reducible rfl⟩) (by assumption) ?_
    simp only [List.setIfInBounds_toArray, List.set_cons_zero, List.set_cons_succ]
    refine wpAnyH_ready (rs := [0]) (by kernel_rfl) (by simp) ?_
    refine AllReadyH.cons rfl (fun K hK => ?_) AllReadyH.nil
    go_simp
    refine (newTable_any w3.drew).mono ?_
    rintro e w4 ⟨rfl, ht, hb⟩
    have hb := below_undrew hb
    have hsz : w3.drew.heap.size = tb := HTB.out.symm
    rw [hsz]
    have HX4 : Hid (w4.heap[C]? = some (.cells #[.slice ao n cap, .int .i64 E] 24 (0, 0))) := Lib.hid ((hb.block C (blk_lt HX3.out)).trans HX3.out)
    have HB4 := Lib.hid (below_step HB3.out hb)
    have p0 := blk_cell HX4.out 0
    have p1 := blk_cell HX4.out 1
    simp only [List.getElem?_toArray, List.getElem?_cons_zero, List.getElem?_cons_succ] at p0 p1
    clear ht hb hsz
    dsimp only
    go_wp2_with fail
    refine hK.out _ _ ?_ (fun hHeld => ?_)
    · exact ⟨p0, p1⟩
    clear hK K
    try simp only [Act.put, List.getElem_toArray, List.getElem_cons_succ, List.getElem_cons_zero]
    try simp only [List.setIfInBounds_toArray, List.set_cons_zero, List.set_cons_succ]
    refine wpAnyH_ready (rs := [2]) (by kernel_rfl) (by simp) ?_
    refine AllReadyH.cons rfl (fun K hK => ?_) AllReadyH.nil
    go_simp
    refine (ledger_no tb ao bs n cap E w4 HN.out (HI.out.below HB4.out) HCF.out).mono ?_
    rintro e w5 ⟨rfl, hb⟩
    have HX5 : Hid (w5.heap[C]? = some (.cells #[.slice ao n cap, .int .i64 E] 24 (0, 0))) := Lib.hid ((hb.block C (blk_lt HX4.out)).trans HX4.out)
    have HB5 := Lib.hid (below_step HB4.out hb)
    clear p0 p1
    have p0 := blk_cell HX5.out 0
    have p1 := blk_cell HX5.out 1
    simp only [List.getElem?_toArray, List.getElem?_cons_zero, List.getElem?_cons_succ] at p0 p1
    clear hb
    dsimp only
    go_wp2_with fail
    refine hK.out _ _ ?_ (fun hHeld => ?_)
    · exact ⟨p0, p1⟩
    clear hK K
    try simp only [Act.put, List.getElem_toArray, List.getElem_cons_succ, List.getElem_cons_zero]
    try simp only [List.setIfInBounds_toArray, List.set_cons_zero, List.set_cons_succ]
    refine take_at (i := 3) (d := 31) (v := ?_) rfl rfl (by kernel_rfl) (by kernel_rfl) (by kernel_rfl) (fun _ _ _ h => h) (Or.inl ⟨by rfl, by intro w' hSw; (try dsimp only at hSw); go_simp; try with_reducible rfl⟩) (by assumption) ?_
    simp only [List.setIfInBounds_toArray, List.set_cons_zero, List.set_cons_succ]
    refine take_at (i := 4) (d := 35) (v := ?_) rfl rfl (by kernel_rfl) (by kernel_rfl) (by kernel_rfl) (fun _ _ _ h => h) (Or.inl ⟨by rfl, by intro w' hSw; (try dsimp only at hSw); go_simp; try with_reducible rfl⟩) (by assumption) ?_
    simp only [List.setIfInBounds_toArray, List.set_cons_zero, List.set_cons_succ]
    refine take_at (i := 5) (d := 36) (v := ?_) rfl rfl (by kernel_rfl) (by kernel_rfl) (by kernel_rfl) (fun _ _ _ h => h) (Or.inl ⟨by rfl, by intro w' hSw; (try dsimp only at hSw); go_simp; try with_reducible rfl⟩) (by assumption) ?_
    simp only [List.setIfInBounds_toArray, List.set_cons_zero, List.set_cons_succ]
    refine take_at (i := 6) (d := 5) (v := ?_) rfl rfl (by kernel_rfl) (by kernel_rfl) (by kernel_rfl) (fun _ _ _ h => h) (Or.inl ⟨by rfl, by intro w' hSw; (try dsimp only at hSw); go_simp; try with_reducible rfl⟩) (by assumption) ?_
    simp only [List.setIfInBounds_toArray, List.set_cons_zero, List.set_cons_succ]
    refine take_at (i := 7) (d := 6) (v := ?_) rfl rfl (by kernel_rfl) (by kernel_rfl) (by kernel_rfl) (fun _ _ _ h => h) (Or.inl ⟨by rfl, by intro w' hSw; (try dsimp only at hSw); go_simp; try with_reducible rfl⟩) (by assumption) ?_
    simp only [List.setIfInBounds_toArray, List.set_cons_zero, List.set_cons_succ]
    refine wpAnyH_done (by kernel_rfl) ?_ _
    clear hHeld p0 p1 q0 q1
    go_wp2_with fail
    refine (HOUT.out w5 HB5.out).mono ?_
    rintro e w6 ⟨rfl, hb6⟩
    have HB6 := Lib.hid hb6
    clear hb6
    go_wp2
    go_ret
    exact ⟨rfl, HB6.out⟩
  have HCF := Lib.hid hcf
  clear hcf
  obtain ⟨m, hm⟩ : ∃ m, m = (bs.getD 0 default).zs.length := ⟨_, rfl⟩
  have HM := Lib.hid hm
  clear hm
  go_upto_region 5 with fail
  refine wp_region_held_drew (S := fun w' => w'.cell? ⟨C, 0, none⟩ = some (.slice ao n cap) ∧ w'.cell? ⟨C, 1, none⟩ = some (.int .i64 E)) (by kernel_rfl) ?_ (fun hHeld => ?_)
  · exact ⟨q0, q1⟩
  refine take_at (i := 1) (d := 33) (v := ?_) rfl rfl (by kernel_rfl) (by kernel_rfl) (by kernel_rfl) (fun _ _ _ h => h) (Or.inl ⟨by rfl, by intro w' hSw; (try dsimp only at hSw); go_simp; try with_reducible rfl⟩) (by assumption) ?_
  simp only [List.setIfInBounds_toArray, List.set_cons_zero, List.set_cons_succ]
  refine wpAnyH_ready (rs := [0]) (by kernel_rfl) (by simp) ?_
  refine AllReadyH.cons rfl (fun K hK => ?_) AllReadyH.nil
  go_simp
  refine (newTable_any w3.drew).mono ?_
  rintro e w4 ⟨rfl, ht, hb⟩
  have hb := below_undrew hb
  have hsz : w3.drew.heap.size = tb := HTB.out.symm
  rw [hsz] at ht ⊢
  have HT4 := Lib.hid ht
  have HX4 : Hid (w4.heap[C]? = some (.cells #[.slice ao n cap, .int .i64 E] 24 (0, 0))) := Lib.hid ((hb.block C (blk_lt HX3.out)).trans HX3.out)
  have HB4 := Lib.hid (below_step HB3.out hb)
  have p0 := blk_cell HX4.out 0
  have p1 := blk_cell HX4.out 1
  simp only [List.getElem?_toArray, List.getElem?_cons_zero, List.getElem?_cons_succ] at p0 p1
  clear ht hb hsz
  dsimp only
  go_wp2_with fail
  refine hK.out _ _ ?_ (fun hHeld => ?_)
  · exact ⟨p0, p1⟩
  clear hK K
  try simp only [Act.put, List.getElem_toArray, List.getElem_cons_succ, List.getElem_cons_zero]
  try simp only [List.setIfInBounds_toArray, List.set_cons_zero, List.set_cons_succ]
  refine wpAnyH_ready (rs := [2]) (by kernel_rfl) (by simp) ?_
  refine AllReadyH.cons rfl (fun K hK => ?_) AllReadyH.nil
  go_simp
  refine (ledger_yes W tb ao bs n cap m E w4 HB4.out HT4.out (by have := HTB.out; have := HB3.out.size; omega) HN.out (HI.out.below HB4.out) HCF.out HM.out.symm).mono ?_
  rintro e w5 ⟨S0, A, B, q, rfl, hd, hb, _⟩
  have HD5 := Lib.hid hd
  have HX5 : Hid (w5.heap[C]? = some (.cells #[.slice ao n cap, .int .i64 E] 24 (0, 0))) := Lib.hid ((hb.block C (blk_lt HX4.out)).trans HX4.out)
  clear p0 p1
  have p0 := blk_cell HX5.out 0
  have p1 := blk_cell HX5.out 1
  simp only [List.getElem?_toArray, List.getElem?_cons_zero, List.getElem?_cons_succ] at p0 p1
  clear hd hb
  dsimp only
  go_wp2_with fail
  refine hK.out _ _ ?_ (fun hHeld => ?_)
  · exact ⟨p0, p1⟩
  clear hK K
  try simp only [Act.put, List.getElem_toArray, List.getElem_cons_succ, List.getElem_cons_zero]
  try simp only [List.setIfInBounds_toArray, List.set_cons_zero, List.set_cons_succ]
  refine take_at (i := 3) (d := 31) (v := ?_) rfl rfl (by kernel_rfl) (by kernel_rfl) (by kernel_rfl) (fun _ _ _ h => h) (Or.inl ⟨by rfl, by intro w' hSw; (try dsimp only at hSw); go_simp; try with_reducible rfl⟩) (by assumption) ?_
  simp only [List.setIfInBounds_toArray, List.set_cons_zero, List.set_cons_succ]
  refine take_at (i := 4) (d := 35) (v := ?_) rfl rfl (by kernel_rfl) (by kernel_rfl) (by kernel_rfl) (fun _ _ _ h => h) (Or.inl ⟨by rfl, by intro w' hSw; (try dsimp only at hSw); go_simp; try with_reducible rfl⟩) (by assumption) ?_
  simp only [List.setIfInBounds_toArray, List.set_cons_zero, List.set_cons_succ]
  refine take_at (i := 5) (d := 36) (v := ?_) rfl rfl (by kernel_rfl) (by kernel_rfl) (by kernel_rfl) (fun _ _ _ h => h) (Or.inl ⟨by rfl, by intro w' hSw; (try dsimp only at hSw); go_simp; try with_reducible rfl⟩) (by assumption) ?_
  simp only [List.setIfInBounds_toArray, List.set_cons_zero, List.set_cons_succ]
  refine take_at (i := 6) (d := 5) (v := ?_) rfl rfl (by kernel_rfl) (by kernel_rfl) (by kernel_rfl) (fun _ _ _ h => h) (Or.inl ⟨by rfl, by intro w' hSw; (try dsimp only at hSw); go_simp; try with_reducible rfl⟩) (by assumption) ?_
  simp only [List.setIfInBounds_toArray, List.set_cons_zero, List.set_cons_succ]
  refine take_at (i := 7) (d := 6) (v := ?_) rfl rfl (by kernel_rfl) (by kernel_rfl) (by kernel_rfl) (fun _ _ _ h => h) (Or.inl ⟨by rfl, by intro w' hSw; (try dsimp only at hSw); go_simp; try with_reducible rfl⟩) (by assumption) ?_
  simp only [List.setIfInBounds_toArray, List.set_cons_zero, List.set_cons_succ]
  refine wpAnyH_done (by kernel_rfl) ?_ _
  clear hHeld p0 p1 q0 q1 HX3 HX4 HX5 HB3 HB4 HT4 HCF HM HN HI HTB HC
  obtain ⟨T, hT⟩ : ∃ T : Nat → Int, T = fun j => tot (balOf bs) j n := ⟨_, rfl⟩
  rw [← hT] at HD5
  obtain ⟨s0, hs0⟩ : ∃ s0 : LS, s0 = ⟨balOf bs, [], 0, []⟩ := ⟨_, rfl⟩
  rw [← hs0] at HD5
  have HTL0 : Hid (LTell s0) := Lib.hid (by rw [hs0]; exact Rel.nil)
  have HL00 : Hid (s0.l.length = 0) := Lib.hid (by rw [hs0]; rfl)
  clear hT hs0
  have HR100 : Hid (r ≤ 100) := Lib.hid HFE.out.1
  go_wp2_with fail
  go_loopw [7, 8] (fun c i wr => ∃ j : Nat, j ≤ r ∧ i = .int .i64 j ∧ ∃ S s, c = .int .i64 (s.l.length : Nat) ∧ LD S W wr n m E s T A B tb q ∧ LTell s) (fun _ i _ => r - (intOf i).toNat)
  case atStart => exact ⟨0, by omega, rfl, S0, s0, by rw [HL00.out]; rfl, HD5.out, HTL0.out⟩
  case round =>
    obtain ⟨j, hj, rfl, S, s, rfl, hd, htl⟩ := hrel
    have HD := Lib.hid hd
    have HTL := Lib.hid htl
    have HI0 := Lib.hid hd.inv
    clear hd htl HD5 HTL0 HL00
    obtain ⟨c0, hc0⟩ : ∃ c0 : Nat, c0 = s.l.length := ⟨_, rfl⟩
    rw [← hc0]
    have HC0 := Lib.hid hc0
    have hc400 : (c0 : Int) ≤ 400 := by have := HI0.out.len; rw [hc0]; omega
    have hc000 : (0 : Int) ≤ (c0 : Int) := by omega
    clear hc0
    by_cases hlt : j < r
    case pos => as_aux_lemma =>
      have j0 : (0 : Int) ≤ (j : Int) := by omega
      have j1 : (j : Int) < (r : Int) := by omega
      have HLT := Lib.hid hlt
      have hjl : j < ls.length := by rw [HR.out]; exact hlt
      have HCE := Lib.hid (fun w' (hb : Below W.heap.size W w') => (HLS.out.below hb).at_ j hjl)
      have HOK := Lib.hid (HLS.out.2 ls[j] (List.getElem_mem hjl))
      have HFO := Lib.hid (HFE.out.2 ls[j] (List.getElem_mem hjl))
      generalize ls[j] = o at *
      obtain ⟨ob, off, rfl, q0, q1, q2, q3⟩ := HCE.out wr HD.out.bel
      have HSZ := Lib.hid (rq_sizes HFO.out)
      have HRR : Hid (r - (j + 1) < r - j) := Lib.hid (by omega)
      have HAPG := Lib.hid (fun w' (hb : Below wr.heap.size wr w') => ledger_apply (HD.out.below hb) o.p o.c o.q o.ro o.rs o.n o.cap HOK.out.2.1 HOK.out.2.2.1 HOK.out.2.2.2 (rqs_stay HOK.out.1 (HD.out.below hb)) HSZ.out)
      obtain ⟨lk, hlk⟩ : ∃ lk : Nat → Nat, lk = lenK n m E s o.p o.c o.rs := ⟨_, rfl⟩
      have HK0 : Hid (lk 0 = c0) := Lib.hid (by rw [hlk, lenK_zero, HC0.out])
      have HTL1 := Lib.hid (HTL.out.app (n := n) (m := m) (E := E) o.p o.c o.rs)
      have HKA : Hid (lk (appR n m E s o.p o.c o.rs).length = (applyF n m E s o.p o.c o.rs).l.length) := Lib.hid (by rw [hlk]; exact lenK_all s o.p o.c o.rs)
      have HKS : Hid (∀ (k : Nat) (h : k < (appR n m E s o.p o.c o.rs).length) (hk : k < o.rs.length), lk (k + 1) = lk k + (if o.rs[k].k = 2 ∧ (appR n m E s o.p o.c o.rs)[k].1 = 0 then 1 else 0) ∧ (appR n m E s o.p o.c o.rs)[k].2 = if o.rs[k].k = 2 ∧ (appR n m E s o.p o.c o.rs)[k].1 = 0 then (lk k : Int) else 0) := Lib.hid (fun k h hk => by rw [hlk]; exact lenK_step s o.p o.c o.rs k h hk)
      have HLY : Hid ((appR n m E s o.p o.c o.rs).length ≤ o.n ∧ (appR n m E s o.p o.c o.rs).length ≤ 64) := Lib.hid (by rw [app_len, HOK.out.2.1]; omega)
      clear hlk
      generalize hs1 : applyF n m E s o.p o.c o.rs = s1 at *
      generalize hys : appR n m E s o.p o.c o.rs = ys at *
      clear hs1 hys
      obtain ⟨wA, hwA⟩ : ∃ wA, wA = wr.alloc (.cells #[.int .i64 0, .int .i64 0, .slice none 0 0, .slice none 0 0] 37) := ⟨_, rfl⟩
      obtain ⟨V0, hV0⟩ : ∃ V0, V0 = wr.heap.size := ⟨_, rfl⟩
      have hbA : Below wr.heap.size wr wA := by rw [hwA]; exact (Below.refl _ _).alloc (Nat.le_refl _) _
      have HAX : Hid (wA.heap[V0]? = some (.cells #[.int .i64 0, .int .i64 0, .slice none 0 0, .slice none 0 0] 37 (0, 0)) ∧ ¬ S V0 ∧ W.heap.size ≤ V0 ∧ V0 < wA.heap.size) := Lib.hid (by
        have hx : wA.heap[V0]? = some (.cells #[.int .i64 0, .int .i64 0, .slice none 0 0, .slice none 0 0] 37 (0, 0)) := by rw [hwA, hV0]; exact heap_alloc_new _ _
        exact ⟨hx, fun hs => by have := HD.out.lt V0 hs; omega, by rw [hV0]; exact HD.out.bel.size, blk_lt hx⟩)
      have HBA := Lib.hid hbA
      have HBAd : Hid (Below wr.heap.size wr wA.drew) := Lib.hid (hbA.trans (below_drew wA |>.mono hbA.size))
      have HSA : Hid (w_cells ob off j o wA) := Lib.hid (by
        obtain ⟨ob', off', he, a0, a1, a2, a3⟩ := HCE.out wA (below_step HD.out.bel hbA)
        simp only [Option.some.injEq, Addr.mk.injEq, and_true] at he
        obtain ⟨rfl, rfl⟩ := he
        exact ⟨a0, a1, a2, a3⟩)
      have HWA := Lib.hid hwA
      have HOB : Hid (ob < wr.heap.size) := Lib.hid (World.block_lt_of_cell? wr _ q0)
      have HVA := Lib.hid hV0
      clear hlt hjl hj hwA hV0 hbA
      go_upto_region 12 with fail
      go_cut [9] (fun v wx => ∃ V S6 ra rc ea ec el, v = .pointer (some ⟨V, 0, none⟩) ∧ LD S6 W wx n m E s1 T A B tb q ∧ wx.heap[V]? = some (.cells #[.int .i64 s1.ck, .int .i64 (s1.es.length : Int), .slice ra ys.length rc, .slice ea el ec] 37 (0, 0)) ∧ RepsAt wx ra ys)
      case first => as_aux_lemma =>
        refine wp_region_held_drew (S := fun w' => w'.cell? ⟨ob, off + j * 4, none⟩ = some (.int .i64 o.p) ∧ w'.cell? ⟨ob, off + j * 4 + 1, none⟩ = some (.int .i64 o.c) ∧ w'.cell? ⟨ob, off + j * 4 + 2, none⟩ = some (.int .i64 o.q) ∧ w'.cell? ⟨ob, off + j * 4 + 3, none⟩ = some (.slice o.ro o.n o.cap)) (by kernel_rfl) ?_ (fun hHeld => ?_)
        · exact ⟨q0, q1, q2, q3⟩
        refine take_at (i := 0) (d := 50) (v := ?_) rfl rfl (by kernel_rfl) (by kernel_rfl) (by kernel_rfl) (fun _ _ _ h => h) (Or.inl ⟨by rfl, by intro w' hSw; (try dsimp only at hSw); go_simp; try with_reducible rfl⟩) (by assumption) ?_
        simp only [List.setIfInBounds_toArray, List.set_cons_zero, List.set_cons_succ]
        refine take_at (i := 1) (d := 51) (v := ?_) rfl rfl (by kernel_rfl) (by kernel_rfl) (by kernel_rfl) (fun _ _ _ h => h) (Or.inl ⟨by rfl, by intro w' hSw; (try dsimp only at hSw); go_simp; try with_reducible rfl⟩) (by assumption) ?_
        simp only [List.setIfInBounds_toArray, List.set_cons_zero, List.set_cons_succ]
        refine take_at (i := 2) (d := 52) (v := ?_) rfl rfl (by kernel_rfl) (by kernel_rfl) (by kernel_rfl) (fun _ _ _ h => h) (Or.inl ⟨by rfl, by intro w' hSw; (try dsimp only at hSw); go_simp; try with_reducible rfl⟩) (by assumption) ?_
        simp only [List.setIfInBounds_toArray, List.set_cons_zero, List.set_cons_succ]
        refine take_at (i := 3) (d := 53) (v := ?_) rfl rfl (by kernel_rfl) (by kernel_rfl) (by kernel_rfl) (fun _ _ _ h => h) (Or.inl ⟨by rfl, by intro w' hSw; (try dsimp only at hSw); go_simp; try with_reducible rfl⟩) (by assumption) ?_
        simp only [List.setIfInBounds_toArray, List.set_cons_zero, List.set_cons_succ]
        refine take_at (i := 4) (d := 54) (v := ?_) rfl rfl (by kernel_rfl) (by kernel_rfl) (by kernel_rfl) (fun _ _ _ h => h) (Or.inl ⟨by rfl, by intro w' hSw; (try dsimp only at hSw); go_simp; try with_reducible rfl⟩) (by assumption) ?_
        simp only [List.setIfInBounds_toArray, List.set_cons_zero, List.set_cons_succ]
        refine take_at (i := 5) (d := 55) (v := ?_) rfl rfl (by kernel_rfl) (by kernel_rfl) (by kernel_rfl) (fun _ _ _ h => h) (Or.inl ⟨by rfl, by intro w' hSw; (try dsimp only at hSw); go_simp; try with_reducible rfl⟩) (by assumption) ?_
        simp only [List.setIfInBounds_toArray, List.set_cons_zero, List.set_cons_succ]
        refine take_at (i := 6) (d := 56) (v := ?_) rfl rfl (by kernel_rfl) (by kernel_rfl) (by kernel_rfl) (fun _ _ _ h => h) (Or.inl ⟨by rfl, by intro w' hSw; (try dsimp only at hSw); go_simp; try with_reducible rfl⟩) (by assumption) ?_
        simp only [List.setIfInBounds_toArray, List.set_cons_zero, List.set_cons_succ]
        refine take_at (i := 7) (d := 57) (v := ?_) rfl rfl (by kernel_rfl) (by kernel_rfl) (by kernel_rfl) (fun _ _ _ h => h) (Or.inl ⟨by rfl, by intro w' hSw; (try dsimp only at hSw); go_simp; try with_reducible rfl⟩) (by assumption) ?_
        simp only [List.setIfInBounds_toArray, List.set_cons_zero, List.set_cons_succ]
        refine take_at (i := 8) (d := 58) (v := ?_) rfl rfl (by kernel_rfl) (by kernel_rfl) (by kernel_rfl) (fun _ _ _ h => h) (Or.inl ⟨by rfl, by intro w' hSw; (try dsimp only at hSw); go_simp; try with_reducible rfl⟩) (by assumption) ?_
        simp only [List.setIfInBounds_toArray, List.set_cons_zero, List.set_cons_succ]
        refine take_at (i := 9) (d := 59) (v := ?_) rfl rfl (by kernel_rfl) (by kernel_rfl) (by kernel_rfl) (fun _ _ _ h => h) (Or.inl ⟨by rfl, by intro w' hSw; (try dsimp only at hSw); go_simp; try with_reducible rfl⟩) (by assumption) ?_
        simp only [List.setIfInBounds_toArray, List.set_cons_zero, List.set_cons_succ]
        refine take_at (i := 10) (d := 60) (v := ?_) rfl rfl (by kernel_rfl) (by kernel_rfl) (by kernel_rfl) (fun _ _ _ h => h) (Or.inl ⟨by rfl, by intro w' hSw; (try dsimp only at hSw); go_simp; try with_reducible rfl⟩) (by assumption) ?_
        simp only [List.setIfInBounds_toArray, List.set_cons_zero, List.set_cons_succ]
        refine take_at (i := 11) (d := 61) (v := ?_) rfl rfl (by kernel_rfl) (by kernel_rfl) (by kernel_rfl) (fun _ _ _ h => h) (Or.inl ⟨by rfl, by intro w' hSw; (try dsimp only at hSw); go_simp; try with_reducible rfl⟩) (by assumption) ?_
        simp only [List.setIfInBounds_toArray, List.set_cons_zero, List.set_cons_succ]
        refine take_at (i := 12) (d := 62) (v := ?_) rfl rfl (by kernel_rfl) (by kernel_rfl) (by kernel_rfl) (fun _ _ _ h => h) (Or.inl ⟨by rfl, by intro w' hSw; (try dsimp only at hSw); go_simp; try with_reducible rfl⟩) (by assumption) ?_
        simp only [List.setIfInBounds_toArray, List.set_cons_zero, List.set_cons_succ]
        refine take_at (i := 13) (d := 63) (v := ?_) rfl rfl (by kernel_rfl) (by kernel_rfl) (by kernel_rfl) (fun _ _ _ h => h) (Or.inl ⟨by rfl, by intro w' hSw; (try dsimp only at hSw); go_simp; try with_reducible rfl⟩) (by assumption) ?_
        simp only [List.setIfInBounds_toArray, List.set_cons_zero, List.set_cons_succ]
        refine take_at (i := 14) (d := 64) (v := ?_) rfl rfl (by kernel_rfl) (by kernel_rfl) (by kernel_rfl) (fun _ _ _ h => h) (Or.inl ⟨by rfl, by intro w' hSw; (try dsimp only at hSw); go_simp; try with_reducible rfl⟩) (by assumption) ?_
        simp only [List.setIfInBounds_toArray, List.set_cons_zero, List.set_cons_succ]
        refine take_at (i := 15) (d := 65) (v := ?_) rfl rfl (by kernel_rfl) (by kernel_rfl) (by kernel_rfl) (fun _ _ _ h => h) (Or.inl ⟨by rfl, by intro w' hSw; (try dsimp only at hSw); go_simp; try with_reducible rfl⟩) (by assumption) ?_
        simp only [List.setIfInBounds_toArray, List.set_cons_zero, List.set_cons_succ]
        refine wpAnyH_ready (rs := [16, 17]) (by kernel_rfl) (by simp) ?_
        refine AllReadyH.cons rfl (fun K hK => ?_) (AllReadyH.cons rfl (fun K hK => ?_) (AllReadyH.nil))
        · skip
          go_simp
          refine (HAPG.out _ (by first | exact below_drew _ | exact HBAd.out)).mono ?_
          rintro e w6 ⟨ra, rc, ea, ec, rfl, hra, _, _, _, S6, hd6, hk6, hn6, har, _⟩
          have HD6 := Lib.hid hd6
          have HRA6 := Lib.hid hra
          have HN6 := Lib.hid hn6
          have HAR6 := Lib.hid har
          have HSZ6 : Hid (wr.heap.size ≤ w6.heap.size) := Lib.hid (by first | exact hk6.size | exact Nat.le_trans HBA.out.size hk6.size)
          have HS6 : Hid (w_cells ob off j o w6) := Lib.hid (by
            obtain ⟨ob', off', he, a0, a1, a2, a3⟩ := HCE.out w6 hd6.bel
            simp only [Option.some.injEq, Addr.mk.injEq, and_true] at he
            obtain ⟨rfl, rfl⟩ := he
            exact ⟨a0, a1, a2, a3⟩)
          first
            | (have HO6 := HO2; have HNV : Hid (ob ≠ V0) := Lib.hid (by have := HOB.out; have := HVA.out; omega); have HXS : Hid (w6.heap[V0]? = some (.cells #[.int .i64 0, .int .i64 0, .slice none 0 0, .slice none 0 0] 37 (0, 0))) := Lib.hid ((hk6.block V0 HAX.out.2.2.2 HAX.out.2.1).trans HAX.out.1))
            | skip
          clear hd6 hra hk6 hn6 har
          dsimp only
          go_wp2_with fail
          refine hK.out _ _ ?_ (fun hHeld => ?_)
          · exact HS6.out
          clear hK K
          try simp only [Act.put, List.getElem_toArray, List.getElem_cons_succ, List.getElem_cons_zero]
          try simp only [List.setIfInBounds_toArray, List.set_cons_zero, List.set_cons_succ]
          refine wpAnyH_ready (rs := [17]) (by kernel_rfl) (by simp) ?_
          refine AllReadyH.cons rfl (fun K hK => ?_) AllReadyH.nil
          go_simp
          first
            | (rw [← HWA.out, ← HVA.out]; have HO2 : Hid True := Lib.hid trivial)
            | (obtain ⟨wB, hwB⟩ : ∃ wB, wB = w6.alloc (.cells #[.int .i64 0, .int .i64 0, .slice none 0 0, .slice none 0 0] 37) := ⟨_, rfl⟩
               obtain ⟨V, hV⟩ : ∃ V, V = w6.heap.size := ⟨_, rfl⟩
               rw [← hwB, ← hV]
               have HB6 : Hid (Below w6.heap.size w6 wB) := Lib.hid (by rw [hwB]; exact (Below.refl _ _).alloc (Nat.le_refl _) _)
               have HXS : Hid (wB.heap[V]? = some (.cells #[.int .i64 0, .int .i64 0, .slice none 0 0, .slice none 0 0] 37 (0, 0))) := Lib.hid (by rw [hwB, hV]; exact heap_alloc_new _ _)
               have HVV := Lib.hid hV
               have HNV : Hid (ob ≠ V) := Lib.hid (by have := HOB.out; have := HSZ6.out; omega)
               have HSB : Hid (w_cells ob off j o wB) := Lib.hid (by
                 obtain ⟨ob', off', he, a0, a1, a2, a3⟩ := HCE.out wB (HD6.out.below HB6.out).bel
                 simp only [Option.some.injEq, Addr.mk.injEq, and_true] at he
                 obtain ⟨rfl, rfl⟩ := he
                 exact ⟨a0, a1, a2, a3⟩)
               clear hwB hV)
          go_wp2_with fail
          refine hK.out _ _ ?_ (fun hHeld => ?_)
          · first | exact HSB.out | exact HSA.out
          clear hK K
          try simp only [Act.put, List.getElem_toArray, List.getElem_cons_succ, List.getElem_cons_zero]
          try simp only [List.setIfInBounds_toArray, List.set_cons_zero, List.set_cons_succ]
          have z0 := blk_cell HXS.out 0
          have z1 := blk_cell HXS.out 1
          have z2 := blk_cell HXS.out 2
          have z3 := blk_cell HXS.out 3
          simp only [List.getElem?_toArray, List.getElem?_cons_zero, List.getElem?_cons_succ] at z0 z1 z2 z3
          have y0 := blk_frozen HXS.out 0
          have y1 := blk_frozen HXS.out 1
          have y2 := blk_frozen HXS.out 2
          have y3 := blk_frozen HXS.out 3
          refine wpAnyH_ready (rs := [18]) (by kernel_rfl) (by simp) ?_
          refine AllReadyH.cons rfl (fun K hK => ?_) AllReadyH.nil
          go_simp
          go_wp2_with fail
          refine hK.out _ _ ?_ (fun hHeld => ?_)
          · first | exact w_fill HNV.out HSB.out _ _ _ _ | exact w_fill HNV.out HS6.out _ _ _ _
          clear hK K
          try simp only [Act.put, List.getElem_toArray, List.getElem_cons_succ, List.getElem_cons_zero]
          try simp only [List.setIfInBounds_toArray, List.set_cons_zero, List.set_cons_succ]
          refine wpAnyH_done (by kernel_rfl) ?_ _
          first
            | (have HO7 := HO2
               obtain ⟨wF, hwF⟩ : ∃ wF, wF = fillA w6 V0 (.int .i64 s1.ck) (.int .i64 (s1.es.length : Int)) (.slice ra ys.length rc) (.slice ea (dropF s1.evs o.q).length ec) := ⟨_, rfl⟩
               have HLF : Hid (LD S6 W wF n m E s1 T A B tb q) := Lib.hid (by rw [hwF]; exact HD6.out.keep (fillA_keeps _ _ _ _ _ _) (fun i hi hs => by rw [hi] at hs; rcases HN6.out V0 hs with e | e; exact HAX.out.2.1 e; exact absurd HAX.out.2.2.2 (Nat.not_lt.2 e)) (fun i hi => by rw [hi]; exact HAX.out.2.2.1))
               have HXF : Hid (wF.heap[V0]? = some (.cells #[.int .i64 s1.ck, .int .i64 (s1.es.length : Int), .slice ra ys.length rc, .slice ea (dropF s1.evs o.q).length ec] 37 (0, 0))) := Lib.hid (by rw [hwF]; exact fillA_box HXS.out _ _ _ _)
               have HRF : Hid (RepsAt wF ra ys) := Lib.hid (by rw [hwF]; exact HRA6.out.keep (fillA_keeps _ _ _ _ _ _) (fun a ha e => by have h1 := (HAR6.out a ha).2; rw [e] at h1; exact absurd HAX.out.2.2.2 (Nat.not_lt.2 h1)))
               unfold fillA at hwF
               rw [← hwF]
               clear hwF z0 z1 z2 z3 y0 y1 y2 y3
               go_wp2_with fail
               go_meet
               case rel => exact ⟨V0, S6, ra, rc, ea, ec, _, rfl, HLF.out, HXF.out, HRF.out⟩)
            | (obtain ⟨wF, hwF⟩ : ∃ wF, wF = fillA wB V (.int .i64 s1.ck) (.int .i64 (s1.es.length : Int)) (.slice ra ys.length rc) (.slice ea (dropF s1.evs o.q).length ec) := ⟨_, rfl⟩
               have hbF : Below w6.heap.size w6 wF := by rw [hwF]; exact below_fp HB6.out (fillA_keeps _ _ _ _ _ _) (fun i hi => by rw [hi, HVV.out]; exact Nat.le_refl _)
               have HLF : Hid (LD S6 W wF n m E s1 T A B tb q) := Lib.hid (HD6.out.below hbF)
               have HXF : Hid (wF.heap[V]? = some (.cells #[.int .i64 s1.ck, .int .i64 (s1.es.length : Int), .slice ra ys.length rc, .slice ea (dropF s1.evs o.q).length ec] 37 (0, 0))) := Lib.hid (by rw [hwF]; exact fillA_box HXS.out _ _ _ _)
               have HRF : Hid (RepsAt wF ra ys) := Lib.hid (HRA6.out.below hbF)
               unfold fillA at hwF
               rw [← hwF]
               clear hwF hbF z0 z1 z2 z3 y0 y1 y2 y3
               go_wp2_with fail
               go_meet
               case rel => exact ⟨V, S6, ra, rc, ea, ec, _, rfl, HLF.out, HXF.out, HRF.out⟩)
        · skip
          go_simp
          first
            | (rw [← HWA.out, ← HVA.out]; have HO2 : Hid True := Lib.hid trivial)
            | (obtain ⟨wB, hwB⟩ : ∃ wB, wB = w6.alloc (.cells #[.int .i64 0, .int .i64 0, .slice none 0 0, .slice none 0 0] 37) := ⟨_, rfl⟩
               obtain ⟨V, hV⟩ : ∃ V, V = w6.heap.size := ⟨_, rfl⟩
               rw [← hwB, ← hV]
               have HB6 : Hid (Below w6.heap.size w6 wB) := Lib.hid (by rw [hwB]; exact (Below.refl _ _).alloc (Nat.le_refl _) _)
               have HXS : Hid (wB.heap[V]? = some (.cells #[.int .i64 0, .int .i64 0, .slice none 0 0, .slice none 0 0] 37 (0, 0))) := Lib.hid (by rw [hwB, hV]; exact heap_alloc_new _ _)
               have HVV := Lib.hid hV
               have HNV : Hid (ob ≠ V) := Lib.hid (by have := HOB.out; have := HSZ6.out; omega)
               have HSB : Hid (w_cells ob off j o wB) := Lib.hid (by
                 obtain ⟨ob', off', he, a0, a1, a2, a3⟩ := HCE.out wB (HD6.out.below HB6.out).bel
                 simp only [Option.some.injEq, Addr.mk.injEq, and_true] at he
                 obtain ⟨rfl, rfl⟩ := he
                 exact ⟨a0, a1, a2, a3⟩)
               clear hwB hV)
          go_wp2_with fail
          refine hK.out _ _ ?_ (fun hHeld => ?_)
          · first | exact HSB.out | exact HSA.out
          clear hK K
          try simp only [Act.put, List.getElem_toArray, List.getElem_cons_succ, List.getElem_cons_zero]
          try simp only [List.setIfInBounds_toArray, List.set_cons_zero, List.set_cons_succ]
          refine wpAnyH_ready (rs := [16]) (by kernel_rfl) (by simp) ?_
          refine AllReadyH.cons rfl (fun K hK => ?_) AllReadyH.nil
          go_simp
          refine (HAPG.out _ (by first | exact below_drew _ | exact HBAd.out)).mono ?_
          rintro e w6 ⟨ra, rc, ea, ec, rfl, hra, _, _, _, S6, hd6, hk6, hn6, har, _⟩
          have HD6 := Lib.hid hd6
          have HRA6 := Lib.hid hra
          have HN6 := Lib.hid hn6
          have HAR6 := Lib.hid har
          have HSZ6 : Hid (wr.heap.size ≤ w6.heap.size) := Lib.hid (by first | exact hk6.size | exact Nat.le_trans HBA.out.size hk6.size)
          have HS6 : Hid (w_cells ob off j o w6) := Lib.hid (by
            obtain ⟨ob', off', he, a0, a1, a2, a3⟩ := HCE.out w6 hd6.bel
            simp only [Option.some.injEq, Addr.mk.injEq, and_true] at he
            obtain ⟨rfl, rfl⟩ := he
            exact ⟨a0, a1, a2, a3⟩)
          first
            | (have HO6 := HO2; have HNV : Hid (ob ≠ V0) := Lib.hid (by have := HOB.out; have := HVA.out; omega); have HXS : Hid (w6.heap[V0]? = some (.cells #[.int .i64 0, .int .i64 0, .slice none 0 0, .slice none 0 0] 37 (0, 0))) := Lib.hid ((hk6.block V0 HAX.out.2.2.2 HAX.out.2.1).trans HAX.out.1))
            | skip
          clear hd6 hra hk6 hn6 har
          dsimp only
          go_wp2_with fail
          refine hK.out _ _ ?_ (fun hHeld => ?_)
          · exact HS6.out
          clear hK K
          try simp only [Act.put, List.getElem_toArray, List.getElem_cons_succ, List.getElem_cons_zero]
          try simp only [List.setIfInBounds_toArray, List.set_cons_zero, List.set_cons_succ]
          have z0 := blk_cell HXS.out 0
          have z1 := blk_cell HXS.out 1
          have z2 := blk_cell HXS.out 2
          have z3 := blk_cell HXS.out 3
          simp only [List.getElem?_toArray, List.getElem?_cons_zero, List.getElem?_cons_succ] at z0 z1 z2 z3
          have y0 := blk_frozen HXS.out 0
          have y1 := blk_frozen HXS.out 1
          have y2 := blk_frozen HXS.out 2
          have y3 := blk_frozen HXS.out 3
          refine wpAnyH_ready (rs := [18]) (by kernel_rfl) (by simp) ?_
          refine AllReadyH.cons rfl (fun K hK => ?_) AllReadyH.nil
          go_simp
          go_wp2_with fail
          refine hK.out _ _ ?_ (fun hHeld => ?_)
          · first | exact w_fill HNV.out HSB.out _ _ _ _ | exact w_fill HNV.out HS6.out _ _ _ _
          clear hK K
          try simp only [Act.put, List.getElem_toArray, List.getElem_cons_succ, List.getElem_cons_zero]
          try simp only [List.setIfInBounds_toArray, List.set_cons_zero, List.set_cons_succ]
          refine wpAnyH_done (by kernel_rfl) ?_ _
          first
            | (have HO7 := HO2
               obtain ⟨wF, hwF⟩ : ∃ wF, wF = fillA w6 V0 (.int .i64 s1.ck) (.int .i64 (s1.es.length : Int)) (.slice ra ys.length rc) (.slice ea (dropF s1.evs o.q).length ec) := ⟨_, rfl⟩
               have HLF : Hid (LD S6 W wF n m E s1 T A B tb q) := Lib.hid (by rw [hwF]; exact HD6.out.keep (fillA_keeps _ _ _ _ _ _) (fun i hi hs => by rw [hi] at hs; rcases HN6.out V0 hs with e | e; exact HAX.out.2.1 e; exact absurd HAX.out.2.2.2 (Nat.not_lt.2 e)) (fun i hi => by rw [hi]; exact HAX.out.2.2.1))
               have HXF : Hid (wF.heap[V0]? = some (.cells #[.int .i64 s1.ck, .int .i64 (s1.es.length : Int), .slice ra ys.length rc, .slice ea (dropF s1.evs o.q).length ec] 37 (0, 0))) := Lib.hid (by rw [hwF]; exact fillA_box HXS.out _ _ _ _)
               have HRF : Hid (RepsAt wF ra ys) := Lib.hid (by rw [hwF]; exact HRA6.out.keep (fillA_keeps _ _ _ _ _ _) (fun a ha e => by have h1 := (HAR6.out a ha).2; rw [e] at h1; exact absurd HAX.out.2.2.2 (Nat.not_lt.2 h1)))
               unfold fillA at hwF
               rw [← hwF]
               clear hwF z0 z1 z2 z3 y0 y1 y2 y3
               go_wp2_with fail
               go_meet
               case rel => exact ⟨V0, S6, ra, rc, ea, ec, _, rfl, HLF.out, HXF.out, HRF.out⟩)
            | (obtain ⟨wF, hwF⟩ : ∃ wF, wF = fillA wB V (.int .i64 s1.ck) (.int .i64 (s1.es.length : Int)) (.slice ra ys.length rc) (.slice ea (dropF s1.evs o.q).length ec) := ⟨_, rfl⟩
               have hbF : Below w6.heap.size w6 wF := by rw [hwF]; exact below_fp HB6.out (fillA_keeps _ _ _ _ _ _) (fun i hi => by rw [hi, HVV.out]; exact Nat.le_refl _)
               have HLF : Hid (LD S6 W wF n m E s1 T A B tb q) := Lib.hid (HD6.out.below hbF)
               have HXF : Hid (wF.heap[V]? = some (.cells #[.int .i64 s1.ck, .int .i64 (s1.es.length : Int), .slice ra ys.length rc, .slice ea (dropF s1.evs o.q).length ec] 37 (0, 0))) := Lib.hid (by rw [hwF]; exact fillA_box HXS.out _ _ _ _)
               have HRF : Hid (RepsAt wF ra ys) := Lib.hid (HRA6.out.below hbF)
               unfold fillA at hwF
               rw [← hwF]
               clear hwF hbF z0 z1 z2 z3 y0 y1 y2 y3
               go_wp2_with fail
               go_meet
               case rel => exact ⟨V, S6, ra, rc, ea, ec, _, rfl, HLF.out, HXF.out, HRF.out⟩)
      case rest => as_aux_lemma =>
        obtain ⟨V, S6, ra, rc, ea, ec, el, rfl, hd6, hv6, hra6⟩ := hcut
        rename World => w6
        obtain ⟨ly, hly⟩ : ∃ ly, ly = ys.length := ⟨_, rfl⟩
        rw [← hly] at hv6
        have HYL : Hid (ys.length = ly ∧ ly ≤ o.n ∧ ly ≤ 64 ∧ o.rs.length = o.n ∧ o.n ≤ o.cap) := Lib.hid ⟨hly.symm, by rw [hly]; exact HLY.out.1, by rw [hly]; exact HLY.out.2, HOK.out.2.1, HOK.out.2.2.1⟩
        have HKA2 : Hid (lk ly = s1.l.length) := Lib.hid (by rw [hly]; exact HKA.out)
        obtain ⟨TA, hTA⟩ : ∃ TA : World → Prop, TA = fun w => LD S6 W w n m E s1 T A B tb q ∧ w.heap[V]? = some (.cells #[.int .i64 s1.ck, .int .i64 (s1.es.length : Int), .slice ra ly rc, .slice ea el ec] 37 (0, 0)) ∧ RepsAt w ra ys := ⟨_, rfl⟩
        have HTA : Hid (∀ w, TA w ↔ (LD S6 W w n m E s1 T A B tb q ∧ w.heap[V]? = some (.cells #[.int .i64 s1.ck, .int .i64 (s1.es.length : Int), .slice ra ly rc, .slice ea el ec] 37 (0, 0)) ∧ RepsAt w ra ys)) := Lib.hid (fun w => by rw [hTA])
        have HTB : Hid (∀ w w', TA w → Below w.heap.size w w' → TA w') := Lib.hid (fun w w' h hb => by
          obtain ⟨a1, a2, a3⟩ := (HTA.out w).1 h
          exact (HTA.out w').2 ⟨a1.below hb, (hb.block V (blk_lt a2)).trans a2, a3.below hb⟩)
        have HTC : Hid (∀ w, TA w → w.cell? ⟨V, 2, none⟩ = some (.slice ra ly rc)) := Lib.hid (fun w h => blk_cell ((HTA.out w).1 h).2.1 2)
        have HOC : Hid (∀ w, TA w → w.cell? ⟨ob, off + j * 4 + 2 + 1, none⟩ = some (.slice o.ro o.n o.cap)) := Lib.hid (fun w h => by
          obtain ⟨ob', off', he, a0, a1, a2, a3⟩ := HCE.out w ((HTA.out w).1 h).1.bel
          simp only [Option.some.injEq, Addr.mk.injEq, and_true] at he
          obtain ⟨rfl, rfl⟩ := he
          exact a3)
        have HRQ : Hid (∀ w, TA w → RqsAt w o.ro o.rs) := Lib.hid (fun w h => rqs_below HOK.out.1 ((HTA.out w).1 h).1.bel)
        have HRP : Hid (∀ w, TA w → RepsAt w ra ys) := Lib.hid (fun w h => ((HTA.out w).1 h).2.2)
        have HTD : Hid (∀ w, TA w → LD S6 W w n m E s1 T A B tb q) := Lib.hid (fun w h => ((HTA.out w).1 h).1)
        have HT6 : Hid (TA w6) := Lib.hid ((HTA.out w6).2 ⟨hd6, hv6, hra6⟩)
        have HYS : Hid (∀ p : Nat, p < ly → ly - (p + 1) < ly - p) := Lib.hid (fun p h => by omega)
        clear hd6 hv6 hra6 hly hTA HTA HD HAPG HAX HBA HBAd HSA HWA HVA HSZ HFO HLY HKA q0 q1 q2 q3 HCE HOK
        go_wp2_with fail
        go_loopw [7, 10] (fun c k wz => ∃ u : Nat, u ≤ ly ∧ k = .int .i64 u ∧ c = .int .i64 (lk u : Nat) ∧ lk u ≤ 400 + u ∧ TA wz) (fun _ k _ => ly - (intOf k).toNat)
        case atStart => exact ⟨0, Nat.zero_le _, rfl, by rw [HK0.out], by rw [HK0.out]; omega, HT6.out⟩
        case round => as_aux_lemma =>
          obtain ⟨u, hu, rfl, rfl, hlb, htz⟩ := hrel
          rename World => wz
          have HTZ := Lib.hid htz
          have v2 := HTC.out _ htz
          have o3 := HOC.out _ htz
          clear htz HT6
          by_cases hul : u < ly
          · have huy : u < ys.length := by rw [HYL.out.1]; exact hul
            have hur : u < o.rs.length := by have := HYL.out; omega
            have HST := Lib.hid (HKS.out u huy hur)
            obtain ⟨rb, roff, hre, y0, y1⟩ : ∃ rb roff, ra = some ⟨rb, roff, none⟩ ∧ wz.cell? ⟨rb, roff + u * 2, none⟩ = some (.int .i64 ys[u].1) ∧ wz.cell? ⟨rb, roff + u * 2 + 1, none⟩ = some (.int .i64 ys[u].2) := by
              rcases HRP.out _ HTZ.out with h | ⟨b, off, h1, h2⟩
              · rw [h] at huy; simp at huy
              · exact ⟨b, off, h1, (h2 u huy).1, (h2 u huy).2⟩
            obtain ⟨wR, hwR⟩ : ∃ wR, wR = wz.alloc (.cells #[.int .i64 ys[u].1, .int .i64 ys[u].2] 50) := ⟨_, rfl⟩
            obtain ⟨R, hR⟩ : ∃ R, R = wz.heap.size := ⟨_, rfl⟩
            have hxr : wR.heap[R]? = some (.cells #[.int .i64 ys[u].1, .int .i64 ys[u].2] 50 (0, 0)) := by rw [hwR, hR]; exact heap_alloc_new _ _
            have HTR : Hid (TA wR) := Lib.hid (HTB.out _ _ HTZ.out (by rw [hwR]; exact (Below.refl _ _).alloc (Nat.le_refl _) _))
            have oR := HOC.out _ HTR.out
            obtain ⟨qb, qoff, hqe, z0⟩ : ∃ qb qoff, o.ro = some ⟨qb, qoff, none⟩ ∧ wR.cell? ⟨qb, qoff + u * 8, none⟩ = some (.int .i64 o.rs[u].k) := by
              rcases HRQ.out _ HTR.out with h | ⟨b, off, h1, h2⟩
              · rw [h] at hur; simp at hur
              · exact ⟨b, off, h1, (h2 u hur).all.1⟩
            have r0 := blk_cell hxr 0
            have r1 := blk_cell hxr 1
            simp only [List.getElem?_toArray, List.getElem?_cons_zero, List.getElem?_cons_succ] at r0 r1
            have HWR := Lib.hid hwR
            have HRX := Lib.hid hR
            rw [hre] at v2
            rw [hqe] at o3 oR
            have HUL := Lib.hid hul
            have u0 : (0 : Int) ≤ (u : Int) := by omega
            have u1 : (u : Int) < (ly : Int) := by omega
            have u2 : (u : Int) < (o.n : Int) := by have := HYL.out; omega
            have u3 : (u : Int) ≤ 64 := by have := HYL.out; omega
            generalize ys[u] = y at *
            generalize o.rs[u] = z at *
            obtain ⟨l0, hl0⟩ : ∃ l0 : Nat, l0 = lk u := ⟨_, rfl⟩
            rw [← hl0] at HST hlb ⊢
            have d1 : (l0 : Int) ≤ 464 := by omega
            have d2 : (0 : Int) ≤ (l0 : Int) := by omega
            have HLB := Lib.hid hlb
            clear hl0 huy hur hre hqe hul hxr hwR hR hlb hu
            go_upto_region 17 with fail
            rw [← HWR.out, ← HRX.out]
            clear y0 y1 v2 o3
            by_cases hz : z.k = 2
            · by_cases hy : y.1 = 0
              · have HE : Hid (lk (u + 1) = l0 + 1 ∧ y.2 = (l0 : Int)) := Lib.hid (by have h := HST.out; rw [if_pos ⟨hz, hy⟩, if_pos ⟨hz, hy⟩] at h; exact h)
                rw [HE.out.2] at r1
                rw [hy] at r0
                rw [hz] at z0
                clear hz hy
                go_wp2
                go_roundw
                case rel => exact ⟨u + 1, HUL.out, by go_num, by rw [HE.out.1]; go_num, by rw [HE.out.1]; have := HLB.out; omega, HTR.out⟩
                case measure => simpa [intOf] using HYS.out u HUL.out
              · have HE : Hid (lk (u + 1) = l0 ∧ y.2 = 0) := Lib.hid (by have h := HST.out; rw [if_neg (fun e => hy e.2), if_neg (fun e => hy e.2), Nat.add_zero] at h; exact h)
                rw [HE.out.2] at r1
                rw [hz] at z0
                clear hz
                go_wp2
                go_roundw
                case rel => exact ⟨u + 1, HUL.out, by go_num, by rw [HE.out.1], by rw [HE.out.1]; have := HLB.out; omega, HTR.out⟩
                case measure => simpa [intOf] using HYS.out u HUL.out
            · have HE : Hid (lk (u + 1) = l0 ∧ y.2 = 0) := Lib.hid (by have h := HST.out; rw [if_neg (fun e => hz e.1), if_neg (fun e => hz e.1), Nat.add_zero] at h; exact h)
              rw [HE.out.2] at r1
              go_wp2
              go_roundw
              case rel => exact ⟨u + 1, HUL.out, by go_num, by rw [HE.out.1], by rw [HE.out.1]; have := HLB.out; omega, HTR.out⟩
              case measure => simpa [intOf] using HYS.out u HUL.out
          · obtain rfl : u = ly := by omega
            rw [HKA2.out]
            have hr1 := HR100.out
            clear hul hu hlb
            go_wp2
            go_roundw
            case rel => exact ⟨j + 1, HLT.out, by go_num, S6, s1, rfl, HTD.out _ HTZ.out, HTL1.out⟩
            case measure => simpa [intOf] using HRR.out
    case neg => as_aux_lemma =>
      obtain rfl : j = r := by omega
      clear hj hlt
      obtain ⟨_, _, hd6, _, _⟩ := HD.out.dat
      have HEV := Lib.hid (ledger_events hd6 HI0.out.len.2.1)
      clear hd6
      go_wp2_with fail
      refine HEV.out.mono ?_
      rintro e w7 ⟨al, cl, rfl, hrow, hb7, hnew⟩
      have HD7 := Lib.hid (HD.out.below hb7)
      have HAL7 : Hid (EvsAt w7 al s.evs) := Lib.hid (evs_of_own (evs_len s) hrow)
      have HAB : Hid (∀ a, al = some a → a.block < w7.heap.size) := Lib.hid (fun a ha => (hrow.lt a.block (own_blk hrow a ha)).2)
      obtain ⟨le, hle⟩ : ∃ le, le = s.es.length := ⟨_, rfl⟩
      have HLE : Hid (s.evs.length = le ∧ le ≤ 400) := Lib.hid ⟨by rw [evs_len, hle], by rw [hle]; exact HI0.out.len.2.1⟩
      rw [← hle]
      have HRL : Hid (Rel s.evs s.l) := Lib.hid HTL.out
      have HC4 : Hid (c0 = s.l.length ∧ c0 ≤ 400) := Lib.hid ⟨HC0.out, by omega⟩
      generalize hevs : s.evs = evs at *
      clear hevs hle hrow hb7 hnew HEV HD HTL
      have HCLE := Lib.hid (fun k (hk : k ≤ le) => plK_le HRL.out k (by rw [HLE.out.1]; exact hk))
      have HALL : Hid (plK evs le = s.l) := Lib.hid (by have := plK_all HRL.out; rw [HLE.out.1] at this; exact this)
      obtain ⟨w8, hw8⟩ : ∃ w8, w8 = w7.alloc (.cells Tryz.zeroCells53 53) := ⟨_, rfl⟩
      obtain ⟨N, hN⟩ : ∃ N, N = w7.heap.size := ⟨_, rfl⟩
      have hb8 : Below w7.heap.size w7 w8 := by rw [hw8]; exact (Below.refl _ _).alloc (Nat.le_refl _) _
      have HSA8 : Hid (SA w8 N 53 500 (fun j => stX (plK evs 0) j)) := Lib.hid (by rw [hw8, hN, z500]; exact SA.new w7 500)
      have HN8 : Hid (¬ S N ∧ W.heap.size ≤ N ∧ ∀ a, al = some a → a.block ≠ N) := Lib.hid ⟨fun hs => by have := HD7.out.lt N hs; omega, by rw [hN]; exact HD7.out.bel.size, fun a ha e => by have := HAB.out a ha; omega⟩
      obtain ⟨TB, hTB⟩ : ∃ TB : World → Prop, TB = fun w => LD S W w n m E s T A B tb q ∧ EvsAt w al evs := ⟨_, rfl⟩
      have HTA : Hid (∀ w, TB w ↔ (LD S W w n m E s T A B tb q ∧ EvsAt w al evs)) := Lib.hid (fun w => by rw [hTB])
      have HTB2 : Hid (∀ w w', TB w → Below w.heap.size w w' → TB w') := Lib.hid (fun w w' h hb => (HTA.out w').2 ⟨((HTA.out w).1 h).1.below hb, ((HTA.out w).1 h).2.below hb⟩)
      have HTS : Hid (∀ w i v, TB w → TB (w.setCell ⟨N, i, none⟩ v)) := Lib.hid (fun w i v h => by
        have hk : Keeps (fun i => i = N) w (w.setCell ⟨N, i, none⟩ v) := (Keeps.refl (fun i => i = N) w).setCell (p := ⟨N, i, none⟩) (Or.inl rfl) v
        exact (HTA.out _).2 ⟨((HTA.out w).1 h).1.keep hk (fun i hi hs => HN8.out.1 (hi ▸ hs)) (fun i hi => by rw [hi]; exact HN8.out.2.1), ((HTA.out w).1 h).2.keep hk (fun a ha => HN8.out.2.2 a ha)⟩)
      have HTD : Hid (∀ w, TB w → ∃ Sb v, LDat Sb W w n m E s T A B tb q v) := Lib.hid (fun w h => by
        obtain ⟨Sb, v, a1, _⟩ := ((HTA.out w).1 h).1.dat
        exact ⟨Sb, v, a1⟩)
      have HTE : Hid (∀ w, TB w → EvsAt w al evs) := Lib.hid (fun w h => ((HTA.out w).1 h).2)
      have HTL : Hid (∀ w, TB w → Below W.heap.size W w) := Lib.hid (fun w h => ((HTA.out w).1 h).1.bel)
      have HT8 : Hid (TB w8) := Lib.hid ((HTA.out w8).2 ⟨HD7.out.below hb8, HAL7.out.below hb8⟩)
      have HES : Hid (∀ p : Nat, p < le → le - (p + 1) < le - p) := Lib.hid (fun p h => by omega)
      have HCS : Hid (∀ p : Nat, p < c0 → c0 - (p + 1) < c0 - p) := Lib.hid (fun p h => by omega)
      have HW8 := Lib.hid hw8
      have HNN := Lib.hid hN
      clear hw8 hN hb8 hTB HTA HD7 HAL7 HAB HN8 HC0 HI0 hc400 hc000
      go_upto_region 26 with fail
      rw [← HW8.out]
      rw [← HNN.out]
      clear HW8 HNN
      go_wp2_with fail
      go_loopw [13, 15] (fun c i wz => ∃ u : Nat, u ≤ le ∧ i = .int .i64 u ∧ c = .int .i64 ((plK evs u).length : Nat) ∧ TB wz ∧ SA wz N 53 500 (fun j => stX (plK evs u) j)) (fun _ i _ => le - (intOf i).toNat)
      case atStart => exact ⟨0, Nat.zero_le _, rfl, rfl, HT8.out, HSA8.out⟩
      case round => as_aux_lemma =>
        obtain ⟨u, hu, rfl, rfl, htz, hsa⟩ := hrel
        rename World => wz
        have HTZ := Lib.hid htz
        have HSA := Lib.hid hsa
        have HPL := Lib.hid (HCLE.out u hu)
        clear htz hsa HT8 HSA8
        by_cases hul : u < le
        · have hue : u < evs.length := by rw [HLE.out.1]; exact hul
          obtain ⟨eb, eoff, rfl, hat⟩ := ev_cells (HTE.out _ HTZ.out) u hue
          have HK := Lib.hid (fun w' (hb : Below wz.heap.size wz w') => (hat.below hb).all)
          have HLK := Lib.hid (lock_tells HRL.out u hue)
          have HCT := Lib.hid (close_tells HRL.out u hue)
          have HLS := Lib.hid (lock_state (es := evs) u hue)
          have HOS := Lib.hid (other_state (es := evs) u hue)
          obtain ⟨k0, _, _, _, _, k5, _⟩ := hat.all
          have HUL := Lib.hid hul
          have u0 : (0 : Int) ≤ (u : Int) := by omega
          have u1 : (u : Int) < (le : Int) := by omega
          have u3 : (le : Int) ≤ 400 := by have := HLE.out; omega
          generalize evs[u] = v at *
          obtain ⟨p0, hp0⟩ : ∃ p0 : Nat, p0 = (plK evs u).length := ⟨_, rfl⟩
          rw [← hp0] at HLK HCT HLS HPL ⊢
          have p1 : (p0 : Int) ≤ 400 := by have := HPL.out; have := HC4.out; omega
          have p2 : (0 : Int) ≤ (p0 : Int) := by omega
          have HP0 := Lib.hid hp0
          clear hul hue hu hat hp0
          by_cases hk2 : v.k = 2
          · obtain ⟨t1, t2, t3⟩ := HLK.out hk2
            obtain ⟨l1, l2⟩ := HLS.out hk2
            obtain ⟨Sba, va, hda⟩ := HTD.out _ HTZ.out
            have HESC := Lib.hid (ledger_escrow hda (p0 : Int))
            rw [t2] at HESC
            generalize getX s.l (p0 : Int) = x at *
            have hx : x.f = v.f ∧ x.t = v.t ∧ x.a = v.a ∧ x.n = v.n ∧ x.d = v.d ∧ x.h = v.h := by simpa [coreX] using t3
            have HXV := Lib.hid hx
            have HT1 := Lib.hid t1
            have HK2 := Lib.hid hk2
            have HL1 := Lib.hid l1
            have HSN : Hid (∀ w', SA w' N 53 500 (fun j => stX (plK evs u) j) → SA w' N 53 500 (fun j => stX (plK evs (u + 1)) j)) := Lib.hid (fun w' h => h.to (fun j hj => (l2 j).symm))
            rw [hk2] at k0
            clear hda hx t1 t2 t3 hk2 l1 l2 k5 HLK HCT HLS HOS
            go_wp2_with fail
            refine HESC.out.mono ?_
            rintro e wb ⟨rfl, hbb⟩
            clear k0 HESC
            unfold XR.cells
            go_upto_region 32 with fail
            obtain ⟨X, hX⟩ : ∃ X, X = wb.heap.size := ⟨_, rfl⟩
            obtain ⟨wc, hwc⟩ : ∃ wc, wc = wb.alloc (.cells #[.int .i64 x.f, .int .i64 x.t, .int .i64 x.a, .int .i64 x.n, .int .i64 x.d, .int .i64 x.s, .string x.h, .string x.x] 57) := ⟨_, rfl⟩
            rw [← hwc, ← hX]
            have hbc : Below wb.heap.size wb wc := by rw [hwc]; exact (Below.refl _ _).alloc (Nat.le_refl _) _
            have hxc : wc.heap[X]? = some (.cells x.cells 57 (0, 0)) := by rw [hwc, hX]; exact heap_alloc_new _ _
            have HTc := Lib.hid (HTB2.out _ _ (HTB2.out _ _ HTZ.out hbb) hbc)
            have HSc := Lib.hid (HSN.out _ ((HSA.out.below hbb).below hbc))
            obtain ⟨k0, k1, k2, k3, k4, k5, k6, k7, k8⟩ := HK.out wc (below_step hbb hbc)
            obtain ⟨x0, x1, x2, x3, x4, x5, x6, x7⟩ := X_cells hxc
            rw [HXV.out.1] at x0
            rw [HXV.out.2.1] at x1
            rw [HXV.out.2.2.1] at x2
            rw [HXV.out.2.2.2.1] at x3
            rw [HXV.out.2.2.2.2.1] at x4
            rw [HXV.out.2.2.2.2.2] at x6
            rw [HT1.out] at k5
            clear hwc hX hbc hxc hbb HK HTZ HSA HXV HT1 HK2 HSN x5 x7 k0 k8
            have u0 : (0 : Int) ≤ (u : Int) := by omega
            have u1 : (u : Int) < (le : Int) := by have := HUL.out; omega
            simp only [List.append_eq, List.cons_append, List.nil_append]
            generalize v.f = vf at *
            generalize v.t = vt at *
            generalize v.a = va1 at *
            generalize v.n = vn at *
            generalize v.d = vd at *
            generalize v.h = vh at *
            refine wp_region_held_drew (S := fun w' => w'.cell? ⟨eb, eoff + u * 9 + 5, none⟩ = some (.int .i64 (p0 : Int)) ∧ w'.cell? ⟨X, 0, none⟩ = some (.int .i64 vf) ∧ w'.cell? ⟨eb, eoff + u * 9 + 1, none⟩ = some (.int .i64 vf) ∧ w'.cell? ⟨X, 1, none⟩ = some (.int .i64 vt) ∧ w'.cell? ⟨eb, eoff + u * 9 + 2, none⟩ = some (.int .i64 vt) ∧ w'.cell? ⟨X, 3, none⟩ = some (.int .i64 vn) ∧ w'.cell? ⟨eb, eoff + u * 9 + 4, none⟩ = some (.int .i64 vn) ∧ w'.cell? ⟨X, 2, none⟩ = some (.int .i64 va1) ∧ w'.cell? ⟨eb, eoff + u * 9 + 3, none⟩ = some (.int .i64 va1) ∧ w'.cell? ⟨X, 6, none⟩ = some (.string vh) ∧ w'.cell? ⟨eb, eoff + u * 9 + 7, none⟩ = some (.string vh) ∧ w'.cell? ⟨X, 4, none⟩ = some (.int .i64 vd) ∧ w'.cell? ⟨eb, eoff + u * 9 + 6, none⟩ = some (.int .i64 vd)) (by kernel_rfl) ?_ (fun hHeld => ?_)
            · exact ⟨k5, x0, k1, x1, k2, x3, k4, x2, k3, x6, k7, x4, k6⟩
            refine take_at (i := 0) (d := 136) (v := ?_) rfl rfl (by kernel_rfl) (by kernel_rfl) (by kernel_rfl) (fun _ _ _ h => h) (Or.inl ⟨by rfl, by intro w' hSw; (try dsimp only at hSw); go_simp; try with_reducible rfl⟩) (by assumption) ?_
            simp only [List.setIfInBounds_toArray, List.set_cons_zero, List.set_cons_succ]
            refine take_at (i := 1) (d := 137) (v := ?_) rfl rfl (by kernel_rfl) (by kernel_rfl) (by kernel_rfl) (fun _ _ _ h => h) (Or.inl ⟨by rfl, by intro w' hSw; (try dsimp only at hSw); go_simp; try with_reducible rfl⟩) (by assumption) ?_
            simp only [List.setIfInBounds_toArray, List.set_cons_zero, List.set_cons_succ]
            refine take_at (i := 2) (d := 138) (v := ?_) rfl rfl (by kernel_rfl) (by kernel_rfl) (by kernel_rfl) (fun _ _ _ h => h) (Or.inl ⟨by rfl, by intro w' hSw; (try dsimp only at hSw); go_simp; try with_reducible rfl⟩) (by assumption) ?_
            simp only [List.setIfInBounds_toArray, List.set_cons_zero, List.set_cons_succ]
            refine take_at (i := 3) (d := 139) (v := ?_) rfl rfl (by kernel_rfl) (by kernel_rfl) (by kernel_rfl) (fun _ _ _ h => h) (Or.inl ⟨by rfl, by intro w' hSw; (try dsimp only at hSw); go_simp; try with_reducible rfl⟩) (by assumption) ?_
            simp only [List.setIfInBounds_toArray, List.set_cons_zero, List.set_cons_succ]
            refine take_at (i := 4) (d := 140) (v := ?_) rfl rfl (by kernel_rfl) (by kernel_rfl) (by kernel_rfl) (fun _ _ _ h => h) (Or.inl ⟨by rfl, by intro w' hSw; (try dsimp only at hSw); go_simp; try with_reducible rfl⟩) (by assumption) ?_
            simp only [List.setIfInBounds_toArray, List.set_cons_zero, List.set_cons_succ]
            refine take_at (i := 5) (d := 141) (v := ?_) rfl rfl (by kernel_rfl) (by kernel_rfl) (by kernel_rfl) (fun _ _ _ h => h) (Or.inl ⟨by rfl, by intro w' hSw; (try dsimp only at hSw); go_simp; try with_reducible rfl⟩) (by assumption) ?_
            simp only [List.setIfInBounds_toArray, List.set_cons_zero, List.set_cons_succ]
            refine take_at (i := 6) (d := 142) (v := ?_) rfl rfl (by kernel_rfl) (by kernel_rfl) (by kernel_rfl) (fun _ _ _ h => h) (Or.inl ⟨by rfl, by intro w' hSw; (try dsimp only at hSw); go_simp; try with_reducible rfl⟩) (by assumption) ?_
            simp only [List.setIfInBounds_toArray, List.set_cons_zero, List.set_cons_succ]
            refine take_at (i := 7) (d := 143) (v := ?_) rfl rfl (by kernel_rfl) (by kernel_rfl) (by kernel_rfl) (fun _ _ _ h => h) (Or.inl ⟨by rfl, by intro w' hSw; (try dsimp only at hSw); go_simp; try with_reducible rfl⟩) (by assumption) ?_
            simp only [List.setIfInBounds_toArray, List.set_cons_zero, List.set_cons_succ]
            refine take_at (i := 8) (d := 144) (v := ?_) rfl rfl (by kernel_rfl) (by kernel_rfl) (by kernel_rfl) (fun _ _ _ h => h) (Or.inl ⟨by rfl, by intro w' hSw; (try dsimp only at hSw); go_simp; try with_reducible rfl⟩) (by assumption) ?_
            simp only [List.setIfInBounds_toArray, List.set_cons_zero, List.set_cons_succ]
            refine take_at (i := 9) (d := 145) (v := ?_) rfl rfl (by kernel_rfl) (by kernel_rfl) (by kernel_rfl) (fun _ _ _ h => h) (Or.inl ⟨by rfl, by intro w' hSw; (try dsimp only at hSw); go_simp; try with_reducible rfl⟩) (by assumption) ?_
            simp only [List.setIfInBounds_toArray, List.set_cons_zero, List.set_cons_succ]
            refine take_at (i := 10) (d := 146) (v := ?_) rfl rfl (by kernel_rfl) (by kernel_rfl) (by kernel_rfl) (fun _ _ _ h => h) (Or.inl ⟨by rfl, by intro w' hSw; (try dsimp only at hSw); go_simp; try with_reducible rfl⟩) (by assumption) ?_
            simp only [List.setIfInBounds_toArray, List.set_cons_zero, List.set_cons_succ]
            refine take_at (i := 11) (d := 147) (v := ?_) rfl rfl (by kernel_rfl) (by kernel_rfl) (by kernel_rfl) (fun _ _ _ h => h) (Or.inl ⟨by rfl, by intro w' hSw; (try dsimp only at hSw); go_simp; try with_reducible rfl⟩) (by assumption) ?_
            simp only [List.setIfInBounds_toArray, List.set_cons_zero, List.set_cons_succ]
            refine take_at (i := 12) (d := 148) (v := ?_) rfl rfl (by kernel_rfl) (by kernel_rfl) (by kernel_rfl) (fun _ _ _ h => h) (Or.inl ⟨by rfl, by intro w' hSw; (try dsimp only at hSw); go_simp; try with_reducible rfl⟩) (by assumption) ?_
            simp only [List.setIfInBounds_toArray, List.set_cons_zero, List.set_cons_succ]
            refine take_at (i := 13) (d := 149) (v := ?_) rfl rfl (by kernel_rfl) (by kernel_rfl) (by kernel_rfl) (fun _ _ _ h => h) (Or.inl ⟨by rfl, by intro w' hSw; (try dsimp only at hSw); go_simp; try with_reducible rfl⟩) (by assumption) ?_
            simp only [List.setIfInBounds_toArray, List.set_cons_zero, List.set_cons_succ]
            refine take_at (i := 14) (d := 150) (v := ?_) rfl rfl (by kernel_rfl) (by kernel_rfl) (by kernel_rfl) (fun _ _ _ h => h) (Or.inl ⟨by rfl, by intro w' hSw; (try dsimp only at hSw); go_simp; try with_reducible rfl⟩) (by assumption) ?_
            simp only [List.setIfInBounds_toArray, List.set_cons_zero, List.set_cons_succ]
            refine take_at (i := 15) (d := 151) (v := ?_) rfl rfl (by kernel_rfl) (by kernel_rfl) (by kernel_rfl) (fun _ _ _ h => h) (Or.inl ⟨by rfl, by intro w' hSw; (try dsimp only at hSw); go_simp; try with_reducible rfl⟩) (by assumption) ?_
            simp only [List.setIfInBounds_toArray, List.set_cons_zero, List.set_cons_succ]
            refine take_at (i := 16) (d := 152) (v := ?_) rfl rfl (by kernel_rfl) (by kernel_rfl) (by kernel_rfl) (fun _ _ _ h => h) (Or.inl ⟨by rfl, by intro w' hSw; (try dsimp only at hSw); go_simp; try with_reducible rfl⟩) (by assumption) ?_
            simp only [List.setIfInBounds_toArray, List.set_cons_zero, List.set_cons_succ]
            refine take_at (i := 17) (d := 153) (v := ?_) rfl rfl (by kernel_rfl) (by kernel_rfl) (by kernel_rfl) (fun _ _ _ h => h) (Or.inl ⟨by rfl, by intro w' hSw; (try dsimp only at hSw); go_simp; try with_reducible rfl⟩) (by assumption) ?_
            simp only [List.setIfInBounds_toArray, List.set_cons_zero, List.set_cons_succ]
            refine take_at (i := 18) (d := 154) (v := ?_) rfl rfl (by kernel_rfl) (by kernel_rfl) (by kernel_rfl) (fun _ _ _ h => h) (Or.inl ⟨by rfl, by intro w' hSw; (try dsimp only at hSw); go_simp; try with_reducible rfl⟩) (by assumption) ?_
            simp only [List.setIfInBounds_toArray, List.set_cons_zero, List.set_cons_succ]
            refine take_at (i := 19) (d := 155) (v := ?_) rfl rfl (by kernel_rfl) (by kernel_rfl) (by kernel_rfl) (fun _ _ _ h => h) (Or.inl ⟨by rfl, by intro w' hSw; (try dsimp only at hSw); go_simp; try with_reducible rfl⟩) (by assumption) ?_
            simp only [List.setIfInBounds_toArray, List.set_cons_zero, List.set_cons_succ]
            refine take_at (i := 20) (d := 156) (v := ?_) rfl rfl (by kernel_rfl) (by kernel_rfl) (by kernel_rfl) (fun _ _ _ h => h) (Or.inl ⟨by rfl, by intro w' hSw; (try dsimp only at hSw); go_simp; try with_reducible rfl⟩) (by assumption) ?_
            simp only [List.setIfInBounds_toArray, List.set_cons_zero, List.set_cons_succ]
            refine take_at (i := 21) (d := 157) (v := ?_) rfl rfl (by kernel_rfl) (by kernel_rfl) (by kernel_rfl) (fun _ _ _ h => h) (Or.inl ⟨by rfl, by intro w' hSw; (try dsimp only at hSw); go_simp; try with_reducible rfl⟩) (by assumption) ?_
            simp only [List.setIfInBounds_toArray, List.set_cons_zero, List.set_cons_succ]
            refine take_at (i := 22) (d := 158) (v := ?_) rfl rfl (by kernel_rfl) (by kernel_rfl) (by kernel_rfl) (fun _ _ _ h => h) (Or.inl ⟨by rfl, by intro w' hSw; (try dsimp only at hSw); go_simp; try with_reducible rfl⟩) (by assumption) ?_
            simp only [List.setIfInBounds_toArray, List.set_cons_zero, List.set_cons_succ]
            refine take_at (i := 23) (d := 159) (v := ?_) rfl rfl (by kernel_rfl) (by kernel_rfl) (by kernel_rfl) (fun _ _ _ h => h) (Or.inl ⟨by rfl, by intro w' hSw; (try dsimp only at hSw); go_simp; try with_reducible rfl⟩) (by assumption) ?_
            simp only [List.setIfInBounds_toArray, List.set_cons_zero, List.set_cons_succ]
            refine take_at (i := 24) (d := 160) (v := ?_) rfl rfl (by kernel_rfl) (by kernel_rfl) (by kernel_rfl) (fun _ _ _ h => h) (Or.inl ⟨by rfl, by intro w' hSw; (try dsimp only at hSw); go_simp; try with_reducible rfl⟩) (by assumption) ?_
            simp only [List.setIfInBounds_toArray, List.set_cons_zero, List.set_cons_succ]
            refine take_at (i := 25) (d := 161) (v := ?_) rfl rfl (by kernel_rfl) (by kernel_rfl) (by kernel_rfl) (fun _ _ _ h => h) (Or.inl ⟨by rfl, by intro w' hSw; (try dsimp only at hSw); go_simp; try with_reducible rfl⟩) (by assumption) ?_
            simp only [List.setIfInBounds_toArray, List.set_cons_zero, List.set_cons_succ]
            refine take_at (i := 26) (d := 162) (v := ?_) rfl rfl (by kernel_rfl) (by kernel_rfl) (by kernel_rfl) (fun _ _ _ h => h) (Or.inl ⟨by rfl, by intro w' hSw; (try dsimp only at hSw); go_simp; try with_reducible rfl⟩) (by assumption) ?_
            simp only [List.setIfInBounds_toArray, List.set_cons_zero, List.set_cons_succ]
            refine take_at (i := 27) (d := 163) (v := ?_) rfl rfl (by kernel_rfl) (by kernel_rfl) (by kernel_rfl) (fun _ _ _ h => h) (Or.inl ⟨by rfl, by intro w' hSw; (try dsimp only at hSw); go_simp; try with_reducible rfl⟩) (by assumption) ?_
            simp only [List.setIfInBounds_toArray, List.set_cons_zero, List.set_cons_succ]
            refine take_at (i := 28) (d := 164) (v := ?_) rfl rfl (by kernel_rfl) (by kernel_rfl) (by kernel_rfl) (fun _ _ _ h => h) (Or.inl ⟨by rfl, by intro w' hSw; (try dsimp only at hSw); go_simp; try with_reducible rfl⟩) (by assumption) ?_
            simp only [List.setIfInBounds_toArray, List.set_cons_zero, List.set_cons_succ]
            refine take_at (i := 29) (d := 165) (v := ?_) rfl rfl (by kernel_rfl) (by kernel_rfl) (by kernel_rfl) (fun _ _ _ h => h) (Or.inl ⟨by rfl, by intro w' hSw; (try dsimp only at hSw); go_simp; try with_reducible rfl⟩) (by assumption) ?_
            simp only [List.setIfInBounds_toArray, List.set_cons_zero, List.set_cons_succ]
            refine take_at (i := 30) (d := 166) (v := ?_) rfl rfl (by kernel_rfl) (by kernel_rfl) (by kernel_rfl) (fun _ _ _ h => h) (Or.inl ⟨by rfl, by intro w' hSw; (try dsimp only at hSw); go_simp; try with_reducible rfl⟩) (by assumption) ?_
            simp only [List.setIfInBounds_toArray, List.set_cons_zero, List.set_cons_succ]
            refine take_at (i := 31) (d := 167) (v := ?_) rfl rfl (by kernel_rfl) (by kernel_rfl) (by kernel_rfl) (fun _ _ _ h => h) (Or.inl ⟨by rfl, by intro w' hSw; (try dsimp only at hSw); go_simp; try with_reducible rfl⟩) (by assumption) ?_
            simp only [List.setIfInBounds_toArray, List.set_cons_zero, List.set_cons_succ]
            refine take_at (i := 32) (d := 168) (v := ?_) rfl rfl (by kernel_rfl) (by kernel_rfl) (by kernel_rfl) (fun _ _ _ h => h) (Or.inl ⟨by rfl, by intro w' hSw; (try dsimp only at hSw); go_simp; try with_reducible rfl⟩) (by assumption) ?_
            simp only [List.setIfInBounds_toArray, List.set_cons_zero, List.set_cons_succ]
            refine take_at (i := 33) (d := 169) (v := ?_) rfl rfl (by kernel_rfl) (by kernel_rfl) (by kernel_rfl) (fun _ _ _ h => h) (Or.inl ⟨by rfl, by intro w' hSw; (try dsimp only at hSw); go_simp; try with_reducible rfl⟩) (by assumption) ?_
            simp only [List.setIfInBounds_toArray, List.set_cons_zero, List.set_cons_succ]
            refine take_at (i := 34) (d := 170) (v := ?_) rfl rfl (by kernel_rfl) (by kernel_rfl) (by kernel_rfl) (fun _ _ _ h => h) (Or.inl ⟨by rfl, by intro w' hSw; (try dsimp only at hSw); go_simp; try with_reducible rfl⟩) (by assumption) ?_
            simp only [List.setIfInBounds_toArray, List.set_cons_zero, List.set_cons_succ]
            refine take_at (i := 35) (d := 171) (v := ?_) rfl rfl (by kernel_rfl) (by kernel_rfl) (by kernel_rfl) (fun _ _ _ h => h) (Or.inl ⟨by rfl, by intro w' hSw; (try dsimp only at hSw); go_simp; try with_reducible rfl⟩) (by assumption) ?_
            simp only [List.setIfInBounds_toArray, List.set_cons_zero, List.set_cons_succ]
            refine take_at (i := 36) (d := 172) (v := ?_) rfl rfl (by kernel_rfl) (by kernel_rfl) (by kernel_rfl) (fun _ _ _ h => h) (Or.inl ⟨by rfl, by intro w' hSw; (try dsimp only at hSw); go_simp; try with_reducible rfl⟩) (by assumption) ?_
            simp only [List.setIfInBounds_toArray, List.set_cons_zero, List.set_cons_succ]
            refine take_at (i := 37) (d := 173) (v := ?_) rfl rfl (by kernel_rfl) (by kernel_rfl) (by kernel_rfl) (fun _ _ _ h => h) (Or.inl ⟨by rfl, by intro w' hSw; (try dsimp only at hSw); go_simp; try with_reducible rfl⟩) (by assumption) ?_
            simp only [List.setIfInBounds_toArray, List.set_cons_zero, List.set_cons_succ]
            refine take_at (i := 38) (d := 174) (v := ?_) rfl rfl (by kernel_rfl) (by kernel_rfl) (by kernel_rfl) (fun _ _ _ h => h) (Or.inl ⟨by rfl, by intro w' hSw; (try dsimp only at hSw); go_simp; try with_reducible rfl⟩) (by assumption) ?_
            simp only [List.setIfInBounds_toArray, List.set_cons_zero, List.set_cons_succ]
            refine take_at (i := 39) (d := 175) (v := ?_) rfl rfl (by kernel_rfl) (by kernel_rfl) (by kernel_rfl) (fun _ _ _ h => h) (Or.inl ⟨by rfl, by intro w' hSw; (try dsimp only at hSw); go_simp; try with_reducible rfl⟩) (by assumption) ?_
            simp only [List.setIfInBounds_toArray, List.set_cons_zero, List.set_cons_succ]
            refine take_at (i := 40) (d := 176) (v := ?_) rfl rfl (by kernel_rfl) (by kernel_rfl) (by kernel_rfl) (fun _ _ _ h => h) (Or.inl ⟨by rfl, by intro w' hSw; (try dsimp only at hSw); go_simp; try with_reducible rfl⟩) (by assumption) ?_
            simp only [List.setIfInBounds_toArray, List.set_cons_zero, List.set_cons_succ]
            refine take_at (i := 41) (d := 177) (v := ?_) rfl rfl (by kernel_rfl) (by kernel_rfl) (by kernel_rfl) (fun _ _ _ h => h) (Or.inl ⟨by rfl, by intro w' hSw; (try dsimp only at hSw); go_simp; try with_reducible rfl⟩) (by assumption) ?_
            simp only [List.setIfInBounds_toArray, List.set_cons_zero, List.set_cons_succ]
            refine take_at (i := 42) (d := 178) (v := ?_) rfl rfl (by kernel_rfl) (by kernel_rfl) (by kernel_rfl) (fun _ _ _ h => h) (Or.inl ⟨by rfl, by intro w' hSw; (try dsimp only at hSw); go_simp; try with_reducible rfl⟩) (by assumption) ?_
            simp only [List.setIfInBounds_toArray, List.set_cons_zero, List.set_cons_succ]
            refine take_at (i := 43) (d := 179) (v := ?_) rfl rfl (by kernel_rfl) (by kernel_rfl) (by kernel_rfl) (fun _ _ _ h => h) (Or.inl ⟨by rfl, by intro w' hSw; (try dsimp only at hSw); go_simp; try with_reducible rfl⟩) (by assumption) ?_
            simp only [List.setIfInBounds_toArray, List.set_cons_zero, List.set_cons_succ]
            refine take_at (i := 44) (d := 180) (v := ?_) rfl rfl (by kernel_rfl) (by kernel_rfl) (by kernel_rfl) (fun _ _ _ h => h) (Or.inl ⟨by rfl, by intro w' hSw; (try dsimp only at hSw); go_simp; try with_reducible rfl⟩) (by assumption) ?_
            simp only [List.setIfInBounds_toArray, List.set_cons_zero, List.set_cons_succ]
            refine take_at (i := 45) (d := 181) (v := ?_) rfl rfl (by kernel_rfl) (by kernel_rfl) (by kernel_rfl) (fun _ _ _ h => h) (Or.inl ⟨by rfl, by intro w' hSw; (try dsimp only at hSw); go_simp; try with_reducible rfl⟩) (by assumption) ?_
            simp only [List.setIfInBounds_toArray, List.set_cons_zero, List.set_cons_succ]
            refine take_at (i := 46) (d := 182) (v := ?_) rfl rfl (by kernel_rfl) (by kernel_rfl) (by kernel_rfl) (fun _ _ _ h => h) (Or.inl ⟨by rfl, by intro w' hSw; (try dsimp only at hSw); go_simp; try with_reducible rfl⟩) (by assumption) ?_
            simp only [List.setIfInBounds_toArray, List.set_cons_zero, List.set_cons_succ]
            refine take_at (i := 47) (d := 183) (v := ?_) rfl rfl (by kernel_rfl) (by kernel_rfl) (by kernel_rfl) (fun _ _ _ h => h) (Or.inl ⟨by rfl, by intro w' hSw; (try dsimp only at hSw); go_simp; try with_reducible rfl⟩) (by assumption) ?_
            simp only [List.setIfInBounds_toArray, List.set_cons_zero, List.set_cons_succ]
            refine take_at (i := 48) (d := 184) (v := ?_) rfl rfl (by kernel_rfl) (by kernel_rfl) (by kernel_rfl) (fun _ _ _ h => h) (Or.inl ⟨by rfl, by intro w' hSw; (try dsimp only at hSw); go_simp; try with_reducible rfl⟩) (by assumption) ?_
            simp only [List.setIfInBounds_toArray, List.set_cons_zero, List.set_cons_succ]
            refine take_at (i := 49) (d := 185) (v := ?_) rfl rfl (by kernel_rfl) (by kernel_rfl) (by kernel_rfl) (fun _ _ _ h => h) (Or.inl ⟨by rfl, by intro w' hSw; (try dsimp only at hSw); go_simp; try with_reducible rfl⟩) (by assumption) ?_
            simp only [List.setIfInBounds_toArray, List.set_cons_zero, List.set_cons_succ]
            refine take_at (i := 50) (d := 186) (v := ?_) rfl rfl (by kernel_rfl) (by kernel_rfl) (by kernel_rfl) (fun _ _ _ h => h) (Or.inl ⟨by rfl, by intro w' hSw; (try dsimp only at hSw); go_simp; try with_reducible rfl⟩) (by assumption) ?_
            simp only [List.setIfInBounds_toArray, List.set_cons_zero, List.set_cons_succ]
            refine take_at (i := 51) (d := 187) (v := ?_) rfl rfl (by kernel_rfl) (by kernel_rfl) (by kernel_rfl) (fun _ _ _ h => h) (Or.inl ⟨by rfl, by intro w' hSw; (try dsimp only at hSw); go_simp; try with_reducible rfl⟩) (by assumption) ?_
            simp only [List.setIfInBounds_toArray, List.set_cons_zero, List.set_cons_succ]
            refine take_at (i := 52) (d := 188) (v := ?_) rfl rfl (by kernel_rfl) (by kernel_rfl) (by kernel_rfl) (fun _ _ _ h => h) (Or.inl ⟨by rfl, by intro w' hSw; (try dsimp only at hSw); go_simp; try with_reducible rfl⟩) (by assumption) ?_
            simp only [List.setIfInBounds_toArray, List.set_cons_zero, List.set_cons_succ]
            refine take_at (i := 53) (d := 189) (v := ?_) rfl rfl (by kernel_rfl) (by kernel_rfl) (by kernel_rfl) (fun _ _ _ h => h) (Or.inl ⟨by rfl, by intro w' hSw; (try dsimp only at hSw); go_simp; try with_reducible rfl⟩) (by assumption) ?_
            simp only [List.setIfInBounds_toArray, List.set_cons_zero, List.set_cons_succ]
            refine take_at (i := 54) (d := 190) (v := ?_) rfl rfl (by kernel_rfl) (by kernel_rfl) (by kernel_rfl) (fun _ _ _ h => h) (Or.inl ⟨by rfl, by intro w' hSw; (try dsimp only at hSw); go_simp; try with_reducible rfl⟩) (by assumption) ?_
            simp only [List.setIfInBounds_toArray, List.set_cons_zero, List.set_cons_succ]
            refine take_at (i := 55) (d := 191) (v := ?_) rfl rfl (by kernel_rfl) (by kernel_rfl) (by kernel_rfl) (fun _ _ _ h => h) (Or.inl ⟨by rfl, by intro w' hSw; (try dsimp only at hSw); go_simp; try with_reducible rfl⟩) (by assumption) ?_
            simp only [List.setIfInBounds_toArray, List.set_cons_zero, List.set_cons_succ]
            refine take_at (i := 56) (d := 192) (v := ?_) rfl rfl (by kernel_rfl) (by kernel_rfl) (by kernel_rfl) (fun _ _ _ h => h) (Or.inl ⟨by rfl, by intro w' hSw; (try dsimp only at hSw); go_simp; try with_reducible rfl⟩) (by assumption) ?_
            simp only [List.setIfInBounds_toArray, List.set_cons_zero, List.set_cons_succ]
            refine take_at (i := 57) (d := 193) (v := ?_) rfl rfl (by kernel_rfl) (by kernel_rfl) (by kernel_rfl) (fun _ _ _ h => h) (Or.inl ⟨by rfl, by intro w' hSw; (try dsimp only at hSw); go_simp; try with_reducible rfl⟩) (by assumption) ?_
            simp only [List.setIfInBounds_toArray, List.set_cons_zero, List.set_cons_succ]
            refine take_at (i := 58) (d := 194) (v := ?_) rfl rfl (by kernel_rfl) (by kernel_rfl) (by kernel_rfl) (fun _ _ _ h => h) (Or.inl ⟨by rfl, by intro w' hSw; (try dsimp only at hSw); go_simp; try with_reducible rfl⟩) (by assumption) ?_
            simp only [List.setIfInBounds_toArray, List.set_cons_zero, List.set_cons_succ]
            refine take_at (i := 59) (d := 195) (v := ?_) rfl rfl (by kernel_rfl) (by kernel_rfl) (by kernel_rfl) (fun _ _ _ h => h) (Or.inl ⟨by rfl, by intro w' hSw; (try dsimp only at hSw); go_simp; try with_reducible rfl⟩) (by assumption) ?_
            simp only [List.setIfInBounds_toArray, List.set_cons_zero, List.set_cons_succ]
            refine take_at (i := 60) (d := 196) (v := ?_) rfl rfl (by kernel_rfl) (by kernel_rfl) (by kernel_rfl) (fun _ _ _ h => h) (Or.inl ⟨by rfl, by intro w' hSw; (try dsimp only at hSw); go_simp; try with_reducible rfl⟩) (by assumption) ?_
            simp only [List.setIfInBounds_toArray, List.set_cons_zero, List.set_cons_succ]
            refine take_at (i := 61) (d := 197) (v := ?_) rfl rfl (by kernel_rfl) (by kernel_rfl) (by kernel_rfl) (fun _ _ _ h => h) (Or.inl ⟨by rfl, by intro w' hSw; (try dsimp only at hSw); go_simp; try with_reducible rfl⟩) (by assumption) ?_
            simp only [List.setIfInBounds_toArray, List.set_cons_zero, List.set_cons_succ]
            refine take_at (i := 62) (d := 198) (v := ?_) rfl rfl (by kernel_rfl) (by kernel_rfl) (by kernel_rfl) (fun _ _ _ h => h) (Or.inl ⟨by rfl, by intro w' hSw; (try dsimp only at hSw); go_simp; try with_reducible rfl⟩) (by assumption) ?_
            simp only [List.setIfInBounds_toArray, List.set_cons_zero, List.set_cons_succ]
            refine take_at (i := 63) (d := 199) (v := ?_) rfl rfl (by kernel_rfl) (by kernel_rfl) (by kernel_rfl) (fun _ _ _ h => h) (Or.inl ⟨by rfl, by intro w' hSw; (try dsimp only at hSw); go_simp; try with_reducible rfl⟩) (by assumption) ?_
            simp only [List.setIfInBounds_toArray, List.set_cons_zero, List.set_cons_succ]
            refine take_at (i := 64) (d := 200) (v := ?_) rfl rfl (by kernel_rfl) (by kernel_rfl) (by kernel_rfl) (fun _ _ _ h => h) (Or.inl ⟨by rfl, by intro w' hSw; (try dsimp only at hSw); go_simp; try with_reducible rfl⟩) (by assumption) ?_
            simp only [List.setIfInBounds_toArray, List.set_cons_zero, List.set_cons_succ]
            refine take_at (i := 65) (d := 201) (v := ?_) rfl rfl (by kernel_rfl) (by kernel_rfl) (by kernel_rfl) (fun _ _ _ h => h) (Or.inl ⟨by rfl, by intro w' hSw; (try dsimp only at hSw); go_simp; try with_reducible rfl⟩) (by assumption) ?_
            simp only [List.setIfInBounds_toArray, List.set_cons_zero, List.set_cons_succ]
            refine take_at (i := 66) (d := 202) (v := ?_) rfl rfl (by kernel_rfl) (by kernel_rfl) (by kernel_rfl) (fun _ _ _ h => h) (Or.inl ⟨by rfl, by intro w' hSw; (try dsimp only at hSw); go_simp; try with_reducible rfl⟩) (by assumption) ?_
            simp only [List.setIfInBounds_toArray, List.set_cons_zero, List.set_cons_succ]
            refine take_at (i := 67) (d := 203) (v := ?_) rfl rfl (by kernel_rfl) (by kernel_rfl) (by kernel_rfl) (fun _ _ _ h => h) (Or.inl ⟨by rfl, by intro w' hSw; (try dsimp only at hSw); go_simp; try with_reducible rfl⟩) (by assumption) ?_
            simp only [List.setIfInBounds_toArray, List.set_cons_zero, List.set_cons_succ]
            refine take_at (i := 68) (d := 204) (v := ?_) rfl rfl (by kernel_rfl) (by kernel_rfl) (by kernel_rfl) (fun _ _ _ h => h) (Or.inl ⟨by rfl, by intro w' hSw; (try dsimp only at hSw); go_simp; try with_reducible rfl⟩) (by assumption) ?_
            simp only [List.setIfInBounds_toArray, List.set_cons_zero, List.set_cons_succ]
            refine take_at (i := 69) (d := 205) (v := ?_) rfl rfl (by kernel_rfl) (by kernel_rfl) (by kernel_rfl) (fun _ _ _ h => h) (Or.inl ⟨by rfl, by intro w' hSw; (try dsimp only at hSw); go_simp; try with_reducible rfl⟩) (by assumption) ?_
            simp only [List.setIfInBounds_toArray, List.set_cons_zero, List.set_cons_succ]
            refine take_at (i := 70) (d := 206) (v := ?_) rfl rfl (by kernel_rfl) (by kernel_rfl) (by kernel_rfl) (fun _ _ _ h => h) (Or.inl ⟨by rfl, by intro w' hSw; (try dsimp only at hSw); go_simp; try with_reducible rfl⟩) (by assumption) ?_
            simp only [List.setIfInBounds_toArray, List.set_cons_zero, List.set_cons_succ]
            refine wpAnyH_done (by kernel_rfl) ?_ _
            clear hHeld x0 x1 x2 x3 x4 x6 k1 k2 k3 k4 k5 k6 k7
            have HTcd := Lib.hid (HTB2.out _ _ HTc.out (below_drew wc))
            have HScd := Lib.hid (HSc.out.below (below_drew wc))
            go_wp2
            go_roundw
            case rel => exact ⟨u + 1, HUL.out, by go_num, by rw [HL1.out]; go_num, HTcd.out, HScd.out⟩
            case measure => simpa [intOf] using HES.out u HUL.out
          · by_cases hk34 : v.k = 3 ∨ v.k = 4
            · obtain ⟨id, t1, t2, t3, t4, t5⟩ := HCT.out hk34
              obtain ⟨s0c, sfc⟩ := HSA.out.cell id (by have := HPL.out; have := HC4.out; omega)
              rw [t3] at s0c
              have HT4 := Lib.hid t4
              have HSN := Lib.hid (HSA.out.set (f' := fun j => stX (plK evs (u + 1)) j) id (by have := HPL.out; have := HC4.out; omega) (v.k - 2) (fun j hj => t5 j))
              have i0 : (0 : Int) ≤ (id : Int) := by omega
              have i1 : (id : Int) < (p0 : Int) := by omega
              have i2 : (id : Int) < 500 := by omega
              have i3 : ¬ (p0 : Int) ≤ (id : Int) := by omega
              rw [t1] at k5
              clear t1 t2 t3 t4 t5 hk2 HLK HCT HLS HOS
              rcases hk34 with hk | hk
              · rw [hk] at k0 HSN
                clear hk
                have HSN2 : Hid (SA (wz.setCell ⟨N, id, none⟩ (.int .i64 1)) N 53 500 (fun j => stX (plK evs (u + 1)) j)) := Lib.hid HSN.out
                go_wp2
                go_roundw
                case rel => exact ⟨u + 1, HUL.out, by go_num, by rw [HT4.out], HTS.out _ _ _ HTZ.out, HSN2.out⟩
                case measure => simpa [intOf] using HES.out u HUL.out
              · rw [hk] at k0 HSN
                clear hk
                have HSN2 : Hid (SA (wz.setCell ⟨N, id, none⟩ (.int .i64 2)) N 53 500 (fun j => stX (plK evs (u + 1)) j)) := Lib.hid HSN.out
                go_wp2
                go_roundw
                case rel => exact ⟨u + 1, HUL.out, by go_num, by rw [HT4.out], HTS.out _ _ _ HTZ.out, HSN2.out⟩
                case measure => simpa [intOf] using HES.out u HUL.out
            · have hk3 : v.k ≠ 3 := fun e => hk34 (Or.inl e)
              have hk4 : v.k ≠ 4 := fun e => hk34 (Or.inr e)
              have HO2 := Lib.hid (HOS.out hk2 hk3 hk4)
              clear hk34 HLK HCT HLS HOS
              go_wp2
              go_roundw
              case rel => exact ⟨u + 1, HUL.out, by go_num, by rw [HO2.out, HP0.out], HTZ.out, by rw [HO2.out]; exact HSA.out⟩
              case measure => simpa [intOf] using HES.out u HUL.out
        · obtain rfl : u = le := by omega
          rw [HALL.out, ← HC4.out.1]
          rw [HALL.out] at HSA
          have hc1 : (c0 : Int) ≤ 400 := by have := HC4.out; omega
          have hc2 : (0 : Int) ≤ (c0 : Int) := by omega
          clear hul hu HPL
          go_wp2_with fail
          go_loopw [19] (fun i wy => ∃ p : Nat, p ≤ c0 ∧ i = .int .i64 p ∧ TB wy ∧ SA wy N 53 500 (fun j => stX s.l j)) (fun i _ => c0 - (intOf i).toNat)
          case atStart => exact ⟨0, Nat.zero_le _, rfl, HTZ.out, HSA.out⟩
          case round => as_aux_lemma =>
            obtain ⟨p, hp, rfl, hty, hsy⟩ := hrel
            rename World => wy
            have HTY := Lib.hid hty
            have HSY := Lib.hid hsy
            clear hty hsy HTZ HSA
            obtain ⟨Sba, va, hda⟩ := HTD.out _ HTY.out
            have HESC := Lib.hid (ledger_escrow hda (p : Int))
            clear hda
            by_cases hpm : p < c0
            · have p0 : (0 : Int) ≤ (p : Int) := by omega
              have p1 : (p : Int) < (c0 : Int) := by omega
              have p2 : (p : Int) < 500 := by omega
              have HXS := Lib.hid (stX_get s.l p (by rw [← HC4.out.1]; exact hpm))
              have HPM := Lib.hid hpm
              clear hpm hp
              go_wp2_with fail
              refine HESC.out.mono ?_
              rintro e wb ⟨rfl, hbb⟩
              generalize getX s.l (p : Int) = x at *
              generalize idB s.l (p : Int) = ib at *
              unfold XR.cells
              go_upto_region 45 with fail
              obtain ⟨X, hX⟩ : ∃ X, X = wb.heap.size := ⟨_, rfl⟩
              obtain ⟨wc, hwc⟩ : ∃ wc, wc = wb.alloc (.cells #[.int .i64 x.f, .int .i64 x.t, .int .i64 x.a, .int .i64 x.n, .int .i64 x.d, .int .i64 x.s, .string x.h, .string x.x] 57) := ⟨_, rfl⟩
              rw [← hwc, ← hX]
              have hbc : Below wb.heap.size wb wc := by rw [hwc]; exact (Below.refl _ _).alloc (Nat.le_refl _) _
              have hxc : wc.heap[X]? = some (.cells x.cells 57 (0, 0)) := by rw [hwc, hX]; exact heap_alloc_new _ _
              have HTc := Lib.hid (HTB2.out _ _ (HTB2.out _ _ HTY.out hbb) (hbc.trans (below_drew wc |>.mono hbc.size)))
              have HSc := Lib.hid ((HSY.out.below hbb).below (hbc.trans (below_drew wc |>.mono hbc.size)))
              obtain ⟨_, _, _, _, _, x5, _⟩ := X_cells hxc
              rw [HXS.out] at x5
              obtain ⟨s5, _⟩ := ((HSY.out.below hbb).below hbc).cell p (by omega)
              generalize stX s.l p = sp at *
              clear hwc hX hbc hxc hbb HTY HSY HESC HXS
              refine wp_region_held_drew (S := fun w' => w'.cell? ⟨X, 5, none⟩ = some (.int .i64 sp) ∧ w'.cell? ⟨N, p, none⟩ = some (.int .i64 sp)) (by kernel_rfl) ?_ (fun hHeld => ?_)
              · exact ⟨x5, s5⟩
              refine take_at (i := 0) (d := 257) (v := ?_) rfl rfl (by kernel_rfl) (by kernel_rfl) (by kernel_rfl) (fun _ _ _ h => h) (Or.inl ⟨by rfl, by intro w' hSw; (try dsimp only at hSw); go_simp; try with_reducible rfl⟩) (by assumption) ?_
              simp only [List.setIfInBounds_toArray, List.set_cons_zero, List.set_cons_succ]
              refine take_at (i := 1) (d := 258) (v := ?_) rfl rfl (by kernel_rfl) (by kernel_rfl) (by kernel_rfl) (fun _ _ _ h => h) (Or.inl ⟨by rfl, by intro w' hSw; (try dsimp only at hSw); go_simp; try with_reducible rfl⟩) (by assumption) ?_
              simp only [List.setIfInBounds_toArray, List.set_cons_zero, List.set_cons_succ]
              refine take_at (i := 2) (d := 259) (v := ?_) rfl rfl (by kernel_rfl) (by kernel_rfl) (by kernel_rfl) (fun _ _ _ h => h) (Or.inl ⟨by rfl, by intro w' hSw; (try dsimp only at hSw); go_simp; try with_reducible rfl⟩) (by assumption) ?_
              simp only [List.setIfInBounds_toArray, List.set_cons_zero, List.set_cons_succ]
              refine take_at (i := 3) (d := 260) (v := ?_) rfl rfl (by kernel_rfl) (by kernel_rfl) (by kernel_rfl) (fun _ _ _ h => h) (Or.inl ⟨by rfl, by intro w' hSw; (try dsimp only at hSw); go_simp; try with_reducible rfl⟩) (by assumption) ?_
              simp only [List.setIfInBounds_toArray, List.set_cons_zero, List.set_cons_succ]
              refine take_at (i := 4) (d := 261) (v := ?_) rfl rfl (by kernel_rfl) (by kernel_rfl) (by kernel_rfl) (fun _ _ _ h => h) (Or.inl ⟨by rfl, by intro w' hSw; (try dsimp only at hSw); go_simp; try with_reducible rfl⟩) (by assumption) ?_
              simp only [List.setIfInBounds_toArray, List.set_cons_zero, List.set_cons_succ]
              refine take_at (i := 5) (d := 262) (v := ?_) rfl rfl (by kernel_rfl) (by kernel_rfl) (by kernel_rfl) (fun _ _ _ h => h) (Or.inl ⟨by rfl, by intro w' hSw; (try dsimp only at hSw); go_simp; try with_reducible rfl⟩) (by assumption) ?_
              simp only [List.setIfInBounds_toArray, List.set_cons_zero, List.set_cons_succ]
              refine wpAnyH_done (by kernel_rfl) ?_ _
              clear hHeld x5 s5
              go_wp2
              go_roundw
              case rel => exact ⟨p + 1, HPM.out, by go_num, HTc.out, HSc.out⟩
              case measure => simpa [intOf] using HCS.out p HPM.out
            · obtain rfl : p = c0 := by omega
              have HIB : Hid (idB s.l (p : Int) = false) := Lib.hid (by unfold idB; rw [decide_eq_false_iff_not]; have := HC4.out.1; omega)
              rw [HIB.out] at HESC
              clear hpm hp
              go_wp2_with fail
              refine HESC.out.mono ?_
              rintro e wb ⟨rfl, hbb⟩
              generalize getX s.l (p : Int) = x at *
              unfold XR.cells
              go_upto_region 48 with fail
              have hbc : Below wb.heap.size wb (wb.alloc (.cells #[.int .i64 x.f, .int .i64 x.t, .int .i64 x.a, .int .i64 x.n, .int .i64 x.d, .int .i64 x.s, .string x.h, .string x.x] 57)) := (Below.refl _ _).alloc (Nat.le_refl _) _
              generalize wb.alloc (.cells #[.int .i64 x.f, .int .i64 x.t, .int .i64 x.a, .int .i64 x.n, .int .i64 x.d, .int .i64 x.s, .string x.h, .string x.x] 57) = wc at *
              have HBc := Lib.hid (HTL.out _ (HTB2.out _ _ (HTB2.out _ _ HTY.out hbb) hbc))
              clear hbb hbc HESC HTY HSY
              go_wp2_with fail
              refine (HOUT.out wc HBc.out).mono ?_
              rintro e w9 ⟨rfl, hb9⟩
              have HB9 := Lib.hid hb9
              clear hb9
              go_wp2
              go_ret
              exact ⟨rfl, HB9.out⟩

end Go.Proofs.YtkaciaehlibidaaGreat
