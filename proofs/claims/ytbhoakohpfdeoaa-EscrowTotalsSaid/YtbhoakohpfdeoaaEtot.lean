/- EscrowTotals: the walk. -/
import Derived.Test.YtbhoakohpfdeoaaEtot0
import Derived.Deep.CutBlock
namespace Go.Proofs.Ytbhoakohpfdeoaa
open Go.RowKit
set_option linter.unusedVariables false
set_option linter.unusedSimpArgs false

/-- One operation's answer, as a walk needs it. -/
def StepOK (k e : Int) (l l' : List XR) (id : Int) : Prop := idB l id = true → idB l' id = true ∧ ((k > 0 ∧ e ≠ 0) ∨ (atX l id).s ≠ 0 → atX l' id = atX l id)

set_option maxRecDepth 100000 in
set_option maxHeartbeats 8000000 in
theorem walk_escrowTotals (W : World) (ao : Option Addr) (bs : List ISl) (n cap : Nat) (hn : bs.length = n) (h : IntsList W ao bs) (hcap : n ≤ cap) (hcm : cap ≤ maxLen)
    (bo : Option Addr) (rs : List OX) (r rcap : Nat) (hr : rs.length = r) (h2 : OxsAt W bo rs) (hrc : r ≤ rcap) (hrm : rcap ≤ maxLen) :
    Calls Try.prog 5 #[.slice ao n cap, .slice bo r rcap] W fun e w' => e = .returned (.bool true) ∧ Below W.heap.size W w' := by
  have HOUT : Hid (∀ w1, Below W.heap.size W w1 → Calls Try.prog 23 #[] w1 fun e w' => e = .returned (.bool true) ∧ Below W.heap.size W w') := Lib.hid (fun w1 h1 => (first10_any w1).mono (fun e w' h => ⟨h.1, below_step h1 h.2⟩))
  have HFE := Lib.hid (fun w1 (hb : Below W.heap.size W w1) => few9_any ao bs n cap w1 hn (h.below hb) hcap hcm)
  have HFT := Lib.hid (fun w1 (hb : Below W.heap.size W w1) => few10_any bo rs r rcap w1 hr (h2.below hb) hrc hrm)
  have HI := Lib.hid h
  have HO := Lib.hid h2
  have HN := Lib.hid hn
  have HR := Lib.hid hr
  clear h h2 hcap hcm hrc hrm
  cases hf : fewB (bs.map (fun o => o.zs.length)) 100 1000
  case false =>
    rw [hf] at HFE
    clear hf
    go_enter Try.func5, Try.ntmps5
    go_wp2_with fail
    refine (HOUT.out W (Below.refl _ _)).mono ?_
    rintro e w1 ⟨rfl, hb1⟩
    have HB1 := Lib.hid hb1
    clear hb1
    go_wp2_with fail
    refine (HFE.out w1 HB1.out).mono ?_
    rintro e w2 ⟨rfl, rfl⟩
    go_wp2_with fail
    refine (HOUT.out w1 HB1.out).mono ?_
    rintro e w2 ⟨rfl, hb2⟩
    have HB2 := Lib.hid hb2
    clear hb2
    go_wp2
    go_ret
    exact ⟨rfl, HB2.out⟩
  rw [hf] at HFE
  cases hf2 : fewB (rs.map (fun o => o.h.size)) 200 20000
  case false =>
    rw [hf2] at HFT
    clear hf hf2
    go_enter Try.func5, Try.ntmps5
    go_wp2_with fail
    refine (HOUT.out W (Below.refl _ _)).mono ?_
    rintro e w1 ⟨rfl, hb1⟩
    have HB1 := Lib.hid hb1
    clear hb1
    go_wp2_with fail
    refine (HFE.out w1 HB1.out).mono ?_
    rintro e w2 ⟨rfl, rfl⟩
    go_wp2_with fail
    refine (HFT.out w1 HB1.out).mono ?_
    rintro e w2 ⟨rfl, rfl⟩
    go_wp2_with fail
    refine (HOUT.out w1 HB1.out).mono ?_
    rintro e w2 ⟨rfl, hb2⟩
    have HB2 := Lib.hid hb2
    clear hb2
    go_wp2
    go_ret
    exact ⟨rfl, HB2.out⟩
  rw [hf2] at HFT
  have HRL : Hid (r ≤ 200) := Lib.hid (by have := (few_facts _ _ _ hf2).1; rw [List.length_map, hr] at this; exact this)
  clear hf hf2 hr
  cases hm : mayF bs
  case false =>
    have HM := Lib.hid hm
    clear hm
    go_enter Try.func5, Try.ntmps5
    go_wp2_with fail
    refine (HOUT.out W (Below.refl _ _)).mono ?_
    rintro e w1 ⟨rfl, hb1⟩
    have HB1 := Lib.hid hb1
    clear hb1
    go_wp2_with fail
    refine (HFE.out w1 HB1.out).mono ?_
    rintro e w2 ⟨rfl, rfl⟩
    go_wp2_with fail
    refine (HFT.out w1 HB1.out).mono ?_
    rintro e w2 ⟨rfl, rfl⟩
    go_wp2_with fail
    refine (made_no ao bs n cap w1 HN.out (HI.out.below HB1.out) HM.out).mono ?_
    rintro e w2 ⟨rfl, hb2⟩
    have HB2 := Lib.hid (below_step HB1.out hb2)
    clear hb2
    go_wp2_with fail
    refine (HOUT.out w2 HB2.out).mono ?_
    rintro e w3 ⟨rfl, hb3⟩
    have HB3 := Lib.hid hb3
    clear hb3
    go_wp2
    go_ret
    exact ⟨rfl, HB3.out⟩
  obtain ⟨hg, hall⟩ := mayF_good hm
  rw [hn] at hg
  obtain ⟨m, hmm⟩ : ∃ m, m = (bs.getD 0 default).zs.length := ⟨_, rfl⟩
  rw [← hmm] at hg hall
  have HALL := Lib.hid hall
  have HG := Lib.hid hg
  have HNEW := Lib.hid (fun w1 (hb : Below W.heap.size W w1) => made_yes ao bs n cap m w1 hn (h := HI.out.below hb) hm hmm.symm)
  obtain ⟨b0, hb0⟩ : ∃ b0, b0 = balOf bs := ⟨_, rfl⟩
  rw [← hb0] at hg HNEW HG
  have HB0 := Lib.hid hb0
  have hn0 : ¬ n = 0 := by have := hg.n2; omega
  have h0b : 0 < bs.length := by rw [hn]; omega
  obtain ⟨sb, soff, rfl, hxx⟩ := il_cell HI.out 0 h0b
  clear hxx
  have HC0 : Hid (∀ w', Below W.heap.size W w' → w'.cell? ⟨sb, soff, none⟩ = some (.slice bs[0].ao m bs[0].cap)) := Lib.hid (fun w' hb => by
    obtain ⟨_, _, he, hc⟩ := il_cell (HI.out.below hb) 0 h0b
    simp only [Option.some.injEq, Addr.mk.injEq, and_true] at he
    obtain ⟨rfl, rfl⟩ := he
    rw [Nat.add_zero] at hc
    have : bs[0].zs.length = m := by rw [hmm]; simp [List.getD, h0b]
    rw [this] at hc
    exact hc)
  have hnz : ((n : Int) == 0) = false := by simp [hn0]
  generalize bs[0].ao = fa at *
  generalize bs[0].cap = fc at *
  clear hn hm hmm hg hb0 hall hn0 h0b
  go_enter Try.func5, Try.ntmps5
  go_wp2_with fail
  refine (HOUT.out W (Below.refl _ _)).mono ?_
  rintro e w1 ⟨rfl, hb1⟩
  have HB1 := Lib.hid hb1
  clear hb1
  go_wp2_with fail
  refine (HFE.out w1 HB1.out).mono ?_
  rintro e w2 ⟨rfl, rfl⟩
  go_wp2_with fail
  refine (HFT.out w1 HB1.out).mono ?_
  rintro e w2 ⟨rfl, rfl⟩
  go_wp2_with fail
  refine (HNEW.out w1 HB1.out).mono ?_
  rintro e w2 ⟨S0, B, tb, q, rfl, he⟩
  have HE0 := Lib.hid (he.from_ HB1.out)
  clear he HB1 HNEW HFE HFT
  go_wp2_with fail
  refine (HE0.out.purse).mono ?_
  rintro e w3 ⟨rfl, rfl⟩
  go_wp2_with fail
  go_loopw [6] (fun i wr => ∃ j : Nat, j ≤ r ∧ i = .int .i64 j ∧ ∃ S b l, EB S W wr n m b l (fun j => tot b0 j n) B tb q ∧ l.length ≤ j) (fun i _ => r - (intOf i).toNat)
  case atStart => exact ⟨0, by omega, rfl, S0, b0, [], HE0.out, by simp⟩
  case round =>
    obtain ⟨j, hj, rfl, S, b, l, he, hlj⟩ := hrel
    have HE := Lib.hid he
    have HLJ := Lib.hid hlj
    clear he hlj HE0
    by_cases hlt : j < r
    case neg =>
      obtain rfl : j = r := by omega
      go_wp2_with fail
      refine (HOUT.out _ HE.out.bel).mono ?_
      rintro e w3 ⟨rfl, hb3⟩
      have HB3 := Lib.hid hb3
      clear hb3
      go_wp2
      go_ret
      exact ⟨rfl, HB3.out⟩
    have b0' : (0 : Int) ≤ (j : Int) := by omega
    have b1' : (j : Int) < (r : Int) := by omega
    have hjr : j < rs.length := by rw [HR.out]; exact hlt
    obtain ⟨ob, off, rfl, c0, c1, c2, c3, c4, c5, c6, c7, c8, c9, c10⟩ := (HO.out.below HE.out.bel).at_ j hjr
    generalize rs[j] = o at *
    obtain ⟨k, who, tt, a, x, id, d, ck, hs, kn, sd⟩ := o
    dsimp only at *
    go_upto_region 12 with fail
    obtain ⟨o, ho⟩ : ∃ o : OX, o = ⟨k, who, tt, a, x, id, d, ck, hs, kn, sd⟩ := ⟨_, rfl⟩
    obtain ⟨O, hO⟩ : ∃ O, O = wr.heap.size := ⟨_, rfl⟩
    obtain ⟨w1, hw1⟩ : ∃ w1, w1 = wr.alloc (.cells #[.int .i64 k, .int .i64 who, .int .i64 tt, .int .i64 a, .int .i64 x, .int .i64 id, .int .i64 d, .int .i64 ck, .string hs, .bool kn, .int .u8 sd] 52) := ⟨_, rfl⟩
    rw [← hw1, ← hO]
    have hb1 : Below wr.heap.size wr w1 := by rw [hw1]; exact (Below.refl _ _).alloc (Nat.le_refl _) _
    have HO1 : Hid (OBox w1 O o) := Lib.hid (by rw [hw1, hO, ho]; exact heap_alloc_new _ _)
    have HE1 := Lib.hid (HE.out.below hb1)
    have HSO : Hid (¬ S O) := Lib.hid (fun hh => by have := HE.out.lt O hh; omega)
    clear hw1 hb1 HE c0 c1 c2 c3 c4 c5 c6 c7 c8 c9 c10 hO
    obtain ⟨d0, d1, d2, d3, d4, d5, d6, d7, d8, d9, d10⟩ := HO1.out.cells
    have HTX := Lib.hid (text_any o)
    unfold OX.cells at HTX
    rw [ho] at d0 d1 d2 d3 d4 d5 d6 d7 d8 d9 d10
    generalize textX o = tx at *
    have HGET := Lib.hid (HE1.out.get id)
    obtain ⟨v, hv⟩ : ∃ v, v = getX l id := ⟨_, rfl⟩
    obtain ⟨had, hhad⟩ : ∃ had, had = idB l id := ⟨_, rfl⟩
    rw [← hv, ← hhad] at HGET
    have HV := Lib.hid hv
    have HHAD := Lib.hid hhad
    have HOO := Lib.hid ho
    rw [ho] at HTX
    dsimp only at d0 d1 d2 d3 d4 d5 d6 d7 d8 d9 d10 HTX
    clear hv hhad ho
    go_wp2_with fail
    refine HGET.out.mono ?_
    rintro e w2 ⟨rfl, hb2⟩
    have HE2 := Lib.hid (HE1.out.below hb2)
    have HO2 : Hid (OBox w2 O o) := Lib.hid ((hb2.block O (blk_lt HO1.out)).trans HO1.out)
    clear hb2 HE1 HO1 HGET d0 d1 d2 d3 d4 d5 d6 d7 d8 d9 d10
    unfold XR.cells
    go_upto_region 13 with fail
    obtain ⟨V, hV⟩ : ∃ V, V = w2.heap.size := ⟨_, rfl⟩
    obtain ⟨w3, hw3⟩ : ∃ w3, w3 = w2.alloc (.cells #[.int .i64 v.f, .int .i64 v.t, .int .i64 v.a, .int .i64 v.n, .int .i64 v.d, .int .i64 v.s, .string v.h, .string v.x] 54) := ⟨_, rfl⟩
    rw [← hw3, ← hV]
    have hb3 : Below w2.heap.size w2 w3 := by rw [hw3]; exact (Below.refl _ _).alloc (Nat.le_refl _) _
    have HE3 := Lib.hid (HE2.out.below hb3)
    have HX3 : Hid (Boxes S w3 O V o v) := Lib.hid ⟨(hb3.block O (blk_lt HO2.out)).trans HO2.out, by rw [hw3, hV]; exact heap_alloc_new _ _, HSO.out, fun hh => by have := HE2.out.lt V hh; omega⟩
    have hOV : O < V := by rw [hV]; exact blk_lt HO2.out
    clear hw3 hb3 hV HE2 HO2 HSO
    obtain ⟨d0, d1, d2, d3, d4, d5, d6, d7, d8, d9, d10⟩ := HX3.out.1.cells
    obtain ⟨v0, v1, v2, v3, v4, v5, v6, v7⟩ := HX3.out.2.1.cells
    rw [HOO.out] at d0 d1 d2 d3 d4 d5 d6 d7 d8 d9 d10
    dsimp only at d0 d1 d2 d3 d4 d5 d6 d7 d8 d9 d10
    go_upto_block 2 with fail
    go_cut [10] (fun s wx => ∃ e S' b' l', s = .int .i64 e ∧ EB S' W wx n m b' l' (fun j => tot b0 j n) B tb q ∧ l'.length ≤ j + 1 ∧ Boxes S' wx O V o v ∧ StepOK k e l l' id)
    case first => as_aux_lemma =>
      by_cases hk0 : k = 0
      · subst hk0
        have HSK : Hid (∀ l', (idB l id = true → idB l' id = true ∧ atX l' id = atX l id) → StepOK 0 0 l l' id) := Lib.hid (fun l' h hh => ⟨(h hh).1, fun _ => (h hh).2⟩)
        go_upto_region 16 with fail
        refine wp_region_held_drew (S := fun w' => w'.cell? ⟨O, 0, none⟩ = some (.int .i64 0) ∧ w'.cell? ⟨O, 1, none⟩ = some (.int .i64 who) ∧ w'.cell? ⟨O, 2, none⟩ = some (.int .i64 tt) ∧ w'.cell? ⟨O, 3, none⟩ = some (.int .i64 a) ∧ w'.cell? ⟨O, 4, none⟩ = some (.int .i64 x) ∧ w'.cell? ⟨O, 5, none⟩ = some (.int .i64 id) ∧ w'.cell? ⟨O, 6, none⟩ = some (.int .i64 d) ∧ w'.cell? ⟨O, 7, none⟩ = some (.int .i64 ck) ∧ w'.cell? ⟨O, 8, none⟩ = some (.string hs) ∧ w'.cell? ⟨O, 9, none⟩ = some (.bool kn) ∧ w'.cell? ⟨O, 10, none⟩ = some (.int .u8 sd)) (by kernel_rfl) ?_ (fun hHeld => ?_)
        · exact ⟨d0, d1, d2, d3, d4, d5, d6, d7, d8, d9, d10⟩
        refine take_at (i := 0) (d := 63) (v := ?_) rfl rfl (by kernel_rfl) (by kernel_rfl) (by kernel_rfl) (fun _ _ _ h => h) (Or.inl ⟨by rfl, by intro w' hSw; (try dsimp only at hSw); go_simp; try with_reducible rfl⟩) (by assumption) ?_
        simp only [List.setIfInBounds_toArray, List.set_cons_zero, List.set_cons_succ]
        refine take_at (i := 1) (d := 64) (v := ?_) rfl rfl (by kernel_rfl) (by kernel_rfl) (by kernel_rfl) (fun _ _ _ h => h) (Or.inl ⟨by rfl, by intro w' hSw; (try dsimp only at hSw); go_simp; try with_reducible rfl⟩) (by assumption) ?_
        simp only [List.setIfInBounds_toArray, List.set_cons_zero, List.set_cons_succ]
        refine take_at (i := 2) (d := 65) (v := ?_) rfl rfl (by kernel_rfl) (by kernel_rfl) (by kernel_rfl) (fun _ _ _ h => h) (Or.inl ⟨by rfl, by intro w' hSw; (try dsimp only at hSw); go_simp; try with_reducible rfl⟩) (by assumption) ?_
        simp only [List.setIfInBounds_toArray, List.set_cons_zero, List.set_cons_succ]
        refine take_at (i := 3) (d := 66) (v := ?_) rfl rfl (by kernel_rfl) (by kernel_rfl) (by kernel_rfl) (fun _ _ _ h => h) (Or.inl ⟨by rfl, by intro w' hSw; (try dsimp only at hSw); go_simp; try with_reducible rfl⟩) (by assumption) ?_
        simp only [List.setIfInBounds_toArray, List.set_cons_zero, List.set_cons_succ]
        refine take_at (i := 4) (d := 67) (v := ?_) rfl rfl (by kernel_rfl) (by kernel_rfl) (by kernel_rfl) (fun _ _ _ h => h) (Or.inl ⟨by rfl, by intro w' hSw; (try dsimp only at hSw); go_simp; try with_reducible rfl⟩) (by assumption) ?_
        simp only [List.setIfInBounds_toArray, List.set_cons_zero, List.set_cons_succ]
        refine take_at (i := 5) (d := 68) (v := ?_) rfl rfl (by kernel_rfl) (by kernel_rfl) (by kernel_rfl) (fun _ _ _ h => h) (Or.inl ⟨by rfl, by intro w' hSw; (try dsimp only at hSw); go_simp; try with_reducible rfl⟩) (by assumption) ?_
        simp only [List.setIfInBounds_toArray, List.set_cons_zero, List.set_cons_succ]
        refine take_at (i := 6) (d := 69) (v := ?_) rfl rfl (by kernel_rfl) (by kernel_rfl) (by kernel_rfl) (fun _ _ _ h => h) (Or.inl ⟨by rfl, by intro w' hSw; (try dsimp only at hSw); go_simp; try with_reducible rfl⟩) (by assumption) ?_
        simp only [List.setIfInBounds_toArray, List.set_cons_zero, List.set_cons_succ]
        refine take_at (i := 7) (d := 70) (v := ?_) rfl rfl (by kernel_rfl) (by kernel_rfl) (by kernel_rfl) (fun _ _ _ h => h) (Or.inl ⟨by rfl, by intro w' hSw; (try dsimp only at hSw); go_simp; try with_reducible rfl⟩) (by assumption) ?_
        simp only [List.setIfInBounds_toArray, List.set_cons_zero, List.set_cons_succ]
        refine take_at (i := 8) (d := 71) (v := ?_) rfl rfl (by kernel_rfl) (by kernel_rfl) (by kernel_rfl) (fun _ _ _ h => h) (Or.inl ⟨by rfl, by intro w' hSw; (try dsimp only at hSw); go_simp; try with_reducible rfl⟩) (by assumption) ?_
        simp only [List.setIfInBounds_toArray, List.set_cons_zero, List.set_cons_succ]
        refine take_at (i := 9) (d := 72) (v := ?_) rfl rfl (by kernel_rfl) (by kernel_rfl) (by kernel_rfl) (fun _ _ _ h => h) (Or.inl ⟨by rfl, by intro w' hSw; (try dsimp only at hSw); go_simp; try with_reducible rfl⟩) (by assumption) ?_
        simp only [List.setIfInBounds_toArray, List.set_cons_zero, List.set_cons_succ]
        refine take_at (i := 11) (d := 74) (v := ?_) rfl rfl (by kernel_rfl) (by kernel_rfl) (by kernel_rfl) (fun _ _ _ h => h) (Or.inl ⟨by rfl, by intro w' hSw; (try dsimp only at hSw); go_simp; try with_reducible rfl⟩) (by assumption) ?_
        simp only [List.setIfInBounds_toArray, List.set_cons_zero, List.set_cons_succ]
        refine take_at (i := 12) (d := 75) (v := ?_) rfl rfl (by kernel_rfl) (by kernel_rfl) (by kernel_rfl) (fun _ _ _ h => h) (Or.inl ⟨by rfl, by intro w' hSw; (try dsimp only at hSw); go_simp; try with_reducible rfl⟩) (by assumption) ?_
        simp only [List.setIfInBounds_toArray, List.set_cons_zero, List.set_cons_succ]
        refine take_at (i := 13) (d := 76) (v := ?_) rfl rfl (by kernel_rfl) (by kernel_rfl) (by kernel_rfl) (fun _ _ _ h => h) (Or.inl ⟨by rfl, by intro w' hSw; (try dsimp only at hSw); go_simp; try with_reducible rfl⟩) (by assumption) ?_
        simp only [List.setIfInBounds_toArray, List.set_cons_zero, List.set_cons_succ]
        refine take_at (i := 14) (d := 77) (v := ?_) rfl rfl (by kernel_rfl) (by kernel_rfl) (by kernel_rfl) (fun _ _ _ h => h) (Or.inl ⟨by rfl, by intro w' hSw; (try dsimp only at hSw); go_simp; try with_reducible rfl⟩) (by assumption) ?_
        simp only [List.setIfInBounds_toArray, List.set_cons_zero, List.set_cons_succ]
        refine wpAnyH_ready (rs := [10]) (by kernel_rfl) (by simp) ?_
        refine AllReadyH.cons rfl (fun K hK => ?_) AllReadyH.nil
        go_simp
        refine (HTX.out _).mono ?_
        rintro e w4 ⟨rfl, hb⟩
        have hb := below_undrew hb
        have HE4 := Lib.hid (HE3.out.below hb)
        have HX4 := Lib.hid (HX3.out.below hb)
        clear hb
        clear d0 d1 d2 d3 d4 d5 d6 d7 d8 d9 d10
        obtain ⟨d0, d1, d2, d3, d4, d5, d6, d7, d8, d9, d10⟩ := HX4.out.1.cells
        rw [HOO.out] at d0 d1 d2 d3 d4 d5 d6 d7 d8 d9 d10
        dsimp only at d0 d1 d2 d3 d4 d5 d6 d7 d8 d9 d10
        dsimp only
        go_wp2_with fail
        refine hK.out _ _ ?_ (fun hHeld => ?_)
        · exact ⟨d0, d1, d2, d3, d4, d5, d6, d7, d8, d9, d10⟩
        clear hK K
        try simp only [Act.put, List.getElem_toArray, List.getElem_cons_succ, List.getElem_cons_zero]
        try simp only [List.setIfInBounds_toArray, List.set_cons_zero, List.set_cons_succ]
        refine wpAnyH_ready (rs := [15]) (by kernel_rfl) (by simp) ?_
        refine AllReadyH.cons rfl (fun K hK => ?_) AllReadyH.nil
        go_simp
        refine (HE4.out.lock (by have := HLJ.out; have := HRL.out; omega) who tt a x tx d ck).mono ?_
        rintro e w5 ⟨rfl, hp⟩
        obtain ⟨S5, he5, hx5⟩ := HX4.out.post hp
        have HE5 := Lib.hid he5
        have HX5 := Lib.hid hx5
        clear hp he5 hx5
        clear d0 d1 d2 d3 d4 d5 d6 d7 d8 d9 d10
        obtain ⟨d0, d1, d2, d3, d4, d5, d6, d7, d8, d9, d10⟩ := HX5.out.1.cells
        rw [HOO.out] at d0 d1 d2 d3 d4 d5 d6 d7 d8 d9 d10
        dsimp only at d0 d1 d2 d3 d4 d5 d6 d7 d8 d9 d10
        dsimp only
        go_wp2_with fail
        refine hK.out _ _ ?_ (fun hHeld => ?_)
        · exact ⟨d0, d1, d2, d3, d4, d5, d6, d7, d8, d9, d10⟩
        clear hK K
        try simp only [Act.put, List.getElem_toArray, List.getElem_cons_succ, List.getElem_cons_zero]
        try simp only [List.setIfInBounds_toArray, List.set_cons_zero, List.set_cons_succ]
        refine wpAnyH_done (by kernel_rfl) ?_ _
        clear hHeld
        go_wp2_with fail
        go_meet
        case rel => exact ⟨0, S5, _, _, rfl, HE5.out, by have := lock_len (n := n) (m := m) (b := b) (l := l) who tt a x d ck tx; have := HLJ.out; omega, HX5.out, HSK.out _ (fun hh => lock_same hh _ _ _ _ _ _ _)⟩
      by_cases hk1 : k = 1
      · subst hk1
        obtain ⟨ce, hce⟩ : ∃ ce, ce = claimE n m b l who id tx ck := ⟨_, rfl⟩
        have HCE := Lib.hid hce
        have HSK : Hid (StepOK 1 ce l (claimL n m b l who id tx ck) id) := Lib.hid (fun hh => by rw [hce]; exact ⟨(claim_same hh who ck tx).1, fun h => (claim_same hh who ck tx).2 (h.imp (fun h => h.2) (fun h => h))⟩)
        clear hk0 hce
        go_upto_region 18 with fail
        refine wp_region_held_drew (S := fun w' => w'.cell? ⟨O, 0, none⟩ = some (.int .i64 1) ∧ w'.cell? ⟨O, 1, none⟩ = some (.int .i64 who) ∧ w'.cell? ⟨O, 2, none⟩ = some (.int .i64 tt) ∧ w'.cell? ⟨O, 3, none⟩ = some (.int .i64 a) ∧ w'.cell? ⟨O, 4, none⟩ = some (.int .i64 x) ∧ w'.cell? ⟨O, 5, none⟩ = some (.int .i64 id) ∧ w'.cell? ⟨O, 6, none⟩ = some (.int .i64 d) ∧ w'.cell? ⟨O, 7, none⟩ = some (.int .i64 ck) ∧ w'.cell? ⟨O, 8, none⟩ = some (.string hs) ∧ w'.cell? ⟨O, 9, none⟩ = some (.bool kn) ∧ w'.cell? ⟨O, 10, none⟩ = some (.int .u8 sd)) (by kernel_rfl) ?_ (fun hHeld => ?_)
        · exact ⟨d0, d1, d2, d3, d4, d5, d6, d7, d8, d9, d10⟩
        refine take_at (i := 0) (d := 81) (v := ?_) rfl rfl (by kernel_rfl) (by kernel_rfl) (by kernel_rfl) (fun _ _ _ h => h) (Or.inl ⟨by rfl, by intro w' hSw; (try dsimp only at hSw); go_simp; try with_reducible rfl⟩) (by assumption) ?_
        simp only [List.setIfInBounds_toArray, List.set_cons_zero, List.set_cons_succ]
        refine take_at (i := 1) (d := 82) (v := ?_) rfl rfl (by kernel_rfl) (by kernel_rfl) (by kernel_rfl) (fun _ _ _ h => h) (Or.inl ⟨by rfl, by intro w' hSw; (try dsimp only at hSw); go_simp; try with_reducible rfl⟩) (by assumption) ?_
        simp only [List.setIfInBounds_toArray, List.set_cons_zero, List.set_cons_succ]
        refine take_at (i := 2) (d := 83) (v := ?_) rfl rfl (by kernel_rfl) (by kernel_rfl) (by kernel_rfl) (fun _ _ _ h => h) (Or.inl ⟨by rfl, by intro w' hSw; (try dsimp only at hSw); go_simp; try with_reducible rfl⟩) (by assumption) ?_
        simp only [List.setIfInBounds_toArray, List.set_cons_zero, List.set_cons_succ]
        refine take_at (i := 3) (d := 84) (v := ?_) rfl rfl (by kernel_rfl) (by kernel_rfl) (by kernel_rfl) (fun _ _ _ h => h) (Or.inl ⟨by rfl, by intro w' hSw; (try dsimp only at hSw); go_simp; try with_reducible rfl⟩) (by assumption) ?_
        simp only [List.setIfInBounds_toArray, List.set_cons_zero, List.set_cons_succ]
        refine take_at (i := 4) (d := 85) (v := ?_) rfl rfl (by kernel_rfl) (by kernel_rfl) (by kernel_rfl) (fun _ _ _ h => h) (Or.inl ⟨by rfl, by intro w' hSw; (try dsimp only at hSw); go_simp; try with_reducible rfl⟩) (by assumption) ?_
        simp only [List.setIfInBounds_toArray, List.set_cons_zero, List.set_cons_succ]
        refine take_at (i := 5) (d := 86) (v := ?_) rfl rfl (by kernel_rfl) (by kernel_rfl) (by kernel_rfl) (fun _ _ _ h => h) (Or.inl ⟨by rfl, by intro w' hSw; (try dsimp only at hSw); go_simp; try with_reducible rfl⟩) (by assumption) ?_
        simp only [List.setIfInBounds_toArray, List.set_cons_zero, List.set_cons_succ]
        refine take_at (i := 7) (d := 88) (v := ?_) rfl rfl (by kernel_rfl) (by kernel_rfl) (by kernel_rfl) (fun _ _ _ h => h) (Or.inl ⟨by rfl, by intro w' hSw; (try dsimp only at hSw); go_simp; try with_reducible rfl⟩) (by assumption) ?_
        simp only [List.setIfInBounds_toArray, List.set_cons_zero, List.set_cons_succ]
        refine take_at (i := 8) (d := 89) (v := ?_) rfl rfl (by kernel_rfl) (by kernel_rfl) (by kernel_rfl) (fun _ _ _ h => h) (Or.inl ⟨by rfl, by intro w' hSw; (try dsimp only at hSw); go_simp; try with_reducible rfl⟩) (by assumption) ?_
        simp only [List.setIfInBounds_toArray, List.set_cons_zero, List.set_cons_succ]
        refine wpAnyH_ready (rs := [6]) (by kernel_rfl) (by simp) ?_
        refine AllReadyH.cons rfl (fun K hK => ?_) AllReadyH.nil
        go_simp
        refine (HTX.out _).mono ?_
        rintro e w4 ⟨rfl, hb⟩
        have hb := below_undrew hb
        have HE4 := Lib.hid (HE3.out.below hb)
        have HX4 := Lib.hid (HX3.out.below hb)
        clear hb
        clear d0 d1 d2 d3 d4 d5 d6 d7 d8 d9 d10
        obtain ⟨d0, d1, d2, d3, d4, d5, d6, d7, d8, d9, d10⟩ := HX4.out.1.cells
        rw [HOO.out] at d0 d1 d2 d3 d4 d5 d6 d7 d8 d9 d10
        dsimp only at d0 d1 d2 d3 d4 d5 d6 d7 d8 d9 d10
        dsimp only
        go_wp2_with fail
        refine hK.out _ _ ?_ (fun hHeld => ?_)
        · exact ⟨d0, d1, d2, d3, d4, d5, d6, d7, d8, d9, d10⟩
        clear hK K
        try simp only [Act.put, List.getElem_toArray, List.getElem_cons_succ, List.getElem_cons_zero]
        try simp only [List.setIfInBounds_toArray, List.set_cons_zero, List.set_cons_succ]
        refine wpAnyH_ready (rs := [9]) (by kernel_rfl) (by simp) ?_
        refine AllReadyH.cons rfl (fun K hK => ?_) AllReadyH.nil
        go_simp
        refine (HE4.out.claim who id tx ck).mono ?_
        rintro e w5 ⟨rfl, hp⟩
        rw [← HCE.out]
        obtain ⟨S5, he5, hx5⟩ := HX4.out.post hp
        have HE5 := Lib.hid he5
        have HX5 := Lib.hid hx5
        clear hp he5 hx5
        clear d0 d1 d2 d3 d4 d5 d6 d7 d8 d9 d10
        obtain ⟨d0, d1, d2, d3, d4, d5, d6, d7, d8, d9, d10⟩ := HX5.out.1.cells
        rw [HOO.out] at d0 d1 d2 d3 d4 d5 d6 d7 d8 d9 d10
        dsimp only at d0 d1 d2 d3 d4 d5 d6 d7 d8 d9 d10
        dsimp only
        go_wp2_with fail
        refine hK.out _ _ ?_ (fun hHeld => ?_)
        · exact ⟨d0, d1, d2, d3, d4, d5, d6, d7, d8, d9, d10⟩
        clear hK K
        try simp only [Act.put, List.getElem_toArray, List.getElem_cons_succ, List.getElem_cons_zero]
        try simp only [List.setIfInBounds_toArray, List.set_cons_zero, List.set_cons_succ]
        refine take_at (i := 10) (d := 10) (v := ?_) rfl rfl (by kernel_rfl) (by kernel_rfl) (by kernel_rfl) (fun _ _ _ h => h) (Or.inl ⟨by rfl, by intro w' hSw; (try dsimp only at hSw); go_simp; try with_reducible rfl⟩) (by assumption) ?_
        simp only [List.setIfInBounds_toArray, List.set_cons_zero, List.set_cons_succ]
        refine wpAnyH_done (by kernel_rfl) ?_ _
        clear hHeld
        have HLN : Hid ((claimL n m b l who id tx ck).length ≤ j + 1) := Lib.hid (by rw [claim_len]; have := HLJ.out; omega)
        by_cases he0 : ce = 0
        case neg =>
          have heb : (ce == 0) = false := by simp [he0]
          clear he0
          go_upto_region 19 with fail
          refine wp_region_held_drew (S := fun w' => True) (by kernel_rfl) ?_ (fun hHeld => ?_)
          · trivial
          refine take_at (i := 0) (d := 91) (v := ?_) rfl rfl (by kernel_rfl) (by kernel_rfl) (by kernel_rfl) (fun _ _ _ h => h) (Or.inl ⟨by rfl, by intro w' hSw; (try dsimp only at hSw); go_simp; try with_reducible rfl⟩) (by assumption) ?_
          simp only [List.setIfInBounds_toArray, List.set_cons_zero, List.set_cons_succ]
          refine take_at (i := 1) (d := 92) (v := ?_) rfl rfl (by kernel_rfl) (by kernel_rfl) (by kernel_rfl) (fun _ _ _ h => h) (Or.inl ⟨by rfl, by intro w' hSw; (try dsimp only at hSw); go_simp; try with_reducible rfl⟩) (by assumption) ?_
          simp only [List.setIfInBounds_toArray, List.set_cons_zero, List.set_cons_succ]
          refine take_at (i := 2) (d := 93) (v := ?_) rfl rfl (by kernel_rfl) (by kernel_rfl) (by kernel_rfl) (fun _ _ _ h => h) (Or.inl ⟨by rfl, by intro w' hSw; (try dsimp only at hSw); go_simp; try with_reducible rfl⟩) (by assumption) ?_
          simp only [List.setIfInBounds_toArray, List.set_cons_zero, List.set_cons_succ]
          refine take_at (i := 3) (d := 94) (v := undef) rfl rfl (by kernel_rfl) (by kernel_rfl) (by kernel_rfl) (fun _ _ _ h => h) (Or.inr ⟨by rfl, rfl⟩) (by assumption) ?_
          simp only [List.setIfInBounds_toArray, List.set_cons_zero, List.set_cons_succ]
          refine take_at (i := 4) (d := 95) (v := undef) rfl rfl (by kernel_rfl) (by kernel_rfl) (by kernel_rfl) (fun _ _ _ h => h) (Or.inr ⟨by rfl, rfl⟩) (by assumption) ?_
          simp only [List.setIfInBounds_toArray, List.set_cons_zero, List.set_cons_succ]
          refine take_at (i := 5) (d := 96) (v := undef) rfl rfl (by kernel_rfl) (by kernel_rfl) (by kernel_rfl) (fun _ _ _ h => h) (Or.inr ⟨by rfl, rfl⟩) (by assumption) ?_
          simp only [List.setIfInBounds_toArray, List.set_cons_zero, List.set_cons_succ]
          refine take_at (i := 6) (d := 97) (v := undef) rfl rfl (by kernel_rfl) (by kernel_rfl) (by kernel_rfl) (fun _ _ _ h => h) (Or.inr ⟨by rfl, rfl⟩) (by assumption) ?_
          simp only [List.setIfInBounds_toArray, List.set_cons_zero, List.set_cons_succ]
          refine take_at (i := 7) (d := 98) (v := undef) rfl rfl (by kernel_rfl) (by kernel_rfl) (by kernel_rfl) (fun _ _ _ h => h) (Or.inr ⟨by rfl, rfl⟩) (by assumption) ?_
          simp only [List.setIfInBounds_toArray, List.set_cons_zero, List.set_cons_succ]
          refine take_at (i := 8) (d := 99) (v := undef) rfl rfl (by kernel_rfl) (by kernel_rfl) (by kernel_rfl) (fun _ _ _ h => h) (Or.inr ⟨by rfl, rfl⟩) (by assumption) ?_
          simp only [List.setIfInBounds_toArray, List.set_cons_zero, List.set_cons_succ]
          refine take_at (i := 9) (d := 100) (v := undef) rfl rfl (by kernel_rfl) (by kernel_rfl) (by kernel_rfl) (fun _ _ _ h => h) (Or.inr ⟨by rfl, rfl⟩) (by assumption) ?_
          simp only [List.setIfInBounds_toArray, List.set_cons_zero, List.set_cons_succ]
          refine take_at (i := 10) (d := 101) (v := undef) rfl rfl (by kernel_rfl) (by kernel_rfl) (by kernel_rfl) (fun _ _ _ h => h) (Or.inr ⟨by rfl, rfl⟩) (by assumption) ?_
          simp only [List.setIfInBounds_toArray, List.set_cons_zero, List.set_cons_succ]
          refine take_at (i := 11) (d := 102) (v := undef) rfl rfl (by kernel_rfl) (by kernel_rfl) (by kernel_rfl) (fun _ _ _ h => h) (Or.inr ⟨by rfl, rfl⟩) (by assumption) ?_
          simp only [List.setIfInBounds_toArray, List.set_cons_zero, List.set_cons_succ]
          refine take_at (i := 12) (d := 103) (v := undef) rfl rfl (by kernel_rfl) (by kernel_rfl) (by kernel_rfl) (fun _ _ _ h => h) (Or.inr ⟨by rfl, rfl⟩) (by assumption) ?_
          simp only [List.setIfInBounds_toArray, List.set_cons_zero, List.set_cons_succ]
          refine take_at (i := 13) (d := 104) (v := undef) rfl rfl (by kernel_rfl) (by kernel_rfl) (by kernel_rfl) (fun _ _ _ h => h) (Or.inr ⟨by rfl, rfl⟩) (by assumption) ?_
          simp only [List.setIfInBounds_toArray, List.set_cons_zero, List.set_cons_succ]
          refine take_at (i := 14) (d := 105) (v := undef) rfl rfl (by kernel_rfl) (by kernel_rfl) (by kernel_rfl) (fun _ _ _ h => h) (Or.inr ⟨by rfl, rfl⟩) (by assumption) ?_
          simp only [List.setIfInBounds_toArray, List.set_cons_zero, List.set_cons_succ]
          refine take_at (i := 15) (d := 106) (v := undef) rfl rfl (by kernel_rfl) (by kernel_rfl) (by kernel_rfl) (fun _ _ _ h => h) (Or.inr ⟨by rfl, rfl⟩) (by assumption) ?_
          simp only [List.setIfInBounds_toArray, List.set_cons_zero, List.set_cons_succ]
          refine take_at (i := 16) (d := 107) (v := undef) rfl rfl (by kernel_rfl) (by kernel_rfl) (by kernel_rfl) (fun _ _ _ h => h) (Or.inr ⟨by rfl, rfl⟩) (by assumption) ?_
          simp only [List.setIfInBounds_toArray, List.set_cons_zero, List.set_cons_succ]
          refine take_at (i := 17) (d := 108) (v := undef) rfl rfl (by kernel_rfl) (by kernel_rfl) (by kernel_rfl) (fun _ _ _ h => h) (Or.inr ⟨by rfl, rfl⟩) (by assumption) ?_
          simp only [List.setIfInBounds_toArray, List.set_cons_zero, List.set_cons_succ]
          refine take_at (i := 18) (d := 109) (v := undef) rfl rfl (by kernel_rfl) (by kernel_rfl) (by kernel_rfl) (fun _ _ _ h => h) (Or.inr ⟨by rfl, rfl⟩) (by assumption) ?_
          simp only [List.setIfInBounds_toArray, List.set_cons_zero, List.set_cons_succ]
          refine take_at (i := 19) (d := 110) (v := undef) rfl rfl (by kernel_rfl) (by kernel_rfl) (by kernel_rfl) (fun _ _ _ h => h) (Or.inr ⟨by rfl, rfl⟩) (by assumption) ?_
          simp only [List.setIfInBounds_toArray, List.set_cons_zero, List.set_cons_succ]
          refine take_at (i := 20) (d := 111) (v := undef) rfl rfl (by kernel_rfl) (by kernel_rfl) (by kernel_rfl) (fun _ _ _ h => h) (Or.inr ⟨by rfl, rfl⟩) (by assumption) ?_
          simp only [List.setIfInBounds_toArray, List.set_cons_zero, List.set_cons_succ]
          refine take_at (i := 21) (d := 112) (v := undef) rfl rfl (by kernel_rfl) (by kernel_rfl) (by kernel_rfl) (fun _ _ _ h => h) (Or.inr ⟨by rfl, rfl⟩) (by assumption) ?_
          simp only [List.setIfInBounds_toArray, List.set_cons_zero, List.set_cons_succ]
          refine take_at (i := 22) (d := 113) (v := undef) rfl rfl (by kernel_rfl) (by kernel_rfl) (by kernel_rfl) (fun _ _ _ h => h) (Or.inr ⟨by rfl, rfl⟩) (by assumption) ?_
          simp only [List.setIfInBounds_toArray, List.set_cons_zero, List.set_cons_succ]
          refine take_at (i := 23) (d := 114) (v := undef) rfl rfl (by kernel_rfl) (by kernel_rfl) (by kernel_rfl) (fun _ _ _ h => h) (Or.inr ⟨by rfl, rfl⟩) (by assumption) ?_
          simp only [List.setIfInBounds_toArray, List.set_cons_zero, List.set_cons_succ]
          refine take_at (i := 24) (d := 115) (v := undef) rfl rfl (by kernel_rfl) (by kernel_rfl) (by kernel_rfl) (fun _ _ _ h => h) (Or.inr ⟨by rfl, rfl⟩) (by assumption) ?_
          simp only [List.setIfInBounds_toArray, List.set_cons_zero, List.set_cons_succ]
          refine take_at (i := 25) (d := 116) (v := undef) rfl rfl (by kernel_rfl) (by kernel_rfl) (by kernel_rfl) (fun _ _ _ h => h) (Or.inr ⟨by rfl, rfl⟩) (by assumption) ?_
          simp only [List.setIfInBounds_toArray, List.set_cons_zero, List.set_cons_succ]
          refine take_at (i := 26) (d := 117) (v := undef) rfl rfl (by kernel_rfl) (by kernel_rfl) (by kernel_rfl) (fun _ _ _ h => h) (Or.inr ⟨by rfl, rfl⟩) (by assumption) ?_
          simp only [List.setIfInBounds_toArray, List.set_cons_zero, List.set_cons_succ]
          refine take_at (i := 27) (d := 118) (v := undef) rfl rfl (by kernel_rfl) (by kernel_rfl) (by kernel_rfl) (fun _ _ _ h => h) (Or.inr ⟨by rfl, rfl⟩) (by assumption) ?_
          simp only [List.setIfInBounds_toArray, List.set_cons_zero, List.set_cons_succ]
          refine take_at (i := 28) (d := 119) (v := undef) rfl rfl (by kernel_rfl) (by kernel_rfl) (by kernel_rfl) (fun _ _ _ h => h) (Or.inr ⟨by rfl, rfl⟩) (by assumption) ?_
          simp only [List.setIfInBounds_toArray, List.set_cons_zero, List.set_cons_succ]
          refine take_at (i := 29) (d := 120) (v := undef) rfl rfl (by kernel_rfl) (by kernel_rfl) (by kernel_rfl) (fun _ _ _ h => h) (Or.inr ⟨by rfl, rfl⟩) (by assumption) ?_
          simp only [List.setIfInBounds_toArray, List.set_cons_zero, List.set_cons_succ]
          refine take_at (i := 30) (d := 121) (v := undef) rfl rfl (by kernel_rfl) (by kernel_rfl) (by kernel_rfl) (fun _ _ _ h => h) (Or.inr ⟨by rfl, rfl⟩) (by assumption) ?_
          simp only [List.setIfInBounds_toArray, List.set_cons_zero, List.set_cons_succ]
          refine take_at (i := 31) (d := 122) (v := undef) rfl rfl (by kernel_rfl) (by kernel_rfl) (by kernel_rfl) (fun _ _ _ h => h) (Or.inr ⟨by rfl, rfl⟩) (by assumption) ?_
          simp only [List.setIfInBounds_toArray, List.set_cons_zero, List.set_cons_succ]
          refine take_at (i := 32) (d := 123) (v := undef) rfl rfl (by kernel_rfl) (by kernel_rfl) (by kernel_rfl) (fun _ _ _ h => h) (Or.inr ⟨by rfl, rfl⟩) (by assumption) ?_
          simp only [List.setIfInBounds_toArray, List.set_cons_zero, List.set_cons_succ]
          refine take_at (i := 33) (d := 124) (v := undef) rfl rfl (by kernel_rfl) (by kernel_rfl) (by kernel_rfl) (fun _ _ _ h => h) (Or.inr ⟨by rfl, rfl⟩) (by assumption) ?_
          simp only [List.setIfInBounds_toArray, List.set_cons_zero, List.set_cons_succ]
          refine take_at (i := 34) (d := 125) (v := ?_) rfl rfl (by kernel_rfl) (by kernel_rfl) (by kernel_rfl) (fun _ _ _ h => h) (Or.inl ⟨by rfl, by intro w' hSw; (try dsimp only at hSw); go_simp; try with_reducible rfl⟩) (by assumption) ?_
          simp only [List.setIfInBounds_toArray, List.set_cons_zero, List.set_cons_succ]
          refine wpAnyH_done (by kernel_rfl) ?_ _
          go_wp2_with fail
          go_meet
          case rel => exact ⟨ce, S5, _, _, rfl, HE5.out.below (below_drew _), HLN.out, HX5.out.below (below_drew _), HSK.out⟩
        obtain ⟨z1, z2, z3, z4, z5, z6, z7⟩ := claimE_zero (HCE.out.symm.trans he0)
        subst he0
        have HVE : Hid (v = atX l id) := Lib.hid (by rw [HV.out]; unfold getX; rw [if_pos z1])
        rw [← HVE.out] at z2 z3 z4 z6
        have hht : had = true := by rw [HHAD.out]; exact z1
        subst hht
        have z4 := z4.2
        clear z1 z7 HVE v0 v1 v2 v3 v4 v5 v6 v7
        obtain ⟨vf, vt, va, vn, vd, vs, vh, vx⟩ := v
        dsimp only at z2 z3 z4 z6
        subst z3 z6
        obtain rfl : vt = who := z2.symm
        obtain ⟨v0, v1, v2, v3, v4, v5, v6, v7⟩ := HX5.out.2.1.cells
        dsimp only at v0 v1 v2 v3 v4 v5 v6 v7
        have kc := fun (w : World) (s : ByteArray) => Lib.run_convert_string_bytes (P := Try.prog) w 9 29 5 s Try.underlying9 Try.underlying29 Try.underlying5
        have HSZ := Lib.hid z5
        clear z5
        have z4n : ¬ vd ≤ ck := by omega
        go_upto_region 19 with fail
        refine wp_region_held_drew (S := fun w' => w'.cell? ⟨O, 0, none⟩ = some (.int .i64 1) ∧ w'.cell? ⟨O, 1, none⟩ = some (.int .i64 vt) ∧ w'.cell? ⟨O, 2, none⟩ = some (.int .i64 tt) ∧ w'.cell? ⟨O, 3, none⟩ = some (.int .i64 a) ∧ w'.cell? ⟨O, 4, none⟩ = some (.int .i64 x) ∧ w'.cell? ⟨O, 5, none⟩ = some (.int .i64 id) ∧ w'.cell? ⟨O, 6, none⟩ = some (.int .i64 d) ∧ w'.cell? ⟨O, 7, none⟩ = some (.int .i64 ck) ∧ w'.cell? ⟨O, 8, none⟩ = some (.string hs) ∧ w'.cell? ⟨O, 9, none⟩ = some (.bool kn) ∧ w'.cell? ⟨O, 10, none⟩ = some (.int .u8 sd) ∧ w'.cell? ⟨V, 1, none⟩ = some (.int .i64 vt) ∧ w'.cell? ⟨V, 4, none⟩ = some (.int .i64 vd) ∧ w'.cell? ⟨V, 5, none⟩ = some (.int .i64 0) ∧ w'.cell? ⟨V, 6, none⟩ = some (.string (shaS tx))) (by kernel_rfl) ?_ (fun hHeld => ?_)
        · exact ⟨d0, d1, d2, d3, d4, d5, d6, d7, d8, d9, d10, v1, v4, v5, v6⟩
        refine take_at (i := 0) (d := 91) (v := ?_) rfl rfl (by kernel_rfl) (by kernel_rfl) (by kernel_rfl) (fun _ _ _ h => h) (Or.inl ⟨by rfl, by intro w' hSw; (try dsimp only at hSw); go_simp; try with_reducible rfl⟩) (by assumption) ?_
        simp only [List.setIfInBounds_toArray, List.set_cons_zero, List.set_cons_succ]
        refine take_at (i := 1) (d := 92) (v := ?_) rfl rfl (by kernel_rfl) (by kernel_rfl) (by kernel_rfl) (fun _ _ _ h => h) (Or.inl ⟨by rfl, by intro w' hSw; (try dsimp only at hSw); go_simp; try with_reducible rfl⟩) (by assumption) ?_
        simp only [List.setIfInBounds_toArray, List.set_cons_zero, List.set_cons_succ]
        refine take_at (i := 2) (d := 93) (v := ?_) rfl rfl (by kernel_rfl) (by kernel_rfl) (by kernel_rfl) (fun _ _ _ h => h) (Or.inl ⟨by rfl, by intro w' hSw; (try dsimp only at hSw); go_simp; try with_reducible rfl⟩) (by assumption) ?_
        simp only [List.setIfInBounds_toArray, List.set_cons_zero, List.set_cons_succ]
        refine take_at (i := 3) (d := 94) (v := ?_) rfl rfl (by kernel_rfl) (by kernel_rfl) (by kernel_rfl) (fun _ _ _ h => h) (Or.inl ⟨by rfl, by intro w' hSw; (try dsimp only at hSw); go_simp; try with_reducible rfl⟩) (by assumption) ?_
        simp only [List.setIfInBounds_toArray, List.set_cons_zero, List.set_cons_succ]
        refine take_at (i := 4) (d := 95) (v := ?_) rfl rfl (by kernel_rfl) (by kernel_rfl) (by kernel_rfl) (fun _ _ _ h => h) (Or.inl ⟨by rfl, by intro w' hSw; (try dsimp only at hSw); go_simp; try with_reducible rfl⟩) (by assumption) ?_
        simp only [List.setIfInBounds_toArray, List.set_cons_zero, List.set_cons_succ]
        refine take_at (i := 5) (d := 96) (v := ?_) rfl rfl (by kernel_rfl) (by kernel_rfl) (by kernel_rfl) (fun _ _ _ h => h) (Or.inl ⟨by rfl, by intro w' hSw; (try dsimp only at hSw); go_simp; try with_reducible rfl⟩) (by assumption) ?_
        simp only [List.setIfInBounds_toArray, List.set_cons_zero, List.set_cons_succ]
        refine take_at (i := 6) (d := 97) (v := ?_) rfl rfl (by kernel_rfl) (by kernel_rfl) (by kernel_rfl) (fun _ _ _ h => h) (Or.inl ⟨by rfl, by intro w' hSw; (try dsimp only at hSw); go_simp; try with_reducible rfl⟩) (by assumption) ?_
        simp only [List.setIfInBounds_toArray, List.set_cons_zero, List.set_cons_succ]
        refine take_at (i := 7) (d := 98) (v := ?_) rfl rfl (by kernel_rfl) (by kernel_rfl) (by kernel_rfl) (fun _ _ _ h => h) (Or.inl ⟨by rfl, by intro w' hSw; (try dsimp only at hSw); go_simp; try with_reducible rfl⟩) (by assumption) ?_
        simp only [List.setIfInBounds_toArray, List.set_cons_zero, List.set_cons_succ]
        refine take_at (i := 8) (d := 99) (v := ?_) rfl rfl (by kernel_rfl) (by kernel_rfl) (by kernel_rfl) (fun _ _ _ h => h) (Or.inl ⟨by rfl, by intro w' hSw; (try dsimp only at hSw); go_simp; try with_reducible rfl⟩) (by assumption) ?_
        simp only [List.setIfInBounds_toArray, List.set_cons_zero, List.set_cons_succ]
        refine take_at (i := 9) (d := 100) (v := ?_) rfl rfl (by kernel_rfl) (by kernel_rfl) (by kernel_rfl) (fun _ _ _ h => h) (Or.inl ⟨by rfl, by intro w' hSw; (try dsimp only at hSw); go_simp; try with_reducible rfl⟩) (by assumption) ?_
        simp only [List.setIfInBounds_toArray, List.set_cons_zero, List.set_cons_succ]
        refine take_at (i := 10) (d := 101) (v := ?_) rfl rfl (by kernel_rfl) (by kernel_rfl) (by kernel_rfl) (fun _ _ _ h => h) (Or.inl ⟨by rfl, by intro w' hSw; (try dsimp only at hSw); go_simp; try with_reducible rfl⟩) (by assumption) ?_
        simp only [List.setIfInBounds_toArray, List.set_cons_zero, List.set_cons_succ]
        refine take_at (i := 11) (d := 102) (v := ?_) rfl rfl (by kernel_rfl) (by kernel_rfl) (by kernel_rfl) (fun _ _ _ h => h) (Or.inl ⟨by rfl, by intro w' hSw; (try dsimp only at hSw); go_simp; try with_reducible rfl⟩) (by assumption) ?_
        simp only [List.setIfInBounds_toArray, List.set_cons_zero, List.set_cons_succ]
        refine take_at (i := 12) (d := 103) (v := ?_) rfl rfl (by kernel_rfl) (by kernel_rfl) (by kernel_rfl) (fun _ _ _ h => h) (Or.inl ⟨by rfl, by intro w' hSw; (try dsimp only at hSw); go_simp; try with_reducible rfl⟩) (by assumption) ?_
        simp only [List.setIfInBounds_toArray, List.set_cons_zero, List.set_cons_succ]
        refine take_at (i := 13) (d := 104) (v := ?_) rfl rfl (by kernel_rfl) (by kernel_rfl) (by kernel_rfl) (fun _ _ _ h => h) (Or.inl ⟨by rfl, by intro w' hSw; (try dsimp only at hSw); go_simp; try with_reducible rfl⟩) (by assumption) ?_
        simp only [List.setIfInBounds_toArray, List.set_cons_zero, List.set_cons_succ]
        refine take_at (i := 14) (d := 105) (v := ?_) rfl rfl (by kernel_rfl) (by kernel_rfl) (by kernel_rfl) (fun _ _ _ h => h) (Or.inl ⟨by rfl, by intro w' hSw; (try dsimp only at hSw); go_simp; try with_reducible rfl⟩) (by assumption) ?_
        simp only [List.setIfInBounds_toArray, List.set_cons_zero, List.set_cons_succ]
        refine take_at (i := 15) (d := 106) (v := ?_) rfl rfl (by kernel_rfl) (by kernel_rfl) (by kernel_rfl) (fun _ _ _ h => h) (Or.inl ⟨by rfl, by intro w' hSw; (try dsimp only at hSw); go_simp; try with_reducible rfl⟩) (by assumption) ?_
        simp only [List.setIfInBounds_toArray, List.set_cons_zero, List.set_cons_succ]
        refine take_at (i := 16) (d := 107) (v := ?_) rfl rfl (by kernel_rfl) (by kernel_rfl) (by kernel_rfl) (fun _ _ _ h => h) (Or.inl ⟨by rfl, by intro w' hSw; (try dsimp only at hSw); go_simp; try with_reducible rfl⟩) (by assumption) ?_
        simp only [List.setIfInBounds_toArray, List.set_cons_zero, List.set_cons_succ]
        refine take_at (i := 17) (d := 108) (v := ?_) rfl rfl (by kernel_rfl) (by kernel_rfl) (by kernel_rfl) (fun _ _ _ h => h) (Or.inl ⟨by rfl, by intro w' hSw; (try dsimp only at hSw); go_simp; try with_reducible rfl⟩) (by assumption) ?_
        simp only [List.setIfInBounds_toArray, List.set_cons_zero, List.set_cons_succ]
        refine take_at (i := 18) (d := 109) (v := ?_) rfl rfl (by kernel_rfl) (by kernel_rfl) (by kernel_rfl) (fun _ _ _ h => h) (Or.inl ⟨by rfl, by intro w' hSw; (try dsimp only at hSw); go_simp; try with_reducible rfl⟩) (by assumption) ?_
        simp only [List.setIfInBounds_toArray, List.set_cons_zero, List.set_cons_succ]
        refine take_at (i := 19) (d := 110) (v := ?_) rfl rfl (by kernel_rfl) (by kernel_rfl) (by kernel_rfl) (fun _ _ _ h => h) (Or.inl ⟨by rfl, by intro w' hSw; (try dsimp only at hSw); go_simp; try with_reducible rfl⟩) (by assumption) ?_
        simp only [List.setIfInBounds_toArray, List.set_cons_zero, List.set_cons_succ]
        refine take_at (i := 20) (d := 111) (v := ?_) rfl rfl (by kernel_rfl) (by kernel_rfl) (by kernel_rfl) (fun _ _ _ h => h) (Or.inl ⟨by rfl, by intro w' hSw; (try dsimp only at hSw); go_simp; try with_reducible rfl⟩) (by assumption) ?_
        simp only [List.setIfInBounds_toArray, List.set_cons_zero, List.set_cons_succ]
        refine take_at (i := 21) (d := 112) (v := ?_) rfl rfl (by kernel_rfl) (by kernel_rfl) (by kernel_rfl) (fun _ _ _ h => h) (Or.inl ⟨by rfl, by intro w' hSw; (try dsimp only at hSw); go_simp; try with_reducible rfl⟩) (by assumption) ?_
        simp only [List.setIfInBounds_toArray, List.set_cons_zero, List.set_cons_succ]
        refine take_at (i := 22) (d := 113) (v := ?_) rfl rfl (by kernel_rfl) (by kernel_rfl) (by kernel_rfl) (fun _ _ _ h => h) (Or.inl ⟨by rfl, by intro w' hSw; (try dsimp only at hSw); go_simp; try with_reducible rfl⟩) (by assumption) ?_
        simp only [List.setIfInBounds_toArray, List.set_cons_zero, List.set_cons_succ]
        refine take_at (i := 23) (d := 114) (v := ?_) rfl rfl (by kernel_rfl) (by kernel_rfl) (by kernel_rfl) (fun _ _ _ h => h) (Or.inl ⟨by rfl, by intro w' hSw; (try dsimp only at hSw); go_simp; try with_reducible rfl⟩) (by assumption) ?_
        simp only [List.setIfInBounds_toArray, List.set_cons_zero, List.set_cons_succ]
        refine take_at (i := 24) (d := 115) (v := ?_) rfl rfl (by kernel_rfl) (by kernel_rfl) (by kernel_rfl) (fun _ _ _ h => h) (Or.inl ⟨by rfl, by intro w' hSw; (try dsimp only at hSw); go_simp; try with_reducible rfl⟩) (by assumption) ?_
        simp only [List.setIfInBounds_toArray, List.set_cons_zero, List.set_cons_succ]
        refine take_at (i := 25) (d := 116) (v := ?_) rfl rfl (by kernel_rfl) (by kernel_rfl) (by kernel_rfl) (fun _ _ _ h => h) (Or.inl ⟨by rfl, by intro w' hSw; (try dsimp only at hSw); go_simp; try with_reducible rfl⟩) (by assumption) ?_
        simp only [List.setIfInBounds_toArray, List.set_cons_zero, List.set_cons_succ]
        refine take_at (i := 30) (d := 121) (v := ?_) rfl rfl (by kernel_rfl) (by kernel_rfl) (by kernel_rfl) (fun _ _ _ h => h) (Or.inl ⟨by rfl, by intro w' hSw; (try dsimp only at hSw); go_simp; try with_reducible rfl⟩) (by assumption) ?_
        simp only [List.setIfInBounds_toArray, List.set_cons_zero, List.set_cons_succ]
        refine take_at (i := 31) (d := 122) (v := ?_) rfl rfl (by kernel_rfl) (by kernel_rfl) (by kernel_rfl) (fun _ _ _ h => h) (Or.inl ⟨by rfl, by intro w' hSw; (try dsimp only at hSw); go_simp; try with_reducible rfl⟩) (by assumption) ?_
        simp only [List.setIfInBounds_toArray, List.set_cons_zero, List.set_cons_succ]
        refine wpAnyH_ready (rs := [26]) (by kernel_rfl) (by simp) ?_
        refine AllReadyH.cons rfl (fun K hK => ?_) AllReadyH.nil
        go_simp
        refine (HTX.out _).mono ?_
        rintro e w6 ⟨rfl, hb⟩
        have hb := below_undrew hb
        have HE6 := Lib.hid (HE5.out.below hb)
        have HX6 := Lib.hid (HX5.out.below hb)
        clear hb
        clear d0 d1 d2 d3 d4 d5 d6 d7 d8 d9 d10 v0 v1 v2 v3 v4 v5 v6 v7
        obtain ⟨d0, d1, d2, d3, d4, d5, d6, d7, d8, d9, d10⟩ := HX6.out.1.cells
        rw [HOO.out] at d0 d1 d2 d3 d4 d5 d6 d7 d8 d9 d10
        dsimp only at d0 d1 d2 d3 d4 d5 d6 d7 d8 d9 d10
        obtain ⟨v0, v1, v2, v3, v4, v5, v6, v7⟩ := HX6.out.2.1.cells
        dsimp only at v0 v1 v2 v3 v4 v5 v6 v7
        dsimp only
        go_wp2_with fail
        refine hK.out _ _ ?_ (fun hHeld => ?_)
        · exact ⟨d0, d1, d2, d3, d4, d5, d6, d7, d8, d9, d10, v1, v4, v5, v6⟩
        clear hK K
        try simp only [Act.put, List.getElem_toArray, List.getElem_cons_succ, List.getElem_cons_zero]
        try simp only [List.setIfInBounds_toArray, List.set_cons_zero, List.set_cons_succ]
        refine wpAnyH_ready (rs := [27]) (by kernel_rfl) (by simp) ?_
        refine AllReadyH.cons rfl (fun K hK => ?_) AllReadyH.nil
        go_simp
        obtain ⟨w7, hw7⟩ : ∃ w7, w7 = Lib.bytesWorld w6 5 tx := ⟨_, rfl⟩
        have hb7 : Below w6.heap.size w6 w7 := by rw [hw7]; exact bytes_below w6 5 tx
        have HI7 : Hid (IntsAt .u8 w7 (some ⟨w6.heap.size, 0, none⟩) (strNums tx)) := Lib.hid (by rw [hw7]; exact bytes_ints w6 5 tx)
        rw [← hw7]
        have HE7 := Lib.hid (HE6.out.below hb7)
        have HX7 := Lib.hid (HX6.out.below hb7)
        have HHA := Lib.hid (fun c => rhash_any (some ⟨w6.heap.size, 0, none⟩) (strNums tx) tx.size c w7 (strNums_length _) HI7.out (strNums_in _) (by have := HSZ.out; omega))
        clear hw7 hb7
        clear d0 d1 d2 d3 d4 d5 d6 d7 d8 d9 d10 v0 v1 v2 v3 v4 v5 v6 v7
        obtain ⟨d0, d1, d2, d3, d4, d5, d6, d7, d8, d9, d10⟩ := HX7.out.1.cells
        rw [HOO.out] at d0 d1 d2 d3 d4 d5 d6 d7 d8 d9 d10
        dsimp only at d0 d1 d2 d3 d4 d5 d6 d7 d8 d9 d10
        obtain ⟨v0, v1, v2, v3, v4, v5, v6, v7⟩ := HX7.out.2.1.cells
        dsimp only at v0 v1 v2 v3 v4 v5 v6 v7
        go_wp2_with fail
        refine hK.out _ _ ?_ (fun hHeld => ?_)
        · exact ⟨d0, d1, d2, d3, d4, d5, d6, d7, d8, d9, d10, v1, v4, v5, v6⟩
        clear hK K
        try simp only [Act.put, List.getElem_toArray, List.getElem_cons_succ, List.getElem_cons_zero]
        try simp only [List.setIfInBounds_toArray, List.set_cons_zero, List.set_cons_succ]
        refine wpAnyH_ready (rs := [28]) (by kernel_rfl) (by simp) ?_
        refine AllReadyH.cons rfl (fun K hK => ?_) AllReadyH.nil
        go_simp
        refine (HHA.out _).mono ?_
        rintro e w8 ⟨a8, c8, rfl, hr8⟩
        have HE8 := Lib.hid (HE7.out.below hr8.2.1)
        have HX8 := Lib.hid (HX7.out.below hr8.2.1)
        have hcv := conv_u8 (P := Try.prog) (w := w8) c8 29 5 9 Try.underlying29 Try.underlying5 Try.underlying9 (owns_at hr8.1).2.1 rfl
        have hsS : strOfNums (shaF (strNums tx)) = shaS tx := rfl
        rw [hsS] at hcv
        clear hr8 hsS
        clear d0 d1 d2 d3 d4 d5 d6 d7 d8 d9 d10 v0 v1 v2 v3 v4 v5 v6 v7
        obtain ⟨d0, d1, d2, d3, d4, d5, d6, d7, d8, d9, d10⟩ := HX8.out.1.cells
        rw [HOO.out] at d0 d1 d2 d3 d4 d5 d6 d7 d8 d9 d10
        dsimp only at d0 d1 d2 d3 d4 d5 d6 d7 d8 d9 d10
        obtain ⟨v0, v1, v2, v3, v4, v5, v6, v7⟩ := HX8.out.2.1.cells
        dsimp only at v0 v1 v2 v3 v4 v5 v6 v7
        dsimp only
        go_wp2_with fail
        refine hK.out _ _ ?_ (fun hHeld => ?_)
        · exact ⟨d0, d1, d2, d3, d4, d5, d6, d7, d8, d9, d10, v1, v4, v5, v6⟩
        clear hK K
        try simp only [Act.put, List.getElem_toArray, List.getElem_cons_succ, List.getElem_cons_zero]
        try simp only [List.setIfInBounds_toArray, List.set_cons_zero, List.set_cons_succ]
        refine wpAnyH_ready (rs := [29]) (by kernel_rfl) (by simp) ?_
        refine AllReadyH.cons rfl (fun K hK => ?_) AllReadyH.nil
        go_simp
        skip
        go_wp2_with fail
        refine hK.out _ _ ?_ (fun hHeld => ?_)
        · exact ⟨d0, d1, d2, d3, d4, d5, d6, d7, d8, d9, d10, v1, v4, v5, v6⟩
        clear hK K
        try simp only [Act.put, List.getElem_toArray, List.getElem_cons_succ, List.getElem_cons_zero]
        try simp only [List.setIfInBounds_toArray, List.set_cons_zero, List.set_cons_succ]
        refine take_at (i := 32) (d := 123) (v := ?_) rfl rfl (by kernel_rfl) (by kernel_rfl) (by kernel_rfl) (fun _ _ _ h => h) (Or.inl ⟨by rfl, by intro w' hSw; (try dsimp only at hSw); go_simp; try with_reducible rfl⟩) (by assumption) ?_
        simp only [List.setIfInBounds_toArray, List.set_cons_zero, List.set_cons_succ]
        refine take_at (i := 33) (d := 124) (v := ?_) rfl rfl (by kernel_rfl) (by kernel_rfl) (by kernel_rfl) (fun _ _ _ h => h) (Or.inl ⟨by rfl, by intro w' hSw; (try dsimp only at hSw); go_simp; try with_reducible rfl⟩) (by assumption) ?_
        simp only [List.setIfInBounds_toArray, List.set_cons_zero, List.set_cons_succ]
        refine take_at (i := 34) (d := 125) (v := ?_) rfl rfl (by kernel_rfl) (by kernel_rfl) (by kernel_rfl) (fun _ _ _ h => h) (Or.inl ⟨by rfl, by intro w' hSw; (try dsimp only at hSw); go_simp; try with_reducible rfl⟩) (by assumption) ?_
        simp only [List.setIfInBounds_toArray, List.set_cons_zero, List.set_cons_succ]
        refine wpAnyH_done (by kernel_rfl) ?_ _
        clear hHeld
        go_wp2_with fail
        go_meet
        case rel => exact ⟨0, S5, _, _, rfl, HE8.out, HLN.out, HX8.out, HSK.out⟩
      by_cases hk2 : k = 2
      · subst hk2
        obtain ⟨re, hre⟩ : ∃ re, re = refundE n m b l who id ck := ⟨_, rfl⟩
        have HRE := Lib.hid hre
        have HSK : Hid (StepOK 2 re l (refundL n m b l who id ck) id) := Lib.hid (fun hh => by rw [hre]; exact ⟨(refund_same hh who ck).1, fun h => (refund_same hh who ck).2 (h.imp (fun h => h.2) (fun h => h))⟩)
        have HLN : Hid ((refundL n m b l who id ck).length ≤ j + 1) := Lib.hid (by rw [refund_len]; have := HLJ.out; omega)
        clear hk0 hk1 hre
        go_wp2_with fail
        refine (HE3.out.refund who id ck).mono ?_
        rintro e w5 ⟨rfl, hp⟩
        rw [← HRE.out]
        obtain ⟨S5, he5, hx5⟩ := HX3.out.post hp
        have HE5 := Lib.hid he5
        have HX5 := Lib.hid hx5
        clear hp he5 hx5
        clear d0 d1 d2 d3 d4 d5 d6 d7 d8 d9 d10
        obtain ⟨d0, d1, d2, d3, d4, d5, d6, d7, d8, d9, d10⟩ := HX5.out.1.cells
        rw [HOO.out] at d0 d1 d2 d3 d4 d5 d6 d7 d8 d9 d10
        dsimp only at d0 d1 d2 d3 d4 d5 d6 d7 d8 d9 d10
        clear v0 v1 v2 v3 v4 v5 v6 v7
        obtain ⟨v0, v1, v2, v3, v4, v5, v6, v7⟩ := HX5.out.2.1.cells
        by_cases he0 : re = 0
        case neg =>
          have heb : (re == 0) = false := by simp [he0]
          clear he0
          go_wp2_with fail
          go_meet
          case rel => exact ⟨re, S5, _, _, rfl, HE5.out, HLN.out, HX5.out, HSK.out⟩
        obtain ⟨z1, z2, z3, z4, z7⟩ := refundE_zero (HRE.out.symm.trans he0)
        subst he0
        have HVE : Hid (v = atX l id) := Lib.hid (by rw [HV.out]; unfold getX; rw [if_pos z1])
        rw [← HVE.out] at z2 z3 z4
        have hht : had = true := by rw [HHAD.out]; exact z1
        subst hht
        have z4 := z4.2
        clear z1 z7 HVE v0 v1 v2 v3 v4 v5 v6 v7
        obtain ⟨vf, vt, va, vn, vd, vs, vh, vx⟩ := v
        dsimp only at z2 z3 z4
        subst z3
        obtain rfl : vf = who := z2.symm
        obtain ⟨v0, v1, v2, v3, v4, v5, v6, v7⟩ := HX5.out.2.1.cells
        dsimp only at v0 v1 v2 v3 v4 v5 v6 v7
        go_wp2_with fail
        go_meet
        case rel => exact ⟨0, S5, _, _, rfl, HE5.out, HLN.out, HX5.out, HSK.out⟩
      have kb0 : (k == 0) = false := by simp [hk0]
      have kb1 : (k == 1) = false := by simp [hk1]
      have kb2 : (k == 2) = false := by simp [hk2]
      have HLN : Hid (l.length ≤ j + 1) := Lib.hid (by have := HLJ.out; omega)
      clear hk0 hk1 hk2
      go_wp2_with fail
      go_meet
      case rel => exact ⟨0, S, _, _, rfl, HE3.out, HLN.out, HX3.out, fun hh => ⟨hh, fun _ => rfl⟩⟩
    case rest =>
    obtain ⟨e, S5, b5, l5, rfl, he5, hl5, hx5, hs5⟩ := hcut
    have HE5 := Lib.hid he5
    have HL5 := Lib.hid hl5
    have HX5 := Lib.hid hx5
    have HS5 := Lib.hid hs5
    clear he5 hl5 hx5 hs5 HE3 HX3 d0 d1 d2 d3 d4 d5 d6 d7 d8 d9 d10 v0 v1 v2 v3 v4 v5 v6 v7 HTX
    obtain ⟨d0, _, _, _, _, d5, _⟩ := HX5.out.1.cells
    rw [HOO.out] at d0 d5
    dsimp only at d0 d5
    have HGET5 := Lib.hid (HE5.out.get id)
    obtain ⟨nw, hnw⟩ : ∃ nw, nw = getX l5 id := ⟨_, rfl⟩
    obtain ⟨has, hhas⟩ : ∃ has, has = idB l5 id := ⟨_, rfl⟩
    rw [← hnw, ← hhas] at HGET5
    have HFA : Hid (had = true → has = true ∧ ((k > 0 ∧ e ≠ 0) ∨ v.s ≠ 0 → nw = v)) := Lib.hid (fun hh => by
      have hl : idB l id = true := by rw [← HHAD.out]; exact hh
      obtain ⟨q1, q2⟩ := HS5.out hl
      have ev : v = atX l id := by rw [HV.out]; unfold getX; rw [if_pos hl]
      have en : nw = atX l5 id := by rw [hnw]; unfold getX; rw [if_pos q1]
      rw [ev, en]
      exact ⟨by rw [hhas]; exact q1, q2⟩)
    clear hnw hhas
    go_wp2_with fail
    refine HGET5.out.mono ?_
    rintro e6 w6 ⟨rfl, hb6⟩
    have HE6 := Lib.hid (HE5.out.below hb6)
    have HX6 := Lib.hid (HX5.out.below hb6)
    clear hb6 HE5 HX5 HGET5 d0 d5
    unfold XR.cells
    go_upto_region 26 with fail
    obtain ⟨N, hN⟩ : ∃ N, N = w6.heap.size := ⟨_, rfl⟩
    obtain ⟨w7, hw7⟩ : ∃ w7, w7 = w6.alloc (.cells #[.int .i64 nw.f, .int .i64 nw.t, .int .i64 nw.a, .int .i64 nw.n, .int .i64 nw.d, .int .i64 nw.s, .string nw.h, .string nw.x] 54) := ⟨_, rfl⟩
    rw [← hw7, ← hN]
    have hb7 : Below w6.heap.size w6 w7 := by rw [hw7]; exact (Below.refl _ _).alloc (Nat.le_refl _) _
    have HE7 := Lib.hid (HE6.out.below hb7)
    have HX7 := Lib.hid (HX6.out.below hb7)
    have HN7 : Hid (VBox w7 N nw) := Lib.hid (by rw [hw7, hN]; exact heap_alloc_new _ _)
    clear hw7 hb7 hN HE6 HX6
    go_cut [196] (fun s wx => s = .bool false ∧ wx = w7)
    case first => as_aux_lemma =>
      obtain ⟨d0, _⟩ := HX7.out.1.cells
      rw [HOO.out] at d0
      dsimp only at d0
      obtain ⟨v0, v1, v2, v3, v4, v5, v6, v7⟩ := HX7.out.2.1.cells
      cases had
      case false =>
        go_wp2_with fail
        go_meet
        case rel => exact ⟨rfl, rfl⟩
      obtain ⟨hht, hq⟩ := HFA.out rfl
      subst hht
      have HQ := Lib.hid hq
      clear hq
      by_cases hc : (k > 0 ∧ e ≠ 0) ∨ v.s ≠ 0
      case neg =>
        have hvs : v.s = 0 := by
          by_cases h : v.s = 0
          · exact h
          · exact absurd (Or.inr h) hc
        rw [hvs] at v5
        by_cases hk : 0 < k
        · have he : e = 0 := by
            by_cases h : e = 0
            · exact h
            · exact absurd (Or.inl ⟨hk, h⟩) hc
          subst he
          clear hc hvs
          go_wp2_with fail
          go_meet
          case rel => exact ⟨rfl, rfl⟩
        · clear hc hvs
          go_wp2_with fail
          go_meet
          case rel => exact ⟨rfl, rfl⟩
      have hnv := HQ.out hc
      subst hnv
      obtain ⟨n0, n1, n2, n3, n4, n5, n6, n7⟩ := HN7.out.cells
      clear HQ
      by_cases hk : 0 < k <;> by_cases he : (e != 0) = true <;> by_cases hvs : (nw.s != 0) = true <;>
      · try rw [Bool.not_eq_true] at he
        try rw [Bool.not_eq_true] at hvs
        clear hc
        go_wp2_with fail
        go_meet
        case rel => exact ⟨rfl, rfl⟩
    case rest =>
    obtain ⟨rfl, rfl⟩ := hcut
    rename World => w7
    have HMS : Hid (∀ p : Nat, p < m → m - (p + 1) < m - p) := Lib.hid (fun p h => by omega)
    have HNS : Hid (∀ p : Nat, p < n → n - (p + 1) < n - p) := Lib.hid (fun p h => by omega)
    have HRS : Hid (r - (j + 1) < r - j) := Lib.hid (by omega)
    have HN1 : Hid ((0 : Int) < (n : Int)) := Lib.hid (by have := HG.out.n2; omega)
    go_wp2_with fail
    go_loopw [13] (fun s wy => ∃ p : Nat, p ≤ m ∧ s = .int .i64 p ∧ EB S5 W wy n m b5 l5 (fun j => tot b0 j n) B tb q) (fun s _ => m - (intOf s).toNat)
    case atStart => exact ⟨0, Nat.zero_le _, rfl, HE7.out⟩
    case round => as_aux_lemma =>
      obtain ⟨p, hp, rfl, hey⟩ := hrel
      have HEY := Lib.hid hey
      have cz := HC0.out _ hey.bel
      have hm4 := HG.out.m4
      have hn1 := HN1.out
      clear hey
      by_cases hpm : p < m
      · have p0 : (0 : Int) ≤ (p : Int) := by omega
        have p1 : (p : Int) < (m : Int) := by omega
        have p2 : (p : Int) < 4 := by omega
        have HPM := Lib.hid hpm
        clear hpm hm4
        go_wp2_with fail
        go_loopw [14, 15] (fun v i wz => ∃ u : Nat, u ≤ n ∧ i = .int .i64 u ∧ v = .int .i64 (tot b0 p u) ∧ EB S5 W wz n m b5 l5 (fun j => tot b0 j n) B tb q) (fun _ i _ => n - (intOf i).toNat)
        case atStart => exact ⟨0, Nat.zero_le _, rfl, rfl, HEY.out⟩
        case round => as_aux_lemma =>
          obtain ⟨u, hu, rfl, rfl, hez⟩ := hrel
          rename World => wz
          have hn16 := HG.out.n16
          have HEZ := Lib.hid hez
          by_cases hun : u < n
          · have hub : u < bs.length := by rw [HN.out]; exact hun
            obtain ⟨b', off', he', hcell⟩ := il_cell (HI.out.below hez.bel) u hub
            simp only [Option.some.injEq, Addr.mk.injEq, and_true] at he'
            obtain ⟨rfl, rfl⟩ := he'
            have hin := (il_ok (HI.out.below hez.bel) u hub).1
            have hxl := HALL.out u hub
            have hBp : bs[u].zs.getD p 0 = b0 u p := by rw [HB0.out]; simp [balOf, List.getD, hub]
            rw [hxl] at hcell
            generalize bs[u] = y at *
            obtain ⟨xb, xoff, hxa, hxc⟩ : ∃ xb xoff, y.ao = some ⟨xb, xoff, none⟩ ∧ wz.cell? ⟨xb, xoff + p, none⟩ = some (.int .i64 (b0 u p)) := by
              have hpm := HPM.out
              rcases hin with h | ⟨xb, xoff, h1, h2⟩
              · rw [h] at hxl; simp at hxl; omega
              · exact ⟨xb, xoff, h1, by rw [h2 p (by omega), hBp]⟩
            rw [hxa] at hcell
            have HS : Hid (tot b0 p (u + 1) = tot b0 p u + b0 u p) := Lib.hid rfl
            have t1 := tot_nonneg (b := b0) (j := p) (n := u) (fun i hi => HG.out.pos i (by omega) p HPM.out)
            have t2 := tot_mono (b := b0) (j := p) (n := n) (fun i hi => HG.out.pos i hi p HPM.out) (k := u + 1) (by omega)
            have t3 := HG.out.sum p HPM.out
            have t4 := HG.out.pos u hun p HPM.out
            rw [HS.out] at t2
            have t5 : 0 ≤ tot b0 p u + b0 u p ∧ tot b0 p u + b0 u p ≤ 4611686018427387904 := ⟨by omega, by omega⟩
            obtain ⟨t5, t6⟩ := t5
            have j0 : (0 : Int) ≤ (u : Int) := by omega
            have j1 : (u : Int) < (n : Int) := by omega
            clear hin hxl hxa hBp hez t2 t3
            generalize b0 u p = z at *
            generalize tot b0 p u = t0 at *
            go_wp2
            go_roundw
            case rel => exact ⟨u + 1, by omega, by go_num, by rw [HS.out], HEZ.out⟩
            case measure => simpa [intOf] using HNS.out u hun
          · obtain rfl : u = n := by omega
            have HTT : Hid (allX u m b5 l5 (p : Int) = tot b0 p u) := Lib.hid ((hez.inv.bound p).2.2 p rfl HPM.out)
            clear hez hun
            go_wp2_with fail
            refine (HEZ.out.total p).mono ?_
            rintro e8 w8 ⟨rfl, hb8⟩
            rw [HTT.out]
            have HEW := Lib.hid (HEZ.out.below hb8)
            clear hb8
            generalize tot b0 p u = t0 at *
            go_wp2
            go_roundw
            case rel => exact ⟨p + 1, by have := HPM.out; omega, by go_num, HEW.out⟩
            case measure => simpa [intOf] using HMS.out p HPM.out
      · obtain rfl : p = m := by omega
        clear hpm hm4
        have hr200 := HRL.out
        go_wp2
        go_roundw
        case rel => exact ⟨j + 1, by omega, by go_num, S5, b5, l5, HEY.out, HL5.out⟩
        case measure => simpa [intOf] using HRS.out

end Go.Proofs.Ytbhoakohpfdeoaa
