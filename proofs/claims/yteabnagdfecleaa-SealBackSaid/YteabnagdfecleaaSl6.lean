/- The reference's OpenNote. -/
import Derived.Test.YteabnagdfecleaaSl5
namespace Go.Proofs.Yteabnagdfecleaa
open Go.RowKit
set_option linter.unusedVariables false
set_option linter.unusedSimpArgs false

/-- What the reference's OpenNote hands back. -/
def ROpenPost (w : World) (r : NR × Int) (e : Ending) (w' : World) : Prop := ∃ ao c, e = .returned (.tuple #[.agg #[.int .i64 r.1.p, .int .i64 r.1.l, .int .i64 r.1.w, .int .i64 r.1.s, .slice ao r.1.b.length c], .int .i64 r.2]) ∧ RowAt w (.slice ao r.1.b.length c) r.1.b w'
theorem ropen_none {w wr : World} {b : Nat} (er : Int) (hb : Below w.heap.size w wr) (hR : w.heap.size ≤ b) :
    ROpenPost w (noN, er) (.returned (.tuple #[.agg #[.int .i64 0, .int .i64 0, .int .i64 0, .int .i64 0, .slice none 0 0], .int .i64 er])) (fillN wr b 0 0 0 0 (.slice none 0 0)) :=
  ⟨none, 0, rfl, World.ownsRow_nil _ _ _ _, below_fp hb (fillN_keeps _ _ _ _ _ _ _) (fun i hi => by omega), fun g (hg : (Value.slice none 0 0).ownBlock = some g) => by cases hg⟩

set_option maxRecDepth 100000 in
set_option maxHeartbeats 4000000 in
theorem ropen_any (ko : Option Addr) (key : List Int) (kn kc : Nat) (ao : Option Addr) (zs : List Int) (m c : Nat) (w : World) (hkl : key.length = kn) (hkz : IntsAt .u8 w ko key) (hkB : InB key) (hkn : kn ≤ 1000000) (hlen : zs.length = m) (hz : IntsAt .u8 w ao zs) (hB : InB zs) (hc : m ≤ c) (hcm : c ≤ maxLen) (hm : m ≤ 1000000) :
    Calls Try.prog 29 #[.slice ko kn kc, .slice ao m c] w fun e w' => ROpenPost w (openF key zs) e w' := by
  have HKA : Hid (key.length = kn ∧ IntsAt .u8 w ko key ∧ InB key ∧ kn ≤ 1000000) := Lib.hid ⟨hkl, hkz, hkB, hkn⟩
  have HLN := Lib.hid hlen
  have HZ := Lib.hid hz
  have HB := Lib.hid hB
  have HC := Lib.hid (And.intro hc hcm)
  have HM := Lib.hid hm
  obtain ⟨w1, hw1⟩ : ∃ w1, w1 = w.alloc (.cells #[.int .i64 0, .int .i64 0, .int .i64 0, .int .i64 0, .slice none 0 0] 46) := ⟨_, rfl⟩
  have HX1 : Hid (NBox w1 w.heap.size 0 0 0 0 (.slice none 0 0)) := Lib.hid (by rw [hw1]; exact NBox.new _ _ _ _ _ _)
  have HB1 : Hid (Below w.heap.size w w1) := Lib.hid (by rw [hw1]; exact (Below.refl _ _).alloc (Nat.le_refl _) _)
  have HW1 := Lib.hid hw1
  have HPK := Lib.hid (rpeek_any ao zs m c w1 hlen (ints_below hz HB1.out) hB hc hcm hm)
  clear hkl hkz hkB hkn hlen hz hB hc hcm hm hw1
  unfold PeekR at HPK
  by_cases her : (splitF zs).2 = 0
  case neg =>
    have HG : Hid (openF key zs = (noN, 2)) := Lib.hid (openF_no her)
    have hs : splitF zs = (noN, 2) := (splitF_err zs).resolve_left her
    rw [hs] at HPK
    dsimp only at HPK
    clear her hs
    go_enter Try.func29, Try.ntmps29
    go_wp2_with fail
    rw [← HW1.out]
    (with_reducible refine HPK.out.mono ?_)
    rintro e w2 ⟨rfl, hb2⟩
    have HX2 := Lib.hid (HX1.out.below hb2)
    have HB2 : Hid (Below w.heap.size w w2) := Lib.hid (below_step HB1.out hb2)
    clear hb2 HPK
    go_upto_region 3 with fail
    obtain ⟨f0', f1, f2, f3, f4⟩ := HX2.out.free
    obtain ⟨n0, n1, n2, n3, n4⟩ := HX2.out.cells
    go_wp2_with fail
    rw [show ((((w2.setCell ⟨w.heap.size, 0, none⟩ (.int .i64 0)).setCell ⟨w.heap.size, 1, none⟩ (.int .i64 0)).setCell ⟨w.heap.size, 2, none⟩ (.int .i64 0)).setCell ⟨w.heap.size, 3, none⟩ (.int .i64 0)).setCell ⟨w.heap.size, 4, none⟩ (.slice none 0 0) = fillN w2 w.heap.size 0 0 0 0 (.slice none 0 0) from rfl]
    obtain ⟨q0, q1, q2, q3, q4⟩ := (HX2.out.fill 0 0 0 0 (.slice none 0 0)).cells
    refine bodyPost_ret (v := .tuple #[.agg #[.int .i64 0, .int .i64 0, .int .i64 0, .int .i64 0, .slice none 0 0], .int .i64 2]) (by simp [results, Try.results29, go_sem, q0, q1, q2, q3, q4]) rfl ?_
    rw [HG.out]
    exact ropen_none 2 HB2.out (Nat.le_refl _)
  case pos =>
  have HS := Lib.hid (splitF_ok her)
  have HM44 : Hid (44 ≤ m) := Lib.hid (by rw [← HLN.out]; exact HS.out.1)
  obtain ⟨s0, hs0⟩ : ∃ s0, s0 = hdF zs 4 4 := ⟨_, rfl⟩
  obtain ⟨p0, hp0⟩ : ∃ p0, p0 = hdF zs 1 1 := ⟨_, rfl⟩
  obtain ⟨l0, hl0⟩ : ∃ l0, l0 = hdF zs 2 1 := ⟨_, rfl⟩
  obtain ⟨x0, hx0⟩ : ∃ x0, x0 = hdF zs 3 1 := ⟨_, rfl⟩
  obtain ⟨bd, hbd⟩ : ∃ bd, bd = (zs.drop 12).take (m - 44) := ⟨_, rfl⟩
  have HSP : Hid (splitF zs = (⟨p0, l0, x0, s0, bd⟩, 0)) := Lib.hid (by rw [HS.out.2.2, hs0, hp0, hl0, hx0, hbd, HLN.out])
  have HOP : Hid (openF key zs = if s0 = 0 then (noN, 2) else if macF key (zs.take (m - 32)) = zs.drop (m - 32) then (⟨p0, l0, x0, s0, bd⟩, 0) else (noN, 4)) := Lib.hid (by unfold openF; rw [if_pos her, HSP.out, HLN.out])
  have HBL : Hid (bd.length = m - 44) := Lib.hid (by rw [hbd, List.length_take, List.length_drop, HLN.out]; omega)
  have HBD := Lib.hid hbd
  have HBI : Hid (InB bd) := Lib.hid (by rw [hbd]; exact inB_take (inB_drop HB.out 12) _)
  rw [HSP.out] at HPK
  dsimp only at HPK
  obtain ⟨bb, bo, rfl⟩ : ∃ b off, ao = some ⟨b, off, none⟩ := by
    rcases HZ.out with h | ⟨b, off, h, _⟩
    · have h1 := HLN.out; have := HM44.out; rw [h] at h1; simp at h1; omega
    · exact ⟨b, off, h⟩
  have HSV : Hid (valB (((zs.drop 4).take 4).take 4) = s0) := Lib.hid (by rw [List.take_take, hs0]; rfl)
  clear her HS hs0 hp0 hl0 hx0 hbd
  have j1 : (8 : Int) ≤ (c : Int) := by have := HC.out.1; have := HM44.out; omega
  have j2 : 8 ≤ c := by have := HC.out.1; have := HM44.out; omega
  have j3 : ¬ c = 4 := by omega
  go_enter Try.func29, Try.ntmps29
  go_wp2_with fail
  rw [← HW1.out]
  (with_reducible refine HPK.out.mono ?_)
  rintro e w2 ⟨rfl, hb2⟩
  have HX2 := Lib.hid (HX1.out.below hb2)
  have HB2 : Hid (Below w.heap.size w w2) := Lib.hid (below_step HB1.out hb2)
  have HZ2 := Lib.hid (ints_below HZ.out HB2.out)
  clear hb2 HPK
  have HSN : Hid (((zs.drop 4).take 4).length = 4) := Lib.hid (by rw [List.length_take, List.length_drop, HLN.out]; have := HM44.out; omega)
  have HSB : Hid (InB ((zs.drop 4).take 4)) := Lib.hid (inB_take (inB_drop HB.out 4) 4)
  have hdb := dec_box 82 (w := w2) (b := bb) (off := bo + 4) (zs := (zs.drop 4).take 4) (n := 4) (c := c - 4) HSN.out ((HZ2.out.drop 4).take 4) HSB.out (by omega) (by have := HC.out.2; omega) (by omega) (by omega)
  obtain ⟨w3, hw3⟩ : ∃ w3, w3 = w2.alloc (.cells #[.slice (some ⟨bb, bo + 4, none⟩) 4 (c - 4), .int .i64 0] 82) := ⟨_, rfl⟩
  rw [← hw3] at hdb
  have hb3 : Below w2.heap.size w2 w3 := by rw [hw3]; exact (Below.refl _ _).alloc (Nat.le_refl _) _
  have HX3 := Lib.hid (HX2.out.below hb3)
  have HB3 : Hid (Below w.heap.size w w3) := Lib.hid (below_step HB2.out hb3)
  have HD3 : Hid (DI 82 w2 w2.heap.size bb ((zs.drop 4).take 4) w3) := Lib.hid ⟨hdb.1, hb3, Nat.le_refl _⟩
  have HPS : Hid (w.heap.size < w2.heap.size ∧ bb < w2.heap.size ∧ w2.heap.size < w3.heap.size) := Lib.hid ⟨HX2.out.lt, hdb.2, HD3.out.1.lt⟩
  have HW3 := Lib.hid hw3
  clear hdb hb3 hw3
  go_upto_region 5 with fail
  rw [← HW3.out]
  generalize w2.heap.size = p at *
  clear j1 j2 j3
  obtain ⟨A, hA⟩ : ∃ A, A = m - 32 := ⟨_, rfl⟩
  have HA : Hid (A + 32 = m) := Lib.hid (by have := HM44.out; omega)
  rw [← hA] at HOP
  clear hA
  have r1 : (m : Int) - 32 = (A : Int) := by have := HA.out; omega
  have r2 : (0 : Int) ≤ (A : Int) := by omega
  have r3 : (A : Int) ≤ (m : Int) := by have := HA.out; omega
  have r4 : (A : Int) ≤ (c : Int) := by have := HC.out.1; have := HA.out; omega
  have r5 : ¬ c = A := by have := HC.out.1; have := HA.out; omega
  have r6 : m - A = 32 := by have := HA.out; omega
  have r7 : A ≤ m := by have := HA.out; omega
  have r8 : (m : Int) ≤ (c : Int) := by have := HC.out.1; omega
  have r10 : (12 : Int) ≤ (A : Int) := by have := HA.out; have := HM44.out; omega
  have r11 : 12 ≤ A := by have := HA.out; have := HM44.out; omega
  have r12 : ¬ c = 12 := by have := HC.out.1; have := HM44.out; omega
  have HBA : Hid (bd.length = A - 12) := Lib.hid (by rw [HBL.out]; have := HA.out; omega)
  have HRW : Hid (IntKind.i64.wrap (A : Int) = (A : Int)) := Lib.hid (by have := HM.out; have := HA.out; rw [IntKind.wrap_i64]; omega)
  have HDA : Hid (∀ wx : World, Below w.heap.size w wx → IntsAt .u8 wx (some ⟨bb, bo + 12, none⟩) bd) := Lib.hid (fun wx h => by rw [HBD.out]; exact ((ints_below HZ.out h).drop 12).take _)
  go_cut [11] (fun s wx => ∃ (X : Nat) (ca : Option Addr) (cc : Nat), s = .pointer (some ⟨X, 0, none⟩) ∧ NBox wx X p0 l0 x0 s0 (.slice ca (A - 12) cc) ∧ NBox wx w.heap.size 0 0 0 0 (.slice none 0 0) ∧ wx.ownsRow 0 5 1 (.slice ca (A - 12) cc) (A - 12) (bd.map (Value.int .u8)) ∧ (∀ g, (Value.slice ca (A - 12) cc).ownBlock = some g → g ≠ X ∧ w.heap.size < g) ∧ Below w.heap.size w wx ∧ w.heap.size < X)
  case first =>
    have r9 := HRW.out
    obtain ⟨v3, hv3⟩ : ∃ v3, v3 = w3.drew := ⟨_, rfl⟩
    have HBv3 : Hid (Below w.heap.size w v3) := Lib.hid (by rw [hv3]; exact HB3.out.drew)
    have HXv3 : Hid (NBox v3 w.heap.size 0 0 0 0 (.slice none 0 0)) := Lib.hid (by rw [hv3]; exact HX3.out)
    have HDv3 : Hid (DI 82 w2 p bb ((zs.drop 4).take 4) v3) := Lib.hid (by rw [hv3]; exact ⟨HD3.out.1, HD3.out.2.1.drew, HD3.out.2.2⟩)
    have HSZv3 : Hid (w3.heap.size ≤ v3.heap.size) := Lib.hid (by rw [hv3]; exact Nat.le_refl _)
    refine wp_region_held_drew (S := fun _ => True) (by kernel_rfl) ?_ (fun hHeld => ?_)
    · exact trivial
    rw [← hv3]
    clear hv3
    refine take_at (i := 0) (d := 27) (v := ?_) rfl rfl (by kernel_rfl) (by kernel_rfl) (by kernel_rfl) (fun _ _ _ h => h) (Or.inl ⟨by rfl, by intro w' hSw; (try dsimp only at hSw); go_simp; try with_reducible rfl⟩) (by assumption) ?_
    simp only [List.setIfInBounds_toArray, List.set_cons_zero, List.set_cons_succ]
    refine take_at (i := 1) (d := 28) (v := ?_) rfl rfl (by kernel_rfl) (by kernel_rfl) (by kernel_rfl) (fun _ _ _ h => h) (Or.inl ⟨by rfl, by intro w' hSw; (try dsimp only at hSw); go_simp; try with_reducible rfl⟩) (by assumption) ?_
    simp only [List.setIfInBounds_toArray, List.set_cons_zero, List.set_cons_succ]
    refine take_at (i := 2) (d := 29) (v := ?_) rfl rfl (by kernel_rfl) (by kernel_rfl) (by kernel_rfl) (fun _ _ _ h => h) (Or.inl ⟨by rfl, by intro w' hSw; (try dsimp only at hSw); go_simp; try with_reducible rfl⟩) (by assumption) ?_
    simp only [List.setIfInBounds_toArray, List.set_cons_zero, List.set_cons_succ]
    refine take_at (i := 3) (d := 30) (v := ?_) rfl rfl (by kernel_rfl) (by kernel_rfl) (by kernel_rfl) (fun _ _ _ h => h) (Or.inl ⟨by rfl, by intro w' hSw; (try dsimp only at hSw); go_simp; try with_reducible rfl⟩) (by assumption) ?_
    simp only [List.setIfInBounds_toArray, List.set_cons_zero, List.set_cons_succ]
    refine take_at (i := 5) (d := 32) (v := ?_) rfl rfl (by kernel_rfl) (by kernel_rfl) (by kernel_rfl) (fun _ _ _ h => h) (Or.inl ⟨by rfl, by intro w' hSw; (try dsimp only at hSw); go_simp; try with_reducible rfl⟩) (by assumption) ?_
    simp only [List.setIfInBounds_toArray, List.set_cons_zero, List.set_cons_succ]
    refine take_at (i := 6) (d := 33) (v := ?_) rfl rfl (by kernel_rfl) (by kernel_rfl) (by kernel_rfl) (fun _ _ _ h => h) (Or.inl ⟨by rfl, by intro w' hSw; (try dsimp only at hSw); go_simp; try with_reducible rfl⟩) (by assumption) ?_
    simp only [List.setIfInBounds_toArray, List.set_cons_zero, List.set_cons_succ]
    refine take_at (i := 7) (d := 34) (v := ?_) rfl rfl (by kernel_rfl) (by kernel_rfl) (by kernel_rfl) (fun _ _ _ h => h) (Or.inl ⟨by rfl, by intro w' hSw; (try dsimp only at hSw); go_simp; try with_reducible rfl⟩) (by assumption) ?_
    simp only [List.setIfInBounds_toArray, List.set_cons_zero, List.set_cons_succ]
    refine take_at (i := 8) (d := 35) (v := ?_) rfl rfl (by kernel_rfl) (by kernel_rfl) (by kernel_rfl) (fun _ _ _ h => h) (Or.inl ⟨by rfl, by intro w' hSw; (try dsimp only at hSw); go_simp; try with_reducible rfl⟩) (by assumption) ?_
    simp only [List.setIfInBounds_toArray, List.set_cons_zero, List.set_cons_succ]
    refine take_at (i := 9) (d := 36) (v := ?_) rfl rfl (by kernel_rfl) (by kernel_rfl) (by kernel_rfl) (fun _ _ _ h => h) (Or.inl ⟨by rfl, by intro w' hSw; (try dsimp only at hSw); go_simp; try with_reducible rfl⟩) (by assumption) ?_
    simp only [List.setIfInBounds_toArray, List.set_cons_zero, List.set_cons_succ]
    refine wpAnyH_ready (rs := [4, 12]) (by kernel_rfl) (by simp) ?_
    refine (AllReadyH.cons rfl (fun K hK => ?_) (AllReadyH.cons rfl (fun K hK => ?_) AllReadyH.nil))
    · skip
      have HC := Lib.hid (HDv3.out.rnum HSB.out 4 (by omega) (by rw [HSN.out]; omega))
      rw [HSV.out] at HC
      go_simp
      go_at_call 38
      refine HC.out.mono ?_
      rintro e v4 ⟨rfl, hd, hk⟩
      have HBv4 : Hid (Below w.heap.size w v4) := Lib.hid (below_fp HBv3.out hk (fun i hi => by have := HPS.out; omega))
      have HXv4 := Lib.hid (HXv3.out.keep hk (by have := HPS.out; omega))
      have HKSv4 := Lib.hid hk.size
      clear hd hk HC
      dsimp only
      go_wp2_with fail
      refine hK.out _ _ ?_ (fun hHeld => ?_)
      · exact trivial
      clear hK K
      try simp only [Act.put, List.getElem_toArray, List.getElem_cons_succ, List.getElem_cons_zero]
      try simp only [List.setIfInBounds_toArray, List.set_cons_zero, List.set_cons_succ]
      have HSZv4 : Hid (w3.heap.size ≤ v4.heap.size) := Lib.hid (Nat.le_trans HSZv3.out HKSv4.out)
      refine wpAnyH_ready (rs := [10, 12]) (by kernel_rfl) (by simp) ?_
      refine (AllReadyH.cons rfl (fun K hK => ?_) (AllReadyH.cons rfl (fun K hK => ?_) AllReadyH.nil))
      · skip
        have HC := Lib.hid (copyBytes (some ⟨bb, bo + 12, none⟩) bd (A - 12) (c - 12) v4 HBA.out (HDA.out v4 HBv4.out) (by have := HM.out; have := HA.out; omega))
        go_simp
        go_at_call 22
        refine HC.out.mono ?_
        rintro e v5 ⟨ca, cc, rfl, hr⟩
        rw [HBA.out] at hr ⊢
        have HBv5 : Hid (Below w.heap.size w v5) := Lib.hid (below_step HBv4.out hr.2.1)
        have HXv5 := Lib.hid (HXv4.out.below hr.2.1)
        have HRv5 : Hid (v5.ownsRow 0 5 1 (.slice ca (A - 12) cc) (A - 12) (bd.map (Value.int .u8))) := Lib.hid (by have h := hr.1; rw [HBA.out] at h; exact h)
        have HGC : Hid (∀ g, (Value.slice ca (A - 12) cc).ownBlock = some g → v4.heap.size ≤ g) := Lib.hid hr.2.2
        have HKSv5 := Lib.hid hr.2.1.size
        clear hr HC
        dsimp only
        go_wp2_with fail
        refine hK.out _ _ ?_ (fun hHeld => ?_)
        · exact trivial
        clear hK K
        try simp only [Act.put, List.getElem_toArray, List.getElem_cons_succ, List.getElem_cons_zero]
        try simp only [List.setIfInBounds_toArray, List.set_cons_zero, List.set_cons_succ]
        have HSZv5 : Hid (w3.heap.size ≤ v5.heap.size) := Lib.hid (Nat.le_trans HSZv4.out HKSv5.out)
        have HXC : Hid (w.heap.size < v4.heap.size) := Lib.hid HXv4.out.lt
        refine take_at (i := 11) (d := 38) (v := ?_) rfl rfl (by kernel_rfl) (by kernel_rfl) (by kernel_rfl) (fun _ _ _ h => h) (Or.inl ⟨by rfl, by intro w' hSw; (try dsimp only at hSw); go_simp; try with_reducible rfl⟩) (by assumption) ?_
        simp only [List.setIfInBounds_toArray, List.set_cons_zero, List.set_cons_succ]
        refine wpAnyH_ready (rs := [12]) (by kernel_rfl) (by simp) ?_
        refine (AllReadyH.cons rfl (fun K hK => ?_) AllReadyH.nil)
        go_simp
        go_wp2_with fail
        refine hK.out _ _ ?_ (fun hHeld => ?_)
        · exact trivial
        clear hK K
        try simp only [Act.put, List.getElem_toArray, List.getElem_cons_succ, List.getElem_cons_zero]
        try simp only [List.setIfInBounds_toArray, List.set_cons_zero, List.set_cons_succ]
        obtain ⟨v6, hv6⟩ : ∃ u, u = v5.alloc (.cells #[.int .i64 0, .int .i64 0, .int .i64 0, .int .i64 0, .slice none 0 0] 46) := ⟨_, rfl⟩
        rw [← hv6]
        have hbv6 : Below v5.heap.size v5 v6 := by rw [hv6]; exact (Below.refl _ _).alloc (Nat.le_refl _) _
        have HBv6 : Hid (Below w.heap.size w v6) := Lib.hid (below_step HBv5.out hbv6)
        have HXv6 := Lib.hid (HXv5.out.below hbv6)
        have HFv6 : Hid (NBox v6 v5.heap.size 0 0 0 0 (.slice none 0 0)) := Lib.hid (by rw [hv6]; exact NBox.new _ _ _ _ _ _)
        have HXX : Hid (w.heap.size < v5.heap.size ∧ p < v5.heap.size) := Lib.hid ⟨HXv5.out.lt, by have := HSZv5.out; have := HPS.out; omega⟩
        have HRv6 : Hid (v6.ownsRow 0 5 1 (.slice ca (A - 12) cc) (A - 12) (bd.map (Value.int .u8))) := Lib.hid (ownsRow_same HRv5.out (fun x hx => hbv6.block x (HRv5.out.lt x hx).2))
        have HGR : Hid (∀ g, (Value.slice ca (A - 12) cc).ownBlock = some g → g ≠ v5.heap.size ∧ w.heap.size < g) := Lib.hid (fun g hg => by have := HGC.out g hg; have := (HRv5.out.lt g hg).2; have := HXC.out; omega)
        have HSZv6 : Hid (w3.heap.size ≤ v6.heap.size) := Lib.hid (Nat.le_trans HSZv5.out hbv6.size)
        clear hv6 hbv6
        generalize v5.heap.size = X at *
        refine wpAnyH_ready (rs := [13]) (by kernel_rfl) (by simp) ?_
        refine (AllReadyH.cons rfl (fun K hK => ?_) AllReadyH.nil)
        obtain ⟨f0', f1, f2, f3, f4⟩ := HFv6.out.free
        obtain ⟨n0, n1, n2, n3, n4⟩ := HFv6.out.cells
        go_simp
        go_wp2_with fail
        refine hK.out _ _ ?_ (fun hHeld => ?_)
        · exact trivial
        clear hK K
        try simp only [Act.put, List.getElem_toArray, List.getElem_cons_succ, List.getElem_cons_zero]
        try simp only [List.setIfInBounds_toArray, List.set_cons_zero, List.set_cons_succ]
        refine wpAnyH_done (by kernel_rfl) ?_ _
        obtain ⟨wF, hwF⟩ : ∃ wF, wF = fillN v6 X p0 l0 x0 s0 (.slice ca (A - 12) cc) := ⟨_, rfl⟩
        have HKF : Hid (Keeps (fun i => i = X) v6 wF) := Lib.hid (by rw [hwF]; exact fillN_keeps _ _ _ _ _ _ _)
        have HFF : Hid (NBox wF X p0 l0 x0 s0 (.slice ca (A - 12) cc)) := Lib.hid (by rw [hwF]; exact HFv6.out.fill _ _ _ _ _)
        have HXF := Lib.hid (HXv6.out.keep HKF.out (by have := HXX.out; omega))
        have HOF : Hid (wF.ownsRow 0 5 1 (.slice ca (A - 12) cc) (A - 12) (bd.map (Value.int .u8))) := Lib.hid (ownsRow_same HRv6.out (fun x hx => HKF.out.block x (HRv6.out.lt x hx).2 (HGR.out x hx).1))
        have HBF : Hid (Below w.heap.size w wF) := Lib.hid (below_fp HBv6.out HKF.out (fun i hi => by have := HXX.out; omega))
        first | rw [show ((((v6.setCell ⟨X, 0, none⟩ (.int .i64 p0)).setCell ⟨X, 1, none⟩ (.int .i64 l0)).setCell ⟨X, 2, none⟩ (.int .i64 x0)).setCell ⟨X, 3, none⟩ (.int .i64 s0)).setCell ⟨X, 4, none⟩ (.slice ca (A - 12) cc) = wF from hwF.symm] | trace_state
        clear hwF hHeld
        go_wp2_with fail
        go_meet
        case rel => exact ⟨X, ca, cc, rfl, HFF.out, HXF.out, HOF.out, HGR.out, HBF.out, HXX.out.1⟩
      · skip
        go_simp
        go_wp2_with fail
        refine hK.out _ _ ?_ (fun hHeld => ?_)
        · exact trivial
        clear hK K
        try simp only [Act.put, List.getElem_toArray, List.getElem_cons_succ, List.getElem_cons_zero]
        try simp only [List.setIfInBounds_toArray, List.set_cons_zero, List.set_cons_succ]
        obtain ⟨v8, hv8⟩ : ∃ u, u = v4.alloc (.cells #[.int .i64 0, .int .i64 0, .int .i64 0, .int .i64 0, .slice none 0 0] 46) := ⟨_, rfl⟩
        rw [← hv8]
        have hbv8 : Below v4.heap.size v4 v8 := by rw [hv8]; exact (Below.refl _ _).alloc (Nat.le_refl _) _
        have HBv8 : Hid (Below w.heap.size w v8) := Lib.hid (below_step HBv4.out hbv8)
        have HXv8 := Lib.hid (HXv4.out.below hbv8)
        have HFv8 : Hid (NBox v8 v4.heap.size 0 0 0 0 (.slice none 0 0)) := Lib.hid (by rw [hv8]; exact NBox.new _ _ _ _ _ _)
        have HXX : Hid (w.heap.size < v4.heap.size ∧ p < v4.heap.size) := Lib.hid ⟨HXv4.out.lt, by have := HSZv4.out; have := HPS.out; omega⟩
        have HSZv8 : Hid (w3.heap.size ≤ v8.heap.size) := Lib.hid (Nat.le_trans HSZv4.out hbv8.size)
        clear hv8 hbv8
        generalize v4.heap.size = X at *
        refine wpAnyH_ready (rs := [10]) (by kernel_rfl) (by simp) ?_
        refine (AllReadyH.cons rfl (fun K hK => ?_) AllReadyH.nil)
        have HC := Lib.hid (copyBytes (some ⟨bb, bo + 12, none⟩) bd (A - 12) (c - 12) v8 HBA.out (HDA.out v8 HBv8.out) (by have := HM.out; have := HA.out; omega))
        go_simp
        go_at_call 22
        refine HC.out.mono ?_
        rintro e v9 ⟨ca, cc, rfl, hr⟩
        rw [HBA.out] at hr ⊢
        have HBv9 : Hid (Below w.heap.size w v9) := Lib.hid (below_step HBv8.out hr.2.1)
        have HXv9 := Lib.hid (HXv8.out.below hr.2.1)
        have HFv9 := Lib.hid (HFv8.out.below hr.2.1)
        have HRv9 : Hid (v9.ownsRow 0 5 1 (.slice ca (A - 12) cc) (A - 12) (bd.map (Value.int .u8))) := Lib.hid (by have h := hr.1; rw [HBA.out] at h; exact h)
        have HGC : Hid (∀ g, (Value.slice ca (A - 12) cc).ownBlock = some g → v8.heap.size ≤ g) := Lib.hid hr.2.2
        have HGR : Hid (∀ g, (Value.slice ca (A - 12) cc).ownBlock = some g → g ≠ X ∧ w.heap.size < g) := Lib.hid (fun g hg => by have := HGC.out g hg; have := HFv8.out.lt; have := HXX.out; omega)
        have HKSv9 := Lib.hid hr.2.1.size
        clear hr HC
        dsimp only
        go_wp2_with fail
        refine hK.out _ _ ?_ (fun hHeld => ?_)
        · exact trivial
        clear hK K
        try simp only [Act.put, List.getElem_toArray, List.getElem_cons_succ, List.getElem_cons_zero]
        try simp only [List.setIfInBounds_toArray, List.set_cons_zero, List.set_cons_succ]
        have HSZv9 : Hid (w3.heap.size ≤ v9.heap.size) := Lib.hid (Nat.le_trans HSZv8.out HKSv9.out)
        refine take_at (i := 11) (d := 38) (v := ?_) rfl rfl (by kernel_rfl) (by kernel_rfl) (by kernel_rfl) (fun _ _ _ h => h) (Or.inl ⟨by rfl, by intro w' hSw; (try dsimp only at hSw); go_simp; try with_reducible rfl⟩) (by assumption) ?_
        simp only [List.setIfInBounds_toArray, List.set_cons_zero, List.set_cons_succ]
        refine wpAnyH_ready (rs := [13]) (by kernel_rfl) (by simp) ?_
        refine (AllReadyH.cons rfl (fun K hK => ?_) AllReadyH.nil)
        obtain ⟨f0', f1, f2, f3, f4⟩ := HFv9.out.free
        obtain ⟨n0, n1, n2, n3, n4⟩ := HFv9.out.cells
        go_simp
        go_wp2_with fail
        refine hK.out _ _ ?_ (fun hHeld => ?_)
        · exact trivial
        clear hK K
        try simp only [Act.put, List.getElem_toArray, List.getElem_cons_succ, List.getElem_cons_zero]
        try simp only [List.setIfInBounds_toArray, List.set_cons_zero, List.set_cons_succ]
        refine wpAnyH_done (by kernel_rfl) ?_ _
        obtain ⟨wF, hwF⟩ : ∃ wF, wF = fillN v9 X p0 l0 x0 s0 (.slice ca (A - 12) cc) := ⟨_, rfl⟩
        have HKF : Hid (Keeps (fun i => i = X) v9 wF) := Lib.hid (by rw [hwF]; exact fillN_keeps _ _ _ _ _ _ _)
        have HFF : Hid (NBox wF X p0 l0 x0 s0 (.slice ca (A - 12) cc)) := Lib.hid (by rw [hwF]; exact HFv9.out.fill _ _ _ _ _)
        have HXF := Lib.hid (HXv9.out.keep HKF.out (by have := HXX.out; omega))
        have HOF : Hid (wF.ownsRow 0 5 1 (.slice ca (A - 12) cc) (A - 12) (bd.map (Value.int .u8))) := Lib.hid (ownsRow_same HRv9.out (fun x hx => HKF.out.block x (HRv9.out.lt x hx).2 (HGR.out x hx).1))
        have HBF : Hid (Below w.heap.size w wF) := Lib.hid (below_fp HBv9.out HKF.out (fun i hi => by have := HXX.out; omega))
        first | rw [show ((((v9.setCell ⟨X, 0, none⟩ (.int .i64 p0)).setCell ⟨X, 1, none⟩ (.int .i64 l0)).setCell ⟨X, 2, none⟩ (.int .i64 x0)).setCell ⟨X, 3, none⟩ (.int .i64 s0)).setCell ⟨X, 4, none⟩ (.slice ca (A - 12) cc) = wF from hwF.symm] | trace_state
        clear hwF hHeld
        go_wp2_with fail
        go_meet
        case rel => exact ⟨X, ca, cc, rfl, HFF.out, HXF.out, HOF.out, HGR.out, HBF.out, HXX.out.1⟩
    · skip
      go_simp
      go_wp2_with fail
      refine hK.out _ _ ?_ (fun hHeld => ?_)
      · exact trivial
      clear hK K
      try simp only [Act.put, List.getElem_toArray, List.getElem_cons_succ, List.getElem_cons_zero]
      try simp only [List.setIfInBounds_toArray, List.set_cons_zero, List.set_cons_succ]
      obtain ⟨v11, hv11⟩ : ∃ u, u = v3.alloc (.cells #[.int .i64 0, .int .i64 0, .int .i64 0, .int .i64 0, .slice none 0 0] 46) := ⟨_, rfl⟩
      rw [← hv11]
      have hbv11 : Below v3.heap.size v3 v11 := by rw [hv11]; exact (Below.refl _ _).alloc (Nat.le_refl _) _
      have HBv11 : Hid (Below w.heap.size w v11) := Lib.hid (below_step HBv3.out hbv11)
      have HXv11 := Lib.hid (HXv3.out.below hbv11)
      have HFv11 : Hid (NBox v11 v3.heap.size 0 0 0 0 (.slice none 0 0)) := Lib.hid (by rw [hv11]; exact NBox.new _ _ _ _ _ _)
      have HXX : Hid (w.heap.size < v3.heap.size ∧ p < v3.heap.size) := Lib.hid ⟨HXv3.out.lt, by have := HSZv3.out; have := HPS.out; omega⟩
      have HDv11 := Lib.hid (HDv3.out.later hbv11)
      have HSZv11 : Hid (w3.heap.size ≤ v11.heap.size) := Lib.hid (Nat.le_trans HSZv3.out hbv11.size)
      clear hv11 hbv11
      generalize v3.heap.size = X at *
      refine wpAnyH_ready (rs := [4]) (by kernel_rfl) (by simp) ?_
      refine (AllReadyH.cons rfl (fun K hK => ?_) AllReadyH.nil)
      have HC := Lib.hid (HDv11.out.rnum HSB.out 4 (by omega) (by rw [HSN.out]; omega))
      rw [HSV.out] at HC
      go_simp
      go_at_call 38
      refine HC.out.mono ?_
      rintro e v12 ⟨rfl, hd, hk⟩
      have HBv12 : Hid (Below w.heap.size w v12) := Lib.hid (below_fp HBv11.out hk (fun i hi => by have := HPS.out; omega))
      have HXv12 := Lib.hid (HXv11.out.keep hk (by have := HPS.out; omega))
      have HFv12 := Lib.hid (HFv11.out.keep hk (by have := HXX.out; omega))
      have HKSv12 := Lib.hid hk.size
      clear hd hk HC
      dsimp only
      go_wp2_with fail
      refine hK.out _ _ ?_ (fun hHeld => ?_)
      · exact trivial
      clear hK K
      try simp only [Act.put, List.getElem_toArray, List.getElem_cons_succ, List.getElem_cons_zero]
      try simp only [List.setIfInBounds_toArray, List.set_cons_zero, List.set_cons_succ]
      have HSZv12 : Hid (w3.heap.size ≤ v12.heap.size) := Lib.hid (Nat.le_trans HSZv11.out HKSv12.out)
      refine wpAnyH_ready (rs := [10]) (by kernel_rfl) (by simp) ?_
      refine (AllReadyH.cons rfl (fun K hK => ?_) AllReadyH.nil)
      have HC := Lib.hid (copyBytes (some ⟨bb, bo + 12, none⟩) bd (A - 12) (c - 12) v12 HBA.out (HDA.out v12 HBv12.out) (by have := HM.out; have := HA.out; omega))
      go_simp
      go_at_call 22
      refine HC.out.mono ?_
      rintro e v13 ⟨ca, cc, rfl, hr⟩
      rw [HBA.out] at hr ⊢
      have HBv13 : Hid (Below w.heap.size w v13) := Lib.hid (below_step HBv12.out hr.2.1)
      have HXv13 := Lib.hid (HXv12.out.below hr.2.1)
      have HFv13 := Lib.hid (HFv12.out.below hr.2.1)
      have HRv13 : Hid (v13.ownsRow 0 5 1 (.slice ca (A - 12) cc) (A - 12) (bd.map (Value.int .u8))) := Lib.hid (by have h := hr.1; rw [HBA.out] at h; exact h)
      have HGC : Hid (∀ g, (Value.slice ca (A - 12) cc).ownBlock = some g → v12.heap.size ≤ g) := Lib.hid hr.2.2
      have HGR : Hid (∀ g, (Value.slice ca (A - 12) cc).ownBlock = some g → g ≠ X ∧ w.heap.size < g) := Lib.hid (fun g hg => by have := HGC.out g hg; have := HFv12.out.lt; have := HXX.out; omega)
      have HKSv13 := Lib.hid hr.2.1.size
      clear hr HC
      dsimp only
      go_wp2_with fail
      refine hK.out _ _ ?_ (fun hHeld => ?_)
      · exact trivial
      clear hK K
      try simp only [Act.put, List.getElem_toArray, List.getElem_cons_succ, List.getElem_cons_zero]
      try simp only [List.setIfInBounds_toArray, List.set_cons_zero, List.set_cons_succ]
      have HSZv13 : Hid (w3.heap.size ≤ v13.heap.size) := Lib.hid (Nat.le_trans HSZv12.out HKSv13.out)
      refine take_at (i := 11) (d := 38) (v := ?_) rfl rfl (by kernel_rfl) (by kernel_rfl) (by kernel_rfl) (fun _ _ _ h => h) (Or.inl ⟨by rfl, by intro w' hSw; (try dsimp only at hSw); go_simp; try with_reducible rfl⟩) (by assumption) ?_
      simp only [List.setIfInBounds_toArray, List.set_cons_zero, List.set_cons_succ]
      refine wpAnyH_ready (rs := [13]) (by kernel_rfl) (by simp) ?_
      refine (AllReadyH.cons rfl (fun K hK => ?_) AllReadyH.nil)
      obtain ⟨f0', f1, f2, f3, f4⟩ := HFv13.out.free
      obtain ⟨n0, n1, n2, n3, n4⟩ := HFv13.out.cells
      go_simp
      go_wp2_with fail
      refine hK.out _ _ ?_ (fun hHeld => ?_)
      · exact trivial
      clear hK K
      try simp only [Act.put, List.getElem_toArray, List.getElem_cons_succ, List.getElem_cons_zero]
      try simp only [List.setIfInBounds_toArray, List.set_cons_zero, List.set_cons_succ]
      refine wpAnyH_done (by kernel_rfl) ?_ _
      obtain ⟨wF, hwF⟩ : ∃ wF, wF = fillN v13 X p0 l0 x0 s0 (.slice ca (A - 12) cc) := ⟨_, rfl⟩
      have HKF : Hid (Keeps (fun i => i = X) v13 wF) := Lib.hid (by rw [hwF]; exact fillN_keeps _ _ _ _ _ _ _)
      have HFF : Hid (NBox wF X p0 l0 x0 s0 (.slice ca (A - 12) cc)) := Lib.hid (by rw [hwF]; exact HFv13.out.fill _ _ _ _ _)
      have HXF := Lib.hid (HXv13.out.keep HKF.out (by have := HXX.out; omega))
      have HOF : Hid (wF.ownsRow 0 5 1 (.slice ca (A - 12) cc) (A - 12) (bd.map (Value.int .u8))) := Lib.hid (ownsRow_same HRv13.out (fun x hx => HKF.out.block x (HRv13.out.lt x hx).2 (HGR.out x hx).1))
      have HBF : Hid (Below w.heap.size w wF) := Lib.hid (below_fp HBv13.out HKF.out (fun i hi => by have := HXX.out; omega))
      first | rw [show ((((v13.setCell ⟨X, 0, none⟩ (.int .i64 p0)).setCell ⟨X, 1, none⟩ (.int .i64 l0)).setCell ⟨X, 2, none⟩ (.int .i64 x0)).setCell ⟨X, 3, none⟩ (.int .i64 s0)).setCell ⟨X, 4, none⟩ (.slice ca (A - 12) cc) = wF from hwF.symm] | trace_state
      clear hwF hHeld
      go_wp2_with fail
      go_meet
      case rel => exact ⟨X, ca, cc, rfl, HFF.out, HXF.out, HOF.out, HGR.out, HBF.out, HXX.out.1⟩
  case rest =>
    obtain ⟨X, ca, cc, rfl, hf, hx, ho, hg, hb, hwx⟩ := hcut
    rename World => w5
    have HF5 := Lib.hid hf
    have HX5 := Lib.hid hx
    have HO5 := Lib.hid ho
    have HG5 := Lib.hid hg
    have HB5 := Lib.hid hb
    have HWX := Lib.hid hwx
    clear hf hx ho hg hb hwx r10 r11 r12 HX3 HD3 HX2 HB2 HZ2 HW3
    obtain ⟨y0, y1, y2, y3, y4⟩ := HF5.out.cells
    by_cases hs0 : s0 = 0
    · have HG : Hid (openF key zs = (noN, 2)) := Lib.hid (by rw [HOP.out, if_pos hs0])
      have hb : (s0 == (0 : Int)) = true := by simp [hs0]
      clear hs0
      go_upto_region 7 with fail
      clear y0 y1 y2 y3 y4
      obtain ⟨f0', f1, f2, f3, f4⟩ := HX5.out.free
      obtain ⟨n0, n1, n2, n3, n4⟩ := HX5.out.cells
      go_wp2_with fail
      rw [show ((((w5.setCell ⟨w.heap.size, 0, none⟩ (.int .i64 0)).setCell ⟨w.heap.size, 1, none⟩ (.int .i64 0)).setCell ⟨w.heap.size, 2, none⟩ (.int .i64 0)).setCell ⟨w.heap.size, 3, none⟩ (.int .i64 0)).setCell ⟨w.heap.size, 4, none⟩ (.slice none 0 0) = fillN w5 w.heap.size 0 0 0 0 (.slice none 0 0) from rfl]
      obtain ⟨q0, q1, q2, q3, q4⟩ := (HX5.out.fill 0 0 0 0 (.slice none 0 0)).cells
      refine bodyPost_ret (v := .tuple #[.agg #[.int .i64 0, .int .i64 0, .int .i64 0, .int .i64 0, .slice none 0 0], .int .i64 2]) (by simp [results, Try.results29, go_sem, q0, q1, q2, q3, q4]) rfl ?_
      rw [HG.out]
      exact ropen_none 2 HB5.out (Nat.le_refl _)
    have hb : (s0 == (0 : Int)) = false := by simp [hs0]
    have HO2 : Hid (openF key zs = if macF key (zs.take A) = zs.drop A then (⟨p0, l0, x0, s0, bd⟩, 0) else (noN, 4)) := Lib.hid (by rw [HOP.out, if_neg hs0])
    clear hs0
    go_upto_region 8 with fail
    clear y0 y1 y2 y3 y4 hb
    have HZ5 := Lib.hid (ints_below HZ.out HB5.out)
    have HLT : Hid ((zs.take A).length = A) := Lib.hid (by rw [List.length_take, HLN.out]; have := HA.out; omega)
    have HLD : Hid ((zs.drop A).length = 32) := Lib.hid (by rw [List.length_drop, HLN.out]; have := HA.out; omega)
    have HMO : Hid (Calls Try.prog 46 #[.slice ko kn kc, .slice (some ⟨bb, bo, none⟩) A c] w5.drew fun e w' => RowPost w5.drew (macF key (zs.take A)) e w') := Lib.hid (rmac_any ko key kn kc (some ⟨bb, bo, none⟩) (zs.take A) A c w5.drew HKA.out.1 (ints_below HKA.out.2.1 HB5.out.drew) HKA.out.2.2.1 (by have := HKA.out.2.2.2; omega) HLT.out ((ints_below HZ.out HB5.out.drew).take A) (inB_take HB.out A) (by have := HM.out; have := HA.out; omega))
    have HTG := Lib.hid (macF_len key (zs.take A))
    obtain ⟨TG, hTG⟩ : ∃ TG, TG = macF key (zs.take A) := ⟨_, rfl⟩
    have HTI : Hid (InB TG) := Lib.hid (by rw [hTG]; exact macF_inB _ _)
    rw [← hTG] at HMO HO2 HTG
    clear hTG
    have r9 := HRW.out
    refine wp_region_held_drew (S := fun w' => True) (by kernel_rfl) ?_ (fun hHeld => ?_)
    · exact trivial
    refine take_at (i := 0) (d := 43) (v := ?_) rfl rfl (by kernel_rfl) (by kernel_rfl) (by kernel_rfl) (fun _ _ _ h => h) (Or.inl ⟨by rfl, by intro w' hSw; (try dsimp only at hSw); go_simp; try with_reducible rfl⟩) (by assumption) ?_
    simp only [List.setIfInBounds_toArray, List.set_cons_zero, List.set_cons_succ]
    refine take_at (i := 1) (d := 44) (v := ?_) rfl rfl (by kernel_rfl) (by kernel_rfl) (by kernel_rfl) (fun _ _ _ h => h) (Or.inl ⟨by rfl, by intro w' hSw; (try dsimp only at hSw); go_simp; try with_reducible rfl⟩) (by assumption) ?_
    simp only [List.setIfInBounds_toArray, List.set_cons_zero, List.set_cons_succ]
    refine take_at (i := 2) (d := 45) (v := ?_) rfl rfl (by kernel_rfl) (by kernel_rfl) (by kernel_rfl) (fun _ _ _ h => h) (Or.inl ⟨by rfl, by intro w' hSw; (try dsimp only at hSw); go_simp; try with_reducible rfl⟩) (by assumption) ?_
    simp only [List.setIfInBounds_toArray, List.set_cons_zero, List.set_cons_succ]
    refine take_at (i := 3) (d := 46) (v := ?_) rfl rfl (by kernel_rfl) (by kernel_rfl) (by kernel_rfl) (fun _ _ _ h => h) (Or.inl ⟨by rfl, by intro w' hSw; (try dsimp only at hSw); go_simp; try with_reducible rfl⟩) (by assumption) ?_
    simp only [List.setIfInBounds_toArray, List.set_cons_zero, List.set_cons_succ]
    refine take_at (i := 4) (d := 47) (v := ?_) rfl rfl (by kernel_rfl) (by kernel_rfl) (by kernel_rfl) (fun _ _ _ h => h) (Or.inl ⟨by rfl, by intro w' hSw; (try dsimp only at hSw); go_simp; try with_reducible rfl⟩) (by assumption) ?_
    simp only [List.setIfInBounds_toArray, List.set_cons_zero, List.set_cons_succ]
    refine take_at (i := 5) (d := 48) (v := ?_) rfl rfl (by kernel_rfl) (by kernel_rfl) (by kernel_rfl) (fun _ _ _ h => h) (Or.inl ⟨by rfl, by intro w' hSw; (try dsimp only at hSw); go_simp; try with_reducible rfl⟩) (by assumption) ?_
    simp only [List.setIfInBounds_toArray, List.set_cons_zero, List.set_cons_succ]
    refine take_at (i := 7) (d := 50) (v := ?_) rfl rfl (by kernel_rfl) (by kernel_rfl) (by kernel_rfl) (fun _ _ _ h => h) (Or.inl ⟨by rfl, by intro w' hSw; (try dsimp only at hSw); go_simp; try with_reducible rfl⟩) (by assumption) ?_
    simp only [List.setIfInBounds_toArray, List.set_cons_zero, List.set_cons_succ]
    refine take_at (i := 8) (d := 51) (v := ?_) rfl rfl (by kernel_rfl) (by kernel_rfl) (by kernel_rfl) (fun _ _ _ h => h) (Or.inl ⟨by rfl, by intro w' hSw; (try dsimp only at hSw); go_simp; try with_reducible rfl⟩) (by assumption) ?_
    simp only [List.setIfInBounds_toArray, List.set_cons_zero, List.set_cons_succ]
    refine take_at (i := 9) (d := 52) (v := ?_) rfl rfl (by kernel_rfl) (by kernel_rfl) (by kernel_rfl) (fun _ _ _ h => h) (Or.inl ⟨by rfl, by intro w' hSw; (try dsimp only at hSw); go_simp; try with_reducible rfl⟩) (by assumption) ?_
    simp only [List.setIfInBounds_toArray, List.set_cons_zero, List.set_cons_succ]
    refine take_at (i := 10) (d := 53) (v := ?_) rfl rfl (by kernel_rfl) (by kernel_rfl) (by kernel_rfl) (fun _ _ _ h => h) (Or.inl ⟨by rfl, by intro w' hSw; (try dsimp only at hSw); go_simp; try with_reducible rfl⟩) (by assumption) ?_
    simp only [List.setIfInBounds_toArray, List.set_cons_zero, List.set_cons_succ]
    refine take_at (i := 11) (d := 54) (v := ?_) rfl rfl (by kernel_rfl) (by kernel_rfl) (by kernel_rfl) (fun _ _ _ h => h) (Or.inl ⟨by rfl, by intro w' hSw; (try dsimp only at hSw); go_simp; try with_reducible rfl⟩) (by assumption) ?_
    simp only [List.setIfInBounds_toArray, List.set_cons_zero, List.set_cons_succ]
    refine wpAnyH_ready (rs := [6]) (by kernel_rfl) (by simp) ?_
    refine AllReadyH.cons rfl (fun K hK => ?_) AllReadyH.nil
    go_simp
    go_at_call 46
    refine HMO.out.mono ?_
    rintro e w6 ⟨a6, c6, rfl, hr6⟩
    rw [HTG.out] at hr6 ⊢
    have HB6 : Hid (Below w5.heap.size w5 w6) := Lib.hid ⟨hr6.2.1.os, hr6.2.1.tape, hr6.2.1.output, hr6.2.1.size, hr6.2.1.block⟩
    have HI6 : Hid (IntsAt .u8 w6 a6 TG) := Lib.hid (by have h := hr6.1; rw [HTG.out] at h; exact (owns_at h).2.1)
    have HZ6 := Lib.hid (ints_below HZ5.out HB6.out)
    have HEQ := Lib.hid (bytes_eq a6 (some ⟨bb, bo + A, none⟩) TG (zs.drop A) 32 32 c6 (c - A) w6 HTG.out HLD.out HI6.out (HZ6.out.drop A) HTI.out (inB_drop HB.out A))
    clear hr6
    dsimp only
    go_wp2_with fail
    refine hK.out _ _ ?_ (fun hHeld => ?_)
    · exact trivial
    clear hK K
    try simp only [Act.put, List.getElem_toArray, List.getElem_cons_succ, List.getElem_cons_zero]
    try simp only [List.setIfInBounds_toArray, List.set_cons_zero, List.set_cons_succ]
    refine wpAnyH_ready (rs := [12]) (by kernel_rfl) (by simp) ?_
    refine AllReadyH.cons rfl (fun K hK => ?_) AllReadyH.nil
    go_simp
    go_at_call 16
    refine HEQ.out.mono ?_
    rintro e w7 ⟨rfl, rfl⟩
    dsimp only
    go_wp2_with fail
    refine hK.out _ _ ?_ (fun hHeld => ?_)
    · exact trivial
    clear hK K
    try simp only [Act.put, List.getElem_toArray, List.getElem_cons_succ, List.getElem_cons_zero]
    try simp only [List.setIfInBounds_toArray, List.set_cons_zero, List.set_cons_succ]
    refine take_at (i := 13) (d := 56) (v := ?_) rfl rfl (by kernel_rfl) (by kernel_rfl) (by kernel_rfl) (fun _ _ _ h => h) (Or.inl ⟨by rfl, by intro w' hSw; (try dsimp only at hSw); go_simp; try with_reducible rfl⟩) (by assumption) ?_
    simp only [List.setIfInBounds_toArray, List.set_cons_zero, List.set_cons_succ]
    refine wpAnyH_done (by kernel_rfl) ?_ _
    clear hHeld r1 r2 r3 r4 r5 r6 r7 r8 r9
    have HX6 := Lib.hid (HX5.out.below HB6.out)
    have HF6 := Lib.hid (HF5.out.below HB6.out)
    have HBW : Hid (Below w.heap.size w w6) := Lib.hid (below_step HB5.out HB6.out)
    have HO6 : Hid (w6.ownsRow 0 5 1 (.slice ca (A - 12) cc) (A - 12) (bd.map (Value.int .u8))) := Lib.hid (ownsRow_same HO5.out (fun x hx => HB6.out.block x (HO5.out.lt x hx).2))
    cases hq : eqB TG (zs.drop A)
    · have HG : Hid (openF key zs = (noN, 4)) := Lib.hid (by
        rw [HO2.out, if_neg]
        unfold eqB at hq
        simpa using hq)
      clear hq
      obtain ⟨f0', f1, f2, f3, f4⟩ := HX6.out.free
      obtain ⟨n0, n1, n2, n3, n4⟩ := HX6.out.cells
      go_wp2_with fail
      rw [show ((((w6.setCell ⟨w.heap.size, 0, none⟩ (.int .i64 0)).setCell ⟨w.heap.size, 1, none⟩ (.int .i64 0)).setCell ⟨w.heap.size, 2, none⟩ (.int .i64 0)).setCell ⟨w.heap.size, 3, none⟩ (.int .i64 0)).setCell ⟨w.heap.size, 4, none⟩ (.slice none 0 0) = fillN w6 w.heap.size 0 0 0 0 (.slice none 0 0) from rfl]
      obtain ⟨q0, q1, q2, q3, q4⟩ := (HX6.out.fill 0 0 0 0 (.slice none 0 0)).cells
      refine bodyPost_ret (v := .tuple #[.agg #[.int .i64 0, .int .i64 0, .int .i64 0, .int .i64 0, .slice none 0 0], .int .i64 4]) (by simp [results, Try.results29, go_sem, q0, q1, q2, q3, q4]) rfl ?_
      rw [HG.out]
      exact ropen_none 4 HBW.out (Nat.le_refl _)
    have HG : Hid (openF key zs = (⟨p0, l0, x0, s0, bd⟩, 0)) := Lib.hid (by
      rw [HO2.out, if_pos]
      unfold eqB at hq
      simpa using hq)
    clear hq HO2
    obtain ⟨f0', f1, f2, f3, f4⟩ := HX6.out.free
    obtain ⟨n0, n1, n2, n3, n4⟩ := HX6.out.cells
    obtain ⟨y0, y1, y2, y3, y4⟩ := HF6.out.cells
    go_wp2_with fail
    obtain ⟨wF, hwF⟩ : ∃ wF, wF = fillN w6 w.heap.size p0 l0 x0 s0 (.slice ca (A - 12) cc) := ⟨_, rfl⟩
    rw [show ((((w6.setCell ⟨w.heap.size, 0, none⟩ (.int .i64 p0)).setCell ⟨w.heap.size, 1, none⟩ (.int .i64 l0)).setCell ⟨w.heap.size, 2, none⟩ (.int .i64 x0)).setCell ⟨w.heap.size, 3, none⟩ (.int .i64 s0)).setCell ⟨w.heap.size, 4, none⟩ (.slice ca (A - 12) cc) = wF from hwF.symm]
    have HKF : Hid (Keeps (fun i => i = w.heap.size) w6 wF) := Lib.hid (by rw [hwF]; exact fillN_keeps _ _ _ _ _ _ _)
    have HXF : Hid (NBox wF w.heap.size p0 l0 x0 s0 (.slice ca (A - 12) cc)) := Lib.hid (by rw [hwF]; exact HX6.out.fill _ _ _ _ _)
    clear hwF f0' f1 f2 f3 f4 n0 n1 n2 n3 n4 y0 y1 y2 y3 y4
    obtain ⟨q0, q1, q2, q3, q4⟩ := HXF.out.cells
    refine bodyPost_ret (v := .tuple #[.agg #[.int .i64 p0, .int .i64 l0, .int .i64 x0, .int .i64 s0, .slice ca (A - 12) cc], .int .i64 0]) (by simp [results, Try.results29, go_sem, q0, q1, q2, q3, q4]) rfl ?_
    rw [HG.out]
    refine ⟨ca, cc, ?_, ?_, below_fp HBW.out HKF.out (fun i hi => by omega), fun x hx => ?_⟩
    · dsimp only; rw [HBA.out]
    · dsimp only
      rw [HBA.out]
      exact ownsRow_same HO6.out (fun x hx => HKF.out.block x (HO6.out.lt x hx).2 (by have := (HG5.out x hx).2; omega))
    · dsimp only at hx
      rw [HBA.out] at hx
      have := (HG5.out x hx).2
      omega

end Go.Proofs.Yteabnagdfecleaa
