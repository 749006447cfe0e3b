/- Contracts of cflref9.SameBatch, SameEvents, SameAnswer. -/
import Derived.Test.YtkaciaehlibidaaGreatBoxz
import Derived.Test.YtkaciaehlibidaaGreatReq7
import Derived.Deep.CutBlock
import Derived.Deep.DeepCutAuto
namespace Go.Proofs.YtkaciaehlibidaaGreat
open Go.RowKit
set_option linter.unusedVariables false
set_option linter.unusedSimpArgs false

set_option maxRecDepth 100000 in
set_option maxHeartbeats 2000000 in
theorem rsameEvents (ao bo : Option Addr) (xs ys : List EV) (n m c d : Nat) (w : World) (hn : xs.length = n) (hm : ys.length = m) (hx : EvsAt w ao xs) (hy : EvsAt w bo ys) (hnm : n ≤ 1000000 ∧ m ≤ 1000000) :
    Calls Tryz.prog 16 #[.slice ao n c, .slice bo m d] w fun e w' => e = .returned (.bool (allB eqEV xs ys)) ∧ Below w.heap.size w w' := by
  have HX := Lib.hid hx
  have HY := Lib.hid hy
  have HN := Lib.hid hn
  have HM := Lib.hid hm
  obtain ⟨hn6, hm6⟩ := hnm
  by_cases hl : n = m
  · subst hl
    have HA : Hid (allB eqEV xs ys = allF eqEV xs ys) := Lib.hid (by simp [allB, hn, hm])
    clear hx hy hn hm
    go_enter Tryz.func16, Tryz.ntmps16
    go_wp2_with fail
    go_loopw [5] (fun i wr => ∃ k : Nat, k ≤ n ∧ i = .int .i64 k ∧ Below w.heap.size w wr ∧ allF eqEV (xs.take k) (ys.take k) = true) (fun i _ => n + 1 - (intOf i + 1).toNat)
    case atStart => exact ⟨0, Nat.zero_le _, rfl, Below.refl _ _, rfl⟩
    case round =>
      obtain ⟨k, hk, rfl, hbel, hall⟩ := hrel
      have HBE := Lib.hid hbel
      have HALL := Lib.hid hall
      clear hall
      by_cases hlt : k < n
      · have hkx : k < xs.length := by rw [HN.out]; exact hlt
        have hky : k < ys.length := by rw [HM.out]; exact hlt
        obtain ⟨xb, xoff, rfl, hat⟩ := ev_cells (HX.out.below hbel) k hkx
        obtain ⟨yb, yoff, rfl, hbt⟩ := ev_cells (HY.out.below hbel) k hky
        obtain ⟨c0, c1, c2, c3, c4, c5, c6, c7, c8⟩ := hat.all
        obtain ⟨d0, d1, d2, d3, d4, d5, d6, d7, d8⟩ := hbt.all
        have HSN := Lib.hid (allF_snoc eqEV xs ys k hkx hky)
        have HAT := Lib.hid (allF_at eqEV xs ys k hkx hky)
        generalize xs[k] = r at *
        generalize ys[k] = q at *
        have hne := fun w1 => neq_ev r q w1
        unfold EV.cells at hne
        have HBD := Lib.hid (fun j => HBE.out.trans (Keeps.below ((Keeps.refl (fun _ => False) wr).drewN j) (B := w.heap.size) HBE.out.size (fun _ f => f.elim)))
        clear hat hbt hbel
        have j0 : (0 : Int) ≤ (k : Int) := by omega
        have j1 : (k : Int) < (n : Int) := by omega
        cases hq : eqEV r q
        · have HQ := Lib.hid hq
          rw [hq] at hne
          clear hq
          go_wp2_with fail
          go_quiet (fail)
          go_wp2
          go_ret
          exact ⟨ret_bool (by rw [HA.out, HAT.out HQ.out]), HBD.out _⟩
        · have HQ := Lib.hid hq
          rw [hq] at hne
          clear hq
          go_wp2_with fail
          go_quiet (fail)
          go_wp2
          go_roundw
          case rel => exact ⟨k + 1, by omega, by go_num, HBD.out _, by rw [HSN.out, HALL.out, HQ.out]; rfl⟩
          case measure => simp [intOf]; omega
      · obtain rfl : k = n := by omega
        have HB := Lib.hid (show allB eqEV xs ys = true by
          rw [HA.out]
          have h := HALL.out
          rwa [List.take_of_length_le (by rw [HN.out]; exact Nat.le_refl _), List.take_of_length_le (by rw [HM.out]; exact Nat.le_refl _)] at h)
        clear hlt hbel
        go_wp2
        go_ret
        exact ⟨ret_bool HB.out.symm, HBE.out⟩
  · have HA : Hid (allB eqEV xs ys = false) := Lib.hid (by simp [allB, hn, hm, hl])
    have h1 : ((n : Int) != (m : Int)) = true := by simp; omega
    clear hx hy hn hm hl
    go_enter Tryz.func16, Tryz.ntmps16
    go_wp2
    go_ret
    exact ⟨ret_bool HA.out.symm, Below.refl _ _⟩


set_option maxRecDepth 100000 in
set_option maxHeartbeats 2000000 in
theorem rsameAnswer (c1 s1 : Int) (ra : Option Addr) (xs : List (Int × Int)) (n rc : Nat) (ea : Option Addr) (es : List EV) (m1 ec : Nat) (c2 s2 : Int) (rb : Option Addr) (ys : List (Int × Int)) (m rc' : Nat) (eb : Option Addr) (fs : List EV) (m' ec' : Nat) (w : World) (hn : xs.length = n) (hm1 : es.length = m1) (hm : ys.length = m) (hm' : fs.length = m')
    (hx : RepsAt w ra xs) (hy : RepsAt w rb ys) (he : EvsAt w ea es) (hf : EvsAt w eb fs) (hnm : n ≤ 1000000 ∧ m ≤ 1000000) (hmm : m1 ≤ 1000000 ∧ m' ≤ 1000000) :
    Calls Tryz.prog 15 #[.agg #[.int .i64 c1, .int .i64 s1, .slice ra n rc, .slice ea m1 ec], .agg #[.int .i64 c2, .int .i64 s2, .slice rb m rc', .slice eb m' ec']] w fun e w' => e = .returned (.bool (sameA c1 s1 xs es c2 s2 ys fs)) ∧ Below w.heap.size w w' := by
  obtain ⟨w2, hw2⟩ : ∃ w2, w2 = (w.alloc (.cells #[.int .i64 c1, .int .i64 s1, .slice ra n rc, .slice ea m1 ec] 37)).alloc (.cells #[.int .i64 c2, .int .i64 s2, .slice rb m rc', .slice eb m' ec'] 37) := ⟨_, rfl⟩
  have HB2 : Hid (Below w.heap.size w w2) := Lib.hid (by subst hw2; exact ((Below.refl _ _).alloc (Nat.le_refl _) _).alloc (by simp) _)
  have HX := Lib.hid (hx.below HB2.out)
  have HY := Lib.hid (hy.below HB2.out)
  have HEV := Lib.hid (fun w' (h : Below w2.heap.size w2 w') => rsameEvents ea eb es fs m1 m' ec ec' w' hm1 hm' ((he.below HB2.out).below h) ((hf.below HB2.out).below h) hmm)
  have HBX : Hid (Boxes w w2 [(#[.int .i64 c1, .int .i64 s1, .slice ra n rc, .slice ea m1 ec], 37), (#[.int .i64 c2, .int .i64 s2, .slice rb m rc', .slice eb m' ec'], 37)]) := Lib.hid (by
    subst hw2
    exact ((Boxes.nil w).push (by simp) _ _).push (by simp) _ _)
  have HCC : Hid (∀ w', Below w2.heap.size w2 w' → (w'.cell? ⟨w.heap.size, 0, none⟩ = some (.int .i64 c1) ∧ w'.cell? ⟨w.heap.size, 1, none⟩ = some (.int .i64 s1) ∧ w'.cell? ⟨w.heap.size, 2, none⟩ = some (.slice ra n rc) ∧ w'.cell? ⟨w.heap.size, 3, none⟩ = some (.slice ea m1 ec)) ∧ w'.cell? ⟨w.heap.size + 1, 0, none⟩ = some (.int .i64 c2) ∧ w'.cell? ⟨w.heap.size + 1, 1, none⟩ = some (.int .i64 s2) ∧ w'.cell? ⟨w.heap.size + 1, 2, none⟩ = some (.slice rb m rc') ∧ w'.cell? ⟨w.heap.size + 1, 3, none⟩ = some (.slice eb m' ec')) := Lib.hid (fun w' h => by
    have h2 := HBX.out.below h
    exact ⟨⟨h2.cell 0 0 rfl, h2.cell 0 1 rfl, h2.cell 0 2 rfl, h2.cell 0 3 rfl⟩, h2.cell 1 0 rfl, h2.cell 1 1 rfl, h2.cell 1 2 rfl, h2.cell 1 3 rfl⟩)
  have HN := Lib.hid hn
  have HM := Lib.hid hm
  have HW2 := Lib.hid hw2
  obtain ⟨hn6, hm6⟩ := hnm
  clear hx hy hn hm hw2 he hf hm1 hm' hmm
  obtain ⟨⟨a0, a1, a2, a3⟩, b0, b1, b2, b3⟩ := HCC.out w2 (Below.refl _ _)
  cases hc : (c1 == c2)
  · have HA : Hid (sameA c1 s1 xs es c2 s2 ys fs = false) := Lib.hid (by simp [sameA, hc])
    have h1 : (c1 != c2) = true := by simp [bne, hc]
    clear hc
    go_enter Tryz.func15, Tryz.ntmps15
    go_upto_region 1 with fail
    rw [← HW2.out]
    go_wp2
    go_ret
    exact ⟨ret_bool HA.out.symm, HB2.out⟩
  have h0 : (c1 != c2) = false := by simp [bne, hc]
  cases hs : (s1 == s2)
  · have HA : Hid (sameA c1 s1 xs es c2 s2 ys fs = false) := Lib.hid (by simp [sameA, hs])
    have h1 : (s1 != s2) = true := by simp [bne, hs]
    clear hc hs
    go_enter Tryz.func15, Tryz.ntmps15
    go_upto_region 1 with fail
    rw [← HW2.out]
    go_wp2
    go_ret
    exact ⟨ret_bool HA.out.symm, HB2.out⟩
  have h1 : (s1 != s2) = false := by simp [bne, hs]
  by_cases hl : n = m
  · subst hl
    have HA : Hid (sameA c1 s1 xs es c2 s2 ys fs = (allF eqRP xs ys && allB eqEV es fs)) := Lib.hid (by simp [sameA, hs, hc, allB, HN.out, HM.out])
    clear hs hc
    go_enter Tryz.func15, Tryz.ntmps15
    go_upto_region 1 with fail
    rw [← HW2.out]
    go_wp2_with fail
    clear a0 a1 a2 a3 b0 b1 b2 b3
    go_loopw [5] (fun i wr => ∃ k : Nat, k ≤ n ∧ i = .int .i64 k ∧ Below w2.heap.size w2 wr ∧ allF eqRP (xs.take k) (ys.take k) = true) (fun i _ => n + 1 - (intOf i + 1).toNat)
    case atStart => exact ⟨0, Nat.zero_le _, rfl, Below.refl _ _, rfl⟩
    case round =>
      obtain ⟨k, hk, rfl, hbel, hall⟩ := hrel
      have HBE := Lib.hid hbel
      have HALL := Lib.hid hall
      clear hall
      obtain ⟨⟨a0, a1, a2, a3⟩, b0, b1, b2, b3⟩ := HCC.out wr hbel
      by_cases hlt : k < n
      · have hkx : k < xs.length := by rw [HN.out]; exact hlt
        have hky : k < ys.length := by rw [HM.out]; exact hlt
        obtain ⟨xb, xoff, rfl, hat⟩ := rep_cells2 (HX.out.below hbel) k hkx
        obtain ⟨yb, yoff, rfl, hbt⟩ := rep_cells2 (HY.out.below hbel) k hky
        obtain ⟨c0, c1⟩ := hat.all
        obtain ⟨d0, d1⟩ := hbt.all
        have HSN := Lib.hid (allF_snoc eqRP xs ys k hkx hky)
        have HAT := Lib.hid (allF_at eqRP xs ys k hkx hky)
        generalize xs[k] = r at *
        generalize ys[k] = q at *
        have hne := fun w1 => neq_rep r q w1
        unfold RP.cells at hne
        have HBD := Lib.hid (fun j => HBE.out.trans (Keeps.below ((Keeps.refl (fun _ => False) wr).drewN j) (B := w2.heap.size) HBE.out.size (fun _ f => f.elim)))
        clear hat hbt hbel
        have j0 : (0 : Int) ≤ (k : Int) := by omega
        have j1 : (k : Int) < (n : Int) := by omega
        cases hq : eqRP r q
        · have HQ := Lib.hid hq
          rw [hq] at hne
          clear hq
          go_wp2_with fail
          go_quiet (fail)
          go_wp2
          go_ret
          exact ⟨ret_bool (by rw [HA.out, HAT.out HQ.out]; rfl), HB2.out.trans ((HBD.out _).mono HB2.out.size)⟩
        · have HQ := Lib.hid hq
          rw [hq] at hne
          clear hq
          go_wp2_with fail
          go_quiet (fail)
          go_wp2
          go_roundw
          case rel => exact ⟨k + 1, by omega, by go_num, HBD.out _, by rw [HSN.out, HALL.out, HQ.out]; rfl⟩
          case measure => simp [intOf]; omega
      · obtain rfl : k = n := by omega
        have HB := Lib.hid (show allF eqRP xs ys = true by
          have h := HALL.out
          rwa [List.take_of_length_le (by rw [HN.out]; exact Nat.le_refl _), List.take_of_length_le (by rw [HM.out]; exact Nat.le_refl _)] at h)
        clear hlt hbel
        go_wp2_with fail
        refine (HEV.out wr HBE.out).mono ?_
        rintro e w5 ⟨rfl, hb5⟩
        have HBF := Lib.hid (HB2.out.trans ((HBE.out.trans (hb5.mono HBE.out.size)).mono HB2.out.size))
        clear hb5
        go_wp2
        go_ret
        exact ⟨ret_bool (by rw [HA.out, HB.out, Bool.true_and]), HBF.out⟩
  · have HA : Hid (sameA c1 s1 xs es c2 s2 ys fs = false) := Lib.hid (by simp [sameA, allB, HN.out, HM.out, hl])
    have h2 : ((n : Int) != (m : Int)) = true := by simp; omega
    clear hl hs hc
    go_enter Tryz.func15, Tryz.ntmps15
    go_upto_region 1 with fail
    rw [← HW2.out]
    go_wp2
    go_ret
    exact ⟨ret_bool HA.out.symm, HB2.out⟩

end Go.Proofs.YtkaciaehlibidaaGreat
