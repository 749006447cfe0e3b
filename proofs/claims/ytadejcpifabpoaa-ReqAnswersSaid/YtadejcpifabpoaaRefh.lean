/- Contract of cflref9.GetEvent. -/
import Derived.Test.YtadejcpifabpoaaRefg
namespace Go.Proofs.Ytadejcpifabpoaa
open Go.RowKit
set_option linter.unusedVariables false
set_option linter.unusedSimpArgs false

def evxA (x : EV × DS) : EV × DS := if x.1.k < 3 then ({ x.1 with f := (dN 1 (x.2)).1, t := (dN 1 ((dN 1 (x.2)).2)).1, a := (dN 1 ((dN 1 ((dN 1 (x.2)).2)).2)).1, n := (dN 8 ((dN 1 ((dN 1 ((dN 1 (x.2)).2)).2)).2)).1 }, (dN 8 ((dN 1 ((dN 1 ((dN 1 (x.2)).2)).2)).2)).2) else x
def evxB (x : EV × DS) : EV × DS := if 1 < x.1.k then ({ x.1 with i := (dN 2 (x.2)).1 }, (dN 2 (x.2)).2) else x
def evxC (x : EV × DS) : EV × DS := if x.1.k = 2 then ({ x.1 with h := strOfNums (dR (x.2)).1, d := (dN 8 ((dR (x.2)).2)).1 }, (dN 8 ((dR (x.2)).2)).2) else x
def evxD (x : EV × DS) : EV × DS := if x.1.k = 3 then ({ x.1 with s := strOfNums (dR (x.2)).1 }, (dR (x.2)).2) else x
def evxGet (d : DS) : EV × DS := evxD (evxC (evxB (evxA ((⟨(dN 1 d).1, 0, 0, 0, 0, 0, 0, ⟨#[]⟩, ⟨#[]⟩⟩, (dN 1 d).2)))))
def evxPost (w : World) (p g : Nat) (d : DS) (e : Ending) (w' : World) : Prop := e = .returned (.agg (evxGet d).1.cells) ∧ DecAt 108 w' p g (evxGet d).2.1 (evxGet d).2.2 ∧ Keeps (fun i => i = p) w w'

set_option maxRecDepth 100000 in
set_option maxHeartbeats 4000000 in
theorem getEvent (p g : Nat) (d : DS) (w : World) (h : DecAt 108 w p g d.1 d.2) (hg : g < w.heap.size) :
    Calls Try.prog 80 #[.pointer (some ⟨p, 0, none⟩)] w (evxPost w p g d) := by
  obtain ⟨wR, hwR⟩ : ∃ wR, wR = w.alloc (.cells #[.int .i64 0, .int .i64 0, .int .i64 0, .int .i64 0, .int .i64 0, .int .i64 0, .int .i64 0, .string ⟨#[]⟩, .string ⟨#[]⟩] 84) := ⟨_, rfl⟩
  have HRB : Hid (Below w.heap.size w wR) := Lib.hid (by subst hwR; exact (Below.refl _ _).alloc (Nat.le_refl _) _)
  have HRX : Hid (wR.heap[w.heap.size]? = some (.cells #[.int .i64 0, .int .i64 0, .int .i64 0, .int .i64 0, .int .i64 0, .int .i64 0, .int .i64 0, .string ⟨#[]⟩, .string ⟨#[]⟩] 84 (0, 0))) := Lib.hid (by subst hwR; exact heap_alloc_new w _)
  have HD0 : Hid (DecAt 108 wR p g d.1 d.2) := Lib.hid (h.keep (Keeps.of_below (S := fun _ => False) HRB.out) (fun f => f) (Or.inr (fun f => f)))
  have hpl := h.lt
  have HG := Lib.hid hg
  have HWR := Lib.hid hwR
  have HGET := Lib.hid (show evxGet d = evxD (evxC (evxB (evxA ((⟨(dN 1 d).1, 0, 0, 0, 0, 0, 0, ⟨#[]⟩, ⟨#[]⟩⟩, (dN 1 d).2))))) from rfl)
  clear h hg hwR
  go_enter Try.func80, Try.ntmps80
  go_upto_region 1 with fail
  rw [← HWR.out]
  go_wp2_with fail
  refine (refdec_num p g d.1 d.2 1 wR HD0.out).mono ?_
  rintro e w2 ⟨rfl, hp2⟩
  have HP2 := Lib.hid hp2
  clear hp2
  obtain ⟨k0, hk0⟩ : ∃ k0, k0 = (decNum d.1 d.2 1).1 := ⟨_, rfl⟩
  rw [← hk0]
  have HK0 := Lib.hid (show (dN 1 d).1 = k0 from hk0.symm)
  clear hk0
  go_upto_region 2 with fail
  obtain ⟨w3, hw3⟩ : ∃ w3, w3 = w2.alloc (.cells (⟨k0, 0, 0, 0, 0, 0, 0, ⟨#[]⟩, ⟨#[]⟩⟩ : EV).cells 84) := ⟨_, rfl⟩
  have HX3 : Hid (GetAt w w3 p g w.heap.size w2.heap.size 84 #[.int .i64 0, .int .i64 0, .int .i64 0, .int .i64 0, .int .i64 0, .int .i64 0, .int .i64 0, .string ⟨#[]⟩, .string ⟨#[]⟩] (⟨k0, 0, 0, 0, 0, 0, 0, ⟨#[]⟩, ⟨#[]⟩⟩ : EV).cells (dN 1 d).2) := Lib.hid (by
    have hb : Below w2.heap.size w2 w3 := by rw [hw3]; exact (Below.refl _ _).alloc (Nat.le_refl _) _
    have h1 := HP2.out
    have h2 := blk_lt HRX.out
    have h3 := h1.2.size
    have h4 := (h1.2.block w.heap.size h2 (by omega)).trans HRX.out
    have k1 : Keeps (fun i => i = p) w wR := Keeps.of_below HRB.out
    have k3 : Keeps (fun i => i = p) w2 w3 := Keeps.of_below hb
    exact ⟨h1.1.keep (Keeps.of_below (S := fun _ => False) hb) (fun f => f) (Or.inr (fun f => f)), (k1.trans h1.2 (fun i hi => Or.inl hi)).trans k3 (fun i hi => Or.inl hi), (hb.block _ (blk_lt h4)).trans h4, by rw [hw3]; exact heap_alloc_new w2 _, Nat.le_refl _, blk_lt h4, hpl, HG.out⟩)
  unfold EV.cells at hw3
  rw [← hw3]
  clear hw3
  rw [HK0.out] at HGET
  generalize w2.heap.size = X at *
  generalize (dN 1 d).2 = d1 at *
  obtain ⟨r, hr⟩ : ∃ r : EV, r = ⟨k0, 0, 0, 0, 0, 0, 0, ⟨#[]⟩, ⟨#[]⟩⟩ := ⟨_, rfl⟩
  rw [← hr] at HX3 HGET
  have hrk : k0 = r.k := by rw [hr]
  rw [hrk] at *
  clear hr HRB HRX HD0 HWR HP2 HK0
  have c0 := (HX3.out.cell 0).1
  simp only [EV.cells, List.getElem?_toArray, List.getElem?_cons_zero] at c0
  go_upto_if 9 with fail
  have HBI0 : Hid ((decide (r.k < 3)) = true ↔ (r.k < 3)) := Lib.hid (by simp)
  generalize (decide (r.k < 3)) = B at *
  clear c0
  go_cut [] (fun wx => GetAt w wx p g w.heap.size X 84 #[.int .i64 0, .int .i64 0, .int .i64 0, .int .i64 0, .int .i64 0, .int .i64 0, .int .i64 0, .string ⟨#[]⟩, .string ⟨#[]⟩] (evxA (r, d1)).1.cells (evxA (r, d1)).2)
  case first =>
    cases B
    case' true =>
      have hc := HBI0.out.1 rfl
      have HS := Lib.hid (show evxA (r, d1) = ({ r with f := (dN 1 d1).1, t := (dN 1 ((dN 1 d1).2)).1, a := (dN 1 ((dN 1 ((dN 1 d1).2)).2)).1, n := (dN 8 ((dN 1 ((dN 1 ((dN 1 d1).2)).2)).2)).1 }, (dN 8 ((dN 1 ((dN 1 ((dN 1 d1).2)).2)).2)).2) from by unfold evxA; rw [if_pos hc])
      clear hc
      go_wp2_with fail
      refine (HX3.out.num 1).mono ?_
      rintro e wn1 ⟨rfl, hq1⟩
      have HQ1 := Lib.hid hq1
      clear hq1
      generalize dN 1 d1 = y1 at *
      go_wp2_with fail
      refine (HQ1.out.num 1).mono ?_
      rintro e wn2 ⟨rfl, hq2⟩
      have HQ2 := Lib.hid hq2
      clear hq2
      generalize dN 1 y1.2 = y2 at *
      go_wp2_with fail
      refine (HQ2.out.num 1).mono ?_
      rintro e wn3 ⟨rfl, hq3⟩
      have HQ3 := Lib.hid hq3
      clear hq3
      generalize dN 1 y2.2 = y3 at *
      go_wp2_with fail
      refine (HQ3.out.num 8).mono ?_
      rintro e wn4 ⟨rfl, hq4⟩
      have HQ4 := Lib.hid hq4
      clear hq4
      generalize dN 8 y3.2 = y4 at *
      obtain ⟨cc1, cf1⟩ := HQ4.out.cell 1
      simp only [EV.cells, List.getElem?_toArray, List.getElem?_cons_zero, List.getElem?_cons_succ, List.setIfInBounds_toArray, List.set_cons_zero, List.set_cons_succ] at cc1
      obtain ⟨cc2, cf2⟩ := HQ4.out.cell 2
      simp only [EV.cells, List.getElem?_toArray, List.getElem?_cons_zero, List.getElem?_cons_succ, List.setIfInBounds_toArray, List.set_cons_zero, List.set_cons_succ] at cc2
      obtain ⟨cc3, cf3⟩ := HQ4.out.cell 3
      simp only [EV.cells, List.getElem?_toArray, List.getElem?_cons_zero, List.getElem?_cons_succ, List.setIfInBounds_toArray, List.set_cons_zero, List.set_cons_succ] at cc3
      obtain ⟨cc4, cf4⟩ := HQ4.out.cell 4
      simp only [EV.cells, List.getElem?_toArray, List.getElem?_cons_zero, List.getElem?_cons_succ, List.setIfInBounds_toArray, List.set_cons_zero, List.set_cons_succ] at cc4
      have HT4 := Lib.hid ((((HQ4.out.set 1 (.int .i64 y1.1)).set 2 (.int .i64 y2.1)).set 3 (.int .i64 y3.1)).set 4 (.int .i64 y4.1))
      go_wp2_with fail
      go_meet
      case rel =>
        rw [HS.out]
        simpa [EV.cells] using HT4.out
    case' false =>
      have hc : ¬ (r.k < 3) := fun h => by have h2 := HBI0.out.2 h; cases h2
      have HS := Lib.hid (show evxA (r, d1) = (r, d1) from by unfold evxA; rw [if_neg hc])
      clear hc
      go_wp2_with fail
      go_meet
      case rel =>
        rw [HS.out]
        exact HX3.out
  case rest =>
    have HC0 := Lib.hid hcut
    clear hcut HX3
    generalize evxA (r, d1) = x at *
    obtain ⟨r, d1⟩ := x
    have c0 := (HC0.out.cell 0).1
    simp only [EV.cells, List.getElem?_toArray, List.getElem?_cons_zero] at c0
    go_upto_if 24 with fail
    have HBI1 : Hid ((decide (1 < r.k)) = true ↔ (1 < r.k)) := Lib.hid (by simp)
    generalize (decide (1 < r.k)) = B at *
    clear c0
    go_cut [] (fun wx => GetAt w wx p g w.heap.size X 84 #[.int .i64 0, .int .i64 0, .int .i64 0, .int .i64 0, .int .i64 0, .int .i64 0, .int .i64 0, .string ⟨#[]⟩, .string ⟨#[]⟩] (evxB (r, d1)).1.cells (evxB (r, d1)).2)
    case first =>
      cases B
      case' true =>
        have hc := HBI1.out.1 rfl
        have HS := Lib.hid (show evxB (r, d1) = ({ r with i := (dN 2 d1).1 }, (dN 2 d1).2) from by unfold evxB; rw [if_pos hc])
        clear hc
        go_wp2_with fail
        refine (HC0.out.num 2).mono ?_
        rintro e wn1 ⟨rfl, hq1⟩
        have HQ1 := Lib.hid hq1
        clear hq1
        generalize dN 2 d1 = y1 at *
        obtain ⟨cc5, cf5⟩ := HQ1.out.cell 5
        simp only [EV.cells, List.getElem?_toArray, List.getElem?_cons_zero, List.getElem?_cons_succ, List.setIfInBounds_toArray, List.set_cons_zero, List.set_cons_succ] at cc5
        have HT1 := Lib.hid (HQ1.out.set 5 (.int .i64 y1.1))
        go_wp2_with fail
        go_meet
        case rel =>
          rw [HS.out]
          simpa [EV.cells] using HT1.out
      case' false =>
        have hc : ¬ (1 < r.k) := fun h => by have h2 := HBI1.out.2 h; cases h2
        have HS := Lib.hid (show evxB (r, d1) = (r, d1) from by unfold evxB; rw [if_neg hc])
        clear hc
        go_wp2_with fail
        go_meet
        case rel =>
          rw [HS.out]
          exact HC0.out
    case rest =>
      have HC1 := Lib.hid hcut
      clear hcut HC0
      generalize evxB (r, d1) = x at *
      obtain ⟨r, d1⟩ := x
      have c0 := (HC1.out.cell 0).1
      simp only [EV.cells, List.getElem?_toArray, List.getElem?_cons_zero] at c0
      go_upto_if 30 with fail
      have HBI2 : Hid ((r.k == 2) = true ↔ (r.k = 2)) := Lib.hid (by simp)
      generalize (r.k == 2) = B at *
      clear c0
      go_cut [] (fun wx => GetAt w wx p g w.heap.size X 84 #[.int .i64 0, .int .i64 0, .int .i64 0, .int .i64 0, .int .i64 0, .int .i64 0, .int .i64 0, .string ⟨#[]⟩, .string ⟨#[]⟩] (evxC (r, d1)).1.cells (evxC (r, d1)).2)
      case first =>
        cases B
        case' true =>
          have hc := HBI2.out.1 rfl
          have HS := Lib.hid (show evxC (r, d1) = ({ r with h := strOfNums (dR d1).1, d := (dN 8 ((dR d1).2)).1 }, (dN 8 ((dR d1).2)).2) from by unfold evxC; rw [if_pos hc])
          clear hc
          go_wp2_with fail
          refine (HC1.out.raw).mono ?_
          rintro e wn1 ⟨⟨bo1, bc1, rfl, hb1⟩, hq1⟩
          have HQ1 := Lib.hid hq1
          have hcv1 := conv_u8 (P := Try.prog) bc1 41 5 9 Try.underlying41 Try.underlying5 Try.underlying9 hb1 rfl
          clear hq1 hb1
          generalize dR d1 = y1 at *
          obtain ⟨cc7, cf7⟩ := HQ1.out.cell 7
          simp only [EV.cells, List.getElem?_toArray, List.getElem?_cons_zero, List.getElem?_cons_succ, List.setIfInBounds_toArray, List.set_cons_zero, List.set_cons_succ] at cc7
          have HT1 := Lib.hid (HQ1.out.set 7 (.string (strOfNums y1.1)))
          go_wp2_with fail
          refine (HT1.out.num 8).mono ?_
          rintro e wn2 ⟨rfl, hq2⟩
          have HQ2 := Lib.hid hq2
          clear hq2
          generalize dN 8 y1.2 = y2 at *
          obtain ⟨cc6, cf6⟩ := HQ2.out.cell 6
          simp only [EV.cells, List.getElem?_toArray, List.getElem?_cons_zero, List.getElem?_cons_succ, List.setIfInBounds_toArray, List.set_cons_zero, List.set_cons_succ] at cc6
          have HT2 := Lib.hid (HQ2.out.set 6 (.int .i64 y2.1))
          go_wp2_with fail
          go_meet
          case rel =>
            rw [HS.out]
            simpa [EV.cells] using HT2.out
        case' false =>
          have hc : ¬ (r.k = 2) := fun h => by have h2 := HBI2.out.2 h; cases h2
          have HS := Lib.hid (show evxC (r, d1) = (r, d1) from by unfold evxC; rw [if_neg hc])
          clear hc
          go_wp2_with fail
          go_meet
          case rel =>
            rw [HS.out]
            exact HC1.out
      case rest =>
        have HC2 := Lib.hid hcut
        clear hcut HC1
        generalize evxC (r, d1) = x at *
        obtain ⟨r, d1⟩ := x
        have c0 := (HC2.out.cell 0).1
        simp only [EV.cells, List.getElem?_toArray, List.getElem?_cons_zero] at c0
        go_upto_if 40 with fail
        have HBI3 : Hid ((r.k == 3) = true ↔ (r.k = 3)) := Lib.hid (by simp)
        generalize (r.k == 3) = B at *
        clear c0
        go_cut [] (fun wx => GetAt w wx p g w.heap.size X 84 #[.int .i64 0, .int .i64 0, .int .i64 0, .int .i64 0, .int .i64 0, .int .i64 0, .int .i64 0, .string ⟨#[]⟩, .string ⟨#[]⟩] (evxD (r, d1)).1.cells (evxD (r, d1)).2)
        case first =>
          cases B
          case' true =>
            have hc := HBI3.out.1 rfl
            have HS := Lib.hid (show evxD (r, d1) = ({ r with s := strOfNums (dR d1).1 }, (dR d1).2) from by unfold evxD; rw [if_pos hc])
            clear hc
            go_wp2_with fail
            refine (HC2.out.raw).mono ?_
            rintro e wn1 ⟨⟨bo1, bc1, rfl, hb1⟩, hq1⟩
            have HQ1 := Lib.hid hq1
            have hcv1 := conv_u8 (P := Try.prog) bc1 41 5 9 Try.underlying41 Try.underlying5 Try.underlying9 hb1 rfl
            clear hq1 hb1
            generalize dR d1 = y1 at *
            obtain ⟨cc8, cf8⟩ := HQ1.out.cell 8
            simp only [EV.cells, List.getElem?_toArray, List.getElem?_cons_zero, List.getElem?_cons_succ, List.setIfInBounds_toArray, List.set_cons_zero, List.set_cons_succ] at cc8
            have HT1 := Lib.hid (HQ1.out.set 8 (.string (strOfNums y1.1)))
            go_wp2_with fail
            go_meet
            case rel =>
              rw [HS.out]
              simpa [EV.cells] using HT1.out
          case' false =>
            have hc : ¬ (r.k = 3) := fun h => by have h2 := HBI3.out.2 h; cases h2
            have HS := Lib.hid (show evxD (r, d1) = (r, d1) from by unfold evxD; rw [if_neg hc])
            clear hc
            go_wp2_with fail
            go_meet
            case rel =>
              rw [HS.out]
              exact HC2.out
        case rest =>
          have HC3 := Lib.hid hcut
          clear hcut HC2
          generalize evxD (r, d1) = x at *
          obtain ⟨r, d1⟩ := x
          obtain ⟨cc0, _⟩ := HC3.out.cell 0
          obtain ⟨dd0, df0⟩ := HC3.out.cellR 0
          obtain ⟨cc1, _⟩ := HC3.out.cell 1
          obtain ⟨dd1, df1⟩ := HC3.out.cellR 1
          obtain ⟨cc2, _⟩ := HC3.out.cell 2
          obtain ⟨dd2, df2⟩ := HC3.out.cellR 2
          obtain ⟨cc3, _⟩ := HC3.out.cell 3
          obtain ⟨dd3, df3⟩ := HC3.out.cellR 3
          obtain ⟨cc4, _⟩ := HC3.out.cell 4
          obtain ⟨dd4, df4⟩ := HC3.out.cellR 4
          obtain ⟨cc5, _⟩ := HC3.out.cell 5
          obtain ⟨dd5, df5⟩ := HC3.out.cellR 5
          obtain ⟨cc6, _⟩ := HC3.out.cell 6
          obtain ⟨dd6, df6⟩ := HC3.out.cellR 6
          obtain ⟨cc7, _⟩ := HC3.out.cell 7
          obtain ⟨dd7, df7⟩ := HC3.out.cellR 7
          obtain ⟨cc8, _⟩ := HC3.out.cell 8
          obtain ⟨dd8, df8⟩ := HC3.out.cellR 8
          simp only [EV.cells, List.getElem?_toArray, List.getElem?_cons_zero, List.getElem?_cons_succ] at cc0 dd0 cc1 dd1 cc2 dd2 cc3 dd3 cc4 dd4 cc5 dd5 cc6 dd6 cc7 dd7 cc8 dd8
          go_wp2
          obtain ⟨wF, hwF⟩ : ∃ wF, wF = (((((((((wc.setCell ⟨w.heap.size, 0, none⟩ (.int .i64 r.k)).setCell ⟨w.heap.size, 1, none⟩ (.int .i64 r.f)).setCell ⟨w.heap.size, 2, none⟩ (.int .i64 r.t)).setCell ⟨w.heap.size, 3, none⟩ (.int .i64 r.a)).setCell ⟨w.heap.size, 4, none⟩ (.int .i64 r.n)).setCell ⟨w.heap.size, 5, none⟩ (.int .i64 r.i)).setCell ⟨w.heap.size, 6, none⟩ (.int .i64 r.d)).setCell ⟨w.heap.size, 7, none⟩ (.string r.h)).setCell ⟨w.heap.size, 8, none⟩ (.string r.s)) := ⟨_, rfl⟩
          rw [← hwF]
          have hk : Keeps (fun i => i = w.heap.size) wc wF := by rw [hwF]; exact (((((((((Keeps.refl (fun i => i = w.heap.size) wc).setCell (p := ⟨w.heap.size, 0, none⟩) (Or.inl rfl) (.int .i64 r.k)).setCell (p := ⟨w.heap.size, 1, none⟩) (Or.inl rfl) (.int .i64 r.f)).setCell (p := ⟨w.heap.size, 2, none⟩) (Or.inl rfl) (.int .i64 r.t)).setCell (p := ⟨w.heap.size, 3, none⟩) (Or.inl rfl) (.int .i64 r.a)).setCell (p := ⟨w.heap.size, 4, none⟩) (Or.inl rfl) (.int .i64 r.n)).setCell (p := ⟨w.heap.size, 5, none⟩) (Or.inl rfl) (.int .i64 r.i)).setCell (p := ⟨w.heap.size, 6, none⟩) (Or.inl rfl) (.int .i64 r.d)).setCell (p := ⟨w.heap.size, 7, none⟩) (Or.inl rfl) (.string r.h)).setCell (p := ⟨w.heap.size, 8, none⟩) (Or.inl rfl) (.string r.s)
          have hbx : wF.heap[w.heap.size]? = some (.cells r.cells 84 (0, 0)) := by
            rw [hwF]
            have h := blk_set (blk_set (blk_set (blk_set (blk_set (blk_set (blk_set (blk_set (blk_set (HC3.out.boxR) 0 (.int .i64 r.k)) 1 (.int .i64 r.f)) 2 (.int .i64 r.t)) 3 (.int .i64 r.a)) 4 (.int .i64 r.n)) 5 (.int .i64 r.i)) 6 (.int .i64 r.d)) 7 (.string r.h)) 8 (.string r.s)
            rw [h]
            simp [EV.cells]
          have q0 := blk_cell hbx 0
          have q1 := blk_cell hbx 1
          have q2 := blk_cell hbx 2
          have q3 := blk_cell hbx 3
          have q4 := blk_cell hbx 4
          have q5 := blk_cell hbx 5
          have q6 := blk_cell hbx 6
          have q7 := blk_cell hbx 7
          have q8 := blk_cell hbx 8
          simp only [EV.cells, List.getElem?_toArray, List.getElem?_cons_zero, List.getElem?_cons_succ] at q0 q1 q2 q3 q4 q5 q6 q7 q8
          have a1 := HC3.out.pl
          have a2 := HC3.out.gl
          refine bodyPost_ret (v := .agg #[.int .i64 r.k, .int .i64 r.f, .int .i64 r.t, .int .i64 r.a, .int .i64 r.n, .int .i64 r.i, .int .i64 r.d, .string r.h, .string r.s]) (by simp [results, Try.results80, go_sem, q0, q1, q2, q3, q4, q5, q6, q7, q8]) rfl ⟨?_, ?_, ?_⟩
          · rw [HGET.out]; rfl
          · rw [HGET.out]; exact HC3.out.dec.keep hk (by omega) (Or.inr (by omega))
          · exact HC3.out.keep.trans hk (fun i hi => Or.inr (by omega))

end Go.Proofs.Ytadejcpifabpoaa
