/- Contract of cflref9.getReq. -/
import Derived.Test.YtadejcpifabpoaaRefs
import Derived.Test.YtadejcpifabpoaaRefd2
namespace Go.Proofs.Ytadejcpifabpoaa
open Go.RowKit
set_option linter.unusedVariables false
set_option linter.unusedSimpArgs false

abbrev DS := List Int × Int
def dN (z : Nat) (d : DS) : Int × DS := ((decNum d.1 d.2 z).1, (decNum d.1 d.2 z).2)
def dR (d : DS) : List Int × DS := ((decRaw d.1 d.2 32).1, (decRaw d.1 d.2 32).2)
structure GetAt (w0 wr : World) (p g R X : Nat) (T : TypeId) (zs cs : Array Value) (d : DS) : Prop where
  dec : DecAt 108 wr p g d.1 d.2
  keep : Keeps (fun i => i = p) w0 wr
  boxR : wr.heap[R]? = some (.cells zs T (0, 0))
  boxX : wr.heap[X]? = some (.cells cs T (0, 0))
  bR : w0.heap.size ≤ R
  bX : R < X
  pl : p < w0.heap.size
  gl : g < w0.heap.size
section
variable {w0 wr w' : World} {p g R X : Nat} {T : TypeId} {zs cs : Array Value} {d d' : DS}
theorem GetAt.read (h : GetAt w0 wr p g R X T zs cs d) {l : List Int} {e : Int} (hp : DecPost 108 wr p g l e w') : GetAt w0 w' p g R X T zs cs (l, e) := by
  have a1 := h.pl; have a2 := h.bR; have a3 := h.bX
  exact ⟨hp.1, h.keep.trans hp.2 (fun i hi => Or.inl hi), (hp.2.block R (blk_lt h.boxR) (by omega)).trans h.boxR, (hp.2.block X (blk_lt h.boxX) (by omega)).trans h.boxX, h.bR, h.bX, h.pl, h.gl⟩
theorem GetAt.set (h : GetAt w0 wr p g R X T zs cs d) (j : Nat) (u : Value) : GetAt w0 (wr.setCell ⟨X, j, none⟩ u) p g R X T zs (cs.setIfInBounds j u) d := by
  have a1 := h.pl; have a2 := h.bR; have a3 := h.bX; have a4 := h.gl
  have hk : Keeps (fun i => i = X) wr (wr.setCell ⟨X, j, none⟩ u) := (Keeps.refl (fun i => i = X) wr).setCell (p := ⟨X, j, none⟩) (Or.inl rfl) u
  exact ⟨h.dec.keep hk (by omega) (Or.inr (by omega)), h.keep.trans hk (fun i hi => Or.inr (by omega)), (hk.block R (blk_lt h.boxR) (by omega)).trans h.boxR, blk_set h.boxX j u, h.bR, h.bX, h.pl, h.gl⟩
theorem GetAt.cell (h : GetAt w0 wr p g R X T zs cs d) (j : Nat) : wr.cell? ⟨X, j, none⟩ = cs[j]? ∧ wr.frozen? ⟨X, j, none⟩ = false := ⟨blk_cell h.boxX j, blk_frozen h.boxX j⟩
theorem GetAt.cellR (h : GetAt w0 wr p g R X T zs cs d) (j : Nat) : wr.cell? ⟨R, j, none⟩ = zs[j]? ∧ wr.frozen? ⟨R, j, none⟩ = false := ⟨blk_cell h.boxR j, blk_frozen h.boxR j⟩
theorem GetAt.num (h : GetAt w0 wr p g R X T zs cs d) (z : Nat) : Calls Try.prog 73 #[.pointer (some ⟨p, 0, none⟩), .int .i64 z] wr fun e w' => e = .returned (.int .i64 (dN z d).1) ∧ GetAt w0 w' p g R X T zs cs (dN z d).2 := by
  refine (refdec_num p g d.1 d.2 z wr h.dec).mono ?_
  rintro e w' ⟨rfl, hp⟩
  exact ⟨rfl, h.read hp⟩
theorem GetAt.raw (h : GetAt w0 wr p g R X T zs cs d) : Calls Try.prog 101 #[.pointer (some ⟨p, 0, none⟩), .int .i64 32] wr fun e w' => (∃ ao cap, e = .returned (.slice ao (dR d).1.length cap) ∧ IntsAt .u8 w' ao (dR d).1) ∧ GetAt w0 w' p g R X T zs cs (dR d).2 := by
  refine (refdec_raw p g d.1 d.2 32 wr h.dec).mono ?_
  rintro e w' ⟨hp, ao, cap, rfl, ho, _⟩
  exact ⟨⟨ao, cap, rfl, (owns_at ho).2.1⟩, h.read hp⟩
end
def rqA (x : RQ × DS) : RQ × DS := if x.1.k = 1 ∨ x.1.k = 2 then ({ x.1 with t := (dN 1 (x.2)).1, a := (dN 1 ((dN 1 (x.2)).2)).1, n := (dN 8 ((dN 1 ((dN 1 (x.2)).2)).2)).1 }, (dN 8 ((dN 1 ((dN 1 (x.2)).2)).2)).2) else x
def rqB (x : RQ × DS) : RQ × DS := if x.1.k = 2 then ({ x.1 with h := strOfNums (dR (x.2)).1, d := (dN 8 ((dR (x.2)).2)).1 }, (dN 8 ((dR (x.2)).2)).2) else x
def rqC (x : RQ × DS) : RQ × DS := if 2 < x.1.k then ({ x.1 with i := (dN 2 (x.2)).1 }, (dN 2 (x.2)).2) else x
def rqD (x : RQ × DS) : RQ × DS := if x.1.k = 3 then ({ x.1 with s := strOfNums (dR (x.2)).1 }, (dR (x.2)).2) else x
def rqGet (d : DS) : RQ × DS := rqD (rqC (rqB (rqA ((⟨(dN 1 d).1, 0, 0, 0, 0, 0, ⟨#[]⟩, ⟨#[]⟩⟩, (dN 1 d).2)))))
def rqPost (w : World) (p g : Nat) (d : DS) (e : Ending) (w' : World) : Prop := e = .returned (.agg (rqGet d).1.cells) ∧ DecAt 108 w' p g (rqGet d).2.1 (rqGet d).2.2 ∧ Keeps (fun i => i = p) w w'

set_option maxRecDepth 100000 in
set_option maxHeartbeats 4000000 in
theorem getReq (p g : Nat) (d : DS) (w : World) (h : DecAt 108 w p g d.1 d.2) (hg : g < w.heap.size) :
    Calls Try.prog 74 #[.pointer (some ⟨p, 0, none⟩)] w (rqPost w p g d) := by
  obtain ⟨wR, hwR⟩ : ∃ wR, wR = w.alloc (.cells #[.int .i64 0, .int .i64 0, .int .i64 0, .int .i64 0, .int .i64 0, .int .i64 0, .string ⟨#[]⟩, .string ⟨#[]⟩] 40) := ⟨_, rfl⟩
  have HRB : Hid (Below w.heap.size w wR) := Lib.hid (by subst hwR; exact (Below.refl _ _).alloc (Nat.le_refl _) _)
  have HRX : Hid (wR.heap[w.heap.size]? = some (.cells #[.int .i64 0, .int .i64 0, .int .i64 0, .int .i64 0, .int .i64 0, .int .i64 0, .string ⟨#[]⟩, .string ⟨#[]⟩] 40 (0, 0))) := Lib.hid (by subst hwR; exact heap_alloc_new w _)
  have HD0 : Hid (DecAt 108 wR p g d.1 d.2) := Lib.hid (h.keep (Keeps.of_below (S := fun _ => False) HRB.out) (fun f => f) (Or.inr (fun f => f)))
  have hpl := h.lt
  have HG := Lib.hid hg
  have HWR := Lib.hid hwR
  have HGET := Lib.hid (show rqGet d = rqD (rqC (rqB (rqA ((⟨(dN 1 d).1, 0, 0, 0, 0, 0, ⟨#[]⟩, ⟨#[]⟩⟩, (dN 1 d).2))))) from rfl)
  clear h hg hwR
  go_enter Try.func74, Try.ntmps74
  go_upto_region 1 with fail
  rw [← HWR.out]
  go_wp2_with fail
  refine (refdec_num p g d.1 d.2 1 wR HD0.out).mono ?_
  rintro e w2 ⟨rfl, hp2⟩
  have HP2 := Lib.hid hp2
  clear hp2
  obtain ⟨k0, hk0⟩ : ∃ k0, k0 = (decNum d.1 d.2 1).1 := ⟨_, rfl⟩
  rw [← hk0]
  have HK0 := Lib.hid (show (dN 1 d).1 = k0 from hk0.symm)
  clear hk0
  go_upto_region 2 with fail
  obtain ⟨w3, hw3⟩ : ∃ w3, w3 = w2.alloc (.cells (⟨k0, 0, 0, 0, 0, 0, ⟨#[]⟩, ⟨#[]⟩⟩ : RQ).cells 40) := ⟨_, rfl⟩
  have HX3 : Hid (GetAt w w3 p g w.heap.size w2.heap.size 40 #[.int .i64 0, .int .i64 0, .int .i64 0, .int .i64 0, .int .i64 0, .int .i64 0, .string ⟨#[]⟩, .string ⟨#[]⟩] (⟨k0, 0, 0, 0, 0, 0, ⟨#[]⟩, ⟨#[]⟩⟩ : RQ).cells (dN 1 d).2) := Lib.hid (by
    have hb : Below w2.heap.size w2 w3 := by rw [hw3]; exact (Below.refl _ _).alloc (Nat.le_refl _) _
    have h1 := HP2.out
    have h2 := blk_lt HRX.out
    have h3 := h1.2.size
    have h4 := (h1.2.block w.heap.size h2 (by omega)).trans HRX.out
    have k1 : Keeps (fun i => i = p) w wR := Keeps.of_below HRB.out
    have k3 : Keeps (fun i => i = p) w2 w3 := Keeps.of_below hb
    exact ⟨h1.1.keep (Keeps.of_below (S := fun _ => False) hb) (fun f => f) (Or.inr (fun f => f)), (k1.trans h1.2 (fun i hi => Or.inl hi)).trans k3 (fun i hi => Or.inl hi), (hb.block _ (blk_lt h4)).trans h4, by rw [hw3]; exact heap_alloc_new w2 _, Nat.le_refl _, blk_lt h4, hpl, HG.out⟩)
  unfold RQ.cells at hw3
  rw [← hw3]
  clear hw3
  rw [HK0.out] at HGET
  generalize w2.heap.size = X at *
  generalize (dN 1 d).2 = d1 at *
  obtain ⟨r, hr⟩ : ∃ r : RQ, r = ⟨k0, 0, 0, 0, 0, 0, ⟨#[]⟩, ⟨#[]⟩⟩ := ⟨_, rfl⟩
  rw [← hr] at HX3 HGET
  have hrk : k0 = r.k := by rw [hr]
  rw [hrk] at *
  clear hr HRB HRX HD0 HWR HP2 HK0
  have c0 := (HX3.out.cell 0).1
  simp only [RQ.cells, List.getElem?_toArray, List.getElem?_cons_zero] at c0
  go_cut [14] (fun s wx => s = .bool (decide (r.k = 1 ∨ r.k = 2)) ∧ wx = w3)
  case first =>
    cases e1 : (r.k == 1)
    case' true =>
      have HE := Lib.hid e1
      go_wp2_with fail
      go_meet
      case rel => exact ⟨by have h := HE.out; simp only [beq_iff_eq] at h; simp [h], rfl⟩
    have HE := Lib.hid e1
    go_wp2_with fail
    go_meet
    case rel => exact ⟨by have h := HE.out; simp only [beq_eq_false_iff_ne, ne_eq] at h; congr 1; rw [Bool.eq_iff_iff]; simp [h], rfl⟩
  case' rest =>
    obtain ⟨rfl, rfl⟩ := hcut
    clear c0
  go_upto_if 14 with fail
  have HBI0 : Hid ((decide (r.k = 1 ∨ r.k = 2)) = true ↔ (r.k = 1 ∨ r.k = 2)) := Lib.hid (by simp)
  generalize (decide (r.k = 1 ∨ r.k = 2)) = B at *
  go_cut [] (fun wx => GetAt w wx p g w.heap.size X 40 #[.int .i64 0, .int .i64 0, .int .i64 0, .int .i64 0, .int .i64 0, .int .i64 0, .string ⟨#[]⟩, .string ⟨#[]⟩] (rqA (r, d1)).1.cells (rqA (r, d1)).2)
  case first =>
    cases B
    case' true =>
      have hc := HBI0.out.1 rfl
      have HS := Lib.hid (show rqA (r, d1) = ({ r with t := (dN 1 d1).1, a := (dN 1 ((dN 1 d1).2)).1, n := (dN 8 ((dN 1 ((dN 1 d1).2)).2)).1 }, (dN 8 ((dN 1 ((dN 1 d1).2)).2)).2) from by unfold rqA; rw [if_pos hc])
      clear hc
      go_wp2_with fail
      refine (HX3.out.num 1).mono ?_
      rintro e wn1 ⟨rfl, hq1⟩
      have HQ1 := Lib.hid hq1
      clear hq1
      generalize dN 1 d1 = y1 at *
      go_wp2_with fail
      refine (HQ1.out.num 1).mono ?_
      rintro e wn2 ⟨rfl, hq2⟩
      have HQ2 := Lib.hid hq2
      clear hq2
      generalize dN 1 y1.2 = y2 at *
      go_wp2_with fail
      refine (HQ2.out.num 8).mono ?_
      rintro e wn3 ⟨rfl, hq3⟩
      have HQ3 := Lib.hid hq3
      clear hq3
      generalize dN 8 y2.2 = y3 at *
      obtain ⟨cc1, cf1⟩ := HQ3.out.cell 1
      simp only [RQ.cells, List.getElem?_toArray, List.getElem?_cons_zero, List.getElem?_cons_succ, List.setIfInBounds_toArray, List.set_cons_zero, List.set_cons_succ] at cc1
      obtain ⟨cc2, cf2⟩ := HQ3.out.cell 2
      simp only [RQ.cells, List.getElem?_toArray, List.getElem?_cons_zero, List.getElem?_cons_succ, List.setIfInBounds_toArray, List.set_cons_zero, List.set_cons_succ] at cc2
      obtain ⟨cc3, cf3⟩ := HQ3.out.cell 3
      simp only [RQ.cells, List.getElem?_toArray, List.getElem?_cons_zero, List.getElem?_cons_succ, List.setIfInBounds_toArray, List.set_cons_zero, List.set_cons_succ] at cc3
      have HT3 := Lib.hid (((HQ3.out.set 1 (.int .i64 y1.1)).set 2 (.int .i64 y2.1)).set 3 (.int .i64 y3.1))
      go_wp2_with fail
      go_meet
      case rel =>
        rw [HS.out]
        simpa [RQ.cells] using HT3.out
    case' false =>
      have hc : ¬ (r.k = 1 ∨ r.k = 2) := fun h => by have h2 := HBI0.out.2 h; cases h2
      have HS := Lib.hid (show rqA (r, d1) = (r, d1) from by unfold rqA; rw [if_neg hc])
      clear hc
      go_wp2_with fail
      go_meet
      case rel =>
        rw [HS.out]
        exact HX3.out
  case rest =>
    have HC0 := Lib.hid hcut
    clear hcut HX3
    generalize rqA (r, d1) = x at *
    obtain ⟨r, d1⟩ := x
    have c0 := (HC0.out.cell 0).1
    simp only [RQ.cells, List.getElem?_toArray, List.getElem?_cons_zero] at c0
    go_upto_if 26 with fail
    have HBI1 : Hid ((r.k == 2) = true ↔ (r.k = 2)) := Lib.hid (by simp)
    generalize (r.k == 2) = B at *
    clear c0
    go_cut [] (fun wx => GetAt w wx p g w.heap.size X 40 #[.int .i64 0, .int .i64 0, .int .i64 0, .int .i64 0, .int .i64 0, .int .i64 0, .string ⟨#[]⟩, .string ⟨#[]⟩] (rqB (r, d1)).1.cells (rqB (r, d1)).2)
    case first =>
      cases B
      case' true =>
        have hc := HBI1.out.1 rfl
        have HS := Lib.hid (show rqB (r, d1) = ({ r with h := strOfNums (dR d1).1, d := (dN 8 ((dR d1).2)).1 }, (dN 8 ((dR d1).2)).2) from by unfold rqB; rw [if_pos hc])
        clear hc
        go_wp2_with fail
        refine (HC0.out.raw).mono ?_
        rintro e wn1 ⟨⟨bo1, bc1, rfl, hb1⟩, hq1⟩
        have HQ1 := Lib.hid hq1
        have hcv1 := conv_u8 (P := Try.prog) bc1 41 5 9 Try.underlying41 Try.underlying5 Try.underlying9 hb1 rfl
        clear hq1 hb1
        generalize dR d1 = y1 at *
        obtain ⟨cc6, cf6⟩ := HQ1.out.cell 6
        simp only [RQ.cells, List.getElem?_toArray, List.getElem?_cons_zero, List.getElem?_cons_succ, List.setIfInBounds_toArray, List.set_cons_zero, List.set_cons_succ] at cc6
        have HT1 := Lib.hid (HQ1.out.set 6 (.string (strOfNums y1.1)))
        go_wp2_with fail
        refine (HT1.out.num 8).mono ?_
        rintro e wn2 ⟨rfl, hq2⟩
        have HQ2 := Lib.hid hq2
        clear hq2
        generalize dN 8 y1.2 = y2 at *
        obtain ⟨cc5, cf5⟩ := HQ2.out.cell 5
        simp only [RQ.cells, List.getElem?_toArray, List.getElem?_cons_zero, List.getElem?_cons_succ, List.setIfInBounds_toArray, List.set_cons_zero, List.set_cons_succ] at cc5
        have HT2 := Lib.hid (HQ2.out.set 5 (.int .i64 y2.1))
        go_wp2_with fail
        go_meet
        case rel =>
          rw [HS.out]
          simpa [RQ.cells] using HT2.out
      case' false =>
        have hc : ¬ (r.k = 2) := fun h => by have h2 := HBI1.out.2 h; cases h2
        have HS := Lib.hid (show rqB (r, d1) = (r, d1) from by unfold rqB; rw [if_neg hc])
        clear hc
        go_wp2_with fail
        go_meet
        case rel =>
          rw [HS.out]
          exact HC0.out
    case rest =>
      have HC1 := Lib.hid hcut
      clear hcut HC0
      generalize rqB (r, d1) = x at *
      obtain ⟨r, d1⟩ := x
      have c0 := (HC1.out.cell 0).1
      simp only [RQ.cells, List.getElem?_toArray, List.getElem?_cons_zero] at c0
      go_upto_if 36 with fail
      have HBI2 : Hid ((decide (2 < r.k)) = true ↔ (2 < r.k)) := Lib.hid (by simp)
      generalize (decide (2 < r.k)) = B at *
      clear c0
      go_cut [] (fun wx => GetAt w wx p g w.heap.size X 40 #[.int .i64 0, .int .i64 0, .int .i64 0, .int .i64 0, .int .i64 0, .int .i64 0, .string ⟨#[]⟩, .string ⟨#[]⟩] (rqC (r, d1)).1.cells (rqC (r, d1)).2)
      case first =>
        cases B
        case' true =>
          have hc := HBI2.out.1 rfl
          have HS := Lib.hid (show rqC (r, d1) = ({ r with i := (dN 2 d1).1 }, (dN 2 d1).2) from by unfold rqC; rw [if_pos hc])
          clear hc
          go_wp2_with fail
          refine (HC1.out.num 2).mono ?_
          rintro e wn1 ⟨rfl, hq1⟩
          have HQ1 := Lib.hid hq1
          clear hq1
          generalize dN 2 d1 = y1 at *
          obtain ⟨cc4, cf4⟩ := HQ1.out.cell 4
          simp only [RQ.cells, List.getElem?_toArray, List.getElem?_cons_zero, List.getElem?_cons_succ, List.setIfInBounds_toArray, List.set_cons_zero, List.set_cons_succ] at cc4
          have HT1 := Lib.hid (HQ1.out.set 4 (.int .i64 y1.1))
          go_wp2_with fail
          go_meet
          case rel =>
            rw [HS.out]
            simpa [RQ.cells] using HT1.out
        case' false =>
          have hc : ¬ (2 < r.k) := fun h => by have h2 := HBI2.out.2 h; cases h2
          have HS := Lib.hid (show rqC (r, d1) = (r, d1) from by unfold rqC; rw [if_neg hc])
          clear hc
          go_wp2_with fail
          go_meet
          case rel =>
            rw [HS.out]
            exact HC1.out
      case rest =>
        have HC2 := Lib.hid hcut
        clear hcut HC1
        generalize rqC (r, d1) = x at *
        obtain ⟨r, d1⟩ := x
        have c0 := (HC2.out.cell 0).1
        simp only [RQ.cells, List.getElem?_toArray, List.getElem?_cons_zero] at c0
        go_upto_if 42 with fail
        have HBI3 : Hid ((r.k == 3) = true ↔ (r.k = 3)) := Lib.hid (by simp)
        generalize (r.k == 3) = B at *
        clear c0
        go_cut [] (fun wx => GetAt w wx p g w.heap.size X 40 #[.int .i64 0, .int .i64 0, .int .i64 0, .int .i64 0, .int .i64 0, .int .i64 0, .string ⟨#[]⟩, .string ⟨#[]⟩] (rqD (r, d1)).1.cells (rqD (r, d1)).2)
        case first =>
          cases B
          case' true =>
            have hc := HBI3.out.1 rfl
            have HS := Lib.hid (show rqD (r, d1) = ({ r with s := strOfNums (dR d1).1 }, (dR d1).2) from by unfold rqD; rw [if_pos hc])
            clear hc
            go_wp2_with fail
            refine (HC2.out.raw).mono ?_
            rintro e wn1 ⟨⟨bo1, bc1, rfl, hb1⟩, hq1⟩
            have HQ1 := Lib.hid hq1
            have hcv1 := conv_u8 (P := Try.prog) bc1 41 5 9 Try.underlying41 Try.underlying5 Try.underlying9 hb1 rfl
            clear hq1 hb1
            generalize dR d1 = y1 at *
            obtain ⟨cc7, cf7⟩ := HQ1.out.cell 7
            simp only [RQ.cells, List.getElem?_toArray, List.getElem?_cons_zero, List.getElem?_cons_succ, List.setIfInBounds_toArray, List.set_cons_zero, List.set_cons_succ] at cc7
            have HT1 := Lib.hid (HQ1.out.set 7 (.string (strOfNums y1.1)))
            go_wp2_with fail
            go_meet
            case rel =>
              rw [HS.out]
              simpa [RQ.cells] using HT1.out
          case' false =>
            have hc : ¬ (r.k = 3) := fun h => by have h2 := HBI3.out.2 h; cases h2
            have HS := Lib.hid (show rqD (r, d1) = (r, d1) from by unfold rqD; rw [if_neg hc])
            clear hc
            go_wp2_with fail
            go_meet
            case rel =>
              rw [HS.out]
              exact HC2.out
        case rest =>
          have HC3 := Lib.hid hcut
          clear hcut HC2
          generalize rqD (r, d1) = x at *
          obtain ⟨r, d1⟩ := x
          obtain ⟨cc0, _⟩ := HC3.out.cell 0
          obtain ⟨dd0, df0⟩ := HC3.out.cellR 0
          obtain ⟨cc1, _⟩ := HC3.out.cell 1
          obtain ⟨dd1, df1⟩ := HC3.out.cellR 1
          obtain ⟨cc2, _⟩ := HC3.out.cell 2
          obtain ⟨dd2, df2⟩ := HC3.out.cellR 2
          obtain ⟨cc3, _⟩ := HC3.out.cell 3
          obtain ⟨dd3, df3⟩ := HC3.out.cellR 3
          obtain ⟨cc4, _⟩ := HC3.out.cell 4
          obtain ⟨dd4, df4⟩ := HC3.out.cellR 4
          obtain ⟨cc5, _⟩ := HC3.out.cell 5
          obtain ⟨dd5, df5⟩ := HC3.out.cellR 5
          obtain ⟨cc6, _⟩ := HC3.out.cell 6
          obtain ⟨dd6, df6⟩ := HC3.out.cellR 6
          obtain ⟨cc7, _⟩ := HC3.out.cell 7
          obtain ⟨dd7, df7⟩ := HC3.out.cellR 7
          simp only [RQ.cells, List.getElem?_toArray, List.getElem?_cons_zero, List.getElem?_cons_succ] at cc0 dd0 cc1 dd1 cc2 dd2 cc3 dd3 cc4 dd4 cc5 dd5 cc6 dd6 cc7 dd7
          go_wp2
          obtain ⟨wF, hwF⟩ : ∃ wF, wF = ((((((((wc.setCell ⟨w.heap.size, 0, none⟩ (.int .i64 r.k)).setCell ⟨w.heap.size, 1, none⟩ (.int .i64 r.t)).setCell ⟨w.heap.size, 2, none⟩ (.int .i64 r.a)).setCell ⟨w.heap.size, 3, none⟩ (.int .i64 r.n)).setCell ⟨w.heap.size, 4, none⟩ (.int .i64 r.i)).setCell ⟨w.heap.size, 5, none⟩ (.int .i64 r.d)).setCell ⟨w.heap.size, 6, none⟩ (.string r.h)).setCell ⟨w.heap.size, 7, none⟩ (.string r.s)) := ⟨_, rfl⟩
          rw [← hwF]
          have hk : Keeps (fun i => i = w.heap.size) wc wF := by rw [hwF]; exact ((((((((Keeps.refl (fun i => i = w.heap.size) wc).setCell (p := ⟨w.heap.size, 0, none⟩) (Or.inl rfl) (.int .i64 r.k)).setCell (p := ⟨w.heap.size, 1, none⟩) (Or.inl rfl) (.int .i64 r.t)).setCell (p := ⟨w.heap.size, 2, none⟩) (Or.inl rfl) (.int .i64 r.a)).setCell (p := ⟨w.heap.size, 3, none⟩) (Or.inl rfl) (.int .i64 r.n)).setCell (p := ⟨w.heap.size, 4, none⟩) (Or.inl rfl) (.int .i64 r.i)).setCell (p := ⟨w.heap.size, 5, none⟩) (Or.inl rfl) (.int .i64 r.d)).setCell (p := ⟨w.heap.size, 6, none⟩) (Or.inl rfl) (.string r.h)).setCell (p := ⟨w.heap.size, 7, none⟩) (Or.inl rfl) (.string r.s)
          have hbx : wF.heap[w.heap.size]? = some (.cells r.cells 40 (0, 0)) := by
            rw [hwF]
            have h := blk_set (blk_set (blk_set (blk_set (blk_set (blk_set (blk_set (blk_set (HC3.out.boxR) 0 (.int .i64 r.k)) 1 (.int .i64 r.t)) 2 (.int .i64 r.a)) 3 (.int .i64 r.n)) 4 (.int .i64 r.i)) 5 (.int .i64 r.d)) 6 (.string r.h)) 7 (.string r.s)
            rw [h]
            simp [RQ.cells]
          have q0 := blk_cell hbx 0
          have q1 := blk_cell hbx 1
          have q2 := blk_cell hbx 2
          have q3 := blk_cell hbx 3
          have q4 := blk_cell hbx 4
          have q5 := blk_cell hbx 5
          have q6 := blk_cell hbx 6
          have q7 := blk_cell hbx 7
          simp only [RQ.cells, List.getElem?_toArray, List.getElem?_cons_zero, List.getElem?_cons_succ] at q0 q1 q2 q3 q4 q5 q6 q7
          have a1 := HC3.out.pl
          have a2 := HC3.out.gl
          refine bodyPost_ret (v := .agg #[.int .i64 r.k, .int .i64 r.t, .int .i64 r.a, .int .i64 r.n, .int .i64 r.i, .int .i64 r.d, .string r.h, .string r.s]) (by simp [results, Try.results74, go_sem, q0, q1, q2, q3, q4, q5, q6, q7]) rfl ⟨?_, ?_, ?_⟩
          · rw [HGET.out]; rfl
          · rw [HGET.out]; exact HC3.out.dec.keep hk (by omega) (Or.inr (by omega))
          · exact HC3.out.keep.trans hk (fun i hi => Or.inr (by omega))

end Go.Proofs.Ytadejcpifabpoaa
