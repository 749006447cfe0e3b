/- Package escrow: New, has, there, Len, Purse, Get. -/
import Derived.Test.YtbhoakohpfdeoaaGreatEs1
namespace Go.Proofs.YtbhoakohpfdeoaaGreat
open Go.RowKit
set_option linter.unusedVariables false
set_option linter.unusedSimpArgs false

/-- All eight cells written. -/
def fillX (w : World) (b : Nat) (x : XR) : World := (((((((w.setCell ⟨b, 0, none⟩ (.int .i64 x.f)).setCell ⟨b, 1, none⟩ (.int .i64 x.t)).setCell ⟨b, 2, none⟩ (.int .i64 x.a)).setCell ⟨b, 3, none⟩ (.int .i64 x.n)).setCell ⟨b, 4, none⟩ (.int .i64 x.d)).setCell ⟨b, 5, none⟩ (.int .i64 x.s)).setCell ⟨b, 6, none⟩ (.string x.h)).setCell ⟨b, 7, none⟩ (.string x.x)
theorem fillX_heap {w : World} {b : Nat} {y : XR} {T : TypeId} (h : w.heap[b]? = some (.cells y.cells T (0, 0))) (x : XR) : (fillX w b x).heap[b]? = some (.cells x.cells T (0, 0)) := by
  unfold fillX XR.cells
  unfold XR.cells at h
  simpa using blk_set (blk_set (blk_set (blk_set (blk_set (blk_set (blk_set (blk_set h 0 (.int .i64 x.f)) 1 (.int .i64 x.t)) 2 (.int .i64 x.a)) 3 (.int .i64 x.n)) 4 (.int .i64 x.d)) 5 (.int .i64 x.s)) 6 (.string x.h)) 7 (.string x.x)
theorem fillX_keeps (w : World) (b : Nat) (x : XR) : Keeps (fun i => i = b) w (fillX w b x) :=
  ((((((((Keeps.refl (fun i => i = b) w).setCell (p := ⟨b, 0, none⟩) (Or.inl rfl) _).setCell (p := ⟨b, 1, none⟩) (Or.inl rfl) _).setCell (p := ⟨b, 2, none⟩) (Or.inl rfl) _).setCell (p := ⟨b, 3, none⟩) (Or.inl rfl) _).setCell (p := ⟨b, 4, none⟩) (Or.inl rfl) _).setCell (p := ⟨b, 5, none⟩) (Or.inl rfl) _).setCell (p := ⟨b, 6, none⟩) (Or.inl rfl) _).setCell (p := ⟨b, 7, none⟩) (Or.inl rfl) _
theorem X_cells {w : World} {b : Nat} {x : XR} {T : TypeId} (h : w.heap[b]? = some (.cells x.cells T (0, 0))) : w.cell? ⟨b, 0, none⟩ = some (.int .i64 x.f) ∧ w.cell? ⟨b, 1, none⟩ = some (.int .i64 x.t) ∧ w.cell? ⟨b, 2, none⟩ = some (.int .i64 x.a) ∧ w.cell? ⟨b, 3, none⟩ = some (.int .i64 x.n) ∧ w.cell? ⟨b, 4, none⟩ = some (.int .i64 x.d) ∧ w.cell? ⟨b, 5, none⟩ = some (.int .i64 x.s) ∧ w.cell? ⟨b, 6, none⟩ = some (.string x.h) ∧ w.cell? ⟨b, 7, none⟩ = some (.string x.x) :=
  ⟨blk_cell h 0, blk_cell h 1, blk_cell h 2, blk_cell h 3, blk_cell h 4, blk_cell h 5, blk_cell h 6, blk_cell h 7⟩

section
variable {w : World} {Sp : Nat → Prop} {B tb q n m : Nat} {b : Nat → Nat → Int} {l : List XR} {v : Value}
set_option maxHeartbeats 1000000 in
theorem book_new (tb q n m : Nat) (b : Nat → Nat → Int) (Sp : Nat → Prop) (w : World) (h : PAt 75 w q Sp n m b) :
    Calls Tryz.prog 30 #[.pointer (some ⟨tb, 0, none⟩), .pointer (some ⟨q, 0, none⟩)] w fun e w' => e = .returned (.pointer (some ⟨w.heap.size, 0, none⟩)) ∧ BK w' Sp w.heap.size tb q n m b [] (.slice none 0 0) ∧ Below w.heap.size w w' := by
  have H := Lib.hid h
  clear h
  go_enter Tryz.func30, Tryz.ntmps30
  go_wp2
  go_ret
  have hb : Below w.heap.size w (w.alloc (.cells #[.pointer (some ⟨tb, 0, none⟩), .pointer (some ⟨q, 0, none⟩), .slice none 0 0] 66)) := (Below.refl _ _).alloc (Nat.le_refl _) _
  refine ⟨rfl, ⟨heap_alloc_new _ _, World.ownsRow_nil _ _ _ _, H.out.below hb, ?_, fun g hg => by cases hg⟩, hb⟩
  intro hs
  obtain ⟨_, _, _, _, _, _, h3⟩ := H.out
  have := h3 _ hs
  omega

set_option maxHeartbeats 1000000 in
theorem book_idB (h : BK w Sp B tb q n m b l v) (id : Int) :
    Calls Tryz.prog 42 #[.pointer (some ⟨B, 0, none⟩), .int .i64 id] w fun e w' => e = .returned (.bool (idB l id)) ∧ w = w' := by
  obtain ⟨ao, c, rfl, _, _⟩ := h.shape
  obtain ⟨_, _, c2, _⟩ := h.cells
  obtain ⟨k, hk⟩ : ∃ k, k = l.length := ⟨_, rfl⟩
  rw [← hk] at c2
  have HK := Lib.hid hk
  clear h hk
  by_cases h0 : 0 ≤ id
  · by_cases h1 : id < (k : Int)
    · have HR := Lib.hid (show idB l id = true by unfold idB; rw [← HK.out]; exact decide_eq_true ⟨h0, h1⟩)
      go_enter Tryz.func42, Tryz.ntmps42
      go_wp2
      go_ret
      exact ⟨ret_bool HR.out.symm, rfl⟩
    · have HR := Lib.hid (show idB l id = false by unfold idB; rw [← HK.out]; exact decide_eq_false (fun h => h1 h.2))
      go_enter Tryz.func42, Tryz.ntmps42
      go_wp2
      go_ret
      exact ⟨ret_bool HR.out.symm, rfl⟩
  · have HR := Lib.hid (show idB l id = false by unfold idB; exact decide_eq_false (fun h => h0 h.1))
    go_enter Tryz.func42, Tryz.ntmps42
    go_wp2
    go_ret
    exact ⟨ret_bool HR.out.symm, rfl⟩

set_option maxHeartbeats 1000000 in
theorem book_there (h : BK w Sp B tb q n m b l v) (p : Int) :
    Calls Tryz.prog 32 #[.pointer (some ⟨B, 0, none⟩), .int .i64 p] w fun e w' => e = .returned (.bool (decide (0 ≤ p ∧ p < (n : Int)))) ∧ w = w' := by
  obtain ⟨_, c1, _, _⟩ := h.cells
  have HP := Lib.hid (pur_parties q n m Sp b w h.pu)
  clear h
  by_cases h0 : 0 ≤ p
  · by_cases h1 : p < (n : Int)
    · have HR := Lib.hid (decide_eq_true (show 0 ≤ p ∧ p < (n : Int) from ⟨h0, h1⟩))
      go_enter Tryz.func32, Tryz.ntmps32
      go_wp2_with fail
      refine HP.out.mono ?_
      rintro e w1 ⟨rfl, rfl⟩
      go_wp2
      go_ret
      exact ⟨ret_bool (by first | exact HR.out.symm | (simp; omega)), rfl⟩
    · have HR := Lib.hid (decide_eq_false (show ¬ (0 ≤ p ∧ p < (n : Int)) from fun h => h1 h.2))
      go_enter Tryz.func32, Tryz.ntmps32
      go_wp2_with fail
      refine HP.out.mono ?_
      rintro e w1 ⟨rfl, rfl⟩
      go_wp2
      go_ret
      exact ⟨ret_bool (by first | exact HR.out.symm | (simp; omega)), rfl⟩
  · have HR := Lib.hid (decide_eq_false (show ¬ (0 ≤ p ∧ p < (n : Int)) from fun h => h0 h.1))
    go_enter Tryz.func32, Tryz.ntmps32
    go_wp2
    go_ret
    exact ⟨ret_bool (by first | exact HR.out.symm | (simp; omega)), rfl⟩

set_option maxHeartbeats 1000000 in
theorem book_len (h : BK w Sp B tb q n m b l v) :
    Calls Tryz.prog 19 #[.pointer (some ⟨B, 0, none⟩)] w fun e w' => e = .returned (.int .i64 (l.length : Int)) ∧ w = w' := by
  obtain ⟨ao, c, rfl, _, _⟩ := h.shape
  obtain ⟨_, _, c2, _⟩ := h.cells
  clear h
  go_enter Tryz.func19, Tryz.ntmps19
  go_wp2
  go_ret
  exact ⟨rfl, rfl⟩

set_option maxHeartbeats 1000000 in
theorem book_purse (h : BK w Sp B tb q n m b l v) :
    Calls Tryz.prog 9 #[.pointer (some ⟨B, 0, none⟩)] w fun e w' => e = .returned (.pointer (some ⟨q, 0, none⟩)) ∧ w = w' := by
  obtain ⟨_, c1, _, _⟩ := h.cells
  clear h
  go_enter Tryz.func9, Tryz.ntmps9
  go_wp2
  go_ret
  exact ⟨rfl, rfl⟩

/-- What Get tells. -/
def getX (l : List XR) (id : Int) : XR := if idB l id = true then atX l id else noX
set_option maxRecDepth 100000 in
set_option maxHeartbeats 2000000 in
theorem book_get (h : BK w Sp B tb q n m b l v) (id : Int) :
    Calls Tryz.prog 17 #[.pointer (some ⟨B, 0, none⟩), .int .i64 id] w fun e w' => e = .returned (.tuple #[.agg (getX l id).cells, .bool (idB l id)]) ∧ Below w.heap.size w w' := by
  obtain ⟨w1, hw1⟩ : ∃ w1, w1 = w.alloc (.cells noX.cells 47) := ⟨_, rfl⟩
  have hb1 : Below w.heap.size w w1 := by rw [hw1]; exact (Below.refl _ _).alloc (Nat.le_refl _) _
  have H1 := Lib.hid (h.below hb1)
  have HB1 := Lib.hid hb1
  have HX1 : Hid (w1.heap[w.heap.size]? = some (.cells noX.cells 47 (0, 0))) := Lib.hid (by rw [hw1]; exact heap_alloc_new _ _)
  have HH := Lib.hid (book_idB H1.out id)
  have HW1 := Lib.hid hw1
  clear hw1 hb1
  unfold noX XR.cells at HW1
  obtain ⟨z0, z1, z2, z3, z4, z5, z6, z7⟩ := X_cells HX1.out
  have y0 := blk_frozen HX1.out 0
  have y1 := blk_frozen HX1.out 1
  have y2 := blk_frozen HX1.out 2
  have y3 := blk_frozen HX1.out 3
  have y4 := blk_frozen HX1.out 4
  have y5 := blk_frozen HX1.out 5
  have y6 := blk_frozen HX1.out 6
  have y7 := blk_frozen HX1.out 7
  by_cases hid : idB l id = true
  case neg =>
    have HI := Lib.hid (show idB l id = false by simpa using hid)
    have HR := Lib.hid (show getX l id = noX by unfold getX; rw [if_neg hid])
    rw [HI.out] at HH
    clear h hid
    go_enter Tryz.func17, Tryz.ntmps17
    go_wp2_with fail
    rw [← HW1.out]
    refine HH.out.mono ?_
    rintro e w2 ⟨rfl, rfl⟩
    go_wp2_with fail
    obtain ⟨wf, hwf⟩ : ∃ wf, wf = fillX w1 w.heap.size noX := ⟨_, rfl⟩
    have HWF := Lib.hid hwf
    unfold fillX noX at hwf
    dsimp only at hwf
    rw [← hwf]
    clear hwf
    have HXF : Hid (wf.heap[w.heap.size]? = some (.cells noX.cells 47 (0, 0))) := Lib.hid (by rw [HWF.out]; exact fillX_heap HX1.out noX)
    have HBF : Hid (Below w.heap.size w wf) := Lib.hid (by rw [HWF.out]; exact below_fp HB1.out (fillX_keeps _ _ _) (fun i hi => by omega))
    clear z0 z1 z2 z3 z4 z5 z6 z7 y0 y1 y2 y3 y4 y5 y6 y7
    obtain ⟨q0, q1, q2, q3, q4, q5, q6, q7⟩ := X_cells HXF.out
    refine bodyPost_ret (v := .tuple #[.agg noX.cells, .bool false]) (by simp [results, Tryz.results17, go_sem, q0, q1, q2, q3, q4, q5, q6, q7, XR.cells]) rfl ?_
    rw [HR.out, HI.out]
    exact ⟨rfl, HBF.out⟩
  have HR := Lib.hid (show getX l id = atX l id by unfold getX; rw [if_pos hid])
  have HI := Lib.hid hid
  rw [hid] at HH
  have hii : 0 ≤ id ∧ id < l.length := by unfold idB at hid; simpa using hid
  obtain ⟨k, rfl⟩ : ∃ k : Nat, id = (k : Int) := ⟨id.toNat, by omega⟩
  have hkl : k < l.length := by omega
  obtain ⟨ao, c, rfl, _, _⟩ := h.shape
  obtain ⟨g, rfl, hc, _⟩ := H1.out.esc k hkl
  have HAT : Hid (atX l (k : Int) = l[k]) := Lib.hid (by unfold atX; simp [List.getD, hkl])
  rw [← HAT.out] at hc
  generalize atX l (k : Int) = x at *
  obtain ⟨_, _, c2, _⟩ := H1.out.cells
  have e0 := hc 0 (by omega)
  have e1 := hc 1 (by omega)
  have e2 := hc 2 (by omega)
  have e3 := hc 3 (by omega)
  have e4 := hc 4 (by omega)
  have e5 := hc 5 (by omega)
  have e6 := hc 6 (by omega)
  have e7 := hc 7 (by omega)
  simp only [XR.cells, List.getElem?_toArray, List.getElem?_cons_zero, List.getElem?_cons_succ, Nat.add_zero] at e0 e1 e2 e3 e4 e5 e6 e7
  have hlt : (k : Int) < (l.length : Int) := hii.2
  clear hc hid hii
  go_enter Tryz.func17, Tryz.ntmps17
  go_wp2_with fail
  rw [← HW1.out]
  refine HH.out.mono ?_
  rintro e w2 ⟨rfl, rfl⟩
  go_wp2_with fail
  obtain ⟨wf, hwf⟩ : ∃ wf, wf = fillX w1 w.heap.size x := ⟨_, rfl⟩
  have HWF := Lib.hid hwf
  unfold fillX at hwf
  rw [← hwf]
  clear hwf
  have HXF : Hid (wf.heap[w.heap.size]? = some (.cells x.cells 47 (0, 0))) := Lib.hid (by rw [HWF.out]; exact fillX_heap HX1.out x)
  have HBF : Hid (Below w.heap.size w wf) := Lib.hid (by rw [HWF.out]; exact below_fp HB1.out (fillX_keeps _ _ _) (fun i hi => by omega))
  clear z0 z1 z2 z3 z4 z5 z6 z7 y0 y1 y2 y3 y4 y5 y6 y7 e0 e1 e2 e3 e4 e5 e6 e7 c2
  obtain ⟨q0, q1, q2, q3, q4, q5, q6, q7⟩ := X_cells HXF.out
  refine bodyPost_ret (v := .tuple #[.agg x.cells, .bool true]) (by simp [results, Tryz.results17, go_sem, q0, q1, q2, q3, q4, q5, q6, q7, XR.cells]) rfl ?_
  rw [HR.out, HI.out]
  exact ⟨rfl, HBF.out⟩
end

end Go.Proofs.YtbhoakohpfdeoaaGreat
