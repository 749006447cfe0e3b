/- Arguments of package req's types, opened. -/
import Derived.Test.YtkaciaehlibidaaGreatReq4
import Derived.Test.YtkaciaehlibidaaGreatRowz
namespace Go.Proofs.YtkaciaehlibidaaGreat
open Go.ChangeShapes Go.WideShapes Go.ChangeAt Go.RowKit Go.Deep
set_option linter.unusedVariables false

section
variable {H : Type} {enc : TypeId × Value → H} {P : Program} {W : World}
theorem agg_of {t : TypeId} {fs : Array Field} {cs : List Value} {x : DataW H × List MemPlace} {fuel : Nat} (ht : P.underlying t = some (.struct fs)) (hone : oneCellFields P fs = true) (hC : P.cellsOf t = fs.size)
    (h : DataW.trod enc P W 0 (fun _ => true) true fuel t cs = some x) : cs.length = fs.size ∧ ∀ (j : Nat) (f : Field), fs[j]? = some f → ∃ v y n, cs[j]? = some v ∧ DataW.trod enc P W 0 (fun _ => true) true n f.type [v] = some y := by
  obtain ⟨ys, k, _, _, hl, hyl, hfl⟩ := DataW.trod_struct ht h
  have hcl : cs.length = fs.size := by rw [hl, hC]
  refine ⟨hcl, fun j f hj => ?_⟩
  obtain ⟨ho, hk⟩ := hone_of hone j f hj
  have hjl : j < fs.size := (Array.getElem?_eq_some_iff.1 hj).1
  have h1 := hfl j f hj
  rw [ho, hk, take1_drop cs j undef (by omega)] at h1
  refine ⟨cs.getD j undef, ys[j]'(by omega), k, ?_, ?_⟩
  · simp [List.getD, List.getElem?_eq_getElem (show j < cs.length by omega)]
  · rw [h1]; exact List.getElem?_eq_getElem (by omega)
end

section
variable {H : Type} {enc : TypeId × Value → H} {W : World}
set_option maxRecDepth 100000 in
theorem rq_of_cells {cell : Nat → Option Value} (h0 : ∃ v y n, cell 0 = some v ∧ DataW.trod enc Tryz.prog W 0 (fun _ => true) true n 3 [v] = some y) (h1 : ∃ v y n, cell 1 = some v ∧ DataW.trod enc Tryz.prog W 0 (fun _ => true) true n 3 [v] = some y) (h2 : ∃ v y n, cell 2 = some v ∧ DataW.trod enc Tryz.prog W 0 (fun _ => true) true n 3 [v] = some y) (h3 : ∃ v y n, cell 3 = some v ∧ DataW.trod enc Tryz.prog W 0 (fun _ => true) true n 3 [v] = some y) (h4 : ∃ v y n, cell 4 = some v ∧ DataW.trod enc Tryz.prog W 0 (fun _ => true) true n 3 [v] = some y) (h5 : ∃ v y n, cell 5 = some v ∧ DataW.trod enc Tryz.prog W 0 (fun _ => true) true n 3 [v] = some y) (h6 : ∃ v y n, cell 6 = some v ∧ DataW.trod enc Tryz.prog W 0 (fun _ => true) true n 9 [v] = some y) (h7 : ∃ v y n, cell 7 = some v ∧ DataW.trod enc Tryz.prog W 0 (fun _ => true) true n 9 [v] = some y) :
    ∃ r : RQ, ∀ j v, r.cells[j]? = some v → cell j = some v := by
  obtain ⟨v0, x0, n0, c0, t0⟩ := h0
  obtain ⟨v1, x1, n1, c1, t1⟩ := h1
  obtain ⟨v2, x2, n2, c2, t2⟩ := h2
  obtain ⟨v3, x3, n3, c3, t3⟩ := h3
  obtain ⟨v4, x4, n4, c4, t4⟩ := h4
  obtain ⟨v5, x5, n5, c5, t5⟩ := h5
  obtain ⟨v6, x6, n6, c6, t6⟩ := h6
  obtain ⟨v7, x7, n7, c7, t7⟩ := h7
  obtain ⟨y0, e0, _, w0⟩ := DataW.trod_int Tryz.underlying3 t0
  obtain ⟨y1, e1, _, w1⟩ := DataW.trod_int Tryz.underlying3 t1
  obtain ⟨y2, e2, _, w2⟩ := DataW.trod_int Tryz.underlying3 t2
  obtain ⟨y3, e3, _, w3⟩ := DataW.trod_int Tryz.underlying3 t3
  obtain ⟨y4, e4, _, w4⟩ := DataW.trod_int Tryz.underlying3 t4
  obtain ⟨y5, e5, _, w5⟩ := DataW.trod_int Tryz.underlying3 t5
  obtain ⟨y6, e6, _, w6⟩ := DataW.trod_string Tryz.underlying9 t6
  obtain ⟨y7, e7, _, w7⟩ := DataW.trod_string Tryz.underlying9 t7
  simp only [List.cons.injEq, and_true] at e0 e1 e2 e3 e4 e5 e6 e7
  subst e0 e1 e2 e3 e4 e5 e6 e7
  refine ⟨⟨y0, y1, y2, y3, y4, y5, y6, y7⟩, fun j v hv => ?_⟩
  match j with
  | 0 => cases hv; exact c0
  | 1 => cases hv; exact c1
  | 2 => cases hv; exact c2
  | 3 => cases hv; exact c3
  | 4 => cases hv; exact c4
  | 5 => cases hv; exact c5
  | 6 => cases hv; exact c6
  | 7 => cases hv; exact c7
  | j + 8 => simp [RQ.cells] at hv
set_option maxRecDepth 100000 in
theorem req_of {v : Value} {d : DataW H} {p : List MemPlace} (hv : Value.okWide Tryz.prog W .any 0 52 v) (h : DataW.Trod enc Tryz.prog W 0 (fun _ => true) true 52 v d p) : ∃ r : RQ, v = .agg r.cells := by
  obtain ⟨cs, rfl, hsz⟩ := okWide_struct Tryz.underlying52 hv
  obtain ⟨fuel, hf⟩ := h
  obtain ⟨hl, hx⟩ := agg_of Tryz.underlying52 (by kernel_rfl) (by kernel_rfl) hf
  obtain ⟨r, hr⟩ := rq_of_cells (cell := fun j => (Value.agg cs).cells.toList[j]?) (hx 0 _ rfl) (hx 1 _ rfl) (hx 2 _ rfl) (hx 3 _ rfl) (hx 4 _ rfl) (hx 5 _ rfl) (hx 6 _ rfl) (hx 7 _ rfl)
  refine ⟨r, ?_⟩
  have e : (Value.agg cs).cells = cs := rfl
  rw [e] at hr hl
  congr 1
  apply Array.ext_getElem?
  intro j
  by_cases hj : j < r.cells.size
  · have := hr j r.cells[j] (by simp [hj])
    rw [Array.getElem?_toList] at this
    rw [this]; simp [hj]
  · have h8 : r.cells.size = 8 := rfl
    have h9 : cs.size = 8 := by simpa using hl
    rw [Array.getElem?_eq_none (by omega), Array.getElem?_eq_none (by omega)]
set_option maxRecDepth 100000 in
theorem rqs_of {ao : Option Addr} {len cap : Nat} {d : DataW H} {p : List MemPlace} (h : DataW.Trod enc Tryz.prog W 0 (fun _ => true) true 39 (.slice ao len cap) d p) :
    ∃ rs : List RQ, len = rs.length ∧ RqsAt W ao rs ∧ len ≤ cap ∧ cap ≤ maxLen := by
  obtain ⟨hl, hm, hx⟩ := rows_of Tryz.underlying39 Tryz.underlying52 (by kernel_rfl) (by kernel_rfl) (by decide) h
  rcases hx with h0 | ⟨b, off, rfl, hx⟩
  · exact ⟨[], by simpa using h0, Or.inl rfl, hl, hm⟩
  · obtain ⟨X, hX⟩ := choose_lt (α := RQ) (n := len) (p := fun i o => o.at_ W b (off + i * 8)) (fun i hi => by
      obtain ⟨r, hr⟩ := rq_of_cells (cell := fun j => W.cell? ⟨b, off + (i * 8 + j), none⟩) (hx i hi 0 _ rfl) (hx i hi 1 _ rfl) (hx i hi 2 _ rfl) (hx i hi 3 _ rfl) (hx i hi 4 _ rfl) (hx i hi 5 _ rfl) (hx i hi 6 _ rfl) (hx i hi 7 _ rfl)
      exact ⟨r, fun j v hv => by rw [Nat.add_assoc]; exact hr j v hv⟩)
    refine ⟨(List.range len).map X, by simp, Or.inr ⟨b, off, rfl, fun i hi => ?_⟩, hl, hm⟩
    simp at hi
    simp only [List.getElem_map, List.getElem_range]
    exact hX i hi
set_option maxRecDepth 100000 in
theorem batch_of {v : Value} {d : DataW H} {p : List MemPlace} (hv : Value.okWide Tryz.prog W .any 0 41 v) (h : DataW.Trod enc Tryz.prog W 0 (fun _ => true) true 41 v d p) :
    ∃ (seen : Int) (ao : Option Addr) (rs : List RQ) (n cap : Nat), v = .agg #[.int .i64 seen, .slice ao n cap] ∧ rs.length = n ∧ RqsAt W ao rs ∧ n ≤ cap ∧ cap ≤ maxLen := by
  obtain ⟨cs, rfl, hsz⟩ := okWide_struct Tryz.underlying41 hv
  obtain ⟨fuel, hf⟩ := h
  obtain ⟨hl, hx⟩ := agg_of Tryz.underlying41 (by kernel_rfl) (by kernel_rfl) hf
  obtain ⟨v0, x0, n0, c0, t0⟩ := hx 0 _ rfl
  obtain ⟨v1, x1, n1, c1, t1⟩ := hx 1 _ rfl
  obtain ⟨y0, e0, _, w0⟩ := DataW.trod_int Tryz.underlying3 t0
  simp only [List.cons.injEq, and_true] at e0
  subst e0
  obtain ⟨ao, len, cap, rfl⟩ : ∃ ao len cap, v1 = .slice ao len cap := by
    rcases open_slice Tryz.underlying39 t1 with ⟨hcs, _⟩ | ⟨a, l, c, m, n, D, Pl, hcs, _⟩
    · simp at hcs; exact ⟨_, _, _, hcs⟩
    · simp at hcs; exact ⟨_, _, _, hcs⟩
  obtain ⟨rs, h1, h2, h3, h4⟩ := rqs_of (ao := ao) (len := len) (cap := cap) ⟨n1, t1⟩
  refine ⟨y0, ao, rs, len, cap, ?_, h1.symm, h2, h3, h4⟩
  have e : (Value.agg cs).cells = cs := rfl
  rw [e] at c0 c1 hl
  congr 1
  apply Array.ext_getElem?
  intro j
  have h9 : cs.size = 2 := by simpa using hl
  rw [Array.getElem?_toList] at c0 c1
  match j with
  | 0 => rw [c0]; rfl
  | 1 => rw [c1]; rfl
  | j + 2 => rw [Array.getElem?_eq_none (by omega)]; simp
end

end Go.Proofs.YtkaciaehlibidaaGreat
