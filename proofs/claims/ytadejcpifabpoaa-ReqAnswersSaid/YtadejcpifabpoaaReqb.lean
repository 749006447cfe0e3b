/- Arguments of package req's types, opened: events, replies, answers. -/
import Derived.Test.YtadejcpifabpoaaReqa
import Derived.Test.YtadejcpifabpoaaReqe
namespace Go.Proofs.Ytadejcpifabpoaa
open Go.ChangeShapes Go.WideShapes Go.ChangeAt Go.RowKit Go.Deep
set_option linter.unusedVariables false

section
variable {H : Type} {enc : TypeId × Value → H} {W : World}
set_option maxRecDepth 100000 in
theorem ev_of_cells {cell : Nat → Option Value} (h0 : ∃ v y n, cell 0 = some v ∧ DataW.trod enc Try.prog W 0 (fun _ => true) true n 3 [v] = some y) (h1 : ∃ v y n, cell 1 = some v ∧ DataW.trod enc Try.prog W 0 (fun _ => true) true n 3 [v] = some y) (h2 : ∃ v y n, cell 2 = some v ∧ DataW.trod enc Try.prog W 0 (fun _ => true) true n 3 [v] = some y) (h3 : ∃ v y n, cell 3 = some v ∧ DataW.trod enc Try.prog W 0 (fun _ => true) true n 3 [v] = some y) (h4 : ∃ v y n, cell 4 = some v ∧ DataW.trod enc Try.prog W 0 (fun _ => true) true n 3 [v] = some y) (h5 : ∃ v y n, cell 5 = some v ∧ DataW.trod enc Try.prog W 0 (fun _ => true) true n 3 [v] = some y) (h6 : ∃ v y n, cell 6 = some v ∧ DataW.trod enc Try.prog W 0 (fun _ => true) true n 3 [v] = some y) (h7 : ∃ v y n, cell 7 = some v ∧ DataW.trod enc Try.prog W 0 (fun _ => true) true n 9 [v] = some y) (h8 : ∃ v y n, cell 8 = some v ∧ DataW.trod enc Try.prog W 0 (fun _ => true) true n 9 [v] = some y) :
    ∃ r : EV, ∀ j v, r.cells[j]? = some v → cell j = some v := by
  obtain ⟨v0, x0, n0, c0, t0⟩ := h0
  obtain ⟨v1, x1, n1, c1, t1⟩ := h1
  obtain ⟨v2, x2, n2, c2, t2⟩ := h2
  obtain ⟨v3, x3, n3, c3, t3⟩ := h3
  obtain ⟨v4, x4, n4, c4, t4⟩ := h4
  obtain ⟨v5, x5, n5, c5, t5⟩ := h5
  obtain ⟨v6, x6, n6, c6, t6⟩ := h6
  obtain ⟨v7, x7, n7, c7, t7⟩ := h7
  obtain ⟨v8, x8, n8, c8, t8⟩ := h8
  obtain ⟨y0, e0, _, w0⟩ := DataW.trod_int Try.underlying3 t0
  obtain ⟨y1, e1, _, w1⟩ := DataW.trod_int Try.underlying3 t1
  obtain ⟨y2, e2, _, w2⟩ := DataW.trod_int Try.underlying3 t2
  obtain ⟨y3, e3, _, w3⟩ := DataW.trod_int Try.underlying3 t3
  obtain ⟨y4, e4, _, w4⟩ := DataW.trod_int Try.underlying3 t4
  obtain ⟨y5, e5, _, w5⟩ := DataW.trod_int Try.underlying3 t5
  obtain ⟨y6, e6, _, w6⟩ := DataW.trod_int Try.underlying3 t6
  obtain ⟨y7, e7, _, w7⟩ := DataW.trod_string Try.underlying9 t7
  obtain ⟨y8, e8, _, w8⟩ := DataW.trod_string Try.underlying9 t8
  simp only [List.cons.injEq, and_true] at e0 e1 e2 e3 e4 e5 e6 e7 e8
  subst e0 e1 e2 e3 e4 e5 e6 e7 e8
  refine ⟨⟨y0, y1, y2, y3, y4, y5, y6, y7, y8⟩, fun j v hv => ?_⟩
  match j with
  | 0 => cases hv; exact c0
  | 1 => cases hv; exact c1
  | 2 => cases hv; exact c2
  | 3 => cases hv; exact c3
  | 4 => cases hv; exact c4
  | 5 => cases hv; exact c5
  | 6 => cases hv; exact c6
  | 7 => cases hv; exact c7
  | 8 => cases hv; exact c8
  | j + 9 => simp [EV.cells] at hv
set_option maxRecDepth 100000 in
theorem evs_of {ao : Option Addr} {len cap : Nat} {d : DataW H} {p : List MemPlace} (h : DataW.Trod enc Try.prog W 0 (fun _ => true) true 55 (.slice ao len cap) d p) :
    ∃ rs : List EV, len = rs.length ∧ EvsAt W ao rs ∧ len ≤ cap ∧ cap ≤ maxLen := by
  obtain ⟨hl, hm, hx⟩ := rows_of Try.underlying55 Try.underlying84 (by kernel_rfl) (by kernel_rfl) (by decide) h
  rcases hx with h0 | ⟨b, off, rfl, hx⟩
  · exact ⟨[], by simpa using h0, Or.inl rfl, hl, hm⟩
  · obtain ⟨X, hX⟩ := choose_lt (α := EV) (n := len) (p := fun i o => o.at_ W b (off + i * 9)) (fun i hi => by
      obtain ⟨r, hr⟩ := ev_of_cells (cell := fun j => W.cell? ⟨b, off + (i * 9 + j), none⟩) (hx i hi 0 _ rfl) (hx i hi 1 _ rfl) (hx i hi 2 _ rfl) (hx i hi 3 _ rfl) (hx i hi 4 _ rfl) (hx i hi 5 _ rfl) (hx i hi 6 _ rfl) (hx i hi 7 _ rfl) (hx i hi 8 _ rfl)
      exact ⟨r, fun j v hv => by rw [Nat.add_assoc]; exact hr j v hv⟩)
    refine ⟨(List.range len).map X, by simp, Or.inr ⟨b, off, rfl, fun i hi => ?_⟩, hl, hm⟩
    simp at hi
    simp only [List.getElem_map, List.getElem_range]
    exact hX i hi
set_option maxRecDepth 100000 in
theorem reps_of {ao : Option Addr} {len cap : Nat} {d : DataW H} {p : List MemPlace} (h : DataW.Trod enc Try.prog W 0 (fun _ => true) true 54 (.slice ao len cap) d p) :
    ∃ rs : List (Int × Int), len = rs.length ∧ RepsAt W ao rs ∧ len ≤ cap ∧ cap ≤ maxLen := by
  obtain ⟨hl, hm, hx⟩ := rows_of Try.underlying54 Try.underlying94 (by kernel_rfl) (by kernel_rfl) (by decide) h
  rcases hx with h0 | ⟨b, off, rfl, hx⟩
  · exact ⟨[], by simpa using h0, Or.inl rfl, hl, hm⟩
  · obtain ⟨X, hX⟩ := choose_lt (α := Int × Int) (n := len) (p := fun i o => RP.at_ o W b (off + i * 2)) (fun i hi => by
      obtain ⟨v0, x0, n0, c0, t0⟩ := hx i hi 0 _ rfl
      obtain ⟨v1, x1, n1, c1, t1⟩ := hx i hi 1 _ rfl
      obtain ⟨y0, e0, _, w0⟩ := DataW.trod_int Try.underlying27 t0
      obtain ⟨y1, e1, _, w1⟩ := DataW.trod_int Try.underlying3 t1
      simp only [List.cons.injEq, and_true] at e0 e1
      subst e0 e1
      exact ⟨(y0, y1), by simpa [Nat.add_assoc] using c0, by simpa [Nat.add_assoc] using c1⟩)
    refine ⟨(List.range len).map X, by simp, Or.inr ⟨b, off, rfl, fun i hi => ?_⟩, hl, hm⟩
    simp at hi
    simp only [List.getElem_map, List.getElem_range]
    exact hX i hi
set_option maxRecDepth 100000 in
theorem ans_of {v : Value} {d : DataW H} {p : List MemPlace} (hv : Value.okWide Try.prog W .any 0 57 v) (h : DataW.Trod enc Try.prog W 0 (fun _ => true) true 57 v d p) :
    ∃ (A : AN) (ra : Option Addr) (n1 rc1 : Nat) (ea : Option Addr) (m1 ec1 : Nat), v = .agg #[.int .i64 A.c, .int .i64 A.q, .slice ra n1 rc1, .slice ea m1 ec1] ∧ A.rs.length = n1 ∧ A.es.length = m1 ∧ RepsAt W ra A.rs ∧ EvsAt W ea A.es ∧ (m1 ≤ ec1 ∧ ec1 ≤ maxLen) ∧ (n1 ≤ rc1 ∧ rc1 ≤ maxLen) := by
  obtain ⟨cs, rfl, hsz⟩ := okWide_struct Try.underlying57 hv
  obtain ⟨fuel, hf⟩ := h
  obtain ⟨hl, hx⟩ := agg_of Try.underlying57 (by kernel_rfl) (by kernel_rfl) hf
  obtain ⟨v0, x0, n0, c0, t0⟩ := hx 0 _ rfl
  obtain ⟨v1, x1, n1, c1, t1⟩ := hx 1 _ rfl
  obtain ⟨v2, x2, n2, c2, t2⟩ := hx 2 _ rfl
  obtain ⟨v3, x3, n3, c3, t3⟩ := hx 3 _ rfl
  obtain ⟨y0, e0, _, w0⟩ := DataW.trod_int Try.underlying3 t0
  obtain ⟨y1, e1, _, w1⟩ := DataW.trod_int Try.underlying3 t1
  simp only [List.cons.injEq, and_true] at e0 e1
  subst e0 e1
  obtain ⟨ra, len2, cap2, rfl⟩ : ∃ ao len cap, v2 = .slice ao len cap := by
    rcases open_slice Try.underlying54 t2 with ⟨hcs, _⟩ | ⟨a, l, c, m, n, D, Pl, hcs, _⟩
    · simp at hcs; exact ⟨_, _, _, hcs⟩
    · simp at hcs; exact ⟨_, _, _, hcs⟩
  obtain ⟨ea, len3, cap3, rfl⟩ : ∃ ao len cap, v3 = .slice ao len cap := by
    rcases open_slice Try.underlying55 t3 with ⟨hcs, _⟩ | ⟨a, l, c, m, n, D, Pl, hcs, _⟩
    · simp at hcs; exact ⟨_, _, _, hcs⟩
    · simp at hcs; exact ⟨_, _, _, hcs⟩
  obtain ⟨rs, g1, g2, g3, g4⟩ := reps_of (ao := ra) (len := len2) (cap := cap2) ⟨n2, t2⟩
  obtain ⟨es, h1, h2, h3, h4⟩ := evs_of (ao := ea) (len := len3) (cap := cap3) ⟨n3, t3⟩
  refine ⟨⟨y0, y1, rs, es⟩, ra, len2, cap2, ea, len3, cap3, ?_, g1.symm, h1.symm, g2, h2, ⟨h3, h4⟩, ⟨g3, g4⟩⟩
  have e : (Value.agg cs).cells = cs := rfl
  rw [e] at c0 c1 c2 c3 hl
  congr 1
  apply Array.ext_getElem?
  intro j
  have h9 : cs.size = 4 := by simpa using hl
  rw [Array.getElem?_toList] at c0 c1 c2 c3
  match j with
  | 0 => rw [c0]; rfl
  | 1 => rw [c1]; rfl
  | 2 => rw [c2]; rfl
  | 3 => rw [c3]; rfl
  | j + 4 => rw [Array.getElem?_eq_none (by omega)]; simp
end

end Go.Proofs.Ytadejcpifabpoaa
