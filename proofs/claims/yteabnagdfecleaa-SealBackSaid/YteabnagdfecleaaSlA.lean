/- An argument of type seal.Note, opened; slices of structs of one-cell fields. -/
import Derived.Test.YteabnagdfecleaaHeap
import Derived.Deep.Slices
import Derived.Deep.Fields
import Derived.Test.YteabnagdfecleaaSlP
namespace Go.Proofs.Yteabnagdfecleaa
open Go.ChangeShapes Go.WideShapes Go.ChangeAt Go.RowKit Go.Deep
set_option linter.unusedVariables false

section
variable {H : Type} {enc : TypeId × Value → H} {P : Program} {W : World}
theorem rows_of {t e : TypeId} {fs : Array Field} {ao : Option Addr} {len cap : Nat} {d : DataW H} {p : List MemPlace} (ht : P.underlying t = some (.slice e)) (he : P.underlying e = some (.struct fs))
    (hone : oneCellFields P fs = true) (hC : P.cellsOf e = fs.size) (hpos : 0 < fs.size) (h : DataW.Trod enc P W 0 (fun _ => true) true t (.slice ao len cap) d p) :
    len ≤ cap ∧ cap ≤ maxLen ∧ (len = 0 ∨ ∃ b off, ao = some ⟨b, off, none⟩ ∧ ∀ i, i < len → ∀ (j : Nat) (f : Field), fs[j]? = some f →
      ∃ v x n, W.cell? ⟨b, off + (i * fs.size + j), none⟩ = some v ∧ DataW.trod enc P W 0 (fun _ => true) true n f.type [v] = some x) := by
  obtain ⟨fuel, hf⟩ := h
  rcases open_slice ht hf with ⟨hcs, _⟩ | ⟨a, l, c, m, n, D, Pl, hcs, _, hl, hm, hmm, _, hx⟩
  · simp [Value.cells] at hcs
    obtain ⟨rfl, rfl, rfl⟩ := hcs
    exact ⟨Nat.le_refl _, Nat.zero_le _, Or.inl rfl⟩
  · simp [Value.cells] at hcs
    obtain ⟨rfl, rfl, rfl⟩ := hcs
    have hmc : m = cap := by simpa using hmm
    have key : ∀ i, i < len → ∀ (j : Nat) (f : Field), fs[j]? = some f → ∃ v x n, W.cell? (a.add (i * fs.size + j)) = some v ∧ DataW.trod enc P W 0 (fun _ => true) true n f.type [v] = some x := by
      intro i hi j f hj
      obtain ⟨cs, hc, htr⟩ := hx i (by omega)
      rw [hC] at hc
      obtain ⟨_, hcl, hat⟩ := World.cells?_some hc
      obtain ⟨ys, k, _, _, _, hyl, hfl⟩ := DataW.trod_struct he htr
      obtain ⟨ho, hk⟩ := hone_of hone j f hj
      have hjl : j < fs.size := (Array.getElem?_eq_some_iff.1 hj).1
      have h1 := hfl j f hj
      rw [ho, hk, take1_drop cs j undef (by omega)] at h1
      refine ⟨cs.getD j undef, ys[j]'(by omega), k, ?_, ?_⟩
      · rw [← Go.Deep.add_add, hat j hjl]
        simp [List.getD, List.getElem?_eq_getElem (show j < cs.length by omega)]
      · rw [h1]; exact List.getElem?_eq_getElem (by omega)
    refine ⟨hl, hm, ?_⟩
    by_cases h0 : len = 0
    · exact Or.inl h0
    · obtain ⟨v, _, _, hc0, _⟩ := key 0 (by omega) 0 fs[0] (by simp [hpos])
      obtain ⟨b, off, spot⟩ := a
      have hspot : spot = none := by
        have : (0 : Nat) * fs.size + 0 = 0 := by omega
        rw [this] at hc0
        simpa [Addr.add] using World.cell?_spot hc0
      subst hspot
      refine Or.inr ⟨b, off, rfl, fun i hi j f hj => ?_⟩
      obtain ⟨v, x, n, h1, h2⟩ := key i hi j f hj
      rw [addr_add] at h1
      exact ⟨v, x, n, h1, h2⟩
end

end Go.Proofs.Yteabnagdfecleaa
namespace Go.Proofs.Yteabnagdfecleaa
open Go.ChangeShapes Go.WideShapes Go.ChangeAt Go.RowKit Go.Deep
set_option linter.unusedVariables false

section
variable {H : Type} {enc : TypeId × Value → H} {P : Program} {W : World}
theorem agg_of {t : TypeId} {fs : Array Field} {cs : List Value} {x : DataW H × List MemPlace} {fuel : Nat} (ht : P.underlying t = some (.struct fs)) (hone : oneCellFields P fs = true) (hC : P.cellsOf t = fs.size)
    (h : DataW.trod enc P W 0 (fun _ => true) true fuel t cs = some x) : cs.length = fs.size ∧ ∀ (j : Nat) (f : Field), fs[j]? = some f → ∃ v y n, cs[j]? = some v ∧ DataW.trod enc P W 0 (fun _ => true) true n f.type [v] = some y := by
  obtain ⟨ys, k, _, _, hl, hyl, hfl⟩ := DataW.trod_struct ht h
  have hcl : cs.length = fs.size := by rw [hl, hC]
  refine ⟨hcl, fun j f hj => ?_⟩
  obtain ⟨ho, hk⟩ := hone_of hone j f hj
  have hjl : j < fs.size := (Array.getElem?_eq_some_iff.1 hj).1
  have h1 := hfl j f hj
  rw [ho, hk, take1_drop cs j undef (by omega)] at h1
  refine ⟨cs.getD j undef, ys[j]'(by omega), k, ?_, ?_⟩
  · simp [List.getD, List.getElem?_eq_getElem (show j < cs.length by omega)]
  · rw [h1]; exact List.getElem?_eq_getElem (by omega)
end

section
variable {H : Type} {enc : TypeId × Value → H} {W : World}
set_option maxRecDepth 100000 in
theorem note_of {v : Value} {d : DataW H} {p : List MemPlace} (hv : Value.okWide Try.prog W .any 0 46 v) (h : DataW.Trod enc Try.prog W 0 (fun _ => true) true 46 v d p) :
    ∃ (N : NR) (ao : Option Addr) (m c : Nat), v = .agg #[.int .i64 N.p, .int .i64 N.l, .int .i64 N.w, .int .i64 N.s, .slice ao m c] ∧ N.b.length = m ∧ IntsAt .u8 W ao N.b ∧ InB N.b ∧ m ≤ c ∧ c ≤ maxLen := by
  obtain ⟨cs, rfl, hsz⟩ := okWide_struct Try.underlying46 hv
  obtain ⟨fuel, hf⟩ := h
  obtain ⟨hl, hx⟩ := agg_of Try.underlying46 (by kernel_rfl) (by kernel_rfl) hf
  obtain ⟨v0, x0, n0, c0, t0⟩ := hx 0 _ rfl
  obtain ⟨v1, x1, n1, c1, t1⟩ := hx 1 _ rfl
  obtain ⟨v2, x2, n2, c2, t2⟩ := hx 2 _ rfl
  obtain ⟨v3, x3, n3, c3, t3⟩ := hx 3 _ rfl
  obtain ⟨v4, x4, n4, c4, t4⟩ := hx 4 _ rfl
  obtain ⟨y0, e0, _, w0⟩ := DataW.trod_int Try.underlying3 t0
  obtain ⟨y1, e1, _, w1⟩ := DataW.trod_int Try.underlying3 t1
  obtain ⟨y2, e2, _, w2⟩ := DataW.trod_int Try.underlying3 t2
  obtain ⟨y3, e3, _, w3⟩ := DataW.trod_int Try.underlying3 t3
  simp only [List.cons.injEq, and_true] at e0 e1 e2 e3
  subst e0 e1 e2 e3
  obtain ⟨ao, m, c, rfl⟩ : ∃ ao len cap, v4 = .slice ao len cap := by
    rcases open_slice Try.underlying22 t4 with ⟨hcs, _⟩ | ⟨a, l, c, m, n, D, Pl, hcs, _⟩
    · simp at hcs; exact ⟨_, _, _, hcs⟩
    · simp at hcs; exact ⟨_, _, _, hcs⟩
  obtain ⟨zs, g1, g2, g3, g4⟩ := ints_of Try.underlying22 Try.underlying5 (by kernel_rfl) (ao := ao) (len := m) (cap := c) ⟨n4, t4⟩
  refine ⟨⟨y0, y1, y2, y3, zs⟩, ao, m, c, ?_, g1.symm, g2, inB_of_wf g4.2, by rw [g1]; exact g3, g4.1⟩
  have e : (Value.agg cs).cells = cs := rfl
  rw [e] at c0 c1 c2 c3 c4 hl
  congr 1
  apply Array.ext_getElem?
  intro j
  have h9 : cs.size = 5 := by simpa using hl
  rw [Array.getElem?_toList] at c0 c1 c2 c3 c4
  match j with
  | 0 => rw [c0]; rfl
  | 1 => rw [c1]; rfl
  | 2 => rw [c2]; rfl
  | 3 => rw [c3]; rfl
  | 4 => rw [c4]; rfl
  | j + 5 => rw [Array.getElem?_eq_none (by omega)]; simp
end

end Go.Proofs.Yteabnagdfecleaa
