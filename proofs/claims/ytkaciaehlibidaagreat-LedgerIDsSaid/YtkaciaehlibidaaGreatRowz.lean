/- Arguments that are slices of structs of one-cell fields: each field's cell. -/
import Derived.Test.YtkaciaehlibidaaGreatLgA
import Derived.Deep.Slices
import Derived.Deep.Fields
namespace Go.Proofs.YtkaciaehlibidaaGreat
open Go.ChangeShapes Go.WideShapes Go.ChangeAt Go.RowKit Go.Deep
set_option linter.unusedVariables false

section
variable {H : Type} {enc : TypeId × Value → H} {P : Program} {W : World}
theorem rows_of {t e : TypeId} {fs : Array Field} {ao : Option Addr} {len cap : Nat} {d : DataW H} {p : List MemPlace} (ht : P.underlying t = some (.slice e)) (he : P.underlying e = some (.struct fs))
    (hone : oneCellFields P fs = true) (hC : P.cellsOf e = fs.size) (hpos : 0 < fs.size) (h : DataW.Trod enc P W 0 (fun _ => true) true t (.slice ao len cap) d p) :
    len ≤ cap ∧ cap ≤ maxLen ∧ (len = 0 ∨ ∃ b off, ao = some ⟨b, off, none⟩ ∧ ∀ i, i < len → ∀ (j : Nat) (f : Field), fs[j]? = some f →
      ∃ v x n, W.cell? ⟨b, off + (i * fs.size + j), none⟩ = some v ∧ DataW.trod enc P W 0 (fun _ => true) true n f.type [v] = some x) := by
  obtain ⟨fuel, hf⟩ := h
  rcases open_slice ht hf with ⟨hcs, _⟩ | ⟨a, l, c, m, n, D, Pl, hcs, _, hl, hm, hmm, _, hx⟩
  · simp [Value.cells] at hcs
    obtain ⟨rfl, rfl, rfl⟩ := hcs
    exact ⟨Nat.le_refl _, Nat.zero_le _, Or.inl rfl⟩
  · simp [Value.cells] at hcs
    obtain ⟨rfl, rfl, rfl⟩ := hcs
    have hmc : m = cap := by simpa using hmm
    have key : ∀ i, i < len → ∀ (j : Nat) (f : Field), fs[j]? = some f → ∃ v x n, W.cell? (a.add (i * fs.size + j)) = some v ∧ DataW.trod enc P W 0 (fun _ => true) true n f.type [v] = some x := by
      intro i hi j f hj
      obtain ⟨cs, hc, htr⟩ := hx i (by omega)
      rw [hC] at hc
      obtain ⟨_, hcl, hat⟩ := World.cells?_some hc
      obtain ⟨ys, k, _, _, _, hyl, hfl⟩ := DataW.trod_struct he htr
      obtain ⟨ho, hk⟩ := hone_of hone j f hj
      have hjl : j < fs.size := (Array.getElem?_eq_some_iff.1 hj).1
      have h1 := hfl j f hj
      rw [ho, hk, take1_drop cs j undef (by omega)] at h1
      refine ⟨cs.getD j undef, ys[j]'(by omega), k, ?_, ?_⟩
      · rw [← Go.Deep.add_add, hat j hjl]
        simp [List.getD, List.getElem?_eq_getElem (show j < cs.length by omega)]
      · rw [h1]; exact List.getElem?_eq_getElem (by omega)
    refine ⟨hl, hm, ?_⟩
    by_cases h0 : len = 0
    · exact Or.inl h0
    · obtain ⟨v, _, _, hc0, _⟩ := key 0 (by omega) 0 fs[0] (by simp [hpos])
      obtain ⟨b, off, spot⟩ := a
      have hspot : spot = none := by
        have : (0 : Nat) * fs.size + 0 = 0 := by omega
        rw [this] at hc0
        simpa [Addr.add] using World.cell?_spot hc0
      subst hspot
      refine Or.inr ⟨b, off, rfl, fun i hi j f hj => ?_⟩
      obtain ⟨v, x, n, h1, h2⟩ := key i hi j f hj
      rw [addr_add] at h1
      exact ⟨v, x, n, h1, h2⟩
end

end Go.Proofs.YtkaciaehlibidaaGreat
