/- Arguments that are lists of byte slices, opened. -/
import Derived.Test.YtbhoakohpfdeoaaGreatByt
import Derived.Test.YtbhoakohpfdeoaaGreatFewl
import Derived.Deep.Slices
import Derived.Deep.Fields
namespace Go.Proofs.YtbhoakohpfdeoaaGreat
open Go.ChangeShapes Go.WideShapes Go.ChangeAt Go.RowKit Go.Deep
set_option linter.unusedVariables false

/-- A byte slice as it stands in a cell. -/
structure BSl where
  ao : Option Addr
  zs : List Int
  cap : Nat
def BSl.val (b : BSl) : Value := .slice b.ao b.zs.length b.cap
def BSl.ok (w : World) (b : BSl) : Prop := IntsAt .u8 w b.ao b.zs ∧ InB b.zs ∧ b.zs.length ≤ b.cap ∧ b.cap ≤ maxLen ∧ (b.zs = [] ∨ ∀ a, b.ao = some a → a.block < w.heap.size)
def BytesList (w : World) (ao : Option Addr) (bs : List BSl) : Prop :=
  (bs = [] ∨ ∃ b off, ao = some ⟨b, off, none⟩ ∧ ∀ i (h : i < bs.length), w.cell? ⟨b, off + i, none⟩ = some bs[i].val) ∧ ∀ x ∈ bs, x.ok w

theorem BSl.ok.below {w w' : World} {b : BSl} (h : b.ok w) (hb : Below w.heap.size w w') : b.ok w' :=
  ⟨ints_below h.1 hb, h.2.1, h.2.2.1, h.2.2.2.1, h.2.2.2.2.imp id (fun h a ha => Nat.lt_of_lt_of_le (h a ha) hb.size)⟩
theorem BytesList.below {w w' : World} {ao : Option Addr} {bs : List BSl} (h : BytesList w ao bs) (hb : Below w.heap.size w w') : BytesList w' ao bs := by
  refine ⟨?_, fun x hx => (h.2 x hx).below hb⟩
  rcases h.1 with h | ⟨b, off, h1, h2⟩
  · exact Or.inl h
  · exact Or.inr ⟨b, off, h1, fun i hi => by
      have hl := World.block_lt_of_cell? w _ (h2 i hi)
      rw [hb.cell (p := ⟨b, off + i, none⟩) hl]; exact h2 i hi⟩

theorem inB_of_wf {zs : List Int} (h : ∀ n ∈ zs, (Lit.int .u8 n).wf = true) : InB zs := fun z hz => bounds_u8 (h z hz)

section
variable {H : Type} {enc : TypeId × Value → H} {P : Program} {W : World}
theorem bsl_of {t e : TypeId} {fuel : Nat} {v : Value} {x : DataW H × List MemPlace} (ht : P.underlying t = some (.slice e)) (he : P.underlying e = some (.int .u8)) (hc : P.cellsOf e = 1)
    (h : DataW.trod enc P W 0 (fun _ => true) true fuel t [v] = some x) : ∃ b : BSl, v = b.val ∧ b.ok W := by
  have h' : DataW.Trod enc P W 0 (fun _ => true) true t v x.1 x.2 := by
    refine ⟨fuel, ?_⟩
    have hv : v.cells.toList = [v] := by
      rcases open_ints ht he hc h with ⟨hcs, _⟩ | ⟨a, l, c, zs, hcs, _⟩
      · simp at hcs; subst hcs; rfl
      · simp at hcs; subst hcs; rfl
    rw [hv]; exact h
  obtain ⟨ao, len, cap, rfl⟩ : ∃ ao len cap, v = .slice ao len cap := by
    rcases open_ints ht he hc h with ⟨hcs, _⟩ | ⟨a, l, c, zs, hcs, _⟩
    · simp at hcs; exact ⟨_, _, _, hcs⟩
    · simp at hcs; exact ⟨_, _, _, hcs⟩
  obtain ⟨zs, rfl, h1, h2, h3, h4⟩ := ints_of ht he hc h'
  refine ⟨⟨ao, zs, cap⟩, rfl, h1, inB_of_wf h4, h2, h3, ?_⟩
  by_cases h0 : zs = []
  · exact Or.inl h0
  · exact Or.inr (fun a ha => by subst ha; exact h1.lt h0)

instance : Inhabited BSl := ⟨⟨none, [], 0⟩⟩

theorem lists_of {t e u : TypeId} {ao : Option Addr} {len cap : Nat} {d : DataW H} {p : List MemPlace} (ht : P.underlying t = some (.slice e)) (hce : P.cellsOf e = 1) (he : P.underlying e = some (.slice u)) (hu : P.underlying u = some (.int .u8)) (hc : P.cellsOf u = 1)
    (h : DataW.Trod enc P W 0 (fun _ => true) true t (.slice ao len cap) d p) :
    ∃ bs : List BSl, len = bs.length ∧ BytesList W ao bs ∧ len ≤ cap ∧ cap ≤ maxLen := by
  obtain ⟨fuel, hf⟩ := h
  rcases open_slice1 ht hce hf with ⟨hcs, _⟩ | ⟨a, l, c, m, n, V, D, Pl, hcs, _, hl, hm, hmm, _, hx⟩
  · simp [Value.cells] at hcs
    obtain ⟨rfl, rfl, rfl⟩ := hcs
    exact ⟨[], rfl, ⟨Or.inl rfl, by simp⟩, Nat.le_refl _, Nat.zero_le _⟩
  · simp [Value.cells] at hcs
    obtain ⟨rfl, rfl, rfl⟩ := hcs
    have hmc : m = cap := by simpa using hmm
    obtain ⟨X, hX⟩ := choose_lt (α := BSl) (p := fun i b => V i = b.val ∧ b.ok W) (fun i hi => bsl_of he hu hc (hx i hi).2)
    refine ⟨(List.range len).map X, by simp, ⟨?_, ?_⟩, hl, hm⟩
    · by_cases h0 : len = 0
      · exact Or.inl (by simp [h0])
      · have hc0 := (hx 0 (by omega)).1
        obtain ⟨b, off, spot⟩ := a
        have hspot : spot = none := by simpa [Addr.add] using World.cell?_spot hc0
        subst hspot
        refine Or.inr ⟨b, off, rfl, fun i hi => ?_⟩
        simp at hi
        have h1 := (hx i (by omega)).1
        rw [addr_add] at h1
        rw [h1, (hX i (by omega)).1]
        simp
    · intro x hx'
      simp only [List.mem_map, List.mem_range] at hx'
      obtain ⟨i, hi, rfl⟩ := hx'
      exact (hX i (by omega)).2
end

end Go.Proofs.YtbhoakohpfdeoaaGreat
