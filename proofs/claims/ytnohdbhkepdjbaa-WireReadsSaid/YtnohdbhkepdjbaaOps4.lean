/- Arguments of type []cfllaw4.Op. -/
import Derived.Test.YtnohdbhkepdjbaaRowz
namespace Go.Proofs.Ytnohdbhkepdjbaa
open Go.ChangeShapes Go.WideShapes Go.ChangeAt Go.RowKit Go.Deep
set_option linter.unusedVariables false

structure WOp where
  k : Int
  n : Int
  z : Int
  b : BSl
instance : Inhabited WOp := ⟨⟨0, 0, 0, default⟩⟩
def WOp.ok (w : World) (o : WOp) : Prop := ((Lit.int .i64 o.k).wf = true ∧ (Lit.int .i64 o.n).wf = true ∧ (Lit.int .i64 o.z).wf = true) ∧ o.b.ok w
def OpsAt (w : World) (ao : Option Addr) (rs : List WOp) : Prop :=
  (rs = [] ∨ ∃ b off, ao = some ⟨b, off, none⟩ ∧ ∀ i (h : i < rs.length), w.cell? ⟨b, off + i * 4, none⟩ = some (.int .i64 rs[i].k) ∧ w.cell? ⟨b, off + i * 4 + 1, none⟩ = some (.int .i64 rs[i].n) ∧
    w.cell? ⟨b, off + i * 4 + 2, none⟩ = some (.int .i64 rs[i].z) ∧ w.cell? ⟨b, off + i * 4 + 3, none⟩ = some rs[i].b.val) ∧ ∀ x ∈ rs, x.ok w

theorem OpsAt.below {w w' : World} {ao : Option Addr} {rs : List WOp} (h : OpsAt w ao rs) (hb : Below w.heap.size w w') : OpsAt w' ao rs := by
  refine ⟨?_, fun x hx => ⟨(h.2 x hx).1, (h.2 x hx).2.below hb⟩⟩
  rcases h.1 with h | ⟨b, off, h1, h2⟩
  · exact Or.inl h
  · refine Or.inr ⟨b, off, h1, fun i hi => ?_⟩
    obtain ⟨c0, c1, c2, c3⟩ := h2 i hi
    refine ⟨?_, ?_, ?_, ?_⟩
    · rw [hb.cell (World.block_lt_of_cell? w _ c0)]; exact c0
    · rw [hb.cell (World.block_lt_of_cell? w _ c1)]; exact c1
    · rw [hb.cell (World.block_lt_of_cell? w _ c2)]; exact c2
    · rw [hb.cell (World.block_lt_of_cell? w _ c3)]; exact c3
theorem op_cell {w : World} {ao : Option Addr} {rs : List WOp} (h : OpsAt w ao rs) (i : Nat) (hi : i < rs.length) : ∃ b off, ao = some ⟨b, off, none⟩ ∧ w.cell? ⟨b, off + i * 4, none⟩ = some (.int .i64 rs[i].k) ∧ w.cell? ⟨b, off + i * 4 + 1, none⟩ = some (.int .i64 rs[i].n) ∧
    w.cell? ⟨b, off + i * 4 + 2, none⟩ = some (.int .i64 rs[i].z) ∧ w.cell? ⟨b, off + i * 4 + 3, none⟩ = some (.slice rs[i].b.ao rs[i].b.zs.length rs[i].b.cap) := by
  rcases h.1 with h | ⟨b, off, h1, h2⟩
  · rw [h] at hi; simp at hi
  · exact ⟨b, off, h1, h2 i hi⟩
theorem op_ok {w : World} {ao : Option Addr} {rs : List WOp} (h : OpsAt w ao rs) (i : Nat) (hi : i < rs.length) : rs[i].ok w := h.2 _ (List.getElem_mem hi)

theorem ops4_of {H : Type} {enc : TypeId × Value → H} {W : World} {ao : Option Addr} {len cap : Nat} {d : DataW H} {p : List MemPlace}
    (h : DataW.Trod enc Try.prog W 0 (fun _ => true) true 40 (.slice ao len cap) d p) :
    ∃ rs : List WOp, len = rs.length ∧ OpsAt W ao rs ∧ len ≤ cap ∧ cap ≤ maxLen := by
  obtain ⟨hl, hm, hx⟩ := rows_of Try.underlying40 Try.underlying46 (by kernel_rfl) (by kernel_rfl) (by decide) h
  rcases hx with h0 | ⟨b, off, rfl, hx⟩
  · exact ⟨[], by simpa using h0, ⟨Or.inl rfl, by simp⟩, hl, hm⟩
  · obtain ⟨X, hX⟩ := choose_lt (α := WOp) (n := len) (p := fun i o => W.cell? ⟨b, off + i * 4, none⟩ = some (.int .i64 o.k) ∧ W.cell? ⟨b, off + i * 4 + 1, none⟩ = some (.int .i64 o.n) ∧
        W.cell? ⟨b, off + i * 4 + 2, none⟩ = some (.int .i64 o.z) ∧ W.cell? ⟨b, off + i * 4 + 3, none⟩ = some o.b.val ∧ o.ok W) (fun i hi => by
      obtain ⟨v0, x0, n0, c0, t0⟩ := hx i hi 0 _ rfl
      obtain ⟨v1, x1, n1, c1, t1⟩ := hx i hi 1 _ rfl
      obtain ⟨v2, x2, n2, c2, t2⟩ := hx i hi 2 _ rfl
      obtain ⟨v3, x3, n3, c3, t3⟩ := hx i hi 3 _ rfl
      obtain ⟨y0, e0, _, w0⟩ := DataW.trod_int Try.underlying3 t0
      obtain ⟨y1, e1, _, w1⟩ := DataW.trod_int Try.underlying3 t1
      obtain ⟨y2, e2, _, w2⟩ := DataW.trod_int Try.underlying3 t2
      obtain ⟨y3, e3, w3⟩ := bsl_of Try.underlying34 Try.underlying5 (by kernel_rfl) t3
      simp only [List.cons.injEq, and_true] at e0 e1 e2
      subst e0 e1 e2 e3
      exact ⟨⟨y0, y1, y2, y3⟩, c0, c1, c2, c3, ⟨w0, w1, w2⟩, w3⟩)
    refine ⟨(List.range len).map X, by simp, ⟨?_, ?_⟩, hl, hm⟩
    · refine Or.inr ⟨b, off, rfl, fun i hi => ?_⟩
      simp at hi
      obtain ⟨c0, c1, c2, c3, _⟩ := hX i hi
      simp only [List.getElem_map, List.getElem_range]
      exact ⟨c0, c1, c2, c3⟩
    · intro x hx'
      simp only [List.mem_map, List.mem_range] at hx'
      obtain ⟨i, hi, rfl⟩ := hx'
      exact (hX i hi).2.2.2.2

end Go.Proofs.Ytnohdbhkepdjbaa
