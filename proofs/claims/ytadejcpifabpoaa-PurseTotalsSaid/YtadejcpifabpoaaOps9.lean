/- Arguments of type []cfllaw9.Op. -/
import Derived.Test.YtadejcpifabpoaaFrame
import Derived.Test.YtadejcpifabpoaaRowz
namespace Go.Proofs.Ytadejcpifabpoaa
open Go.ChangeShapes Go.WideShapes Go.ChangeAt Go.RowKit Go.Deep
set_option linter.unusedVariables false

structure POp where
  k : Int
  a : Int
  b : Int
  s : Int
  x : Int
instance : Inhabited POp := ⟨⟨0, 0, 0, 0, 0⟩⟩
def POp.at_ (w : World) (b o : Nat) (r : POp) : Prop := w.cell? ⟨b, o, none⟩ = some (.int .i64 r.k) ∧ w.cell? ⟨b, o + 1, none⟩ = some (.int .i64 r.a) ∧ w.cell? ⟨b, o + 2, none⟩ = some (.int .i64 r.b) ∧ w.cell? ⟨b, o + 3, none⟩ = some (.int .i64 r.s) ∧ w.cell? ⟨b, o + 4, none⟩ = some (.int .i64 r.x)
def POpsAt (w : World) (ao : Option Addr) (rs : List POp) : Prop := rs = [] ∨ ∃ b off, ao = some ⟨b, off, none⟩ ∧ ∀ i (h : i < rs.length), rs[i].at_ w b (off + i * 5)
theorem POp.at_.below {w w' : World} {b o : Nat} {r : POp} (h : r.at_ w b o) (hb : Below w.heap.size w w') : r.at_ w' b o := by
  obtain ⟨c0, c1, c2, c3, c4⟩ := h
  refine ⟨?_, ?_, ?_, ?_, ?_⟩
  · rw [hb.cell (World.block_lt_of_cell? w _ c0)]; exact c0
  · rw [hb.cell (World.block_lt_of_cell? w _ c1)]; exact c1
  · rw [hb.cell (World.block_lt_of_cell? w _ c2)]; exact c2
  · rw [hb.cell (World.block_lt_of_cell? w _ c3)]; exact c3
  · rw [hb.cell (World.block_lt_of_cell? w _ c4)]; exact c4
theorem POpsAt.below {w w' : World} {ao : Option Addr} {rs : List POp} (h : POpsAt w ao rs) (hb : Below w.heap.size w w') : POpsAt w' ao rs := by
  rcases h with h | ⟨b, off, h1, h2⟩
  · exact Or.inl h
  · exact Or.inr ⟨b, off, h1, fun i hi => (h2 i hi).below hb⟩
theorem pop_cell {w : World} {ao : Option Addr} {rs : List POp} (h : POpsAt w ao rs) (i : Nat) (hi : i < rs.length) : ∃ b off, ao = some ⟨b, off, none⟩ ∧ ∀ w', Below w.heap.size w w' → rs[i].at_ w' b (off + i * 5) := by
  rcases h with h | ⟨b, off, h1, h2⟩
  · rw [h] at hi; simp at hi
  · exact ⟨b, off, h1, fun w' hb => (h2 i hi).below hb⟩

theorem ops9_of {H : Type} {enc : TypeId × Value → H} {W : World} {ao : Option Addr} {len cap : Nat} {d : DataW H} {p : List MemPlace}
    (h : DataW.Trod enc Try.prog W 0 (fun _ => true) true 23 (.slice ao len cap) d p) :
    ∃ rs : List POp, len = rs.length ∧ POpsAt W ao rs ∧ len ≤ cap ∧ cap ≤ maxLen := by
  obtain ⟨hl, hm, hx⟩ := rows_of Try.underlying23 Try.underlying35 (by kernel_rfl) (by kernel_rfl) (by decide) h
  rcases hx with h0 | ⟨b, off, rfl, hx⟩
  · exact ⟨[], by simpa using h0, Or.inl rfl, hl, hm⟩
  · obtain ⟨X, hX⟩ := choose_lt (α := POp) (n := len) (p := fun i o => o.at_ W b (off + i * 5)) (fun i hi => by
      obtain ⟨v0, x0, n0, c0, t0⟩ := hx i hi 0 _ rfl
      obtain ⟨v1, x1, n1, c1, t1⟩ := hx i hi 1 _ rfl
      obtain ⟨v2, x2, n2, c2, t2⟩ := hx i hi 2 _ rfl
      obtain ⟨v3, x3, n3, c3, t3⟩ := hx i hi 3 _ rfl
      obtain ⟨v4, x4, n4, c4, t4⟩ := hx i hi 4 _ rfl
      obtain ⟨y0, e0, _, w0⟩ := DataW.trod_int Try.underlying3 t0
      obtain ⟨y1, e1, _, w1⟩ := DataW.trod_int Try.underlying3 t1
      obtain ⟨y2, e2, _, w2⟩ := DataW.trod_int Try.underlying3 t2
      obtain ⟨y3, e3, _, w3⟩ := DataW.trod_int Try.underlying3 t3
      obtain ⟨y4, e4, _, w4⟩ := DataW.trod_int Try.underlying3 t4
      simp only [List.cons.injEq, and_true] at e0 e1 e2 e3 e4
      subst e0 e1 e2 e3 e4
      exact ⟨⟨y0, y1, y2, y3, y4⟩, c0, c1, c2, c3, c4⟩)
    refine ⟨(List.range len).map X, by simp, Or.inr ⟨b, off, rfl, fun i hi => ?_⟩, hl, hm⟩
    simp at hi
    simp only [List.getElem_map, List.getElem_range]
    exact hX i hi

end Go.Proofs.Ytadejcpifabpoaa
