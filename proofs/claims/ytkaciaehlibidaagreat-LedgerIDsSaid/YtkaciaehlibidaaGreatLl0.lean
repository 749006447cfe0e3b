/- Law 12: the arguments, opened. -/
import Derived.Test.YtkaciaehlibidaaGreatLe5
import Derived.Test.YtkaciaehlibidaaGreatReqa
import Derived.Test.YtkaciaehlibidaaGreatReq8
namespace Go.Proofs.YtkaciaehlibidaaGreat
open Go.ChangeShapes Go.WideShapes Go.ChangeAt Go.RowKit Go.Deep
set_option linter.unusedVariables false
set_option linter.unusedSimpArgs false

/-- One operation: a batch of a party at a clock. -/
structure LO where
  p : Int
  c : Int
  q : Int
  ro : Option Addr
  rs : List RQ
  n : Nat
  cap : Nat
instance : Inhabited LO := ⟨⟨0, 0, 0, none, [], 0, 0⟩⟩
def LO.ok (w : World) (o : LO) : Prop := RqsAt w o.ro o.rs ∧ o.rs.length = o.n ∧ o.n ≤ o.cap ∧ o.cap ≤ maxLen
def LosAt (w : World) (ao : Option Addr) (ls : List LO) : Prop :=
  (ls = [] ∨ ∃ b off, ao = some ⟨b, off, none⟩ ∧ ∀ i (h : i < ls.length), w.cell? ⟨b, off + i * 4, none⟩ = some (.int .i64 ls[i].p) ∧ w.cell? ⟨b, off + i * 4 + 1, none⟩ = some (.int .i64 ls[i].c) ∧ w.cell? ⟨b, off + i * 4 + 2, none⟩ = some (.int .i64 ls[i].q) ∧ w.cell? ⟨b, off + i * 4 + 3, none⟩ = some (.slice ls[i].ro ls[i].n ls[i].cap)) ∧
  ∀ o ∈ ls, o.ok w
theorem rqs_below {w w' : World} {ao : Option Addr} {rs : List RQ} (h : RqsAt w ao rs) (hb : Below w.heap.size w w') : RqsAt w' ao rs := by
  rcases h with h | ⟨b, off, h1, h2⟩
  · exact Or.inl h
  · exact Or.inr ⟨b, off, h1, fun i hi => (h2 i hi).below hb⟩
theorem LosAt.below {w w' : World} {ao : Option Addr} {ls : List LO} (h : LosAt w ao ls) (hb : Below w.heap.size w w') : LosAt w' ao ls := by
  refine ⟨?_, fun o ho => ⟨rqs_below (h.2 o ho).1 hb, (h.2 o ho).2⟩⟩
  rcases h.1 with h | ⟨b, off, h1, h2⟩
  · exact Or.inl h
  · refine Or.inr ⟨b, off, h1, fun i hi => ?_⟩
    obtain ⟨c0, c1, c2, c3⟩ := h2 i hi
    exact ⟨by rw [hb.cell (World.block_lt_of_cell? w _ c0)]; exact c0, by rw [hb.cell (World.block_lt_of_cell? w _ c1)]; exact c1, by rw [hb.cell (World.block_lt_of_cell? w _ c2)]; exact c2, by rw [hb.cell (World.block_lt_of_cell? w _ c3)]; exact c3⟩
theorem LosAt.at_ {w : World} {ao : Option Addr} {ls : List LO} (h : LosAt w ao ls) (i : Nat) (hi : i < ls.length) : ∃ b off, ao = some ⟨b, off, none⟩ ∧ w.cell? ⟨b, off + i * 4, none⟩ = some (.int .i64 ls[i].p) ∧ w.cell? ⟨b, off + i * 4 + 1, none⟩ = some (.int .i64 ls[i].c) ∧ w.cell? ⟨b, off + i * 4 + 2, none⟩ = some (.int .i64 ls[i].q) ∧ w.cell? ⟨b, off + i * 4 + 3, none⟩ = some (.slice ls[i].ro ls[i].n ls[i].cap) := by
  rcases h.1 with h | ⟨b, off, h1, h2⟩
  · rw [h] at hi; simp at hi
  · exact ⟨b, off, h1, h2 i hi⟩
section
variable {H : Type} {enc : TypeId × Value → H} {W : World}
set_option maxRecDepth 100000 in
theorem los_of {ao : Option Addr} {len cap : Nat} {d : DataW H} {p : List MemPlace}
    (h : DataW.Trod enc Tryz.prog W 0 (fun _ => true) true 25 (.slice ao len cap) d p) :
    ∃ ls : List LO, len = ls.length ∧ LosAt W ao ls ∧ len ≤ cap ∧ cap ≤ maxLen := by
  obtain ⟨fuel, hf⟩ := h
  rcases open_slice Tryz.underlying25 hf with ⟨hcs, _⟩ | ⟨a, l, c, m, n, D, Pl, hcs, _, hl, hm, hmm, _, hx⟩
  · simp [Value.cells] at hcs
    obtain ⟨rfl, rfl, rfl⟩ := hcs
    exact ⟨[], rfl, ⟨Or.inl rfl, fun o ho => by simp at ho⟩, Nat.le_refl _, Nat.zero_le _⟩
  · simp [Value.cells] at hcs
    obtain ⟨rfl, rfl, rfl⟩ := hcs
    have hmc : m = cap := by simpa using hmm
    have hC : Tryz.prog.cellsOf 43 = 4 := by kernel_rfl
    have hc1 : Tryz.prog.cellsOf 3 = 1 := by kernel_rfl
    have hc2 : Tryz.prog.cellsOf 41 = 2 := by kernel_rfl
    have key : ∀ i, i < len → ∃ o : LO, W.cell? (a.add (i * 4)) = some (.int .i64 o.p) ∧ W.cell? (a.add (i * 4 + 1)) = some (.int .i64 o.c) ∧ W.cell? (a.add (i * 4 + 2)) = some (.int .i64 o.q) ∧ W.cell? (a.add (i * 4 + 3)) = some (.slice o.ro o.n o.cap) ∧ o.ok W := by
      intro i hi
      obtain ⟨cs, hc, htr⟩ := hx i (by omega)
      rw [hC] at hc
      obtain ⟨_, hcl, hat⟩ := World.cells?_some hc
      obtain ⟨ys, k, _, _, _, hyl, hfl⟩ := DataW.trod_struct Tryz.underlying43 htr
      obtain ⟨v0, v1, v2, v3, rfl⟩ : ∃ v0 v1 v2 v3, cs = [v0, v1, v2, v3] := by
        match cs, hcl with
        | [v0, v1, v2, v3], _ => exact ⟨v0, v1, v2, v3, rfl⟩
      have f0 : DataW.trod enc Tryz.prog W 0 (fun _ => true) true k 3 [v0] = ys[0]? := by
        have h := hfl 0 _ rfl
        simp only [List.getElem_toArray, List.getElem_cons_zero, List.getElem_cons_succ] at h
        rw [hc1] at h
        exact h
      have f1 : DataW.trod enc Tryz.prog W 0 (fun _ => true) true k 3 [v1] = ys[1]? := by
        have h := hfl 1 _ rfl
        simp only [List.getElem_toArray, List.getElem_cons_zero, List.getElem_cons_succ] at h
        rw [hc1] at h
        exact h
      have f2 : DataW.trod enc Tryz.prog W 0 (fun _ => true) true k 41 [v2, v3] = ys[2]? := by
        have h := hfl 2 _ rfl
        simp only [List.getElem_toArray, List.getElem_cons_zero, List.getElem_cons_succ] at h
        rw [hc2] at h
        exact h
      rw [List.getElem?_eq_getElem (by rw [hyl]; decide)] at f0 f1 f2
      obtain ⟨y0, e0, _, _⟩ := DataW.trod_int Tryz.underlying3 f0
      obtain ⟨y1, e1, _, _⟩ := DataW.trod_int Tryz.underlying3 f1
      obtain ⟨_, hxx⟩ := agg_of Tryz.underlying41 (by kernel_rfl) (by kernel_rfl) f2
      obtain ⟨u0, z0, n0, g0, t0⟩ := hxx 0 _ rfl
      obtain ⟨u1, z1, n1, g1, t1⟩ := hxx 1 _ rfl
      obtain ⟨y2, e2, _, _⟩ := DataW.trod_int Tryz.underlying3 t0
      simp only [List.cons.injEq, and_true] at e0 e1 e2
      subst e0 e1 e2
      simp only [List.getElem?_cons_zero, List.getElem?_cons_succ, Option.some.injEq] at g0 g1
      subst g0 g1
      obtain ⟨ro, len1, cap1, rfl⟩ : ∃ ao len cap, v3 = .slice ao len cap := by
        rcases open_slice Tryz.underlying39 t1 with ⟨hcs, _⟩ | ⟨a, l, c, m, n, D, Pl, hcs, _⟩
        · simp at hcs; exact ⟨_, _, _, hcs⟩
        · simp at hcs; exact ⟨_, _, _, hcs⟩
      obtain ⟨rs, h1, h2, h3, h4⟩ := rqs_of (ao := ro) (len := len1) (cap := cap1) ⟨n1, t1⟩
      have b0 := hat 0 (by omega)
      have b1 := hat 1 (by omega)
      have b2 := hat 2 (by omega)
      have b3 := hat 3 (by omega)
      rw [Go.Deep.add_add] at b0 b1 b2 b3
      refine ⟨⟨y0, y1, y2, ro, rs, len1, cap1⟩, ?_, ?_, ?_, ?_, h2, h1.symm, h3, h4⟩
      · exact b0
      · exact b1
      · exact b2
      · exact b3
    obtain ⟨X, hX⟩ := choose_lt (α := LO) (n := len) (p := fun i o => W.cell? (a.add (i * 4)) = some (.int .i64 o.p) ∧ W.cell? (a.add (i * 4 + 1)) = some (.int .i64 o.c) ∧ W.cell? (a.add (i * 4 + 2)) = some (.int .i64 o.q) ∧ W.cell? (a.add (i * 4 + 3)) = some (.slice o.ro o.n o.cap) ∧ o.ok W) key
    refine ⟨(List.range len).map X, by simp, ⟨?_, ?_⟩, hl, hm⟩
    · by_cases h0 : len = 0
      · exact Or.inl (by simp [h0])
      · have hc0 := (hX 0 (by omega)).1
        obtain ⟨b, off, spot⟩ := a
        have hspot : spot = none := by simpa [Addr.add] using World.cell?_spot hc0
        subst hspot
        refine Or.inr ⟨b, off, rfl, fun i hi => ?_⟩
        simp at hi
        obtain ⟨g0, g1, g2, g3, _⟩ := hX i hi
        rw [addr_add] at g0 g1 g2 g3
        simp only [List.getElem_map, List.getElem_range]
        exact ⟨g0, g1, g2, g3⟩
    · intro o ho
      simp only [List.mem_map, List.mem_range] at ho
      obtain ⟨i, hi, rfl⟩ := ho
      exact (hX i hi).2.2.2.2
set_option maxRecDepth 100000 in
theorem conf_of {v : Value} {d : DataW H} {p : List MemPlace} (hv : Value.okWide Tryz.prog W .any 0 24 v) (h : DataW.Trod enc Tryz.prog W 0 (fun _ => true) true 24 v d p) :
    ∃ (ao : Option Addr) (bs : List ISl) (n cap : Nat) (E : Int), v = .agg #[.slice ao n cap, .int .i64 E] ∧ bs.length = n ∧ IntsList W ao bs ∧ n ≤ cap ∧ cap ≤ maxLen := by
  obtain ⟨cs, rfl, hsz⟩ := okWide_struct Tryz.underlying24 hv
  obtain ⟨fuel, hf⟩ := h
  obtain ⟨hl, hx⟩ := agg_of Tryz.underlying24 (by kernel_rfl) (by kernel_rfl) hf
  obtain ⟨v0, x0, n0, c0, t0⟩ := hx 0 _ rfl
  obtain ⟨v1, x1, n1, c1, t1⟩ := hx 1 _ rfl
  obtain ⟨y1, e1, _, w1⟩ := DataW.trod_int Tryz.underlying3 t1
  simp only [List.cons.injEq, and_true] at e1
  subst e1
  obtain ⟨ao, len, cap, rfl⟩ : ∃ ao len cap, v0 = .slice ao len cap := by
    rcases open_slice Tryz.underlying22 t0 with ⟨hcs, _⟩ | ⟨a, l, c, m, n, D, Pl, hcs, _⟩
    · simp at hcs; exact ⟨_, _, _, hcs⟩
    · simp at hcs; exact ⟨_, _, _, hcs⟩
  obtain ⟨bs, h1, h2, h3, h4⟩ := ilists_of (ao := ao) (len := len) (cap := cap) Tryz.underlying22 (by kernel_rfl) Tryz.underlying60 Tryz.underlying3 (by kernel_rfl) ⟨n0, t0⟩
  refine ⟨ao, bs, len, cap, y1, ?_, h1.symm, h2, h3, h4⟩
  have e : (Value.agg cs).cells = cs := rfl
  rw [e] at c0 c1 hl
  congr 1
  apply Array.ext_getElem?
  intro j
  have h9 : cs.size = 2 := by simpa using hl
  rw [Array.getElem?_toList] at c0 c1
  match j with
  | 0 => rw [c0]; rfl
  | 1 => rw [c1]; rfl
  | j + 2 => rw [Array.getElem?_eq_none (by omega)]; simp
end

end Go.Proofs.YtkaciaehlibidaaGreat
