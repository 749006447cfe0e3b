/- A reader and a row that grows in a box; rows of requests, events, replies that are owned. -/
import Derived.Test.YtadejcpifabpoaaIn3
namespace Go.Proofs.Ytadejcpifabpoaa
open Go.RowKit
set_option linter.unusedVariables false

structure RowBox (w0 wr : World) (p g X : Nat) (T : TypeId) (CS : Array Value) (te : TypeId) (sz : Nat) (v : Value) (n : Nat) (xs : List Value) (st : InS) : Prop where
  rd : InAt 99 wr p g st
  box : wr.heap[X]? = some (.cells CS T (0, 0))
  own : wr.ownsRow 0 te sz v n xs
  fresh : ∀ b, v.ownBlock = some b → w0.heap.size ≤ b
  keep : Keeps (fun i => i = p ∨ i = X) w0 wr
  pl : p < w0.heap.size
  xl : X < w0.heap.size
  gl : g < w0.heap.size
  gX : g ≠ X
  pX : p ≠ X
theorem RowBox.start {w0 : World} {p g X : Nat} {T : TypeId} {CS : Array Value} (te : TypeId) (sz : Nat) {st : InS} (rd : InAt 99 w0 p g st) (box : w0.heap[X]? = some (.cells CS T (0, 0))) (gX : g ≠ X) (pX : p ≠ X) :
    RowBox w0 w0 p g X T CS te sz (.slice none 0 0) 0 [] st :=
  ⟨rd, box, World.ownsRow_nil _ _ _ _, (fun b h => nomatch h), Keeps.refl _ _, rd.lt, blk_lt box, rd.glt.1, gX, pX⟩
section
variable {w0 wr w2 w3 w4 w' : World} {p g X : Nat} {T : TypeId} {CS : Array Value} {te : TypeId} {sz : Nat} {v v' : Value} {n n' : Nat} {xs xs' : List Value} {st st2 : InS}
theorem RowBox.below (h : RowBox w0 wr p g X T CS te sz v n xs st) (hb : Below wr.heap.size wr w') : RowBox w0 w' p g X T CS te sz v n xs st :=
  ⟨h.rd.below hb, (hb.block _ (blk_lt h.box)).trans h.box, ownsRow_same h.own (fun b hbk => hb.block _ (h.own.lt b hbk).2), h.fresh, h.keep.trans (Keeps.of_below (S := fun _ => False) hb) (fun _ f => f.elim), h.pl, h.xl, h.gl, h.gX, h.pX⟩
theorem RowBox.drew (h : RowBox w0 wr p g X T CS te sz v n xs st) : RowBox w0 wr.drew p g X T CS te sz v n xs st := h.below ((Keeps.refl (fun _ => False) wr).drew.below (Nat.le_refl _) (fun _ f => f.elim))
theorem RowBox.read (h : RowBox w0 wr p g X T CS te sz v n xs st) (K : Keeps (fun i => i = p) wr w2) (rd2 : InAt 99 w2 p g st2) : RowBox w0 w2 p g X T CS te sz v n xs st2 := by
  have a1 := h.pl; have a2 := h.pX
  refine ⟨rd2, (K.block X (blk_lt h.box) (Ne.symm h.pX)).trans h.box, ownsRow_same h.own (fun b hbk => K.block _ (h.own.lt b hbk).2 (fun e => by have := h.fresh b hbk; omega)), h.fresh, h.keep.trans K (fun i hi => Or.inl (Or.inl hi)), h.pl, h.xl, h.gl, h.gX, h.pX⟩
theorem RowBox.grow (h : RowBox w0 w3 p g X T CS te sz v n xs st) (hown : w4.ownsRow 0 te sz v' n' xs') (hg : w3.grownBy w4 v.ownBlock) (hat : ∀ b, v'.ownBlock = some b → v.ownBlock = some b ∨ w3.heap.size ≤ b) (j : Nat) :
    RowBox w0 (w4.setCell ⟨X, j, none⟩ v') p g X T (CS.setIfInBounds j v') te sz v' n' xs' st := by
  have a1 := h.pl; have a2 := h.pX; have a3 := h.xl; have a4 := h.gl; have a5 := h.keep.size; have a6 := h.gX
  have hf' : ∀ b, v'.ownBlock = some b → w0.heap.size ≤ b := fun b hb => by
    rcases hat b hb with e | e
    · exact h.fresh b e
    · omega
  have k1 : Keeps (fun i => v.ownBlock = some i) w3 w4 := (Keeps.refl (fun i => v.ownBlock = some i) w3).grown hg (fun k hk => Or.inl hk)
  have k2 : Keeps (fun i => i = X) w4 (w4.setCell ⟨X, j, none⟩ v') := (Keeps.refl (fun i => i = X) w4).setCell (p := ⟨X, j, none⟩) (Or.inl rfl) v'
  have rd4 : InAt 99 w4 p g st := h.rd.keep k1 (fun e => by have := h.fresh p e; omega) (fun e => by have := h.fresh g e; omega)
  have bx4 : w4.heap[X]? = some (.cells CS T (0, 0)) := (k1.block X (blk_lt h.box) (fun e => by have := h.fresh X e; omega)).trans h.box
  refine ⟨rd4.keep k2 (fun e => a2 e) (fun e => a6 e), blk_set bx4 j v', ownsRow_same hown (fun b hb => Below.heap_setCell _ _ _ _ (by have := hf' b hb; show b ≠ X; omega)), hf', ?_, h.pl, h.xl, h.gl, h.gX, h.pX⟩
  exact (h.keep.trans k1 (fun i hi => Or.inr (h.fresh i hi))).trans k2 (fun i hi => Or.inl (Or.inr hi))
theorem RowBox.cells (h : RowBox w0 wr p g X T CS te sz v n xs st) (j : Nat) : wr.cell? ⟨X, j, none⟩ = CS[j]? ∧ wr.frozen? ⟨X, j, none⟩ = false := ⟨blk_cell h.box j, blk_frozen h.box j⟩
end

/-! Rows that are owned, read. -/
theorem own_cell {w : World} {e : TypeId} {sz n cap : Nat} {ao : Option Addr} {xs : List Value} (h : w.ownsRow 0 e sz (.slice ao n cap) n xs) (hn : 0 < n) : ∃ b, ao = some ⟨b, 0, none⟩ ∧ (∀ j u, xs[j]? = some u → w.cell? ⟨b, j, none⟩ = some u) := by
  rcases h.2 with ⟨hv, h0⟩ | ⟨b, cap', cur, hv, _, hh, hnc, hcm, hcs, ht⟩
  · omega
  · simp only [Value.slice.injEq] at hv
    obtain ⟨rfl, _, _⟩ := hv
    refine ⟨b, rfl, fun j u hj => ?_⟩
    rw [blk_cell hh]
    rw [← ht] at hj
    rw [List.getElem?_take] at hj
    split at hj
    · simpa using hj
    · cases hj
theorem flat_get {α : Type} (f : α → List Value) (sz : Nat) (hf : ∀ x, (f x).length = sz) : ∀ (l : List α) (i : Nat) (hi : i < l.length) (j : Nat) (hj : j < sz), (l.flatMap f)[i * sz + j]? = (f l[i])[j]?
  | [], i, hi, _, _ => by simp at hi
  | x :: l, 0, _, j, hj => by
    rw [List.flatMap_cons, Nat.zero_mul, Nat.zero_add, List.getElem?_append_left (by rw [hf]; exact hj)]
    rfl
  | x :: l, i + 1, hi, j, hj => by
    have ih := flat_get f sz hf l i (by simpa using hi) j hj
    rw [List.flatMap_cons, List.getElem?_append_right (by rw [hf, Nat.add_mul]; omega), hf]
    rw [show (i + 1) * sz + j - sz = i * sz + j by rw [Nat.add_mul]; omega, ih]
    rfl
theorem rqs_own {w : World} {e : TypeId} {ao : Option Addr} {n cap : Nat} {rs : List RQ} (h : w.ownsRow 0 e 8 (.slice ao n cap) n (rs.flatMap (fun r => r.cells.toList))) (hn : rs.length = n) : RqsAt w ao rs := by
  by_cases h0 : n = 0
  · exact Or.inl (List.eq_nil_of_length_eq_zero (by omega))
  · obtain ⟨b, rfl, hc⟩ := own_cell h (by omega)
    refine Or.inr ⟨b, 0, rfl, fun i hi j v hv => ?_⟩
    have hj : j < 8 := by have := (Array.getElem?_eq_some_iff.1 hv).1; exact this
    rw [Nat.zero_add]
    refine hc (i * 8 + j) v ?_
    rw [flat_get (fun r : RQ => r.cells.toList) 8 (fun r => rfl) rs i hi j hj, Array.getElem?_toList]
    exact hv
theorem evs_own {w : World} {e : TypeId} {ao : Option Addr} {n cap : Nat} {rs : List EV} (h : w.ownsRow 0 e 9 (.slice ao n cap) n (rs.flatMap (fun r => r.cells.toList))) (hn : rs.length = n) : EvsAt w ao rs := by
  by_cases h0 : n = 0
  · exact Or.inl (List.eq_nil_of_length_eq_zero (by omega))
  · obtain ⟨b, rfl, hc⟩ := own_cell h (by omega)
    refine Or.inr ⟨b, 0, rfl, fun i hi j v hv => ?_⟩
    have hj : j < 9 := by have := (Array.getElem?_eq_some_iff.1 hv).1; exact this
    rw [Nat.zero_add]
    refine hc (i * 9 + j) v ?_
    rw [flat_get (fun r : EV => r.cells.toList) 9 (fun r => rfl) rs i hi j hj, Array.getElem?_toList]
    exact hv
theorem reps_own {w : World} {e : TypeId} {ao : Option Addr} {n cap : Nat} {rs : List (Int × Int)} (h : w.ownsRow 0 e 2 (.slice ao n cap) n (rs.flatMap (fun r => (RP.cells r).toList))) (hn : rs.length = n) : RepsAt w ao rs := by
  by_cases h0 : n = 0
  · exact Or.inl (List.eq_nil_of_length_eq_zero (by omega))
  · obtain ⟨b, rfl, hc⟩ := own_cell h (by omega)
    refine Or.inr ⟨b, 0, rfl, fun i hi => ?_⟩
    have hg := fun j (hj : j < 2) => flat_get (fun r : Int × Int => (RP.cells r).toList) 2 (fun r => rfl) rs i hi j hj
    constructor
    · have := hc (i * 2 + 0) (.int .i64 rs[i].1) (by rw [hg 0 (by omega)]; rfl)
      simpa using this
    · have := hc (i * 2 + 1) (.int .i64 rs[i].2) (by rw [hg 1 (by omega)]; rfl)
      simpa using this

set_option maxHeartbeats 1000000 in
theorem bytes_equal (ao bo : Option Addr) (xs ys : List Int) (n m c d : Nat) (w : World) (hn : xs.length = n) (hm : ys.length = m) (hx : IntsAt .u8 w ao xs) (hy : IntsAt .u8 w bo ys) (rx : InB xs) (ry : InB ys) :
    Calls Try.prog 68 #[.slice ao n c, .slice bo m d] w fun e w' => e = .returned (.bool (eqB xs ys)) ∧ w = w' := by
  have h1 := conv_u8 (P := Try.prog) c 41 5 9 Try.underlying41 Try.underlying5 Try.underlying9 hx hn
  have h2 := conv_u8 (P := Try.prog) d 41 5 9 Try.underlying41 Try.underlying5 Try.underlying9 hy hm
  have HE := Lib.hid (strOf_inj rx ry)
  clear hn hm hx hy rx ry
  go_enter Try.func68, Try.ntmps68
  go_wp2
  go_ret
  exact ⟨ret_bool HE.out, rfl⟩

end Go.Proofs.Ytadejcpifabpoaa
