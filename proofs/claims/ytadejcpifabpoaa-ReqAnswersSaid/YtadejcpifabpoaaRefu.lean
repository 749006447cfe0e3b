/- A reference's reader and a row that grows in a box. -/
import Derived.Test.YtadejcpifabpoaaRefl
import Derived.Test.YtadejcpifabpoaaIn6
namespace Go.Proofs.Ytadejcpifabpoaa
open Go.RowKit
set_option linter.unusedVariables false

structure RBox (w0 wr : World) (p g X : Nat) (T : TypeId) (CS : Array Value) (te : TypeId) (sz : Nat) (v : Value) (n : Nat) (xs : List Value) (d : DS) : Prop where
  rd : DecAt 108 wr p g d.1 d.2
  box : wr.heap[X]? = some (.cells CS T (0, 0))
  own : wr.ownsRow 0 te sz v n xs
  fresh : ∀ b, v.ownBlock = some b → w0.heap.size ≤ b
  keep : Keeps (fun i => i = p ∨ i = X) w0 wr
  pl : p < w0.heap.size
  xl : X < w0.heap.size
  gl : g < w0.heap.size
  gX : g ≠ X
  pX : p ≠ X
theorem RBox.start {w0 : World} {p g X : Nat} {T : TypeId} {CS : Array Value} (te : TypeId) (sz : Nat) {d : DS} (rd : DecAt 108 w0 p g d.1 d.2) (box : w0.heap[X]? = some (.cells CS T (0, 0))) (gl : g < w0.heap.size) (gX : g ≠ X) (pX : p ≠ X) :
    RBox w0 w0 p g X T CS te sz (.slice none 0 0) 0 [] d :=
  ⟨rd, box, World.ownsRow_nil _ _ _ _, (fun b h => nomatch h), Keeps.refl _ _, rd.lt, blk_lt box, gl, gX, pX⟩
section
variable {w0 wr w2 w3 w4 w' : World} {p g X : Nat} {T : TypeId} {CS : Array Value} {te : TypeId} {sz : Nat} {v v' : Value} {n n' : Nat} {xs xs' : List Value} {d d2 : DS}
theorem RBox.below (h : RBox w0 wr p g X T CS te sz v n xs d) (hb : Below wr.heap.size wr w') : RBox w0 w' p g X T CS te sz v n xs d :=
  ⟨h.rd.keep (Keeps.of_below (S := fun _ => False) hb) (fun f => f) (Or.inr (fun f => f)), (hb.block _ (blk_lt h.box)).trans h.box, ownsRow_same h.own (fun b hbk => hb.block _ (h.own.lt b hbk).2), h.fresh, h.keep.trans (Keeps.of_below (S := fun _ => False) hb) (fun _ f => f.elim), h.pl, h.xl, h.gl, h.gX, h.pX⟩
theorem RBox.drew (h : RBox w0 wr p g X T CS te sz v n xs d) : RBox w0 wr.drew p g X T CS te sz v n xs d := h.below ((Keeps.refl (fun _ => False) wr).drew.below (Nat.le_refl _) (fun _ f => f.elim))
theorem RBox.read (h : RBox w0 wr p g X T CS te sz v n xs d) (K : Keeps (fun i => i = p) wr w2) (rd2 : DecAt 108 w2 p g d2.1 d2.2) : RBox w0 w2 p g X T CS te sz v n xs d2 := by
  have a1 := h.pl; have a2 := h.pX
  refine ⟨rd2, (K.block X (blk_lt h.box) (Ne.symm h.pX)).trans h.box, ownsRow_same h.own (fun b hbk => K.block _ (h.own.lt b hbk).2 (fun e => by have := h.fresh b hbk; omega)), h.fresh, h.keep.trans K (fun i hi => Or.inl (Or.inl hi)), h.pl, h.xl, h.gl, h.gX, h.pX⟩
theorem RBox.num (h : RBox w0 wr p g X T CS te sz v n xs d) (z : Nat) : Calls Try.prog 73 #[.pointer (some ⟨p, 0, none⟩), .int .i64 z] wr fun e w' => e = .returned (.int .i64 (dN z d).1) ∧ RBox w0 w' p g X T CS te sz v n xs (dN z d).2 := by
  refine (refdec_num p g d.1 d.2 z wr h.rd).mono ?_
  rintro e w' ⟨rfl, hp⟩
  exact ⟨rfl, h.read hp.2 hp.1⟩
theorem RBox.grow (h : RBox w0 w3 p g X T CS te sz v n xs d) (hown : w4.ownsRow 0 te sz v' n' xs') (hg : w3.grownBy w4 v.ownBlock) (hat : ∀ b, v'.ownBlock = some b → v.ownBlock = some b ∨ w3.heap.size ≤ b) (j : Nat) :
    RBox w0 (w4.setCell ⟨X, j, none⟩ v') p g X T (CS.setIfInBounds j v') te sz v' n' xs' d := by
  have a1 := h.pl; have a2 := h.pX; have a3 := h.xl; have a4 := h.gl; have a5 := h.keep.size; have a6 := h.gX
  have hf' : ∀ b, v'.ownBlock = some b → w0.heap.size ≤ b := fun b hb => by
    rcases hat b hb with e | e
    · exact h.fresh b e
    · omega
  have k1 : Keeps (fun i => v.ownBlock = some i) w3 w4 := (Keeps.refl (fun i => v.ownBlock = some i) w3).grown hg (fun k hk => Or.inl hk)
  have k2 : Keeps (fun i => i = X) w4 (w4.setCell ⟨X, j, none⟩ v') := (Keeps.refl (fun i => i = X) w4).setCell (p := ⟨X, j, none⟩) (Or.inl rfl) v'
  have rd4 : DecAt 108 w4 p g d.1 d.2 := h.rd.keep k1 (fun e => by have := h.fresh p e; omega) (Or.inr (fun e => by have := h.fresh g e; omega))
  have bx4 : w4.heap[X]? = some (.cells CS T (0, 0)) := (k1.block X (blk_lt h.box) (fun e => by have := h.fresh X e; omega)).trans h.box
  refine ⟨rd4.keep k2 (fun e => a2 e) (Or.inr (fun e => a6 e)), blk_set bx4 j v', ownsRow_same hown (fun b hb => Below.heap_setCell _ _ _ _ (by have := hf' b hb; show b ≠ X; omega)), hf', ?_, h.pl, h.xl, h.gl, h.gX, h.pX⟩
  exact (h.keep.trans k1 (fun i hi => Or.inr (h.fresh i hi))).trans k2 (fun i hi => Or.inl (Or.inr hi))
theorem RBox.cells (h : RBox w0 wr p g X T CS te sz v n xs d) (j : Nat) : wr.cell? ⟨X, j, none⟩ = CS[j]? ∧ wr.frozen? ⟨X, j, none⟩ = false := ⟨blk_cell h.box j, blk_frozen h.box j⟩
theorem RBox.err (h : RBox w0 wr p g X T CS te sz v n xs d) : wr.cell? ⟨p, 1, none⟩ = some (.int .i64 d.2) ∧ wr.frozen? ⟨p, 1, none⟩ = false := by
  obtain ⟨ao, cap, h1, _⟩ := h.rd
  exact ⟨blk_cell h1 1, blk_frozen h1 1⟩
end
/-- A reference's reader begun. -/
theorem rdec_start {w : World} {ao : Option Addr} {zs : List Int} {n cap : Nat} {o : Obj} (hn : zs.length = n) (h : IntsAt .u8 w ao zs) (hB : InB zs) (hc : n ≤ cap) (hm : cap ≤ maxLen) (hl : n ≤ 140737488355328) :
    ∃ g, DecAt 108 ((w.alloc o).alloc (.cells #[.slice ao n cap, .int .i64 0] 108)) (w.heap.size + 1) g zs 0 ∧ g ≤ w.heap.size := by
  subst hn
  have e1 : (w.alloc o).heap.size = w.heap.size + 1 := by simp
  have hb : Below w.heap.size w ((w.alloc o).alloc (.cells #[.slice ao zs.length cap, .int .i64 0] 108)) := ((Below.refl _ _).alloc (Nat.le_refl _) _).alloc (by simp) _
  have hx : ((w.alloc o).alloc (.cells #[.slice ao zs.length cap, .int .i64 0] 108)).heap[w.heap.size + 1]? = some (.cells #[.slice ao zs.length cap, .int .i64 0] 108 (0, 0)) := by rw [← e1]; exact heap_alloc_new _ _
  by_cases h0 : zs = []
  · exact ⟨w.heap.size, ⟨ao, cap, hx, ints_below h hb, hc, hm, hB, hl, Or.inl h0, by omega⟩, Nat.le_refl _⟩
  · rcases h with h | ⟨b, off, rfl, hcl⟩
    · exact absurd h h0
    · have hbl := World.block_lt_of_cell? w _ (hcl 0 (List.length_pos_iff.2 h0))
      have hbl : b < w.heap.size := hbl
      exact ⟨b, ⟨_, cap, hx, ints_below (Or.inr ⟨b, off, rfl, hcl⟩) hb, hc, hm, hB, hl, Or.inr (fun a ha => by cases ha; rfl), by omega⟩, by omega⟩
theorem dN_lt (z : Nat) (d : DS) (hz : 1 ≤ z ∧ z ≤ 2) (h : InB d.1) : 0 ≤ (dN z d).1 ∧ (dN z d).1 < 256 ^ z := by
  have hp : (0 : Int) < 256 ^ z := Int.pow_pos (by decide)
  unfold dN decNum
  split
  · split
    · rename_i he hn
      unfold numF at hn ⊢
      split at hn
      · split at hn
        · simp at hn
        · split at hn
          · simp at hn
          · rename_i a b c
            rw [if_pos a, if_neg b, if_neg c]
            have := valB_in (d.1.take (z : Int).toNat) (fun y hy => h y (List.mem_of_mem_take hy))
            have hl : (d.1.take (z : Int).toNat).length = z := by simp; omega
            rw [hl] at this
            exact this
      · simp at hn
    · exact ⟨Int.le_refl _, hp⟩
  · exact ⟨Int.le_refl _, hp⟩

end Go.Proofs.Ytadejcpifabpoaa
