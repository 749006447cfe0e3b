/- EscrowTotals: plain facts. -/
import Derived.Test.YtbhoakohpfdeoaaGreatEs9
import Derived.Test.YtbhoakohpfdeoaaGreatEops
import Derived.Test.YtbhoakohpfdeoaaGreatPur7a
namespace Go.Proofs.YtbhoakohpfdeoaaGreat
open Go.RowKit
set_option linter.unusedVariables false
set_option linter.unusedSimpArgs false

section
variable {n m : Nat} {b : Nat → Nat → Int} {l : List XR}
theorem idB_app {id : Int} (l' : List XR) (h : idB l id = true) : idB (l ++ l') id = true ∧ atX (l ++ l') id = atX l id := by
  obtain ⟨k, rfl, hk⟩ := idB_at h
  refine ⟨?_, ?_⟩
  · unfold idB; rw [List.length_append]; exact decide_eq_true ⟨by omega, by omega⟩
  · rw [atX_at hk, atX_at (by rw [List.length_append]; omega), List.getElem_append_left hk]
theorem lock_same {id : Int} (h : idB l id = true) (fr tt a amt d ck : Int) (s : ByteArray) : idB (lockL n m b l fr tt a amt s d ck) id = true ∧ atX (lockL n m b l fr tt a amt s d ck) id = atX l id := by
  unfold lockL
  split
  · exact idB_app _ h
  · exact ⟨h, rfl⟩
theorem idB_set {id : Int} (h : idB l id = true) (k : Nat) (x : XR) : idB (l.set k x) id = true := by
  unfold idB at h ⊢; rw [List.length_set]; exact h
theorem claim_same {id : Int} (h : idB l id = true) (who ck : Int) (sec : ByteArray) : idB (claimL n m b l who id sec ck) id = true ∧ (claimE n m b l who id sec ck ≠ 0 ∨ (atX l id).s ≠ 0 → atX (claimL n m b l who id sec ck) id = atX l id) := by
  unfold claimL
  by_cases e : claimE n m b l who id sec ck = 0
  · rw [if_pos e]
    exact ⟨idB_set h _ _, fun hh => by rcases hh with hh | hh; · exact absurd e hh
                                       · exact absurd (claimE_zero e).2.2.1 hh⟩
  · rw [if_neg e]; exact ⟨h, fun _ => rfl⟩
theorem refund_same {id : Int} (h : idB l id = true) (who ck : Int) : idB (refundL n m b l who id ck) id = true ∧ (refundE n m b l who id ck ≠ 0 ∨ (atX l id).s ≠ 0 → atX (refundL n m b l who id ck) id = atX l id) := by
  unfold refundL
  by_cases e : refundE n m b l who id ck = 0
  · rw [if_pos e]
    exact ⟨idB_set h _ _, fun hh => by rcases hh with hh | hh; · exact absurd e hh
                                       · exact absurd (refundE_zero e).2.2.1 hh⟩
  · rw [if_neg e]; exact ⟨h, fun _ => rfl⟩
theorem lock_len (fr tt a amt d ck : Int) (s : ByteArray) : (lockL n m b l fr tt a amt s d ck).length ≤ l.length + 1 := by
  unfold lockL; split
  · rw [List.length_append]; simp
  · omega
theorem claim_len (who id ck : Int) (sec : ByteArray) : (claimL n m b l who id sec ck).length = l.length := by
  unfold claimL; split
  · rw [List.length_set]
  · rfl
theorem refund_len (who id ck : Int) : (refundL n m b l who id ck).length = l.length := by
  unfold refundL; split
  · rw [List.length_set]
  · rfl
end
/-- A box with an operation; one with an escrow. -/
def OBox (w : World) (O : Nat) (o : OX) : Prop := w.heap[O]? = some (.cells o.cells 40 (0, 0))
def VBox (w : World) (V : Nat) (x : XR) : Prop := w.heap[V]? = some (.cells x.cells 47 (0, 0))
theorem OBox.cells {w : World} {O : Nat} {o : OX} (h : OBox w O o) : w.cell? ⟨O, 0, none⟩ = some (.int .i64 o.k) ∧ w.cell? ⟨O, 1, none⟩ = some (.int .i64 o.who) ∧ w.cell? ⟨O, 2, none⟩ = some (.int .i64 o.t) ∧ w.cell? ⟨O, 3, none⟩ = some (.int .i64 o.a) ∧ w.cell? ⟨O, 4, none⟩ = some (.int .i64 o.n) ∧ w.cell? ⟨O, 5, none⟩ = some (.int .i64 o.id) ∧ w.cell? ⟨O, 6, none⟩ = some (.int .i64 o.d) ∧ w.cell? ⟨O, 7, none⟩ = some (.int .i64 o.ck) ∧ w.cell? ⟨O, 8, none⟩ = some (.string o.h) ∧ w.cell? ⟨O, 9, none⟩ = some (.bool o.kn) ∧ w.cell? ⟨O, 10, none⟩ = some (.int .u8 o.s) :=
  ⟨blk_cell h 0, blk_cell h 1, blk_cell h 2, blk_cell h 3, blk_cell h 4, blk_cell h 5, blk_cell h 6, blk_cell h 7, blk_cell h 8, blk_cell h 9, blk_cell h 10⟩
theorem VBox.cells {w : World} {V : Nat} {x : XR} (h : VBox w V x) : w.cell? ⟨V, 0, none⟩ = some (.int .i64 x.f) ∧ w.cell? ⟨V, 1, none⟩ = some (.int .i64 x.t) ∧ w.cell? ⟨V, 2, none⟩ = some (.int .i64 x.a) ∧ w.cell? ⟨V, 3, none⟩ = some (.int .i64 x.n) ∧ w.cell? ⟨V, 4, none⟩ = some (.int .i64 x.d) ∧ w.cell? ⟨V, 5, none⟩ = some (.int .i64 x.s) ∧ w.cell? ⟨V, 6, none⟩ = some (.string x.h) ∧ w.cell? ⟨V, 7, none⟩ = some (.string x.x) :=
  ⟨blk_cell h 0, blk_cell h 1, blk_cell h 2, blk_cell h 3, blk_cell h 4, blk_cell h 5, blk_cell h 6, blk_cell h 7⟩
/-- Two boxes, O and V, and the book's blocks apart from them. -/
def Boxes (S : Nat → Prop) (w : World) (O V : Nat) (o : OX) (x : XR) : Prop := OBox w O o ∧ VBox w V x ∧ ¬ S O ∧ ¬ S V
theorem Boxes.keep {S S2 : Nat → Prop} {w w' : World} {O V : Nat} {o : OX} {x : XR} (h : Boxes S w O V o x) (hk : Keeps S2 w w') (h2 : ∀ i, S2 i → S i) : Boxes S w' O V o x :=
  ⟨(hk.block O (blk_lt h.1) (fun hh => h.2.2.1 (h2 O hh))).trans h.1, (hk.block V (blk_lt h.2.1) (fun hh => h.2.2.2 (h2 V hh))).trans h.2.1, h.2.2.1, h.2.2.2⟩
theorem Boxes.below {S : Nat → Prop} {w w' : World} {O V : Nat} {o : OX} {x : XR} (h : Boxes S w O V o x) (hb : Below w.heap.size w w') : Boxes S w' O V o x := h.keep (Keeps.of_below (S := fun _ => False) hb) (fun _ h => h.elim)
theorem below_drew (w : World) : Below w.heap.size w w.drew := (Keeps.refl (fun _ => False) w).drew.below (Nat.le_refl _) (fun _ f => f.elim)
/-- Behind an operation. -/
theorem Boxes.post {S : Nat → Prop} {W w w' : World} {n m : Nat} {b : Nat → Nat → Int} {l : List XR} {T : Nat → Int} {B tb q O V : Nat} {o : OX} {x : XR} (h : Boxes S w O V o x) (hp : EPost S W w n m b l T B tb q w') : ∃ S', EB S' W w' n m b l T B tb q ∧ Boxes S' w' O V o x := by
  obtain ⟨S', h1, h2, h3⟩ := hp
  have h4 := h.keep h2 (fun _ h => h)
  refine ⟨S', h1, h4.1, h4.2.1, fun hh => ?_, fun hh => ?_⟩
  · rcases h3 O hh with e | e
    · exact h.2.2.1 e
    · have := blk_lt h.1; omega
  · rcases h3 V hh with e | e
    · exact h.2.2.2 e
    · have := blk_lt h.2.1; omega

end Go.Proofs.YtbhoakohpfdeoaaGreat
