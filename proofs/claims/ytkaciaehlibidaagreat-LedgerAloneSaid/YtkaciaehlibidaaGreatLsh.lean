/- Law 12: ledgers that share a table. -/
import Derived.Test.YtkaciaehlibidaaGreatLl2
namespace Go.Proofs.YtkaciaehlibidaaGreat
open Go.RowKit
set_option linter.unusedVariables false
set_option linter.unusedSimpArgs false

section
variable {S S' S2 Sb : Nat → Prop} {W w w' : World} {n m n2 m2 : Nat} {E E2 : Int} {s s2 : LS} {T T2 : Nat → Int} {A B tb q A2 B2 q2 : Nat} {v : Value} {b : Nat → Nat → Int} {l : List XR}
theorem EB.tab (h : EB S W w n m b l T B tb q) : TabOk w tb := by obtain ⟨_, _, _, _, h, _⟩ := h; exact h
theorem EB.tbS (h : EB S W w n m b l T B tb q) : S tb := by obtain ⟨_, _, _, _, _, _, _, h, _⟩ := h; exact (h tb).2 (Or.inr rfl)
/-- Only the table is shared. -/
theorem EB.share (h : EB S W w n m b l T B tb q) (hk : Keeps S2 w w') (ht : TabOk w' tb) (hs : ∀ i, S2 i → S i → i = tb) (hn : ∀ i, S2 i → W.heap.size ≤ i) : EB S W w' n m b l T B tb q := by
  obtain ⟨Sp, v, h1, h2, h3, h4, h5, h6, h7⟩ := h
  exact ⟨Sp, v, h1.keep hk (fun i hi h => by
    have e := hs i h ((h6 i).2 (Or.inl hi))
    subst e
    exact h1.tabN h3 h2 hi), h2, ht, h4, below_fp h5 hk hn, h6, h7⟩
theorem LDat.share (h : LDat Sb W w n m E s T A B tb q v) (hk : Keeps S2 w w') (ht : TabOk w' tb) (hs : ∀ i, S2 i → (Sb i ∨ i = A ∨ v.ownBlock = some i) → i = tb) (hn : ∀ i, S2 i → W.heap.size ≤ i) : LDat Sb W w' n m E s T A B tb q v := by
  have hA : ¬ S2 A := fun h2 => by
    have e := hs A h2 (Or.inr (Or.inl rfl))
    exact h.nA (e ▸ h.eb.tbS)
  have hV : ∀ g, v.ownBlock = some g → ¬ S2 g := fun g hg h2 => by
    have e := hs g h2 (Or.inr (Or.inr hg))
    exact h.nv g hg (e ▸ h.eb.tbS)
  exact ⟨h.eb.share hk ht (fun i h1 h2 => hs i h1 (Or.inl h2)) hn, (hk.block A (blk_lt h.box) hA).trans h.box, ownsRow_same h.row (fun g hg => hk.block g (h.row.lt g hg).2 (hV g hg)), h.nA, h.nv, h.oA, h.ov⟩
theorem LD.tab (h : LD S W w n m E s T A B tb q) : TabOk w tb := by obtain ⟨_, _, h, _⟩ := h; exact h.eb.tab
theorem LD.tbS (h : LD S W w n m E s T A B tb q) : S tb := by obtain ⟨_, _, h1, _, h3⟩ := h; exact (h3 tb).2 (Or.inl h1.eb.tbS)
/-- What one ledger does leaves the other. -/
theorem LD.share (h : LD S W w n m E s T A B tb q) (hk : Keeps S2 w w') (ht : TabOk w' tb) (hs : ∀ i, S2 i → S i → i = tb) (hn : ∀ i, S2 i → W.heap.size ≤ i) : LD S W w' n m E s T A B tb q := by
  obtain ⟨Sb, v, h1, h2, h3⟩ := h
  exact ⟨Sb, v, h1.share hk ht (fun i a b => hs i a ((h3 i).2 b)) hn, h2, h3⟩
theorem LD.apart (h : LD S W w n m E s T A B tb q) (hs : ∀ i, S2 i → S i → i = tb) (hn : ∀ i, S' i → S2 i ∨ w.heap.size ≤ i) : ∀ i, S' i → S i → i = tb := fun i a b => by
  rcases hn i a with e | e
  · exact hs i e b
  · have := h.lt i b; omega
end

/-- Three ledgers of one table. -/
structure Tri (Sx Sy Sz : Nat → Prop) (W w : World) (n m : Nat) (E : Int) (sx sy sz : LS) (T : Nat → Int) (tb Ax Bx qx Ay By qy Az Bz qz : Nat) : Prop where
  x : LD Sx W w n m E sx T Ax Bx tb qx
  y : LD Sy W w n m E sy T Ay By tb qy
  z : LD Sz W w n m E sz T Az Bz tb qz
  xy : ∀ i, Sx i → Sy i → i = tb
  xz : ∀ i, Sx i → Sz i → i = tb
  yz : ∀ i, Sy i → Sz i → i = tb
section
variable {Sx Sy Sz S' : Nat → Prop} {W w w' : World} {n m : Nat} {E : Int} {sx sy sz s' : LS} {T : Nat → Int} {tb Ax Bx qx Ay By qy Az Bz qz : Nat}
theorem Tri.below (h : Tri Sx Sy Sz W w n m E sx sy sz T tb Ax Bx qx Ay By qy Az Bz qz) (hb : Below w.heap.size w w') : Tri Sx Sy Sz W w' n m E sx sy sz T tb Ax Bx qx Ay By qy Az Bz qz :=
  ⟨h.x.below hb, h.y.below hb, h.z.below hb, h.xy, h.xz, h.yz⟩
theorem Tri.turnx (h : Tri Sx Sy Sz W w n m E sx sy sz T tb Ax Bx qx Ay By qy Az Bz qz) (hd : LD S' W w' n m E s' T Ax Bx tb qx) (hk : Keeps Sx w w') (hn : ∀ i, S' i → Sx i ∨ w.heap.size ≤ i) : Tri S' Sy Sz W w' n m E s' sy sz T tb Ax Bx qx Ay By qy Az Bz qz :=
  ⟨hd, h.y.share hk hd.tab h.xy h.x.new, h.z.share hk hd.tab h.xz h.x.new, h.y.apart h.xy hn, h.z.apart h.xz hn, h.yz⟩
theorem Tri.turny (h : Tri Sx Sy Sz W w n m E sx sy sz T tb Ax Bx qx Ay By qy Az Bz qz) (hd : LD S' W w' n m E s' T Ay By tb qy) (hk : Keeps Sy w w') (hn : ∀ i, S' i → Sy i ∨ w.heap.size ≤ i) : Tri Sx S' Sz W w' n m E sx s' sz T tb Ax Bx qx Ay By qy Az Bz qz :=
  ⟨h.x.share hk hd.tab (fun i a b => h.xy i b a) h.y.new, hd, h.z.share hk hd.tab h.yz h.y.new, fun i a b => h.x.apart (fun i a b => h.xy i b a) hn i b a, h.xz, h.z.apart h.yz hn⟩
end

end Go.Proofs.YtkaciaehlibidaaGreat
