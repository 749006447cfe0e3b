/- What a law keeps: a table of its own, bytes that lie elsewhere; one step over a call. -/
import Derived.Test.YteabnagdfecleaaFr3
namespace Go.Proofs.Yteabnagdfecleaa
open Go.RowKit
set_option linter.unusedVariables false

/-- A law under way: the table in block tb. -/
structure St (W : World) (tb : Nat) (w : World) : Prop where
  tab : TabOk w tb
  bel : Below W.heap.size W w
  own : W.heap.size ≤ tb
/-- Bytes that lie somewhere, not in the table. -/
structure Lie (tb : Nat) (w : World) (ao : Option Addr) (zs : List Int) (n c : Nat) : Prop where
  len : zs.length = n
  ints : IntsAt .u8 w ao zs
  inb : InB zs
  cap : n ≤ c
  cm : c ≤ maxLen
  off : zs = [] ∨ ∀ a, ao = some a → a.block ≠ tb
/-- A row of one's own, not in the table. -/
structure Own (tb : Nat) (w : World) (ao : Option Addr) (zs : List Int) (n c : Nat) : Prop where
  row : w.ownsRow 0 5 1 (.slice ao n c) n (zs.map (Value.int .u8))
  len : zs.length = n
  inb : InB zs
  off : ∀ a, ao = some a → a.block ≠ tb
section
variable {W w w' : World} {tb : Nat} {ao : Option Addr} {zs : List Int} {n c : Nat}
theorem St.step (h : St W tb w) (hk : Keeps (fun i => i = tb) w w') (ht : TabOk w' tb) : St W tb w' := ⟨ht, below_keeps h.bel hk h.own, h.own⟩
theorem St.below (h : St W tb w) (hb : Below w.heap.size w w') : St W tb w' := ⟨h.tab.below hb, below_step h.bel hb, h.own⟩
theorem St.lt (h : St W tb w) : tb < w.heap.size := h.tab.lt
theorem Lie.step (h : Lie tb w ao zs n c) (hk : Keeps (fun i => i = tb) w w') : Lie tb w' ao zs n c := by
  refine ⟨h.len, ?_, h.inb, h.cap, h.cm, h.off⟩
  rcases h.off with e | e
  · exact Or.inl e
  · exact h.ints.same (fun a ha hl => hk.block a.block hl (e a ha))
theorem Lie.below (h : Lie tb w ao zs n c) (hb : Below w.heap.size w w') : Lie tb w' ao zs n c := ⟨h.len, ints_below h.ints hb, h.inb, h.cap, h.cm, h.off⟩
theorem Lie.take (h : Lie tb w ao zs n c) (k : Nat) (hk : k ≤ n) : Lie tb w ao (zs.take k) k c :=
  ⟨by rw [List.length_take, h.len]; omega, h.ints.take k, inB_take h.inb k, Nat.le_trans hk h.cap, h.cm, h.off.imp (fun e => by rw [e]; simp) id⟩
theorem Lie.drop {b off : Nat} (h : Lie tb w (some ⟨b, off, none⟩) zs n c) (k : Nat) (hk : k ≤ n) : Lie tb w (some ⟨b, off + k, none⟩) (zs.drop k) (n - k) (c - k) :=
  ⟨by rw [List.length_drop, h.len], h.ints.drop k, inB_drop h.inb k, by have := h.cap; omega, by have := h.cm; omega, h.off.imp (fun e => by rw [e]; simp) (fun f a ha => by cases ha; exact f ⟨b, off, none⟩ rfl)⟩
theorem Lie.empty (c : Nat) (hc : c ≤ maxLen) (ao : Option Addr) : Lie tb w ao [] 0 c := ⟨rfl, Or.inl rfl, (fun z hz => by cases hz), Nat.zero_le _, hc, Or.inl rfl⟩
/-- An argument's bytes, seen from the law. -/
theorem Lie.arg (hn : zs.length = n) (hz : IntsAt .u8 W ao zs) (hB : InB zs) (hc : n ≤ c) (hm : c ≤ maxLen) (hs : St W tb w) : Lie tb w ao zs n c :=
  ⟨hn, ints_below hz hs.bel, hB, hc, hm, hz.far hs.own⟩
theorem Own.lie (h : Own tb w ao zs n c) : Lie tb w ao zs n c := ⟨h.len, (owns_at h.row).2.1, h.inb, (owns_at h.row).2.2.1, (owns_at h.row).2.2.2, Or.inr h.off⟩
theorem Own.step (h : Own tb w ao zs n c) (hk : Keeps (fun i => i = tb) w w') : Own tb w' ao zs n c :=
  ⟨ownsRow_same h.row (fun g hg => hk.block g (h.row.lt g hg).2 (fun e => by
    cases ao with
    | none => cases hg
    | some a => cases hg; exact h.off a rfl e)), h.len, h.inb, h.off⟩
theorem Own.below (h : Own tb w ao zs n c) (hb : Below w.heap.size w w') : Own tb w' ao zs n c := ⟨ownsRow_same h.row (fun g hg => hb.block g (h.row.lt g hg).2), h.len, h.inb, h.off⟩
theorem Own.none {tb : Nat} : Own tb w none [] 0 0 := ⟨World.ownsRow_nil _ _ _ _, rfl, (fun z hz => by cases hz), (fun a ha => by cases ha)⟩
/-- What a call with the table hands back. -/
theorem RowT.own {zs : List Int} (h : RowT w tb zs (.slice ao n c) w') (ht : tb < w.heap.size) (hn : zs.length = n) (hB : InB zs) : Own tb w' ao zs n c :=
  ⟨by have := h.2.1; rw [hn] at this; exact this, hn, hB, fun a ha e => by have := h.2.2.2 a.block (by rw [ha]; rfl); omega⟩
/-- What a call without the table hands back. -/
theorem RowAt.own {zs : List Int} (h : RowAt w (.slice ao n c) zs w') (ht : tb < w.heap.size) (hn : zs.length = n) (hB : InB zs) : Own tb w' ao zs n c :=
  ⟨by have := h.1; rw [hn] at this; exact this, hn, hB, fun a ha e => by have := h.2.2 a.block (by rw [ha]; rfl); omega⟩
theorem BoxF.step {b : Nat} {F : FR} {m cc : Nat} (h : BoxF w b F ao m cc) (hk : Keeps (fun i => i = tb) w w') (hb : b ≠ tb) : BoxF w' b F ao m cc := h.keep hk hb
end

end Go.Proofs.Yteabnagdfecleaa
