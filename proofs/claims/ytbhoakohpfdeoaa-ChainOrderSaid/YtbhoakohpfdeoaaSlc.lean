/- A slice of bytes sliced: what comes out, wherever its end lies. -/
import Derived.Test.YtbhoakohpfdeoaaHeap
import Derived.Test.YtbhoakohpfdeoaaByt
namespace Go.Proofs.Ytbhoakohpfdeoaa
open Go.RowKit
set_option linter.unusedVariables false
set_option linter.unusedSimpArgs false

/-- What a slicing makes of bytes: a slice whose bytes are these. -/
structure SlcOf (ro : Option Addr) (zs : List Int) (rc : Nat) (ao : Option Addr) (ys : List Int) (n c : Nat) : Prop where
  ints : ∀ w : World, IntsAt .u8 w ro zs → IntsAt .u8 w ao ys
  len : ys.length = n
  cap : n ≤ c
  cm : c ≤ rc
  blk : ∀ a, ao = some a → ∃ b, ro = some b ∧ b.block = a.block
/-- The address that a slicing leaves. -/
def slcA (ro : Option Addr) (lo rc : Nat) : Option Addr := if rc = lo then ro else ro.map (·.add lo)
theorem slc_of (ro : Option Addr) (zs : List Int) (q rc lo hi : Nat) (hq : zs.length = q) (h1 : lo ≤ hi) (h2 : hi ≤ q) (h3 : q ≤ rc) : SlcOf ro zs rc (slcA ro lo rc) ((zs.drop lo).take (hi - lo)) (hi - lo) (rc - lo) := by
  refine ⟨fun w h => ?_, by rw [List.length_take, List.length_drop, hq]; omega, by omega, by omega, fun a ha => ?_⟩
  · unfold slcA
    by_cases hc : rc = lo
    · rw [show hi - lo = 0 by omega, List.take_zero]; exact Or.inl rfl
    · rw [if_neg hc]
      rcases h with h0 | ⟨b, off, rfl, hcl⟩
      · rw [h0]; simp; exact Or.inl rfl
      · have h := (IntsAt.drop (Or.inr ⟨b, off, rfl, hcl⟩ : IntsAt .u8 w (some ⟨b, off, none⟩) zs) lo).take (hi - lo)
        rw [Option.map_some, addr_add]
        exact h
  · unfold slcA at ha
    by_cases hc : rc = lo
    · rw [if_pos hc] at ha; exact ⟨a, ha, rfl⟩
    · rw [if_neg hc] at ha
      cases ro with
      | none => cases ha
      | some b =>
        rw [Option.map_some] at ha
        cases ha
        exact ⟨b, rfl, by unfold Addr.add; split <;> rfl⟩
theorem slc_drop (ro : Option Addr) (zs : List Int) (q rc lo : Nat) (hq : zs.length = q) (h2 : lo ≤ q) (h3 : q ≤ rc) : SlcOf ro zs rc (slcA ro lo rc) (zs.drop lo) (q - lo) (rc - lo) := by
  have h := slc_of ro zs q rc lo q hq h2 (Nat.le_refl _) h3
  rwa [List.take_of_length_le (by rw [List.length_drop, hq]; exact Nat.le_refl _)] at h
theorem slice_lh (ro : Option Addr) (q rc lo hi : Nat) (h1 : lo ≤ hi) (h2 : hi ≤ rc) (w : World) :
    (Instr.slice 29 (.slice ro q rc) (some (.int .i64 (lo : Int))) (some (.int .i64 (hi : Int))) none).run Try.prog w = .ok (.slice (slcA ro lo rc) (hi - lo) (rc - lo)) w := by
  have hu := Try.underlying29
  unfold slcA
  simp [go_sem, hu, h1, h2]
theorem slice_l (ro : Option Addr) (q rc lo : Nat) (h1 : lo ≤ q) (w : World) :
    (Instr.slice 29 (.slice ro q rc) (some (.int .i64 (lo : Int))) none none).run Try.prog w = .ok (.slice (slcA ro lo rc) (q - lo) (rc - lo)) w := by
  have hu := Try.underlying29
  unfold slcA
  simp [go_sem, hu, h1]
theorem slice_h (ro : Option Addr) (q rc hi : Nat) (h2 : hi ≤ rc) (w : World) :
    (Instr.slice 29 (.slice ro q rc) none (some (.int .i64 (hi : Int))) none).run Try.prog w = .ok (.slice ro hi rc) w := by
  have hu := Try.underlying29
  cases ro with
  | none => simp [go_sem, hu, h2]
  | some a => simp [go_sem, hu, h2, Addr.add]

end Go.Proofs.Ytbhoakohpfdeoaa
