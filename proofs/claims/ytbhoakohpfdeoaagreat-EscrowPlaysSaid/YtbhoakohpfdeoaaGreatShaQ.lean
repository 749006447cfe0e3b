/- Facts that all statements over sha use. -/
import Derived.Test.YtbhoakohpfdeoaaGreatSha12
import Derived.Test.YtbhoakohpfdeoaaGreatArgs
namespace Go.Proofs.YtbhoakohpfdeoaaGreat
open Go.RowKit
set_option linter.unusedVariables false
set_option linter.unusedSimpArgs false

theorem kB_in (i : Int) : InU (kB i) := by
  unfold kB
  split
  · unfold kAt kWord; exact ⟨by omega, by omega⟩
  · exact ⟨by decide, by decide⟩
theorem hB_in (i : Int) : InU (hB i) := by
  unfold hB
  split
  · exact hAt_in _
  · exact ⟨by decide, by decide⟩

theorem outF_inB (hs : List Int) : InB (outF hs) := fun z hz => by
  unfold outF at hz
  obtain ⟨h, _, hz⟩ := List.mem_flatMap.1 hz
  exact bytesBE_inB h 4 z hz
theorem shaF_inB (zs : List Int) : InB (shaF zs) := outF_inB _
theorem below_keeps {a b c : World} {tb : Nat} (h : Below a.heap.size a b) (hk : Keeps (fun k => k = tb) b c) (hl : a.heap.size ≤ tb) : Below a.heap.size a c :=
  ((Keeps.of_below (S := fun _ => False) h).trans hk (fun k e => Or.inr (by omega))).below (Nat.le_refl _) (fun _ h => h.elim)
theorem below_step {a b c : World} (h : Below a.heap.size a b) (hk : Below b.heap.size b c) : Below a.heap.size a c := h.trans (hk.mono h.size)
theorem Keeps.step {a b c : World} {S : Nat → Prop} (h : Keeps S a b) (hk : Below b.heap.size b c) : Keeps S a c := h.trans (Keeps.of_below (S := fun _ => False) hk) (fun _ h => h.elim)

end Go.Proofs.YtbhoakohpfdeoaaGreat
