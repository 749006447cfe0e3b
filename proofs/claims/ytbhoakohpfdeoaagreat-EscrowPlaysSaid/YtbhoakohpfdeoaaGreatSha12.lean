/- cfllaw2.first is true. -/
import Derived.Test.YtbhoakohpfdeoaaGreatSha11
import Derived.Lib.SlBytesConst
namespace Go.Proofs.YtbhoakohpfdeoaaGreat
open Go.RowKit
set_option linter.unusedVariables false
set_option linter.unusedSimpArgs false

theorem sha_nil : (shaF []).take 4 = [227, 176, 196, 66] := by decide +kernel
theorem sha_abc : (shaF [97, 98, 99]).take 4 = [186, 120, 22, 191] := by decide +kernel

theorem SumPost.row {w w' : World} {tb g cap : Nat} {zs : List Int} (ho : w'.ownsRow 0 5 1 (.slice (some ⟨g, 0, none⟩) 32 cap) 32 (zs.map (Value.int .u8))) : IntsAt .u8 w' (some ⟨g, 0, none⟩) zs := (owns_at ho).2.1
theorem cell_take {w : World} {g : Nat} {zs ys : List Int} (h : IntsAt .u8 w (some ⟨g, 0, none⟩) zs) (n : Nat) (ht : zs.take n = ys) (j : Nat) (hj : j < n) (hl : n ≤ zs.length) : w.cell? ⟨g, j, none⟩ = some (.int .u8 (ys.getD j 0)) := by
  rcases h with h | ⟨b, off, he, hc⟩
  · rw [h] at hl; simp at hl; omega
  · cases he
    have := hc j (by omega)
    rw [Nat.zero_add] at this
    rw [this, ← ht]
    simp [List.getD, List.getElem?_take, hj]


end Go.Proofs.YtbhoakohpfdeoaaGreat
