/- Strings as bytes. -/
import Derived.Test.YtbhoakohpfdeoaaGreatBuf
import Derived.Lib.ConvBytes
namespace Go.Proofs.YtbhoakohpfdeoaaGreat
open Go.RowKit
set_option linter.unusedVariables false
set_option linter.unusedSimpArgs false

theorem bytes_below (w : World) (e : TypeId) (s : ByteArray) : Below w.heap.size w (Lib.bytesWorld w e s) :=
  ⟨rfl, rfl, rfl, by rw [Lib.bytesWorld_size]; omega, fun k hk => Lib.bytesWorld_at_old w e s k hk⟩
theorem bytes_ints (w : World) (e : TypeId) (s : ByteArray) : IntsAt .u8 (Lib.bytesWorld w e s) (some ⟨w.heap.size, 0, none⟩) (strNums s) :=
  Or.inr ⟨w.heap.size, 0, rfl, fun i hi => by
    rw [strNums_length] at hi
    rw [Nat.zero_add, Lib.bytesWorld_cell w e s i hi]
    congr 2
    unfold strNums
    simp [List.getD, hi]⟩

end Go.Proofs.YtbhoakohpfdeoaaGreat
