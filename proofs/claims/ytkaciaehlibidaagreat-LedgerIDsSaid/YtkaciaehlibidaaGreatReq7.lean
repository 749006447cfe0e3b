/- Comparison of replies, batches and answers. -/
import Derived.Test.YtkaciaehlibidaaGreatReq6
namespace Go.Proofs.YtkaciaehlibidaaGreat
open Go.RowKit
set_option linter.unusedVariables false

def RP.cells (r : Int × Int) : Array Value := #[.int .i64 r.1, .int .i64 r.2]
def RP.at_ (r : Int × Int) (w : World) (b o : Nat) : Prop := w.cell? ⟨b, o, none⟩ = some (.int .i64 r.1) ∧ w.cell? ⟨b, o + 1, none⟩ = some (.int .i64 r.2)
theorem RP.at_.all {r : Int × Int} {w : World} {b o : Nat} (h : RP.at_ r w b o) : w.cell? ⟨b, o, none⟩ = some (.int .i64 r.1) ∧ w.cell? ⟨b, o + 1, none⟩ = some (.int .i64 r.2) := h
theorem rep_cells2 {w : World} {ao : Option Addr} {rs : List (Int × Int)} (h : RepsAt w ao rs) (i : Nat) (hi : i < rs.length) : ∃ b off, ao = some ⟨b, off, none⟩ ∧ RP.at_ rs[i] w b (off + i * 2) := rep_cells h i hi
def eqRP (r q : Int × Int) : Bool := r.1 == q.1 && r.2 == q.2
def sameB (s1 : Int) (xs : List RQ) (s2 : Int) (ys : List RQ) : Bool := s1 == s2 && allB eqRQ xs ys
def sameA (c1 s1 : Int) (xs : List (Int × Int)) (es : List EV) (c2 s2 : Int) (ys : List (Int × Int)) (fs : List EV) : Bool := c1 == c2 && (s1 == s2 && (allB eqRP xs ys && allB eqEV es fs))

set_option maxRecDepth 100000 in
set_option maxHeartbeats 1000000 in
theorem neq_rep (r q : Int × Int) (w : World) : (binOp .neq 50 (.agg (RP.cells r)) (.agg (RP.cells q))).run Tryz.prog w = .ok (.bool (!eqRP r q)) w := by
  unfold RP.cells eqRP
  cases h0 : (r.1 == q.1)
  · go_simp; try simp [*]
  · skip
    cases h1 : (r.2 == q.2)
    · go_simp; try simp [*]
    · go_simp; try simp [*]




end Go.Proofs.YtkaciaehlibidaaGreat
