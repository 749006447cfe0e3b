/-
  No cell of these rows narrows 'for every input' (looked for: loops, veiled, ifaces, maps, wideKeys, modest, calm, conditions, laid).
  DERIVED. THE GIVEN ROWS OF THIS SEAT. 10 by the template 'for every input the law returns true; each argument reads behind the call as it read before'; 0 by the template 'total and deterministic' (their statements: YtadejcpifabpoaaTotals.lean).
  GIVEN WITH THE SEED: the statements are not yours to turn. If you find one false, say at which input.
  Laid BY PROGRAM, IN A SANDBOX (cutbox-rows.mjs): the forced cells as the released guide's own fill.sh prints them over the translation 41f0fb5387b3b32a… (all of the seat's roots in one cut). By AI agents, Wed Nov 11 2026. No macro, syntax, notation, axiom, sorry.
-/
import Derived.Test.YtadejcpifabpoaaChecked
import GoSem.Claim
import GoSem.ClaimJoined
import GoSem.ClaimMapViews
import Derived.JoinedTies
import Derived.KernelRfl
namespace Go.Proofs.Ytadejcpifabpoaa
/- THE CELL 'sum', in the pinned program and in every row, IS THE sha256 OF THE DUMP (.gsa) THAT YtadejcpifabpoaaProg.lean LOADS. Nothing in Lean hashes anything: it is a label: what it is worth is what the hold of that sum in a sandbox is worth. -/
noncomputable def Try.pinned : Pinned := { name := "ytadejcpifabpoaa", sum := "41f0fb5387b3b32a6f4a044b4716e5eee5f0604cbe9fe1201ec60a032baf1c41", checked := Try.checked }
namespace Rows
def none {H : Type} : Left H := { results := [], args := [] }

/-- 'cfllaw9.PurseTotals': WHATEVER THE INPUT: true; the input reads as it did. -/
def purseTotalsSpec : ChangeSpec := { name := "purseTotals", fn := fun _ => fun
  | [d1, d2] => { results := [.lit (.bool true)], args := [d1, d2] }
  | _ => none }
def purseTotalsRow : OpenClaim := { program := "ytadejcpifabpoaa", sum := "41f0fb5387b3b32a6f4a044b4716e5eee5f0604cbe9fe1201ec60a032baf1c41", func := "counterfoil/cfllaw9.PurseTotals", spec := "purseTotals", unfollowed := true, recurses := true, apart := false }
def PurseTotalsSaid : Prop := purseTotalsRow.holds Try.pinned (OpenSpec.ofChange purseTotalsSpec)

/-- ITS FALSE NEIGHBOUR: 'it returns false'. Refute it at one input. -/
def purseTotalsWrong : ChangeSpec := { name := "purseTotals", fn := fun _ => fun
  | [d1, d2] => { results := [.lit (.bool false)], args := [d1, d2] }
  | _ => none }
def PurseTotalsWrongFalsely : Prop := purseTotalsRow.holds Try.pinned (OpenSpec.ofChange purseTotalsWrong)

/-- 'cfllaw11.ReqMust': WHATEVER THE INPUT: true; the input reads as it did. -/
def reqMustSpec : ChangeSpec := { name := "reqMust", fn := fun _ => fun
  | [d1, d2] => { results := [.lit (.bool true)], args := [d1, d2] }
  | _ => none }
def reqMustRow : OpenClaim := { program := "ytadejcpifabpoaa", sum := "41f0fb5387b3b32a6f4a044b4716e5eee5f0604cbe9fe1201ec60a032baf1c41", func := "counterfoil/cfllaw11.ReqMust", spec := "reqMust", apart := false }
def ReqMustSaid : Prop := reqMustRow.holds Try.pinned (OpenSpec.ofChange reqMustSpec)

/-- ITS FALSE NEIGHBOUR: 'it returns false'. Refute it at one input. -/
def reqMustWrong : ChangeSpec := { name := "reqMust", fn := fun _ => fun
  | [d1, d2] => { results := [.lit (.bool false)], args := [d1, d2] }
  | _ => none }
def ReqMustWrongFalsely : Prop := reqMustRow.holds Try.pinned (OpenSpec.ofChange reqMustWrong)

/-- 'cfllaw9.PursePlays': WHATEVER THE INPUT: true; the input reads as it did. -/
def pursePlaysSpec : ChangeSpec := { name := "pursePlays", fn := fun _ => fun
  | [d1, d2] => { results := [.lit (.bool true)], args := [d1, d2] }
  | _ => none }
def pursePlaysRow : OpenClaim := { program := "ytadejcpifabpoaa", sum := "41f0fb5387b3b32a6f4a044b4716e5eee5f0604cbe9fe1201ec60a032baf1c41", func := "counterfoil/cfllaw9.PursePlays", spec := "pursePlays", unfollowed := true, recurses := true, apart := false }
def PursePlaysSaid : Prop := pursePlaysRow.holds Try.pinned (OpenSpec.ofChange pursePlaysSpec)

/-- ITS FALSE NEIGHBOUR: 'it returns false'. Refute it at one input. -/
def pursePlaysWrong : ChangeSpec := { name := "pursePlays", fn := fun _ => fun
  | [d1, d2] => { results := [.lit (.bool false)], args := [d1, d2] }
  | _ => none }
def PursePlaysWrongFalsely : Prop := pursePlaysRow.holds Try.pinned (OpenSpec.ofChange pursePlaysWrong)

/-- 'cfllaw9.PurseBack': WHATEVER THE INPUT: true; the input reads as it did. -/
def purseBackSpec : ChangeSpec := { name := "purseBack", fn := fun _ => fun
  | [d1, d2, d3, d4, d5] => { results := [.lit (.bool true)], args := [d1, d2, d3, d4, d5] }
  | _ => none }
def purseBackRow : OpenClaim := { program := "ytadejcpifabpoaa", sum := "41f0fb5387b3b32a6f4a044b4716e5eee5f0604cbe9fe1201ec60a032baf1c41", func := "counterfoil/cfllaw9.PurseBack", spec := "purseBack", unfollowed := true, recurses := true, apart := false }
def PurseBackSaid : Prop := purseBackRow.holds Try.pinned (OpenSpec.ofChange purseBackSpec)

/-- ITS FALSE NEIGHBOUR: 'it returns false'. Refute it at one input. -/
def purseBackWrong : ChangeSpec := { name := "purseBack", fn := fun _ => fun
  | [d1, d2, d3, d4, d5] => { results := [.lit (.bool false)], args := [d1, d2, d3, d4, d5] }
  | _ => none }
def PurseBackWrongFalsely : Prop := purseBackRow.holds Try.pinned (OpenSpec.ofChange purseBackWrong)

/-- 'cfllaw9.PurseSum': WHATEVER THE INPUT: true; the input reads as it did. -/
def purseSumSpec : ChangeSpec := { name := "purseSum", fn := fun _ => fun
  | [d] => { results := [.lit (.bool true)], args := [d] }
  | _ => none }
def purseSumRow : OpenClaim := { program := "ytadejcpifabpoaa", sum := "41f0fb5387b3b32a6f4a044b4716e5eee5f0604cbe9fe1201ec60a032baf1c41", func := "counterfoil/cfllaw9.PurseSum", spec := "purseSum", unfollowed := true, recurses := true, apart := false }
def PurseSumSaid : Prop := purseSumRow.holds Try.pinned (OpenSpec.ofChange purseSumSpec)

/-- ITS FALSE NEIGHBOUR: 'it returns false'. Refute it at one input. -/
def purseSumWrong : ChangeSpec := { name := "purseSum", fn := fun _ => fun
  | [d] => { results := [.lit (.bool false)], args := [d] }
  | _ => none }
def PurseSumWrongFalsely : Prop := purseSumRow.holds Try.pinned (OpenSpec.ofChange purseSumWrong)

/-- 'cfllaw11.ReqSame': WHATEVER THE INPUT: true; the input reads as it did. -/
def reqSameSpec : ChangeSpec := { name := "reqSame", fn := fun _ => fun
  | [d1, d2, d3, d4] => { results := [.lit (.bool true)], args := [d1, d2, d3, d4] }
  | _ => none }
def reqSameRow : OpenClaim := { program := "ytadejcpifabpoaa", sum := "41f0fb5387b3b32a6f4a044b4716e5eee5f0604cbe9fe1201ec60a032baf1c41", func := "counterfoil/cfllaw11.ReqSame", spec := "reqSame", apart := false }
def ReqSameSaid : Prop := reqSameRow.holds Try.pinned (OpenSpec.ofChange reqSameSpec)

/-- ITS FALSE NEIGHBOUR: 'it returns false'. Refute it at one input. -/
def reqSameWrong : ChangeSpec := { name := "reqSame", fn := fun _ => fun
  | [d1, d2, d3, d4] => { results := [.lit (.bool false)], args := [d1, d2, d3, d4] }
  | _ => none }
def ReqSameWrongFalsely : Prop := reqSameRow.holds Try.pinned (OpenSpec.ofChange reqSameWrong)

/-- 'cfllaw11.ReqSizes': WHATEVER THE INPUT: true; the input reads as it did. -/
def reqSizesSpec : ChangeSpec := { name := "reqSizes", fn := fun _ => fun
  | [d1, d2] => { results := [.lit (.bool true)], args := [d1, d2] }
  | _ => none }
def reqSizesRow : OpenClaim := { program := "ytadejcpifabpoaa", sum := "41f0fb5387b3b32a6f4a044b4716e5eee5f0604cbe9fe1201ec60a032baf1c41", func := "counterfoil/cfllaw11.ReqSizes", spec := "reqSizes", apart := false }
def ReqSizesSaid : Prop := reqSizesRow.holds Try.pinned (OpenSpec.ofChange reqSizesSpec)

/-- ITS FALSE NEIGHBOUR: 'it returns false'. Refute it at one input. -/
def reqSizesWrong : ChangeSpec := { name := "reqSizes", fn := fun _ => fun
  | [d1, d2] => { results := [.lit (.bool false)], args := [d1, d2] }
  | _ => none }
def ReqSizesWrongFalsely : Prop := reqSizesRow.holds Try.pinned (OpenSpec.ofChange reqSizesWrong)

/-- 'cfllaw11.ReqBatches': WHATEVER THE INPUT: true; the input reads as it did. -/
def reqBatchesSpec : ChangeSpec := { name := "reqBatches", fn := fun _ => fun
  | [d1, d2, d3] => { results := [.lit (.bool true)], args := [d1, d2, d3] }
  | _ => none }
def reqBatchesRow : OpenClaim := { program := "ytadejcpifabpoaa", sum := "41f0fb5387b3b32a6f4a044b4716e5eee5f0604cbe9fe1201ec60a032baf1c41", func := "counterfoil/cfllaw11.ReqBatches", spec := "reqBatches", apart := false }
def ReqBatchesSaid : Prop := reqBatchesRow.holds Try.pinned (OpenSpec.ofChange reqBatchesSpec)

/-- ITS FALSE NEIGHBOUR: 'it returns false'. Refute it at one input. -/
def reqBatchesWrong : ChangeSpec := { name := "reqBatches", fn := fun _ => fun
  | [d1, d2, d3] => { results := [.lit (.bool false)], args := [d1, d2, d3] }
  | _ => none }
def ReqBatchesWrongFalsely : Prop := reqBatchesRow.holds Try.pinned (OpenSpec.ofChange reqBatchesWrong)

/-- 'cfllaw11.ReqAnswers': WHATEVER THE INPUT: true; the input reads as it did. -/
def reqAnswersSpec : ChangeSpec := { name := "reqAnswers", fn := fun _ => fun
  | [d1, d2, d3] => { results := [.lit (.bool true)], args := [d1, d2, d3] }
  | _ => none }
def reqAnswersRow : OpenClaim := { program := "ytadejcpifabpoaa", sum := "41f0fb5387b3b32a6f4a044b4716e5eee5f0604cbe9fe1201ec60a032baf1c41", func := "counterfoil/cfllaw11.ReqAnswers", spec := "reqAnswers", apart := false }
def ReqAnswersSaid : Prop := reqAnswersRow.holds Try.pinned (OpenSpec.ofChange reqAnswersSpec)

/-- ITS FALSE NEIGHBOUR: 'it returns false'. Refute it at one input. -/
def reqAnswersWrong : ChangeSpec := { name := "reqAnswers", fn := fun _ => fun
  | [d1, d2, d3] => { results := [.lit (.bool false)], args := [d1, d2, d3] }
  | _ => none }
def ReqAnswersWrongFalsely : Prop := reqAnswersRow.holds Try.pinned (OpenSpec.ofChange reqAnswersWrong)

/-- 'cfllaw11.ReqBack': WHATEVER THE INPUT: true; the input reads as it did. -/
def reqBackSpec : ChangeSpec := { name := "reqBack", fn := fun _ => fun
  | [d1, d2, d3] => { results := [.lit (.bool true)], args := [d1, d2, d3] }
  | _ => none }
def reqBackRow : OpenClaim := { program := "ytadejcpifabpoaa", sum := "41f0fb5387b3b32a6f4a044b4716e5eee5f0604cbe9fe1201ec60a032baf1c41", func := "counterfoil/cfllaw11.ReqBack", spec := "reqBack", apart := false }
def ReqBackSaid : Prop := reqBackRow.holds Try.pinned (OpenSpec.ofChange reqBackSpec)

/-- ITS FALSE NEIGHBOUR: 'it returns false'. Refute it at one input. -/
def reqBackWrong : ChangeSpec := { name := "reqBack", fn := fun _ => fun
  | [d1, d2, d3] => { results := [.lit (.bool false)], args := [d1, d2, d3] }
  | _ => none }
def ReqBackWrongFalsely : Prop := reqBackRow.holds Try.pinned (OpenSpec.ofChange reqBackWrong)

/- THE SECOND FORM. 'bulk': how many values and letters a reading holds, each counted each time it is reached (what is shared counts as often as it is met; a slice's spare places count too). A statement '..UptoSaid' is the law's where the arguments, and the package variables that the reading takes, are together of bulk at most 1048576: NARROWER than '..Said'. Prove '..Said' where nothing that the law and all that it calls make is longer than what came in: it says more and counts as full. Else prove '..UptoSaid'. A law counts once. -/
mutual
def uptoBulk {H : Type} : DataW H → Nat
  | .lit (.string bytes) => bytes.length + 1
  | .lit _ => 1
  | .nil => 1
  | .ptr d => uptoBulk d + 1
  | .slice elems spare => uptoBulkAll elems + uptoBulkAll spare + 1
  | .agg parts => uptoBulkAll parts + 1
  | .iface _ d => uptoBulk d + 1
  | .map entries => uptoBulkEntries entries + 1
  | .held _ => 1
def uptoBulkAll {H : Type} : List (DataW H) → Nat
  | [] => 0
  | d :: r => uptoBulk d + uptoBulkAll r
def uptoBulkEntries {H : Type} : List (Lit × DataW H) → Nat
  | [] => 0
  | x :: r => uptoBulkEntry x + uptoBulkEntries r
def uptoBulkEntry {H : Type} : Lit × DataW H → Nat
  | (.string bytes, d) => bytes.length + uptoBulk d + 1
  | (_, d) => uptoBulk d + 1
 end
def uptoSmall : (H : Type) → List (DataW H) → Bool := fun _ ds => decide (uptoBulkAll ds ≤ 1048576)
def OpenSpec.upto (s : _root_.Go.ChangeSpec) : _root_.Go.OpenSpec := { _root_.Go.OpenSpec.ofChange s with cond := some uptoSmall }

/-- 'cfllaw9.PurseTotals', WHERE WHAT IT READS IS OF BULK AT MOST 1048576: true; the input reads as it did. -/
def purseTotalsUptoRow : OpenClaim := { program := "ytadejcpifabpoaa", sum := "41f0fb5387b3b32a6f4a044b4716e5eee5f0604cbe9fe1201ec60a032baf1c41", func := "counterfoil/cfllaw9.PurseTotals", spec := "purseTotals", unfollowed := true, recurses := true, apart := false, narrowed := true }
def PurseTotalsUptoSaid : Prop := purseTotalsUptoRow.holds Try.pinned (OpenSpec.upto purseTotalsSpec)

/-- 'cfllaw11.ReqMust', WHERE WHAT IT READS IS OF BULK AT MOST 1048576: true; the input reads as it did. -/
def reqMustUptoRow : OpenClaim := { program := "ytadejcpifabpoaa", sum := "41f0fb5387b3b32a6f4a044b4716e5eee5f0604cbe9fe1201ec60a032baf1c41", func := "counterfoil/cfllaw11.ReqMust", spec := "reqMust", apart := false, narrowed := true }
def ReqMustUptoSaid : Prop := reqMustUptoRow.holds Try.pinned (OpenSpec.upto reqMustSpec)

/-- 'cfllaw9.PursePlays', WHERE WHAT IT READS IS OF BULK AT MOST 1048576: true; the input reads as it did. -/
def pursePlaysUptoRow : OpenClaim := { program := "ytadejcpifabpoaa", sum := "41f0fb5387b3b32a6f4a044b4716e5eee5f0604cbe9fe1201ec60a032baf1c41", func := "counterfoil/cfllaw9.PursePlays", spec := "pursePlays", unfollowed := true, recurses := true, apart := false, narrowed := true }
def PursePlaysUptoSaid : Prop := pursePlaysUptoRow.holds Try.pinned (OpenSpec.upto pursePlaysSpec)

/-- 'cfllaw9.PurseBack', WHERE WHAT IT READS IS OF BULK AT MOST 1048576: true; the input reads as it did. -/
def purseBackUptoRow : OpenClaim := { program := "ytadejcpifabpoaa", sum := "41f0fb5387b3b32a6f4a044b4716e5eee5f0604cbe9fe1201ec60a032baf1c41", func := "counterfoil/cfllaw9.PurseBack", spec := "purseBack", unfollowed := true, recurses := true, apart := false, narrowed := true }
def PurseBackUptoSaid : Prop := purseBackUptoRow.holds Try.pinned (OpenSpec.upto purseBackSpec)

/-- 'cfllaw9.PurseSum', WHERE WHAT IT READS IS OF BULK AT MOST 1048576: true; the input reads as it did. -/
def purseSumUptoRow : OpenClaim := { program := "ytadejcpifabpoaa", sum := "41f0fb5387b3b32a6f4a044b4716e5eee5f0604cbe9fe1201ec60a032baf1c41", func := "counterfoil/cfllaw9.PurseSum", spec := "purseSum", unfollowed := true, recurses := true, apart := false, narrowed := true }
def PurseSumUptoSaid : Prop := purseSumUptoRow.holds Try.pinned (OpenSpec.upto purseSumSpec)

/-- 'cfllaw11.ReqSame', WHERE WHAT IT READS IS OF BULK AT MOST 1048576: true; the input reads as it did. -/
def reqSameUptoRow : OpenClaim := { program := "ytadejcpifabpoaa", sum := "41f0fb5387b3b32a6f4a044b4716e5eee5f0604cbe9fe1201ec60a032baf1c41", func := "counterfoil/cfllaw11.ReqSame", spec := "reqSame", apart := false, narrowed := true }
def ReqSameUptoSaid : Prop := reqSameUptoRow.holds Try.pinned (OpenSpec.upto reqSameSpec)

/-- 'cfllaw11.ReqSizes', WHERE WHAT IT READS IS OF BULK AT MOST 1048576: true; the input reads as it did. -/
def reqSizesUptoRow : OpenClaim := { program := "ytadejcpifabpoaa", sum := "41f0fb5387b3b32a6f4a044b4716e5eee5f0604cbe9fe1201ec60a032baf1c41", func := "counterfoil/cfllaw11.ReqSizes", spec := "reqSizes", apart := false, narrowed := true }
def ReqSizesUptoSaid : Prop := reqSizesUptoRow.holds Try.pinned (OpenSpec.upto reqSizesSpec)

/-- 'cfllaw11.ReqBatches', WHERE WHAT IT READS IS OF BULK AT MOST 1048576: true; the input reads as it did. -/
def reqBatchesUptoRow : OpenClaim := { program := "ytadejcpifabpoaa", sum := "41f0fb5387b3b32a6f4a044b4716e5eee5f0604cbe9fe1201ec60a032baf1c41", func := "counterfoil/cfllaw11.ReqBatches", spec := "reqBatches", apart := false, narrowed := true }
def ReqBatchesUptoSaid : Prop := reqBatchesUptoRow.holds Try.pinned (OpenSpec.upto reqBatchesSpec)

/-- 'cfllaw11.ReqAnswers', WHERE WHAT IT READS IS OF BULK AT MOST 1048576: true; the input reads as it did. -/
def reqAnswersUptoRow : OpenClaim := { program := "ytadejcpifabpoaa", sum := "41f0fb5387b3b32a6f4a044b4716e5eee5f0604cbe9fe1201ec60a032baf1c41", func := "counterfoil/cfllaw11.ReqAnswers", spec := "reqAnswers", apart := false, narrowed := true }
def ReqAnswersUptoSaid : Prop := reqAnswersUptoRow.holds Try.pinned (OpenSpec.upto reqAnswersSpec)

/-- 'cfllaw11.ReqBack', WHERE WHAT IT READS IS OF BULK AT MOST 1048576: true; the input reads as it did. -/
def reqBackUptoRow : OpenClaim := { program := "ytadejcpifabpoaa", sum := "41f0fb5387b3b32a6f4a044b4716e5eee5f0604cbe9fe1201ec60a032baf1c41", func := "counterfoil/cfllaw11.ReqBack", spec := "reqBack", apart := false, narrowed := true }
def ReqBackUptoSaid : Prop := reqBackUptoRow.holds Try.pinned (OpenSpec.upto reqBackSpec)

end Rows
end Go.Proofs.Ytadejcpifabpoaa
