/-
  No cell of these rows narrows 'for every input' (looked for: loops, veiled, ifaces, maps, wideKeys, modest, calm, conditions, laid).
  DERIVED. THE GIVEN ROWS OF THIS SEAT. 9 by the template 'for every input the law returns true; each argument reads behind the call as it read before'; 0 by the template 'total and deterministic' (their statements: YtklpjpablmiaoaaTotals.lean).
  GIVEN WITH THE SEED: the statements are not yours to turn. If you find one false, say at which input.
  Laid BY PROGRAM, IN A SANDBOX (cutbox-rows.mjs): the forced cells as the released guide's own fill.sh prints them over the translation 0760f0b3c8d08915… (all of the seat's roots in one cut). By AI agents, Wed Nov 11 2026. No macro, syntax, notation, axiom, sorry.
-/
import Derived.Test.YtklpjpablmiaoaaChecked
import GoSem.Claim
import GoSem.ClaimJoined
import GoSem.ClaimMapViews
import Derived.JoinedTies
import Derived.KernelRfl
namespace Go.Proofs.Ytklpjpablmiaoaa
/- THE CELL 'sum', in the pinned program and in every row, IS THE sha256 OF THE DUMP (.gsa) THAT YtklpjpablmiaoaaProg.lean LOADS. Nothing in Lean hashes anything: it is a label: what it is worth is what the hold of that sum in a sandbox is worth. -/
noncomputable def Try.pinned : Pinned := { name := "ytklpjpablmiaoaa", sum := "0760f0b3c8d08915a1f2120292f769bfb21b7b49da88c9458a5503766c1ece0f", checked := Try.checked }
namespace Rows
def none {H : Type} : Left H := { results := [], args := [] }

/-- 'laws.FnExactPageFaultName': WHATEVER THE INPUT: true; the input reads as it did. -/
def fnExactPageFaultNameSpec : ChangeSpec := { name := "fnExactPageFaultName", fn := fun _ => fun
  | [d] => { results := [.lit (.bool true)], args := [d] }
  | _ => none }
def fnExactPageFaultNameRow : OpenClaim := { program := "ytklpjpablmiaoaa", sum := "0760f0b3c8d08915a1f2120292f769bfb21b7b49da88c9458a5503766c1ece0f", func := "loop.example/g00930/laws.FnExactPageFaultName", spec := "fnExactPageFaultName", apart := false }
def FnExactPageFaultNameSaid : Prop := fnExactPageFaultNameRow.holds Try.pinned (OpenSpec.ofChange fnExactPageFaultNameSpec)

/-- ITS FALSE NEIGHBOUR: 'it returns false'. Refute it at one input. -/
def fnExactPageFaultNameWrong : ChangeSpec := { name := "fnExactPageFaultName", fn := fun _ => fun
  | [d] => { results := [.lit (.bool false)], args := [d] }
  | _ => none }
def FnExactPageFaultNameWrongFalsely : Prop := fnExactPageFaultNameRow.holds Try.pinned (OpenSpec.ofChange fnExactPageFaultNameWrong)

/-- 'laws.FnExactCheckDigit': WHATEVER THE INPUT: true; the input reads as it did. -/
def fnExactCheckDigitSpec : ChangeSpec := { name := "fnExactCheckDigit", fn := fun _ => fun
  | [d] => { results := [.lit (.bool true)], args := [d] }
  | _ => none }
def fnExactCheckDigitRow : OpenClaim := { program := "ytklpjpablmiaoaa", sum := "0760f0b3c8d08915a1f2120292f769bfb21b7b49da88c9458a5503766c1ece0f", func := "loop.example/g00930/laws.FnExactCheckDigit", spec := "fnExactCheckDigit", apart := false }
def FnExactCheckDigitSaid : Prop := fnExactCheckDigitRow.holds Try.pinned (OpenSpec.ofChange fnExactCheckDigitSpec)

/-- ITS FALSE NEIGHBOUR: 'it returns false'. Refute it at one input. -/
def fnExactCheckDigitWrong : ChangeSpec := { name := "fnExactCheckDigit", fn := fun _ => fun
  | [d] => { results := [.lit (.bool false)], args := [d] }
  | _ => none }
def FnExactCheckDigitWrongFalsely : Prop := fnExactCheckDigitRow.holds Try.pinned (OpenSpec.ofChange fnExactCheckDigitWrong)

/-- 'laws.FnExactSamePage': WHATEVER THE INPUT: true; the input reads as it did. -/
def fnExactSamePageSpec : ChangeSpec := { name := "fnExactSamePage", fn := fun _ => fun
  | [d1, d2] => { results := [.lit (.bool true)], args := [d1, d2] }
  | _ => none }
def fnExactSamePageRow : OpenClaim := { program := "ytklpjpablmiaoaa", sum := "0760f0b3c8d08915a1f2120292f769bfb21b7b49da88c9458a5503766c1ece0f", func := "loop.example/g00930/laws.FnExactSamePage", spec := "fnExactSamePage", apart := false }
def FnExactSamePageSaid : Prop := fnExactSamePageRow.holds Try.pinned (OpenSpec.ofChange fnExactSamePageSpec)

/-- ITS FALSE NEIGHBOUR: 'it returns false'. Refute it at one input. -/
def fnExactSamePageWrong : ChangeSpec := { name := "fnExactSamePage", fn := fun _ => fun
  | [d1, d2] => { results := [.lit (.bool false)], args := [d1, d2] }
  | _ => none }
def FnExactSamePageWrongFalsely : Prop := fnExactSamePageRow.holds Try.pinned (OpenSpec.ofChange fnExactSamePageWrong)

/-- 'laws.FnExactRoundTable': WHATEVER THE INPUT: true; the input reads as it did. -/
def fnExactRoundTableSpec : ChangeSpec := { name := "fnExactRoundTable", fn := fun _ => fun
  | [d1, d2] => { results := [.lit (.bool true)], args := [d1, d2] }
  | _ => none }
def fnExactRoundTableRow : OpenClaim := { program := "ytklpjpablmiaoaa", sum := "0760f0b3c8d08915a1f2120292f769bfb21b7b49da88c9458a5503766c1ece0f", func := "loop.example/g00930/laws.FnExactRoundTable", spec := "fnExactRoundTable", apart := false }
def FnExactRoundTableSaid : Prop := fnExactRoundTableRow.holds Try.pinned (OpenSpec.ofChange fnExactRoundTableSpec)

/-- ITS FALSE NEIGHBOUR: 'it returns false'. Refute it at one input. -/
def fnExactRoundTableWrong : ChangeSpec := { name := "fnExactRoundTable", fn := fun _ => fun
  | [d1, d2] => { results := [.lit (.bool false)], args := [d1, d2] }
  | _ => none }
def FnExactRoundTableWrongFalsely : Prop := fnExactRoundTableRow.holds Try.pinned (OpenSpec.ofChange fnExactRoundTableWrong)

/-- 'laws.FnExactValidPage': WHATEVER THE INPUT: true; the input reads as it did. -/
def fnExactValidPageSpec : ChangeSpec := { name := "fnExactValidPage", fn := fun _ => fun
  | [d] => { results := [.lit (.bool true)], args := [d] }
  | _ => none }
def fnExactValidPageRow : OpenClaim := { program := "ytklpjpablmiaoaa", sum := "0760f0b3c8d08915a1f2120292f769bfb21b7b49da88c9458a5503766c1ece0f", func := "loop.example/g00930/laws.FnExactValidPage", spec := "fnExactValidPage", apart := false }
def FnExactValidPageSaid : Prop := fnExactValidPageRow.holds Try.pinned (OpenSpec.ofChange fnExactValidPageSpec)

/-- ITS FALSE NEIGHBOUR: 'it returns false'. Refute it at one input. -/
def fnExactValidPageWrong : ChangeSpec := { name := "fnExactValidPage", fn := fun _ => fun
  | [d] => { results := [.lit (.bool false)], args := [d] }
  | _ => none }
def FnExactValidPageWrongFalsely : Prop := fnExactValidPageRow.holds Try.pinned (OpenSpec.ofChange fnExactValidPageWrong)

/-- 'laws.FnExactValueAt': WHATEVER THE INPUT: true; the input reads as it did. -/
def fnExactValueAtSpec : ChangeSpec := { name := "fnExactValueAt", fn := fun _ => fun
  | [d1, d2] => { results := [.lit (.bool true)], args := [d1, d2] }
  | _ => none }
def fnExactValueAtRow : OpenClaim := { program := "ytklpjpablmiaoaa", sum := "0760f0b3c8d08915a1f2120292f769bfb21b7b49da88c9458a5503766c1ece0f", func := "loop.example/g00930/laws.FnExactValueAt", spec := "fnExactValueAt", apart := false }
def FnExactValueAtSaid : Prop := fnExactValueAtRow.holds Try.pinned (OpenSpec.ofChange fnExactValueAtSpec)

/-- ITS FALSE NEIGHBOUR: 'it returns false'. Refute it at one input. -/
def fnExactValueAtWrong : ChangeSpec := { name := "fnExactValueAt", fn := fun _ => fun
  | [d1, d2] => { results := [.lit (.bool false)], args := [d1, d2] }
  | _ => none }
def FnExactValueAtWrongFalsely : Prop := fnExactValueAtRow.holds Try.pinned (OpenSpec.ofChange fnExactValueAtWrong)

/-- 'laws.FnExactJoinPages': WHATEVER THE INPUT: true; the input reads as it did. -/
def fnExactJoinPagesSpec : ChangeSpec := { name := "fnExactJoinPages", fn := fun _ => fun
  | [d1, d2] => { results := [.lit (.bool true)], args := [d1, d2] }
  | _ => none }
def fnExactJoinPagesRow : OpenClaim := { program := "ytklpjpablmiaoaa", sum := "0760f0b3c8d08915a1f2120292f769bfb21b7b49da88c9458a5503766c1ece0f", func := "loop.example/g00930/laws.FnExactJoinPages", spec := "fnExactJoinPages", apart := false }
def FnExactJoinPagesSaid : Prop := fnExactJoinPagesRow.holds Try.pinned (OpenSpec.ofChange fnExactJoinPagesSpec)

/-- ITS FALSE NEIGHBOUR: 'it returns false'. Refute it at one input. -/
def fnExactJoinPagesWrong : ChangeSpec := { name := "fnExactJoinPages", fn := fun _ => fun
  | [d1, d2] => { results := [.lit (.bool false)], args := [d1, d2] }
  | _ => none }
def FnExactJoinPagesWrongFalsely : Prop := fnExactJoinPagesRow.holds Try.pinned (OpenSpec.ofChange fnExactJoinPagesWrong)

/-- 'laws.FnExactOddRows': WHATEVER THE INPUT: true; the input reads as it did. -/
def fnExactOddRowsSpec : ChangeSpec := { name := "fnExactOddRows", fn := fun _ => fun
  | [d1, d2] => { results := [.lit (.bool true)], args := [d1, d2] }
  | _ => none }
def fnExactOddRowsRow : OpenClaim := { program := "ytklpjpablmiaoaa", sum := "0760f0b3c8d08915a1f2120292f769bfb21b7b49da88c9458a5503766c1ece0f", func := "loop.example/g00930/laws.FnExactOddRows", spec := "fnExactOddRows", apart := false }
def FnExactOddRowsSaid : Prop := fnExactOddRowsRow.holds Try.pinned (OpenSpec.ofChange fnExactOddRowsSpec)

/-- ITS FALSE NEIGHBOUR: 'it returns false'. Refute it at one input. -/
def fnExactOddRowsWrong : ChangeSpec := { name := "fnExactOddRows", fn := fun _ => fun
  | [d1, d2] => { results := [.lit (.bool false)], args := [d1, d2] }
  | _ => none }
def FnExactOddRowsWrongFalsely : Prop := fnExactOddRowsRow.holds Try.pinned (OpenSpec.ofChange fnExactOddRowsWrong)

/-- 'laws.FnExactMendRow': WHATEVER THE INPUT: true; the input reads as it did. -/
def fnExactMendRowSpec : ChangeSpec := { name := "fnExactMendRow", fn := fun _ => fun
  | [d1, d2, d3] => { results := [.lit (.bool true)], args := [d1, d2, d3] }
  | _ => none }
def fnExactMendRowRow : OpenClaim := { program := "ytklpjpablmiaoaa", sum := "0760f0b3c8d08915a1f2120292f769bfb21b7b49da88c9458a5503766c1ece0f", func := "loop.example/g00930/laws.FnExactMendRow", spec := "fnExactMendRow", apart := false }
def FnExactMendRowSaid : Prop := fnExactMendRowRow.holds Try.pinned (OpenSpec.ofChange fnExactMendRowSpec)

/-- ITS FALSE NEIGHBOUR: 'it returns false'. Refute it at one input. -/
def fnExactMendRowWrong : ChangeSpec := { name := "fnExactMendRow", fn := fun _ => fun
  | [d1, d2, d3] => { results := [.lit (.bool false)], args := [d1, d2, d3] }
  | _ => none }
def FnExactMendRowWrongFalsely : Prop := fnExactMendRowRow.holds Try.pinned (OpenSpec.ofChange fnExactMendRowWrong)

/- THE SECOND FORM. 'bulk': how many values and letters a reading holds, each counted each time it is reached (what is shared counts as often as it is met; a slice's spare places count too). A statement '..UptoSaid' is the law's where the arguments, and the package variables that the reading takes, are together of bulk at most 1048576: NARROWER than '..Said'. Prove '..Said' where nothing that the law and all that it calls make is longer than what came in: it says more and counts as full. Else prove '..UptoSaid'. A law counts once. -/
mutual
def uptoBulk {H : Type} : DataW H → Nat
  | .lit (.string bytes) => bytes.length + 1
  | .lit _ => 1
  | .nil => 1
  | .ptr d => uptoBulk d + 1
  | .slice elems spare => uptoBulkAll elems + uptoBulkAll spare + 1
  | .agg parts => uptoBulkAll parts + 1
  | .iface _ d => uptoBulk d + 1
  | .map entries => uptoBulkEntries entries + 1
  | .held _ => 1
def uptoBulkAll {H : Type} : List (DataW H) → Nat
  | [] => 0
  | d :: r => uptoBulk d + uptoBulkAll r
def uptoBulkEntries {H : Type} : List (Lit × DataW H) → Nat
  | [] => 0
  | x :: r => uptoBulkEntry x + uptoBulkEntries r
def uptoBulkEntry {H : Type} : Lit × DataW H → Nat
  | (.string bytes, d) => bytes.length + uptoBulk d + 1
  | (_, d) => uptoBulk d + 1
 end
def uptoSmall : (H : Type) → List (DataW H) → Bool := fun _ ds => decide (uptoBulkAll ds ≤ 1048576)
def OpenSpec.upto (s : _root_.Go.ChangeSpec) : _root_.Go.OpenSpec := { _root_.Go.OpenSpec.ofChange s with cond := some uptoSmall }

/-- 'laws.FnExactPageFaultName', WHERE WHAT IT READS IS OF BULK AT MOST 1048576: true; the input reads as it did. -/
def fnExactPageFaultNameUptoRow : OpenClaim := { program := "ytklpjpablmiaoaa", sum := "0760f0b3c8d08915a1f2120292f769bfb21b7b49da88c9458a5503766c1ece0f", func := "loop.example/g00930/laws.FnExactPageFaultName", spec := "fnExactPageFaultName", apart := false, narrowed := true }
def FnExactPageFaultNameUptoSaid : Prop := fnExactPageFaultNameUptoRow.holds Try.pinned (OpenSpec.upto fnExactPageFaultNameSpec)

/-- 'laws.FnExactCheckDigit', WHERE WHAT IT READS IS OF BULK AT MOST 1048576: true; the input reads as it did. -/
def fnExactCheckDigitUptoRow : OpenClaim := { program := "ytklpjpablmiaoaa", sum := "0760f0b3c8d08915a1f2120292f769bfb21b7b49da88c9458a5503766c1ece0f", func := "loop.example/g00930/laws.FnExactCheckDigit", spec := "fnExactCheckDigit", apart := false, narrowed := true }
def FnExactCheckDigitUptoSaid : Prop := fnExactCheckDigitUptoRow.holds Try.pinned (OpenSpec.upto fnExactCheckDigitSpec)

/-- 'laws.FnExactSamePage', WHERE WHAT IT READS IS OF BULK AT MOST 1048576: true; the input reads as it did. -/
def fnExactSamePageUptoRow : OpenClaim := { program := "ytklpjpablmiaoaa", sum := "0760f0b3c8d08915a1f2120292f769bfb21b7b49da88c9458a5503766c1ece0f", func := "loop.example/g00930/laws.FnExactSamePage", spec := "fnExactSamePage", apart := false, narrowed := true }
def FnExactSamePageUptoSaid : Prop := fnExactSamePageUptoRow.holds Try.pinned (OpenSpec.upto fnExactSamePageSpec)

/-- 'laws.FnExactRoundTable', WHERE WHAT IT READS IS OF BULK AT MOST 1048576: true; the input reads as it did. -/
def fnExactRoundTableUptoRow : OpenClaim := { program := "ytklpjpablmiaoaa", sum := "0760f0b3c8d08915a1f2120292f769bfb21b7b49da88c9458a5503766c1ece0f", func := "loop.example/g00930/laws.FnExactRoundTable", spec := "fnExactRoundTable", apart := false, narrowed := true }
def FnExactRoundTableUptoSaid : Prop := fnExactRoundTableUptoRow.holds Try.pinned (OpenSpec.upto fnExactRoundTableSpec)

/-- 'laws.FnExactValidPage', WHERE WHAT IT READS IS OF BULK AT MOST 1048576: true; the input reads as it did. -/
def fnExactValidPageUptoRow : OpenClaim := { program := "ytklpjpablmiaoaa", sum := "0760f0b3c8d08915a1f2120292f769bfb21b7b49da88c9458a5503766c1ece0f", func := "loop.example/g00930/laws.FnExactValidPage", spec := "fnExactValidPage", apart := false, narrowed := true }
def FnExactValidPageUptoSaid : Prop := fnExactValidPageUptoRow.holds Try.pinned (OpenSpec.upto fnExactValidPageSpec)

/-- 'laws.FnExactValueAt', WHERE WHAT IT READS IS OF BULK AT MOST 1048576: true; the input reads as it did. -/
def fnExactValueAtUptoRow : OpenClaim := { program := "ytklpjpablmiaoaa", sum := "0760f0b3c8d08915a1f2120292f769bfb21b7b49da88c9458a5503766c1ece0f", func := "loop.example/g00930/laws.FnExactValueAt", spec := "fnExactValueAt", apart := false, narrowed := true }
def FnExactValueAtUptoSaid : Prop := fnExactValueAtUptoRow.holds Try.pinned (OpenSpec.upto fnExactValueAtSpec)

/-- 'laws.FnExactJoinPages', WHERE WHAT IT READS IS OF BULK AT MOST 1048576: true; the input reads as it did. -/
def fnExactJoinPagesUptoRow : OpenClaim := { program := "ytklpjpablmiaoaa", sum := "0760f0b3c8d08915a1f2120292f769bfb21b7b49da88c9458a5503766c1ece0f", func := "loop.example/g00930/laws.FnExactJoinPages", spec := "fnExactJoinPages", apart := false, narrowed := true }
def FnExactJoinPagesUptoSaid : Prop := fnExactJoinPagesUptoRow.holds Try.pinned (OpenSpec.upto fnExactJoinPagesSpec)

/-- 'laws.FnExactOddRows', WHERE WHAT IT READS IS OF BULK AT MOST 1048576: true; the input reads as it did. -/
def fnExactOddRowsUptoRow : OpenClaim := { program := "ytklpjpablmiaoaa", sum := "0760f0b3c8d08915a1f2120292f769bfb21b7b49da88c9458a5503766c1ece0f", func := "loop.example/g00930/laws.FnExactOddRows", spec := "fnExactOddRows", apart := false, narrowed := true }
def FnExactOddRowsUptoSaid : Prop := fnExactOddRowsUptoRow.holds Try.pinned (OpenSpec.upto fnExactOddRowsSpec)

/-- 'laws.FnExactMendRow', WHERE WHAT IT READS IS OF BULK AT MOST 1048576: true; the input reads as it did. -/
def fnExactMendRowUptoRow : OpenClaim := { program := "ytklpjpablmiaoaa", sum := "0760f0b3c8d08915a1f2120292f769bfb21b7b49da88c9458a5503766c1ece0f", func := "loop.example/g00930/laws.FnExactMendRow", spec := "fnExactMendRow", apart := false, narrowed := true }
def FnExactMendRowUptoSaid : Prop := fnExactMendRowUptoRow.holds Try.pinned (OpenSpec.upto fnExactMendRowSpec)

end Rows
end Go.Proofs.Ytklpjpablmiaoaa
