/-
  No cell of these rows narrows 'for every input' (looked for: loops, veiled, ifaces, maps, wideKeys, modest, calm, conditions, laid).
  DERIVED. THE GIVEN ROWS OF THIS SEAT. 10 by the template 'for every input the law returns true; each argument reads behind the call as it read before'; 0 by the template 'total and deterministic' (their statements: YtnifpmfmhilhlaaTotals.lean).
  GIVEN WITH THE SEED: the statements are not yours to turn. If you find one false, say at which input.
  Laid BY PROGRAM, IN A SANDBOX (cutbox-rows.mjs): the forced cells as the released guide's own fill.sh prints them over the translation ae4407267e727eb1… (all of the seat's roots in one cut). By AI agents, Wed Nov 11 2026. No macro, syntax, notation, axiom, sorry.
-/
import Derived.Test.YtnifpmfmhilhlaaChecked
import GoSem.Claim
import GoSem.ClaimJoined
import GoSem.ClaimMapViews
import Derived.JoinedTies
import Derived.KernelRfl
namespace Go.Proofs.Ytnifpmfmhilhlaa
/- THE CELL 'sum', in the pinned program and in every row, IS THE sha256 OF THE DUMP (.gsa) THAT YtnifpmfmhilhlaaProg.lean LOADS. Nothing in Lean hashes anything: it is a label: what it is worth is what the hold of that sum in a sandbox is worth. -/
noncomputable def Try.pinned : Pinned := { name := "ytnifpmfmhilhlaa", sum := "ae4407267e727eb140bec803bedccc54f1d6f93845cfd7da11ad8fbcbcd8b313", checked := Try.checked }
namespace Rows
def none {H : Type} : Left H := { results := [], args := [] }

/-- 'laws.FnExactSamePieces': WHATEVER THE INPUT: true; the input reads as it did. -/
def fnExactSamePiecesSpec : ChangeSpec := { name := "fnExactSamePieces", fn := fun _ => fun
  | [d1, d2] => { results := [.lit (.bool true)], args := [d1, d2] }
  | _ => none }
def fnExactSamePiecesRow : OpenClaim := { program := "ytnifpmfmhilhlaa", sum := "ae4407267e727eb140bec803bedccc54f1d6f93845cfd7da11ad8fbcbcd8b313", func := "loop.example/g00930/laws.FnExactSamePieces", spec := "fnExactSamePieces", apart := false }
def FnExactSamePiecesSaid : Prop := fnExactSamePiecesRow.holds Try.pinned (OpenSpec.ofChange fnExactSamePiecesSpec)

/-- ITS FALSE NEIGHBOUR: 'it returns false'. Refute it at one input. -/
def fnExactSamePiecesWrong : ChangeSpec := { name := "fnExactSamePieces", fn := fun _ => fun
  | [d1, d2] => { results := [.lit (.bool false)], args := [d1, d2] }
  | _ => none }
def FnExactSamePiecesWrongFalsely : Prop := fnExactSamePiecesRow.holds Try.pinned (OpenSpec.ofChange fnExactSamePiecesWrong)

/-- 'laws.FnExactValidPieces': WHATEVER THE INPUT: true; the input reads as it did. -/
def fnExactValidPiecesSpec : ChangeSpec := { name := "fnExactValidPieces", fn := fun _ => fun
  | [d] => { results := [.lit (.bool true)], args := [d] }
  | _ => none }
def fnExactValidPiecesRow : OpenClaim := { program := "ytnifpmfmhilhlaa", sum := "ae4407267e727eb140bec803bedccc54f1d6f93845cfd7da11ad8fbcbcd8b313", func := "loop.example/g00930/laws.FnExactValidPieces", spec := "fnExactValidPieces", apart := false }
def FnExactValidPiecesSaid : Prop := fnExactValidPiecesRow.holds Try.pinned (OpenSpec.ofChange fnExactValidPiecesSpec)

/-- ITS FALSE NEIGHBOUR: 'it returns false'. Refute it at one input. -/
def fnExactValidPiecesWrong : ChangeSpec := { name := "fnExactValidPieces", fn := fun _ => fun
  | [d] => { results := [.lit (.bool false)], args := [d] }
  | _ => none }
def FnExactValidPiecesWrongFalsely : Prop := fnExactValidPiecesRow.holds Try.pinned (OpenSpec.ofChange fnExactValidPiecesWrong)

/-- 'laws.FnExactPieceNamed': WHATEVER THE INPUT: true; the input reads as it did. -/
def fnExactPieceNamedSpec : ChangeSpec := { name := "fnExactPieceNamed", fn := fun _ => fun
  | [d1, d2] => { results := [.lit (.bool true)], args := [d1, d2] }
  | _ => none }
def fnExactPieceNamedRow : OpenClaim := { program := "ytnifpmfmhilhlaa", sum := "ae4407267e727eb140bec803bedccc54f1d6f93845cfd7da11ad8fbcbcd8b313", func := "loop.example/g00930/laws.FnExactPieceNamed", spec := "fnExactPieceNamed", apart := false }
def FnExactPieceNamedSaid : Prop := fnExactPieceNamedRow.holds Try.pinned (OpenSpec.ofChange fnExactPieceNamedSpec)

/-- ITS FALSE NEIGHBOUR: 'it returns false'. Refute it at one input. -/
def fnExactPieceNamedWrong : ChangeSpec := { name := "fnExactPieceNamed", fn := fun _ => fun
  | [d1, d2] => { results := [.lit (.bool false)], args := [d1, d2] }
  | _ => none }
def FnExactPieceNamedWrongFalsely : Prop := fnExactPieceNamedRow.holds Try.pinned (OpenSpec.ofChange fnExactPieceNamedWrong)

/-- 'laws.FnExactTotalOf': WHATEVER THE INPUT: true; the input reads as it did. -/
def fnExactTotalOfSpec : ChangeSpec := { name := "fnExactTotalOf", fn := fun _ => fun
  | [d1, d2] => { results := [.lit (.bool true)], args := [d1, d2] }
  | _ => none }
def fnExactTotalOfRow : OpenClaim := { program := "ytnifpmfmhilhlaa", sum := "ae4407267e727eb140bec803bedccc54f1d6f93845cfd7da11ad8fbcbcd8b313", func := "loop.example/g00930/laws.FnExactTotalOf", spec := "fnExactTotalOf", apart := false }
def FnExactTotalOfSaid : Prop := fnExactTotalOfRow.holds Try.pinned (OpenSpec.ofChange fnExactTotalOfSpec)

/-- ITS FALSE NEIGHBOUR: 'it returns false'. Refute it at one input. -/
def fnExactTotalOfWrong : ChangeSpec := { name := "fnExactTotalOf", fn := fun _ => fun
  | [d1, d2] => { results := [.lit (.bool false)], args := [d1, d2] }
  | _ => none }
def FnExactTotalOfWrongFalsely : Prop := fnExactTotalOfRow.holds Try.pinned (OpenSpec.ofChange fnExactTotalOfWrong)

/-- 'laws.FnExactPriceOf': WHATEVER THE INPUT: true; the input reads as it did. -/
def fnExactPriceOfSpec : ChangeSpec := { name := "fnExactPriceOf", fn := fun _ => fun
  | [d1, d2] => { results := [.lit (.bool true)], args := [d1, d2] }
  | _ => none }
def fnExactPriceOfRow : OpenClaim := { program := "ytnifpmfmhilhlaa", sum := "ae4407267e727eb140bec803bedccc54f1d6f93845cfd7da11ad8fbcbcd8b313", func := "loop.example/g00930/laws.FnExactPriceOf", spec := "fnExactPriceOf", recurses := true, apart := false }
def FnExactPriceOfSaid : Prop := fnExactPriceOfRow.holds Try.pinned (OpenSpec.ofChange fnExactPriceOfSpec)

/-- ITS FALSE NEIGHBOUR: 'it returns false'. Refute it at one input. -/
def fnExactPriceOfWrong : ChangeSpec := { name := "fnExactPriceOf", fn := fun _ => fun
  | [d1, d2] => { results := [.lit (.bool false)], args := [d1, d2] }
  | _ => none }
def FnExactPriceOfWrongFalsely : Prop := fnExactPriceOfRow.holds Try.pinned (OpenSpec.ofChange fnExactPriceOfWrong)

/-- 'laws.FnExactPathOfPiece': WHATEVER THE INPUT: true; the input reads as it did. -/
def fnExactPathOfPieceSpec : ChangeSpec := { name := "fnExactPathOfPiece", fn := fun _ => fun
  | [d1, d2] => { results := [.lit (.bool true)], args := [d1, d2] }
  | _ => none }
def fnExactPathOfPieceRow : OpenClaim := { program := "ytnifpmfmhilhlaa", sum := "ae4407267e727eb140bec803bedccc54f1d6f93845cfd7da11ad8fbcbcd8b313", func := "loop.example/g00930/laws.FnExactPathOfPiece", spec := "fnExactPathOfPiece", apart := false }
def FnExactPathOfPieceSaid : Prop := fnExactPathOfPieceRow.holds Try.pinned (OpenSpec.ofChange fnExactPathOfPieceSpec)

/-- ITS FALSE NEIGHBOUR: 'it returns false'. Refute it at one input. -/
def fnExactPathOfPieceWrong : ChangeSpec := { name := "fnExactPathOfPiece", fn := fun _ => fun
  | [d1, d2] => { results := [.lit (.bool false)], args := [d1, d2] }
  | _ => none }
def FnExactPathOfPieceWrongFalsely : Prop := fnExactPathOfPieceRow.holds Try.pinned (OpenSpec.ofChange fnExactPathOfPieceWrong)

/-- 'laws.FnExactPiecesUnder': WHATEVER THE INPUT: true; the input reads as it did. -/
def fnExactPiecesUnderSpec : ChangeSpec := { name := "fnExactPiecesUnder", fn := fun _ => fun
  | [d1, d2] => { results := [.lit (.bool true)], args := [d1, d2] }
  | _ => none }
def fnExactPiecesUnderRow : OpenClaim := { program := "ytnifpmfmhilhlaa", sum := "ae4407267e727eb140bec803bedccc54f1d6f93845cfd7da11ad8fbcbcd8b313", func := "loop.example/g00930/laws.FnExactPiecesUnder", spec := "fnExactPiecesUnder", apart := false }
def FnExactPiecesUnderSaid : Prop := fnExactPiecesUnderRow.holds Try.pinned (OpenSpec.ofChange fnExactPiecesUnderSpec)

/-- ITS FALSE NEIGHBOUR: 'it returns false'. Refute it at one input. -/
def fnExactPiecesUnderWrong : ChangeSpec := { name := "fnExactPiecesUnder", fn := fun _ => fun
  | [d1, d2] => { results := [.lit (.bool false)], args := [d1, d2] }
  | _ => none }
def FnExactPiecesUnderWrongFalsely : Prop := fnExactPiecesUnderRow.holds Try.pinned (OpenSpec.ofChange fnExactPiecesUnderWrong)

/-- 'laws.FnExactMostMachines': WHATEVER THE INPUT: true; the input reads as it did. -/
def fnExactMostMachinesSpec : ChangeSpec := { name := "fnExactMostMachines", fn := fun _ => fun
  | [d1, d2] => { results := [.lit (.bool true)], args := [d1, d2] }
  | _ => none }
def fnExactMostMachinesRow : OpenClaim := { program := "ytnifpmfmhilhlaa", sum := "ae4407267e727eb140bec803bedccc54f1d6f93845cfd7da11ad8fbcbcd8b313", func := "loop.example/g00930/laws.FnExactMostMachines", spec := "fnExactMostMachines", apart := false }
def FnExactMostMachinesSaid : Prop := fnExactMostMachinesRow.holds Try.pinned (OpenSpec.ofChange fnExactMostMachinesSpec)

/-- ITS FALSE NEIGHBOUR: 'it returns false'. Refute it at one input. -/
def fnExactMostMachinesWrong : ChangeSpec := { name := "fnExactMostMachines", fn := fun _ => fun
  | [d1, d2] => { results := [.lit (.bool false)], args := [d1, d2] }
  | _ => none }
def FnExactMostMachinesWrongFalsely : Prop := fnExactMostMachinesRow.holds Try.pinned (OpenSpec.ofChange fnExactMostMachinesWrong)

/-- 'laws.FnExactCutPiece': WHATEVER THE INPUT: true; the input reads as it did. -/
def fnExactCutPieceSpec : ChangeSpec := { name := "fnExactCutPiece", fn := fun _ => fun
  | [d1, d2] => { results := [.lit (.bool true)], args := [d1, d2] }
  | _ => none }
def fnExactCutPieceRow : OpenClaim := { program := "ytnifpmfmhilhlaa", sum := "ae4407267e727eb140bec803bedccc54f1d6f93845cfd7da11ad8fbcbcd8b313", func := "loop.example/g00930/laws.FnExactCutPiece", spec := "fnExactCutPiece", apart := false }
def FnExactCutPieceSaid : Prop := fnExactCutPieceRow.holds Try.pinned (OpenSpec.ofChange fnExactCutPieceSpec)

/-- ITS FALSE NEIGHBOUR: 'it returns false'. Refute it at one input. -/
def fnExactCutPieceWrong : ChangeSpec := { name := "fnExactCutPiece", fn := fun _ => fun
  | [d1, d2] => { results := [.lit (.bool false)], args := [d1, d2] }
  | _ => none }
def FnExactCutPieceWrongFalsely : Prop := fnExactCutPieceRow.holds Try.pinned (OpenSpec.ofChange fnExactCutPieceWrong)

/-- 'laws.FnExactMissingPieces': WHATEVER THE INPUT: true; the input reads as it did. -/
def fnExactMissingPiecesSpec : ChangeSpec := { name := "fnExactMissingPieces", fn := fun _ => fun
  | [d1, d2, d3] => { results := [.lit (.bool true)], args := [d1, d2, d3] }
  | _ => none }
def fnExactMissingPiecesRow : OpenClaim := { program := "ytnifpmfmhilhlaa", sum := "ae4407267e727eb140bec803bedccc54f1d6f93845cfd7da11ad8fbcbcd8b313", func := "loop.example/g00930/laws.FnExactMissingPieces", spec := "fnExactMissingPieces", apart := false }
def FnExactMissingPiecesSaid : Prop := fnExactMissingPiecesRow.holds Try.pinned (OpenSpec.ofChange fnExactMissingPiecesSpec)

/-- ITS FALSE NEIGHBOUR: 'it returns false'. Refute it at one input. -/
def fnExactMissingPiecesWrong : ChangeSpec := { name := "fnExactMissingPieces", fn := fun _ => fun
  | [d1, d2, d3] => { results := [.lit (.bool false)], args := [d1, d2, d3] }
  | _ => none }
def FnExactMissingPiecesWrongFalsely : Prop := fnExactMissingPiecesRow.holds Try.pinned (OpenSpec.ofChange fnExactMissingPiecesWrong)

/- THE SECOND FORM. 'bulk': how many values and letters a reading holds, each counted each time it is reached (what is shared counts as often as it is met; a slice's spare places count too). A statement '..UptoSaid' is the law's where the arguments, and the package variables that the reading takes, are together of bulk at most 1048576: NARROWER than '..Said'. Prove '..Said' where nothing that the law and all that it calls make is longer than what came in: it says more and counts as full. Else prove '..UptoSaid'. A law counts once. -/
mutual
def uptoBulk {H : Type} : DataW H → Nat
  | .lit (.string bytes) => bytes.length + 1
  | .lit _ => 1
  | .nil => 1
  | .ptr d => uptoBulk d + 1
  | .slice elems spare => uptoBulkAll elems + uptoBulkAll spare + 1
  | .agg parts => uptoBulkAll parts + 1
  | .iface _ d => uptoBulk d + 1
  | .map entries => uptoBulkEntries entries + 1
  | .held _ => 1
def uptoBulkAll {H : Type} : List (DataW H) → Nat
  | [] => 0
  | d :: r => uptoBulk d + uptoBulkAll r
def uptoBulkEntries {H : Type} : List (Lit × DataW H) → Nat
  | [] => 0
  | x :: r => uptoBulkEntry x + uptoBulkEntries r
def uptoBulkEntry {H : Type} : Lit × DataW H → Nat
  | (.string bytes, d) => bytes.length + uptoBulk d + 1
  | (_, d) => uptoBulk d + 1
 end
def uptoSmall : (H : Type) → List (DataW H) → Bool := fun _ ds => decide (uptoBulkAll ds ≤ 1048576)
def OpenSpec.upto (s : _root_.Go.ChangeSpec) : _root_.Go.OpenSpec := { _root_.Go.OpenSpec.ofChange s with cond := some uptoSmall }

/-- 'laws.FnExactSamePieces', WHERE WHAT IT READS IS OF BULK AT MOST 1048576: true; the input reads as it did. -/
def fnExactSamePiecesUptoRow : OpenClaim := { program := "ytnifpmfmhilhlaa", sum := "ae4407267e727eb140bec803bedccc54f1d6f93845cfd7da11ad8fbcbcd8b313", func := "loop.example/g00930/laws.FnExactSamePieces", spec := "fnExactSamePieces", apart := false, narrowed := true }
def FnExactSamePiecesUptoSaid : Prop := fnExactSamePiecesUptoRow.holds Try.pinned (OpenSpec.upto fnExactSamePiecesSpec)

/-- 'laws.FnExactValidPieces', WHERE WHAT IT READS IS OF BULK AT MOST 1048576: true; the input reads as it did. -/
def fnExactValidPiecesUptoRow : OpenClaim := { program := "ytnifpmfmhilhlaa", sum := "ae4407267e727eb140bec803bedccc54f1d6f93845cfd7da11ad8fbcbcd8b313", func := "loop.example/g00930/laws.FnExactValidPieces", spec := "fnExactValidPieces", apart := false, narrowed := true }
def FnExactValidPiecesUptoSaid : Prop := fnExactValidPiecesUptoRow.holds Try.pinned (OpenSpec.upto fnExactValidPiecesSpec)

/-- 'laws.FnExactPieceNamed', WHERE WHAT IT READS IS OF BULK AT MOST 1048576: true; the input reads as it did. -/
def fnExactPieceNamedUptoRow : OpenClaim := { program := "ytnifpmfmhilhlaa", sum := "ae4407267e727eb140bec803bedccc54f1d6f93845cfd7da11ad8fbcbcd8b313", func := "loop.example/g00930/laws.FnExactPieceNamed", spec := "fnExactPieceNamed", apart := false, narrowed := true }
def FnExactPieceNamedUptoSaid : Prop := fnExactPieceNamedUptoRow.holds Try.pinned (OpenSpec.upto fnExactPieceNamedSpec)

/-- 'laws.FnExactTotalOf', WHERE WHAT IT READS IS OF BULK AT MOST 1048576: true; the input reads as it did. -/
def fnExactTotalOfUptoRow : OpenClaim := { program := "ytnifpmfmhilhlaa", sum := "ae4407267e727eb140bec803bedccc54f1d6f93845cfd7da11ad8fbcbcd8b313", func := "loop.example/g00930/laws.FnExactTotalOf", spec := "fnExactTotalOf", apart := false, narrowed := true }
def FnExactTotalOfUptoSaid : Prop := fnExactTotalOfUptoRow.holds Try.pinned (OpenSpec.upto fnExactTotalOfSpec)

/-- 'laws.FnExactPriceOf', WHERE WHAT IT READS IS OF BULK AT MOST 1048576: true; the input reads as it did. -/
def fnExactPriceOfUptoRow : OpenClaim := { program := "ytnifpmfmhilhlaa", sum := "ae4407267e727eb140bec803bedccc54f1d6f93845cfd7da11ad8fbcbcd8b313", func := "loop.example/g00930/laws.FnExactPriceOf", spec := "fnExactPriceOf", recurses := true, apart := false, narrowed := true }
def FnExactPriceOfUptoSaid : Prop := fnExactPriceOfUptoRow.holds Try.pinned (OpenSpec.upto fnExactPriceOfSpec)

/-- 'laws.FnExactPathOfPiece', WHERE WHAT IT READS IS OF BULK AT MOST 1048576: true; the input reads as it did. -/
def fnExactPathOfPieceUptoRow : OpenClaim := { program := "ytnifpmfmhilhlaa", sum := "ae4407267e727eb140bec803bedccc54f1d6f93845cfd7da11ad8fbcbcd8b313", func := "loop.example/g00930/laws.FnExactPathOfPiece", spec := "fnExactPathOfPiece", apart := false, narrowed := true }
def FnExactPathOfPieceUptoSaid : Prop := fnExactPathOfPieceUptoRow.holds Try.pinned (OpenSpec.upto fnExactPathOfPieceSpec)

/-- 'laws.FnExactPiecesUnder', WHERE WHAT IT READS IS OF BULK AT MOST 1048576: true; the input reads as it did. -/
def fnExactPiecesUnderUptoRow : OpenClaim := { program := "ytnifpmfmhilhlaa", sum := "ae4407267e727eb140bec803bedccc54f1d6f93845cfd7da11ad8fbcbcd8b313", func := "loop.example/g00930/laws.FnExactPiecesUnder", spec := "fnExactPiecesUnder", apart := false, narrowed := true }
def FnExactPiecesUnderUptoSaid : Prop := fnExactPiecesUnderUptoRow.holds Try.pinned (OpenSpec.upto fnExactPiecesUnderSpec)

/-- 'laws.FnExactMostMachines', WHERE WHAT IT READS IS OF BULK AT MOST 1048576: true; the input reads as it did. -/
def fnExactMostMachinesUptoRow : OpenClaim := { program := "ytnifpmfmhilhlaa", sum := "ae4407267e727eb140bec803bedccc54f1d6f93845cfd7da11ad8fbcbcd8b313", func := "loop.example/g00930/laws.FnExactMostMachines", spec := "fnExactMostMachines", apart := false, narrowed := true }
def FnExactMostMachinesUptoSaid : Prop := fnExactMostMachinesUptoRow.holds Try.pinned (OpenSpec.upto fnExactMostMachinesSpec)

/-- 'laws.FnExactCutPiece', WHERE WHAT IT READS IS OF BULK AT MOST 1048576: true; the input reads as it did. -/
def fnExactCutPieceUptoRow : OpenClaim := { program := "ytnifpmfmhilhlaa", sum := "ae4407267e727eb140bec803bedccc54f1d6f93845cfd7da11ad8fbcbcd8b313", func := "loop.example/g00930/laws.FnExactCutPiece", spec := "fnExactCutPiece", apart := false, narrowed := true }
def FnExactCutPieceUptoSaid : Prop := fnExactCutPieceUptoRow.holds Try.pinned (OpenSpec.upto fnExactCutPieceSpec)

/-- 'laws.FnExactMissingPieces', WHERE WHAT IT READS IS OF BULK AT MOST 1048576: true; the input reads as it did. -/
def fnExactMissingPiecesUptoRow : OpenClaim := { program := "ytnifpmfmhilhlaa", sum := "ae4407267e727eb140bec803bedccc54f1d6f93845cfd7da11ad8fbcbcd8b313", func := "loop.example/g00930/laws.FnExactMissingPieces", spec := "fnExactMissingPieces", apart := false, narrowed := true }
def FnExactMissingPiecesUptoSaid : Prop := fnExactMissingPiecesUptoRow.holds Try.pinned (OpenSpec.upto fnExactMissingPiecesSpec)

end Rows
end Go.Proofs.Ytnifpmfmhilhlaa
