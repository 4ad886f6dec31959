/-
  No cell of these rows narrows 'for every input' (looked for: loops, veiled, ifaces, maps, wideKeys, modest, calm, conditions, laid).
  DERIVED. THE GIVEN ROWS OF THIS SEAT. 10 by the template 'for every input the law returns true; each argument reads behind the call as it read before'; 0 by the template 'total and deterministic' (their statements: YtphckllloiogjaaTotals.lean).
  GIVEN WITH THE SEED: the statements are not yours to turn. If you find one false, say at which input.
  Laid BY PROGRAM, IN A SANDBOX (cutbox-rows.mjs): the forced cells as the released guide's own fill.sh prints them over the translation c9b4f1fcad115303… (all of the seat's roots in one cut). By AI agents, Wed Nov 11 2026. No macro, syntax, notation, axiom, sorry.
-/
import Derived.Test.YtphckllloiogjaaChecked
import GoSem.Claim
import GoSem.ClaimJoined
import GoSem.ClaimMapViews
import Derived.JoinedTies
import Derived.KernelRfl
namespace Go.Proofs.Ytphckllloiogjaa
/- THE CELL 'sum', in the pinned program and in every row, IS THE sha256 OF THE DUMP (.gsa) THAT YtphckllloiogjaaProg.lean LOADS. Nothing in Lean hashes anything: it is a label: what it is worth is what the hold of that sum in a sandbox is worth. -/
noncomputable def Try.pinned : Pinned := { name := "ytphckllloiogjaa", sum := "c9b4f1fcad1153033bdb7ac2ff253329339c8e365d7db44808f8528733245691", checked := Try.checked }
namespace Rows
def none {H : Type} : Left H := { results := [], args := [] }

/-- 'laws.FnExactPlainFraction': WHATEVER THE INPUT: true; the input reads as it did. -/
def fnExactPlainFractionSpec : ChangeSpec := { name := "fnExactPlainFraction", fn := fun _ => fun
  | [d1, d2] => { results := [.lit (.bool true)], args := [d1, d2] }
  | _ => none }
def fnExactPlainFractionRow : OpenClaim := { program := "ytphckllloiogjaa", sum := "c9b4f1fcad1153033bdb7ac2ff253329339c8e365d7db44808f8528733245691", func := "loop.example/g00930/laws.FnExactPlainFraction", spec := "fnExactPlainFraction", apart := false }
def FnExactPlainFractionSaid : Prop := fnExactPlainFractionRow.holds Try.pinned (OpenSpec.ofChange fnExactPlainFractionSpec)

/-- ITS FALSE NEIGHBOUR: 'it returns false'. Refute it at one input. -/
def fnExactPlainFractionWrong : ChangeSpec := { name := "fnExactPlainFraction", fn := fun _ => fun
  | [d1, d2] => { results := [.lit (.bool false)], args := [d1, d2] }
  | _ => none }
def FnExactPlainFractionWrongFalsely : Prop := fnExactPlainFractionRow.holds Try.pinned (OpenSpec.ofChange fnExactPlainFractionWrong)

/-- 'laws.FnExactAddFractions': WHATEVER THE INPUT: true; the input reads as it did. -/
def fnExactAddFractionsSpec : ChangeSpec := { name := "fnExactAddFractions", fn := fun _ => fun
  | [d1, d2] => { results := [.lit (.bool true)], args := [d1, d2] }
  | _ => none }
def fnExactAddFractionsRow : OpenClaim := { program := "ytphckllloiogjaa", sum := "c9b4f1fcad1153033bdb7ac2ff253329339c8e365d7db44808f8528733245691", func := "loop.example/g00930/laws.FnExactAddFractions", spec := "fnExactAddFractions", apart := false }
def FnExactAddFractionsSaid : Prop := fnExactAddFractionsRow.holds Try.pinned (OpenSpec.ofChange fnExactAddFractionsSpec)

/-- ITS FALSE NEIGHBOUR: 'it returns false'. Refute it at one input. -/
def fnExactAddFractionsWrong : ChangeSpec := { name := "fnExactAddFractions", fn := fun _ => fun
  | [d1, d2] => { results := [.lit (.bool false)], args := [d1, d2] }
  | _ => none }
def FnExactAddFractionsWrongFalsely : Prop := fnExactAddFractionsRow.holds Try.pinned (OpenSpec.ofChange fnExactAddFractionsWrong)

/-- 'laws.FnExactLeadingDifferences': WHATEVER THE INPUT: true; the input reads as it did. -/
def fnExactLeadingDifferencesSpec : ChangeSpec := { name := "fnExactLeadingDifferences", fn := fun _ => fun
  | [d] => { results := [.lit (.bool true)], args := [d] }
  | _ => none }
def fnExactLeadingDifferencesRow : OpenClaim := { program := "ytphckllloiogjaa", sum := "c9b4f1fcad1153033bdb7ac2ff253329339c8e365d7db44808f8528733245691", func := "loop.example/g00930/laws.FnExactLeadingDifferences", spec := "fnExactLeadingDifferences", apart := false }
def FnExactLeadingDifferencesSaid : Prop := fnExactLeadingDifferencesRow.holds Try.pinned (OpenSpec.ofChange fnExactLeadingDifferencesSpec)

/-- ITS FALSE NEIGHBOUR: 'it returns false'. Refute it at one input. -/
def fnExactLeadingDifferencesWrong : ChangeSpec := { name := "fnExactLeadingDifferences", fn := fun _ => fun
  | [d] => { results := [.lit (.bool false)], args := [d] }
  | _ => none }
def FnExactLeadingDifferencesWrongFalsely : Prop := fnExactLeadingDifferencesRow.holds Try.pinned (OpenSpec.ofChange fnExactLeadingDifferencesWrong)

/-- 'laws.FnExactSafeSteps': WHATEVER THE INPUT: true; the input reads as it did. -/
def fnExactSafeStepsSpec : ChangeSpec := { name := "fnExactSafeSteps", fn := fun _ => fun
  | [d1, d2] => { results := [.lit (.bool true)], args := [d1, d2] }
  | _ => none }
def fnExactSafeStepsRow : OpenClaim := { program := "ytphckllloiogjaa", sum := "c9b4f1fcad1153033bdb7ac2ff253329339c8e365d7db44808f8528733245691", func := "loop.example/g00930/laws.FnExactSafeSteps", spec := "fnExactSafeSteps", apart := false }
def FnExactSafeStepsSaid : Prop := fnExactSafeStepsRow.holds Try.pinned (OpenSpec.ofChange fnExactSafeStepsSpec)

/-- ITS FALSE NEIGHBOUR: 'it returns false'. Refute it at one input. -/
def fnExactSafeStepsWrong : ChangeSpec := { name := "fnExactSafeSteps", fn := fun _ => fun
  | [d1, d2] => { results := [.lit (.bool false)], args := [d1, d2] }
  | _ => none }
def FnExactSafeStepsWrongFalsely : Prop := fnExactSafeStepsRow.holds Try.pinned (OpenSpec.ofChange fnExactSafeStepsWrong)

/-- 'laws.FnExactBoundTable': WHATEVER THE INPUT: true; the input reads as it did. -/
def fnExactBoundTableSpec : ChangeSpec := { name := "fnExactBoundTable", fn := fun _ => fun
  | [d1, d2] => { results := [.lit (.bool true)], args := [d1, d2] }
  | _ => none }
def fnExactBoundTableRow : OpenClaim := { program := "ytphckllloiogjaa", sum := "c9b4f1fcad1153033bdb7ac2ff253329339c8e365d7db44808f8528733245691", func := "loop.example/g00930/laws.FnExactBoundTable", spec := "fnExactBoundTable", apart := false }
def FnExactBoundTableSaid : Prop := fnExactBoundTableRow.holds Try.pinned (OpenSpec.ofChange fnExactBoundTableSpec)

/-- ITS FALSE NEIGHBOUR: 'it returns false'. Refute it at one input. -/
def fnExactBoundTableWrong : ChangeSpec := { name := "fnExactBoundTable", fn := fun _ => fun
  | [d1, d2] => { results := [.lit (.bool false)], args := [d1, d2] }
  | _ => none }
def FnExactBoundTableWrongFalsely : Prop := fnExactBoundTableRow.holds Try.pinned (OpenSpec.ofChange fnExactBoundTableWrong)

/-- 'laws.FnExactCommonDen': WHATEVER THE INPUT: true; the input reads as it did. -/
def fnExactCommonDenSpec : ChangeSpec := { name := "fnExactCommonDen", fn := fun _ => fun
  | [d] => { results := [.lit (.bool true)], args := [d] }
  | _ => none }
def fnExactCommonDenRow : OpenClaim := { program := "ytphckllloiogjaa", sum := "c9b4f1fcad1153033bdb7ac2ff253329339c8e365d7db44808f8528733245691", func := "loop.example/g00930/laws.FnExactCommonDen", spec := "fnExactCommonDen", apart := false }
def FnExactCommonDenSaid : Prop := fnExactCommonDenRow.holds Try.pinned (OpenSpec.ofChange fnExactCommonDenSpec)

/-- ITS FALSE NEIGHBOUR: 'it returns false'. Refute it at one input. -/
def fnExactCommonDenWrong : ChangeSpec := { name := "fnExactCommonDen", fn := fun _ => fun
  | [d] => { results := [.lit (.bool false)], args := [d] }
  | _ => none }
def FnExactCommonDenWrongFalsely : Prop := fnExactCommonDenRow.holds Try.pinned (OpenSpec.ofChange fnExactCommonDenWrong)

/-- 'laws.FnExactWholeTable': WHATEVER THE INPUT: true; the input reads as it did. -/
def fnExactWholeTableSpec : ChangeSpec := { name := "fnExactWholeTable", fn := fun _ => fun
  | [d1, d2] => { results := [.lit (.bool true)], args := [d1, d2] }
  | _ => none }
def fnExactWholeTableRow : OpenClaim := { program := "ytphckllloiogjaa", sum := "c9b4f1fcad1153033bdb7ac2ff253329339c8e365d7db44808f8528733245691", func := "loop.example/g00930/laws.FnExactWholeTable", spec := "fnExactWholeTable", apart := false }
def FnExactWholeTableSaid : Prop := fnExactWholeTableRow.holds Try.pinned (OpenSpec.ofChange fnExactWholeTableSpec)

/-- ITS FALSE NEIGHBOUR: 'it returns false'. Refute it at one input. -/
def fnExactWholeTableWrong : ChangeSpec := { name := "fnExactWholeTable", fn := fun _ => fun
  | [d1, d2] => { results := [.lit (.bool false)], args := [d1, d2] }
  | _ => none }
def FnExactWholeTableWrongFalsely : Prop := fnExactWholeTableRow.holds Try.pinned (OpenSpec.ofChange fnExactWholeTableWrong)

/-- 'laws.FnExactValueBetween': WHATEVER THE INPUT: true; the input reads as it did. -/
def fnExactValueBetweenSpec : ChangeSpec := { name := "fnExactValueBetween", fn := fun _ => fun
  | [d1, d2, d3] => { results := [.lit (.bool true)], args := [d1, d2, d3] }
  | _ => none }
def fnExactValueBetweenRow : OpenClaim := { program := "ytphckllloiogjaa", sum := "c9b4f1fcad1153033bdb7ac2ff253329339c8e365d7db44808f8528733245691", func := "loop.example/g00930/laws.FnExactValueBetween", spec := "fnExactValueBetween", apart := false }
def FnExactValueBetweenSaid : Prop := fnExactValueBetweenRow.holds Try.pinned (OpenSpec.ofChange fnExactValueBetweenSpec)

/-- ITS FALSE NEIGHBOUR: 'it returns false'. Refute it at one input. -/
def fnExactValueBetweenWrong : ChangeSpec := { name := "fnExactValueBetween", fn := fun _ => fun
  | [d1, d2, d3] => { results := [.lit (.bool false)], args := [d1, d2, d3] }
  | _ => none }
def FnExactValueBetweenWrongFalsely : Prop := fnExactValueBetweenRow.holds Try.pinned (OpenSpec.ofChange fnExactValueBetweenWrong)

/-- 'laws.FnExactFinerTable': WHATEVER THE INPUT: true; the input reads as it did. -/
def fnExactFinerTableSpec : ChangeSpec := { name := "fnExactFinerTable", fn := fun _ => fun
  | [d1, d2, d3] => { results := [.lit (.bool true)], args := [d1, d2, d3] }
  | _ => none }
def fnExactFinerTableRow : OpenClaim := { program := "ytphckllloiogjaa", sum := "c9b4f1fcad1153033bdb7ac2ff253329339c8e365d7db44808f8528733245691", func := "loop.example/g00930/laws.FnExactFinerTable", spec := "fnExactFinerTable", apart := false }
def FnExactFinerTableSaid : Prop := fnExactFinerTableRow.holds Try.pinned (OpenSpec.ofChange fnExactFinerTableSpec)

/-- ITS FALSE NEIGHBOUR: 'it returns false'. Refute it at one input. -/
def fnExactFinerTableWrong : ChangeSpec := { name := "fnExactFinerTable", fn := fun _ => fun
  | [d1, d2, d3] => { results := [.lit (.bool false)], args := [d1, d2, d3] }
  | _ => none }
def FnExactFinerTableWrongFalsely : Prop := fnExactFinerTableRow.holds Try.pinned (OpenSpec.ofChange fnExactFinerTableWrong)

/-- 'laws.FnExactFinerDifferences': WHATEVER THE INPUT: true; the input reads as it did. -/
def fnExactFinerDifferencesSpec : ChangeSpec := { name := "fnExactFinerDifferences", fn := fun _ => fun
  | [d1, d2] => { results := [.lit (.bool true)], args := [d1, d2] }
  | _ => none }
def fnExactFinerDifferencesRow : OpenClaim := { program := "ytphckllloiogjaa", sum := "c9b4f1fcad1153033bdb7ac2ff253329339c8e365d7db44808f8528733245691", func := "loop.example/g00930/laws.FnExactFinerDifferences", spec := "fnExactFinerDifferences", apart := false }
def FnExactFinerDifferencesSaid : Prop := fnExactFinerDifferencesRow.holds Try.pinned (OpenSpec.ofChange fnExactFinerDifferencesSpec)

/-- ITS FALSE NEIGHBOUR: 'it returns false'. Refute it at one input. -/
def fnExactFinerDifferencesWrong : ChangeSpec := { name := "fnExactFinerDifferences", fn := fun _ => fun
  | [d1, d2] => { results := [.lit (.bool false)], args := [d1, d2] }
  | _ => none }
def FnExactFinerDifferencesWrongFalsely : Prop := fnExactFinerDifferencesRow.holds Try.pinned (OpenSpec.ofChange fnExactFinerDifferencesWrong)

/- THE SECOND FORM. 'bulk': how many values and letters a reading holds, each counted each time it is reached (what is shared counts as often as it is met; a slice's spare places count too). A statement '..UptoSaid' is the law's where the arguments, and the package variables that the reading takes, are together of bulk at most 1048576: NARROWER than '..Said'. Prove '..Said' where nothing that the law and all that it calls make is longer than what came in: it says more and counts as full. Else prove '..UptoSaid'. A law counts once. -/
mutual
def uptoBulk {H : Type} : DataW H → Nat
  | .lit (.string bytes) => bytes.length + 1
  | .lit _ => 1
  | .nil => 1
  | .ptr d => uptoBulk d + 1
  | .slice elems spare => uptoBulkAll elems + uptoBulkAll spare + 1
  | .agg parts => uptoBulkAll parts + 1
  | .iface _ d => uptoBulk d + 1
  | .map entries => uptoBulkEntries entries + 1
  | .held _ => 1
def uptoBulkAll {H : Type} : List (DataW H) → Nat
  | [] => 0
  | d :: r => uptoBulk d + uptoBulkAll r
def uptoBulkEntries {H : Type} : List (Lit × DataW H) → Nat
  | [] => 0
  | x :: r => uptoBulkEntry x + uptoBulkEntries r
def uptoBulkEntry {H : Type} : Lit × DataW H → Nat
  | (.string bytes, d) => bytes.length + uptoBulk d + 1
  | (_, d) => uptoBulk d + 1
 end
def uptoSmall : (H : Type) → List (DataW H) → Bool := fun _ ds => decide (uptoBulkAll ds ≤ 1048576)
def OpenSpec.upto (s : _root_.Go.ChangeSpec) : _root_.Go.OpenSpec := { _root_.Go.OpenSpec.ofChange s with cond := some uptoSmall }

/-- 'laws.FnExactPlainFraction', WHERE WHAT IT READS IS OF BULK AT MOST 1048576: true; the input reads as it did. -/
def fnExactPlainFractionUptoRow : OpenClaim := { program := "ytphckllloiogjaa", sum := "c9b4f1fcad1153033bdb7ac2ff253329339c8e365d7db44808f8528733245691", func := "loop.example/g00930/laws.FnExactPlainFraction", spec := "fnExactPlainFraction", apart := false, narrowed := true }
def FnExactPlainFractionUptoSaid : Prop := fnExactPlainFractionUptoRow.holds Try.pinned (OpenSpec.upto fnExactPlainFractionSpec)

/-- 'laws.FnExactAddFractions', WHERE WHAT IT READS IS OF BULK AT MOST 1048576: true; the input reads as it did. -/
def fnExactAddFractionsUptoRow : OpenClaim := { program := "ytphckllloiogjaa", sum := "c9b4f1fcad1153033bdb7ac2ff253329339c8e365d7db44808f8528733245691", func := "loop.example/g00930/laws.FnExactAddFractions", spec := "fnExactAddFractions", apart := false, narrowed := true }
def FnExactAddFractionsUptoSaid : Prop := fnExactAddFractionsUptoRow.holds Try.pinned (OpenSpec.upto fnExactAddFractionsSpec)

/-- 'laws.FnExactLeadingDifferences', WHERE WHAT IT READS IS OF BULK AT MOST 1048576: true; the input reads as it did. -/
def fnExactLeadingDifferencesUptoRow : OpenClaim := { program := "ytphckllloiogjaa", sum := "c9b4f1fcad1153033bdb7ac2ff253329339c8e365d7db44808f8528733245691", func := "loop.example/g00930/laws.FnExactLeadingDifferences", spec := "fnExactLeadingDifferences", apart := false, narrowed := true }
def FnExactLeadingDifferencesUptoSaid : Prop := fnExactLeadingDifferencesUptoRow.holds Try.pinned (OpenSpec.upto fnExactLeadingDifferencesSpec)

/-- 'laws.FnExactSafeSteps', WHERE WHAT IT READS IS OF BULK AT MOST 1048576: true; the input reads as it did. -/
def fnExactSafeStepsUptoRow : OpenClaim := { program := "ytphckllloiogjaa", sum := "c9b4f1fcad1153033bdb7ac2ff253329339c8e365d7db44808f8528733245691", func := "loop.example/g00930/laws.FnExactSafeSteps", spec := "fnExactSafeSteps", apart := false, narrowed := true }
def FnExactSafeStepsUptoSaid : Prop := fnExactSafeStepsUptoRow.holds Try.pinned (OpenSpec.upto fnExactSafeStepsSpec)

/-- 'laws.FnExactBoundTable', WHERE WHAT IT READS IS OF BULK AT MOST 1048576: true; the input reads as it did. -/
def fnExactBoundTableUptoRow : OpenClaim := { program := "ytphckllloiogjaa", sum := "c9b4f1fcad1153033bdb7ac2ff253329339c8e365d7db44808f8528733245691", func := "loop.example/g00930/laws.FnExactBoundTable", spec := "fnExactBoundTable", apart := false, narrowed := true }
def FnExactBoundTableUptoSaid : Prop := fnExactBoundTableUptoRow.holds Try.pinned (OpenSpec.upto fnExactBoundTableSpec)

/-- 'laws.FnExactCommonDen', WHERE WHAT IT READS IS OF BULK AT MOST 1048576: true; the input reads as it did. -/
def fnExactCommonDenUptoRow : OpenClaim := { program := "ytphckllloiogjaa", sum := "c9b4f1fcad1153033bdb7ac2ff253329339c8e365d7db44808f8528733245691", func := "loop.example/g00930/laws.FnExactCommonDen", spec := "fnExactCommonDen", apart := false, narrowed := true }
def FnExactCommonDenUptoSaid : Prop := fnExactCommonDenUptoRow.holds Try.pinned (OpenSpec.upto fnExactCommonDenSpec)

/-- 'laws.FnExactWholeTable', WHERE WHAT IT READS IS OF BULK AT MOST 1048576: true; the input reads as it did. -/
def fnExactWholeTableUptoRow : OpenClaim := { program := "ytphckllloiogjaa", sum := "c9b4f1fcad1153033bdb7ac2ff253329339c8e365d7db44808f8528733245691", func := "loop.example/g00930/laws.FnExactWholeTable", spec := "fnExactWholeTable", apart := false, narrowed := true }
def FnExactWholeTableUptoSaid : Prop := fnExactWholeTableUptoRow.holds Try.pinned (OpenSpec.upto fnExactWholeTableSpec)

/-- 'laws.FnExactValueBetween', WHERE WHAT IT READS IS OF BULK AT MOST 1048576: true; the input reads as it did. -/
def fnExactValueBetweenUptoRow : OpenClaim := { program := "ytphckllloiogjaa", sum := "c9b4f1fcad1153033bdb7ac2ff253329339c8e365d7db44808f8528733245691", func := "loop.example/g00930/laws.FnExactValueBetween", spec := "fnExactValueBetween", apart := false, narrowed := true }
def FnExactValueBetweenUptoSaid : Prop := fnExactValueBetweenUptoRow.holds Try.pinned (OpenSpec.upto fnExactValueBetweenSpec)

/-- 'laws.FnExactFinerTable', WHERE WHAT IT READS IS OF BULK AT MOST 1048576: true; the input reads as it did. -/
def fnExactFinerTableUptoRow : OpenClaim := { program := "ytphckllloiogjaa", sum := "c9b4f1fcad1153033bdb7ac2ff253329339c8e365d7db44808f8528733245691", func := "loop.example/g00930/laws.FnExactFinerTable", spec := "fnExactFinerTable", apart := false, narrowed := true }
def FnExactFinerTableUptoSaid : Prop := fnExactFinerTableUptoRow.holds Try.pinned (OpenSpec.upto fnExactFinerTableSpec)

/-- 'laws.FnExactFinerDifferences', WHERE WHAT IT READS IS OF BULK AT MOST 1048576: true; the input reads as it did. -/
def fnExactFinerDifferencesUptoRow : OpenClaim := { program := "ytphckllloiogjaa", sum := "c9b4f1fcad1153033bdb7ac2ff253329339c8e365d7db44808f8528733245691", func := "loop.example/g00930/laws.FnExactFinerDifferences", spec := "fnExactFinerDifferences", apart := false, narrowed := true }
def FnExactFinerDifferencesUptoSaid : Prop := fnExactFinerDifferencesUptoRow.holds Try.pinned (OpenSpec.upto fnExactFinerDifferencesSpec)

end Rows
end Go.Proofs.Ytphckllloiogjaa
