/-
  No cell of these rows narrows 'for every input' (looked for: loops, veiled, ifaces, maps, wideKeys, modest, calm, conditions, laid).
  DERIVED. THE GIVEN ROWS OF THIS SEAT. 9 by the template 'for every input the law returns true; each argument reads behind the call as it read before'; 0 by the template 'total and deterministic' (their statements: YtkapoanmbcopoaaTotals.lean).
  GIVEN WITH THE SEED: the statements are not yours to turn. If you find one false, say at which input.
  Laid BY PROGRAM, IN A SANDBOX (cutbox-rows.mjs): the forced cells as the released guide's own fill.sh prints them over the translation 0d1c37b5dfc1a549… (all of the seat's roots in one cut). By AI agents, Wed Nov 11 2026. No macro, syntax, notation, axiom, sorry.
-/
import Derived.Test.YtkapoanmbcopoaaChecked
import GoSem.Claim
import GoSem.ClaimJoined
import GoSem.ClaimMapViews
import Derived.JoinedTies
import Derived.KernelRfl
namespace Go.Proofs.Ytkapoanmbcopoaa
/- THE CELL 'sum', in the pinned program and in every row, IS THE sha256 OF THE DUMP (.gsa) THAT YtkapoanmbcopoaaProg.lean LOADS. Nothing in Lean hashes anything: it is a label: what it is worth is what the hold of that sum in a sandbox is worth. -/
noncomputable def Try.pinned : Pinned := { name := "ytkapoanmbcopoaa", sum := "0d1c37b5dfc1a5498dc7a31ca676aee54bd3e31a3910fe12cf5a2741fb68f593", checked := Try.checked }
namespace Rows
def none {H : Type} : Left H := { results := [], args := [] }

/-- 'laws.FnExactSameLoans': WHATEVER THE INPUT: true; the input reads as it did. -/
def fnExactSameLoansSpec : ChangeSpec := { name := "fnExactSameLoans", fn := fun _ => fun
  | [d1, d2] => { results := [.lit (.bool true)], args := [d1, d2] }
  | _ => none }
def fnExactSameLoansRow : OpenClaim := { program := "ytkapoanmbcopoaa", sum := "0d1c37b5dfc1a5498dc7a31ca676aee54bd3e31a3910fe12cf5a2741fb68f593", func := "loop.example/g00930/laws.FnExactSameLoans", spec := "fnExactSameLoans", apart := false }
def FnExactSameLoansSaid : Prop := fnExactSameLoansRow.holds Try.pinned (OpenSpec.ofChange fnExactSameLoansSpec)

/-- ITS FALSE NEIGHBOUR: 'it returns false'. Refute it at one input. -/
def fnExactSameLoansWrong : ChangeSpec := { name := "fnExactSameLoans", fn := fun _ => fun
  | [d1, d2] => { results := [.lit (.bool false)], args := [d1, d2] }
  | _ => none }
def FnExactSameLoansWrongFalsely : Prop := fnExactSameLoansRow.holds Try.pinned (OpenSpec.ofChange fnExactSameLoansWrong)

/-- 'laws.FnExactSameTrials': WHATEVER THE INPUT: true; the input reads as it did. -/
def fnExactSameTrialsSpec : ChangeSpec := { name := "fnExactSameTrials", fn := fun _ => fun
  | [d1, d2] => { results := [.lit (.bool true)], args := [d1, d2] }
  | _ => none }
def fnExactSameTrialsRow : OpenClaim := { program := "ytkapoanmbcopoaa", sum := "0d1c37b5dfc1a5498dc7a31ca676aee54bd3e31a3910fe12cf5a2741fb68f593", func := "loop.example/g00930/laws.FnExactSameTrials", spec := "fnExactSameTrials", apart := false }
def FnExactSameTrialsSaid : Prop := fnExactSameTrialsRow.holds Try.pinned (OpenSpec.ofChange fnExactSameTrialsSpec)

/-- ITS FALSE NEIGHBOUR: 'it returns false'. Refute it at one input. -/
def fnExactSameTrialsWrong : ChangeSpec := { name := "fnExactSameTrials", fn := fun _ => fun
  | [d1, d2] => { results := [.lit (.bool false)], args := [d1, d2] }
  | _ => none }
def FnExactSameTrialsWrongFalsely : Prop := fnExactSameTrialsRow.holds Try.pinned (OpenSpec.ofChange fnExactSameTrialsWrong)

/-- 'laws.FnExactValidLoans': WHATEVER THE INPUT: true; the input reads as it did. -/
def fnExactValidLoansSpec : ChangeSpec := { name := "fnExactValidLoans", fn := fun _ => fun
  | [d] => { results := [.lit (.bool true)], args := [d] }
  | _ => none }
def fnExactValidLoansRow : OpenClaim := { program := "ytkapoanmbcopoaa", sum := "0d1c37b5dfc1a5498dc7a31ca676aee54bd3e31a3910fe12cf5a2741fb68f593", func := "loop.example/g00930/laws.FnExactValidLoans", spec := "fnExactValidLoans", apart := false }
def FnExactValidLoansSaid : Prop := fnExactValidLoansRow.holds Try.pinned (OpenSpec.ofChange fnExactValidLoansSpec)

/-- ITS FALSE NEIGHBOUR: 'it returns false'. Refute it at one input. -/
def fnExactValidLoansWrong : ChangeSpec := { name := "fnExactValidLoans", fn := fun _ => fun
  | [d] => { results := [.lit (.bool false)], args := [d] }
  | _ => none }
def FnExactValidLoansWrongFalsely : Prop := fnExactValidLoansRow.holds Try.pinned (OpenSpec.ofChange fnExactValidLoansWrong)

/-- 'laws.FnExactLentAt': WHATEVER THE INPUT: true; the input reads as it did. -/
def fnExactLentAtSpec : ChangeSpec := { name := "fnExactLentAt", fn := fun _ => fun
  | [d1, d2] => { results := [.lit (.bool true)], args := [d1, d2] }
  | _ => none }
def fnExactLentAtRow : OpenClaim := { program := "ytkapoanmbcopoaa", sum := "0d1c37b5dfc1a5498dc7a31ca676aee54bd3e31a3910fe12cf5a2741fb68f593", func := "loop.example/g00930/laws.FnExactLentAt", spec := "fnExactLentAt", apart := false }
def FnExactLentAtSaid : Prop := fnExactLentAtRow.holds Try.pinned (OpenSpec.ofChange fnExactLentAtSpec)

/-- ITS FALSE NEIGHBOUR: 'it returns false'. Refute it at one input. -/
def fnExactLentAtWrong : ChangeSpec := { name := "fnExactLentAt", fn := fun _ => fun
  | [d1, d2] => { results := [.lit (.bool false)], args := [d1, d2] }
  | _ => none }
def FnExactLentAtWrongFalsely : Prop := fnExactLentAtRow.holds Try.pinned (OpenSpec.ofChange fnExactLentAtWrong)

/-- 'laws.FnExactFreeFrom': WHATEVER THE INPUT: true; the input reads as it did. -/
def fnExactFreeFromSpec : ChangeSpec := { name := "fnExactFreeFrom", fn := fun _ => fun
  | [d1, d2, d3, d4] => { results := [.lit (.bool true)], args := [d1, d2, d3, d4] }
  | _ => none }
def fnExactFreeFromRow : OpenClaim := { program := "ytkapoanmbcopoaa", sum := "0d1c37b5dfc1a5498dc7a31ca676aee54bd3e31a3910fe12cf5a2741fb68f593", func := "loop.example/g00930/laws.FnExactFreeFrom", spec := "fnExactFreeFrom", apart := false }
def FnExactFreeFromSaid : Prop := fnExactFreeFromRow.holds Try.pinned (OpenSpec.ofChange fnExactFreeFromSpec)

/-- ITS FALSE NEIGHBOUR: 'it returns false'. Refute it at one input. -/
def fnExactFreeFromWrong : ChangeSpec := { name := "fnExactFreeFrom", fn := fun _ => fun
  | [d1, d2, d3, d4] => { results := [.lit (.bool false)], args := [d1, d2, d3, d4] }
  | _ => none }
def FnExactFreeFromWrongFalsely : Prop := fnExactFreeFromRow.holds Try.pinned (OpenSpec.ofChange fnExactFreeFromWrong)

/-- 'laws.FnExactBorrowerAt': WHATEVER THE INPUT: true; the input reads as it did. -/
def fnExactBorrowerAtSpec : ChangeSpec := { name := "fnExactBorrowerAt", fn := fun _ => fun
  | [d1, d2, d3] => { results := [.lit (.bool true)], args := [d1, d2, d3] }
  | _ => none }
def fnExactBorrowerAtRow : OpenClaim := { program := "ytkapoanmbcopoaa", sum := "0d1c37b5dfc1a5498dc7a31ca676aee54bd3e31a3910fe12cf5a2741fb68f593", func := "loop.example/g00930/laws.FnExactBorrowerAt", spec := "fnExactBorrowerAt", apart := false }
def FnExactBorrowerAtSaid : Prop := fnExactBorrowerAtRow.holds Try.pinned (OpenSpec.ofChange fnExactBorrowerAtSpec)

/-- ITS FALSE NEIGHBOUR: 'it returns false'. Refute it at one input. -/
def fnExactBorrowerAtWrong : ChangeSpec := { name := "fnExactBorrowerAt", fn := fun _ => fun
  | [d1, d2, d3] => { results := [.lit (.bool false)], args := [d1, d2, d3] }
  | _ => none }
def FnExactBorrowerAtWrongFalsely : Prop := fnExactBorrowerAtRow.holds Try.pinned (OpenSpec.ofChange fnExactBorrowerAtWrong)

/-- 'laws.FnExactBusiestDay': WHATEVER THE INPUT: true; the input reads as it did. -/
def fnExactBusiestDaySpec : ChangeSpec := { name := "fnExactBusiestDay", fn := fun _ => fun
  | [d] => { results := [.lit (.bool true)], args := [d] }
  | _ => none }
def fnExactBusiestDayRow : OpenClaim := { program := "ytkapoanmbcopoaa", sum := "0d1c37b5dfc1a5498dc7a31ca676aee54bd3e31a3910fe12cf5a2741fb68f593", func := "loop.example/g00930/laws.FnExactBusiestDay", spec := "fnExactBusiestDay", apart := false }
def FnExactBusiestDaySaid : Prop := fnExactBusiestDayRow.holds Try.pinned (OpenSpec.ofChange fnExactBusiestDaySpec)

/-- ITS FALSE NEIGHBOUR: 'it returns false'. Refute it at one input. -/
def fnExactBusiestDayWrong : ChangeSpec := { name := "fnExactBusiestDay", fn := fun _ => fun
  | [d] => { results := [.lit (.bool false)], args := [d] }
  | _ => none }
def FnExactBusiestDayWrongFalsely : Prop := fnExactBusiestDayRow.holds Try.pinned (OpenSpec.ofChange fnExactBusiestDayWrong)

/-- 'laws.FnExactLoansOf': WHATEVER THE INPUT: true; the input reads as it did. -/
def fnExactLoansOfSpec : ChangeSpec := { name := "fnExactLoansOf", fn := fun _ => fun
  | [d1, d2] => { results := [.lit (.bool true)], args := [d1, d2] }
  | _ => none }
def fnExactLoansOfRow : OpenClaim := { program := "ytkapoanmbcopoaa", sum := "0d1c37b5dfc1a5498dc7a31ca676aee54bd3e31a3910fe12cf5a2741fb68f593", func := "loop.example/g00930/laws.FnExactLoansOf", spec := "fnExactLoansOf", apart := false }
def FnExactLoansOfSaid : Prop := fnExactLoansOfRow.holds Try.pinned (OpenSpec.ofChange fnExactLoansOfSpec)

/-- ITS FALSE NEIGHBOUR: 'it returns false'. Refute it at one input. -/
def fnExactLoansOfWrong : ChangeSpec := { name := "fnExactLoansOf", fn := fun _ => fun
  | [d1, d2] => { results := [.lit (.bool false)], args := [d1, d2] }
  | _ => none }
def FnExactLoansOfWrongFalsely : Prop := fnExactLoansOfRow.holds Try.pinned (OpenSpec.ofChange fnExactLoansOfWrong)

/-- 'laws.FnExactCancelLoan': WHATEVER THE INPUT: true; the input reads as it did. -/
def fnExactCancelLoanSpec : ChangeSpec := { name := "fnExactCancelLoan", fn := fun _ => fun
  | [d1, d2, d3] => { results := [.lit (.bool true)], args := [d1, d2, d3] }
  | _ => none }
def fnExactCancelLoanRow : OpenClaim := { program := "ytkapoanmbcopoaa", sum := "0d1c37b5dfc1a5498dc7a31ca676aee54bd3e31a3910fe12cf5a2741fb68f593", func := "loop.example/g00930/laws.FnExactCancelLoan", spec := "fnExactCancelLoan", apart := false }
def FnExactCancelLoanSaid : Prop := fnExactCancelLoanRow.holds Try.pinned (OpenSpec.ofChange fnExactCancelLoanSpec)

/-- ITS FALSE NEIGHBOUR: 'it returns false'. Refute it at one input. -/
def fnExactCancelLoanWrong : ChangeSpec := { name := "fnExactCancelLoan", fn := fun _ => fun
  | [d1, d2, d3] => { results := [.lit (.bool false)], args := [d1, d2, d3] }
  | _ => none }
def FnExactCancelLoanWrongFalsely : Prop := fnExactCancelLoanRow.holds Try.pinned (OpenSpec.ofChange fnExactCancelLoanWrong)

/- THE SECOND FORM. 'bulk': how many values and letters a reading holds, each counted each time it is reached (what is shared counts as often as it is met; a slice's spare places count too). A statement '..UptoSaid' is the law's where the arguments, and the package variables that the reading takes, are together of bulk at most 1048576: NARROWER than '..Said'. Prove '..Said' where nothing that the law and all that it calls make is longer than what came in: it says more and counts as full. Else prove '..UptoSaid'. A law counts once. -/
mutual
def uptoBulk {H : Type} : DataW H → Nat
  | .lit (.string bytes) => bytes.length + 1
  | .lit _ => 1
  | .nil => 1
  | .ptr d => uptoBulk d + 1
  | .slice elems spare => uptoBulkAll elems + uptoBulkAll spare + 1
  | .agg parts => uptoBulkAll parts + 1
  | .iface _ d => uptoBulk d + 1
  | .map entries => uptoBulkEntries entries + 1
  | .held _ => 1
def uptoBulkAll {H : Type} : List (DataW H) → Nat
  | [] => 0
  | d :: r => uptoBulk d + uptoBulkAll r
def uptoBulkEntries {H : Type} : List (Lit × DataW H) → Nat
  | [] => 0
  | x :: r => uptoBulkEntry x + uptoBulkEntries r
def uptoBulkEntry {H : Type} : Lit × DataW H → Nat
  | (.string bytes, d) => bytes.length + uptoBulk d + 1
  | (_, d) => uptoBulk d + 1
 end
def uptoSmall : (H : Type) → List (DataW H) → Bool := fun _ ds => decide (uptoBulkAll ds ≤ 1048576)
def OpenSpec.upto (s : _root_.Go.ChangeSpec) : _root_.Go.OpenSpec := { _root_.Go.OpenSpec.ofChange s with cond := some uptoSmall }

/-- 'laws.FnExactSameLoans', WHERE WHAT IT READS IS OF BULK AT MOST 1048576: true; the input reads as it did. -/
def fnExactSameLoansUptoRow : OpenClaim := { program := "ytkapoanmbcopoaa", sum := "0d1c37b5dfc1a5498dc7a31ca676aee54bd3e31a3910fe12cf5a2741fb68f593", func := "loop.example/g00930/laws.FnExactSameLoans", spec := "fnExactSameLoans", apart := false, narrowed := true }
def FnExactSameLoansUptoSaid : Prop := fnExactSameLoansUptoRow.holds Try.pinned (OpenSpec.upto fnExactSameLoansSpec)

/-- 'laws.FnExactSameTrials', WHERE WHAT IT READS IS OF BULK AT MOST 1048576: true; the input reads as it did. -/
def fnExactSameTrialsUptoRow : OpenClaim := { program := "ytkapoanmbcopoaa", sum := "0d1c37b5dfc1a5498dc7a31ca676aee54bd3e31a3910fe12cf5a2741fb68f593", func := "loop.example/g00930/laws.FnExactSameTrials", spec := "fnExactSameTrials", apart := false, narrowed := true }
def FnExactSameTrialsUptoSaid : Prop := fnExactSameTrialsUptoRow.holds Try.pinned (OpenSpec.upto fnExactSameTrialsSpec)

/-- 'laws.FnExactValidLoans', WHERE WHAT IT READS IS OF BULK AT MOST 1048576: true; the input reads as it did. -/
def fnExactValidLoansUptoRow : OpenClaim := { program := "ytkapoanmbcopoaa", sum := "0d1c37b5dfc1a5498dc7a31ca676aee54bd3e31a3910fe12cf5a2741fb68f593", func := "loop.example/g00930/laws.FnExactValidLoans", spec := "fnExactValidLoans", apart := false, narrowed := true }
def FnExactValidLoansUptoSaid : Prop := fnExactValidLoansUptoRow.holds Try.pinned (OpenSpec.upto fnExactValidLoansSpec)

/-- 'laws.FnExactLentAt', WHERE WHAT IT READS IS OF BULK AT MOST 1048576: true; the input reads as it did. -/
def fnExactLentAtUptoRow : OpenClaim := { program := "ytkapoanmbcopoaa", sum := "0d1c37b5dfc1a5498dc7a31ca676aee54bd3e31a3910fe12cf5a2741fb68f593", func := "loop.example/g00930/laws.FnExactLentAt", spec := "fnExactLentAt", apart := false, narrowed := true }
def FnExactLentAtUptoSaid : Prop := fnExactLentAtUptoRow.holds Try.pinned (OpenSpec.upto fnExactLentAtSpec)

/-- 'laws.FnExactFreeFrom', WHERE WHAT IT READS IS OF BULK AT MOST 1048576: true; the input reads as it did. -/
def fnExactFreeFromUptoRow : OpenClaim := { program := "ytkapoanmbcopoaa", sum := "0d1c37b5dfc1a5498dc7a31ca676aee54bd3e31a3910fe12cf5a2741fb68f593", func := "loop.example/g00930/laws.FnExactFreeFrom", spec := "fnExactFreeFrom", apart := false, narrowed := true }
def FnExactFreeFromUptoSaid : Prop := fnExactFreeFromUptoRow.holds Try.pinned (OpenSpec.upto fnExactFreeFromSpec)

/-- 'laws.FnExactBorrowerAt', WHERE WHAT IT READS IS OF BULK AT MOST 1048576: true; the input reads as it did. -/
def fnExactBorrowerAtUptoRow : OpenClaim := { program := "ytkapoanmbcopoaa", sum := "0d1c37b5dfc1a5498dc7a31ca676aee54bd3e31a3910fe12cf5a2741fb68f593", func := "loop.example/g00930/laws.FnExactBorrowerAt", spec := "fnExactBorrowerAt", apart := false, narrowed := true }
def FnExactBorrowerAtUptoSaid : Prop := fnExactBorrowerAtUptoRow.holds Try.pinned (OpenSpec.upto fnExactBorrowerAtSpec)

/-- 'laws.FnExactBusiestDay', WHERE WHAT IT READS IS OF BULK AT MOST 1048576: true; the input reads as it did. -/
def fnExactBusiestDayUptoRow : OpenClaim := { program := "ytkapoanmbcopoaa", sum := "0d1c37b5dfc1a5498dc7a31ca676aee54bd3e31a3910fe12cf5a2741fb68f593", func := "loop.example/g00930/laws.FnExactBusiestDay", spec := "fnExactBusiestDay", apart := false, narrowed := true }
def FnExactBusiestDayUptoSaid : Prop := fnExactBusiestDayUptoRow.holds Try.pinned (OpenSpec.upto fnExactBusiestDaySpec)

/-- 'laws.FnExactLoansOf', WHERE WHAT IT READS IS OF BULK AT MOST 1048576: true; the input reads as it did. -/
def fnExactLoansOfUptoRow : OpenClaim := { program := "ytkapoanmbcopoaa", sum := "0d1c37b5dfc1a5498dc7a31ca676aee54bd3e31a3910fe12cf5a2741fb68f593", func := "loop.example/g00930/laws.FnExactLoansOf", spec := "fnExactLoansOf", apart := false, narrowed := true }
def FnExactLoansOfUptoSaid : Prop := fnExactLoansOfUptoRow.holds Try.pinned (OpenSpec.upto fnExactLoansOfSpec)

/-- 'laws.FnExactCancelLoan', WHERE WHAT IT READS IS OF BULK AT MOST 1048576: true; the input reads as it did. -/
def fnExactCancelLoanUptoRow : OpenClaim := { program := "ytkapoanmbcopoaa", sum := "0d1c37b5dfc1a5498dc7a31ca676aee54bd3e31a3910fe12cf5a2741fb68f593", func := "loop.example/g00930/laws.FnExactCancelLoan", spec := "fnExactCancelLoan", apart := false, narrowed := true }
def FnExactCancelLoanUptoSaid : Prop := fnExactCancelLoanUptoRow.holds Try.pinned (OpenSpec.upto fnExactCancelLoanSpec)

end Rows
end Go.Proofs.Ytkapoanmbcopoaa
