/-
  No cell of these rows narrows 'for every input' (looked for: loops, veiled, ifaces, maps, wideKeys, modest, calm, conditions, laid).
  DERIVED. THE GIVEN ROWS OF THIS SEAT. 10 by the template 'for every input the law returns true; each argument reads behind the call as it read before'; 0 by the template 'total and deterministic' (their statements: YtpdmfnfmlcjobaaTotals.lean).
  GIVEN WITH THE SEED: the statements are not yours to turn. If you find one false, say at which input.
  Laid BY PROGRAM, IN A SANDBOX (cutbox-rows.mjs): the forced cells as the released guide's own fill.sh prints them over the translation 72312dc75f1ea59f… (all of the seat's roots in one cut). By AI agents, Wed Nov 11 2026. No macro, syntax, notation, axiom, sorry.
-/
import Derived.Test.YtpdmfnfmlcjobaaChecked
import GoSem.Claim
import GoSem.ClaimJoined
import GoSem.ClaimMapViews
import Derived.JoinedTies
import Derived.KernelRfl
namespace Go.Proofs.Ytpdmfnfmlcjobaa
/- THE CELL 'sum', in the pinned program and in every row, IS THE sha256 OF THE DUMP (.gsa) THAT YtpdmfnfmlcjobaaProg.lean LOADS. Nothing in Lean hashes anything: it is a label: what it is worth is what the hold of that sum in a sandbox is worth. -/
noncomputable def Try.pinned : Pinned := { name := "ytpdmfnfmlcjobaa", sum := "72312dc75f1ea59f9c67fbff719f4acc86834a5c4199d25db34be4993287b88b", checked := Try.checked }
namespace Rows
def none {H : Type} : Left H := { results := [], args := [] }

/-- 'laws.FnExactSameJobs': WHATEVER THE INPUT: true; the input reads as it did. -/
def fnExactSameJobsSpec : ChangeSpec := { name := "fnExactSameJobs", fn := fun _ => fun
  | [d1, d2] => { results := [.lit (.bool true)], args := [d1, d2] }
  | _ => none }
def fnExactSameJobsRow : OpenClaim := { program := "ytpdmfnfmlcjobaa", sum := "72312dc75f1ea59f9c67fbff719f4acc86834a5c4199d25db34be4993287b88b", func := "loop.example/g00930/laws.FnExactSameJobs", spec := "fnExactSameJobs", apart := false }
def FnExactSameJobsSaid : Prop := fnExactSameJobsRow.holds Try.pinned (OpenSpec.ofChange fnExactSameJobsSpec)

/-- ITS FALSE NEIGHBOUR: 'it returns false'. Refute it at one input. -/
def fnExactSameJobsWrong : ChangeSpec := { name := "fnExactSameJobs", fn := fun _ => fun
  | [d1, d2] => { results := [.lit (.bool false)], args := [d1, d2] }
  | _ => none }
def FnExactSameJobsWrongFalsely : Prop := fnExactSameJobsRow.holds Try.pinned (OpenSpec.ofChange fnExactSameJobsWrong)

/-- 'laws.FnExactValidJobs': WHATEVER THE INPUT: true; the input reads as it did. -/
def fnExactValidJobsSpec : ChangeSpec := { name := "fnExactValidJobs", fn := fun _ => fun
  | [d] => { results := [.lit (.bool true)], args := [d] }
  | _ => none }
def fnExactValidJobsRow : OpenClaim := { program := "ytpdmfnfmlcjobaa", sum := "72312dc75f1ea59f9c67fbff719f4acc86834a5c4199d25db34be4993287b88b", func := "loop.example/g00930/laws.FnExactValidJobs", spec := "fnExactValidJobs", apart := false }
def FnExactValidJobsSaid : Prop := fnExactValidJobsRow.holds Try.pinned (OpenSpec.ofChange fnExactValidJobsSpec)

/-- ITS FALSE NEIGHBOUR: 'it returns false'. Refute it at one input. -/
def fnExactValidJobsWrong : ChangeSpec := { name := "fnExactValidJobs", fn := fun _ => fun
  | [d] => { results := [.lit (.bool false)], args := [d] }
  | _ => none }
def FnExactValidJobsWrongFalsely : Prop := fnExactValidJobsRow.holds Try.pinned (OpenSpec.ofChange fnExactValidJobsWrong)

/-- 'laws.FnExactCostBy': WHATEVER THE INPUT: true; the input reads as it did. -/
def fnExactCostBySpec : ChangeSpec := { name := "fnExactCostBy", fn := fun _ => fun
  | [d1, d2, d3] => { results := [.lit (.bool true)], args := [d1, d2, d3] }
  | _ => none }
def fnExactCostByRow : OpenClaim := { program := "ytpdmfnfmlcjobaa", sum := "72312dc75f1ea59f9c67fbff719f4acc86834a5c4199d25db34be4993287b88b", func := "loop.example/g00930/laws.FnExactCostBy", spec := "fnExactCostBy", apart := false }
def FnExactCostBySaid : Prop := fnExactCostByRow.holds Try.pinned (OpenSpec.ofChange fnExactCostBySpec)

/-- ITS FALSE NEIGHBOUR: 'it returns false'. Refute it at one input. -/
def fnExactCostByWrong : ChangeSpec := { name := "fnExactCostBy", fn := fun _ => fun
  | [d1, d2, d3] => { results := [.lit (.bool false)], args := [d1, d2, d3] }
  | _ => none }
def FnExactCostByWrongFalsely : Prop := fnExactCostByRow.holds Try.pinned (OpenSpec.ofChange fnExactCostByWrong)

/-- 'laws.FnExactDaysNeeded': WHATEVER THE INPUT: true; the input reads as it did. -/
def fnExactDaysNeededSpec : ChangeSpec := { name := "fnExactDaysNeeded", fn := fun _ => fun
  | [d] => { results := [.lit (.bool true)], args := [d] }
  | _ => none }
def fnExactDaysNeededRow : OpenClaim := { program := "ytpdmfnfmlcjobaa", sum := "72312dc75f1ea59f9c67fbff719f4acc86834a5c4199d25db34be4993287b88b", func := "loop.example/g00930/laws.FnExactDaysNeeded", spec := "fnExactDaysNeeded", apart := false }
def FnExactDaysNeededSaid : Prop := fnExactDaysNeededRow.holds Try.pinned (OpenSpec.ofChange fnExactDaysNeededSpec)

/-- ITS FALSE NEIGHBOUR: 'it returns false'. Refute it at one input. -/
def fnExactDaysNeededWrong : ChangeSpec := { name := "fnExactDaysNeeded", fn := fun _ => fun
  | [d] => { results := [.lit (.bool false)], args := [d] }
  | _ => none }
def FnExactDaysNeededWrongFalsely : Prop := fnExactDaysNeededRow.holds Try.pinned (OpenSpec.ofChange fnExactDaysNeededWrong)

/-- 'laws.FnExactEarliestStarts': WHATEVER THE INPUT: true; the input reads as it did. -/
def fnExactEarliestStartsSpec : ChangeSpec := { name := "fnExactEarliestStarts", fn := fun _ => fun
  | [d] => { results := [.lit (.bool true)], args := [d] }
  | _ => none }
def fnExactEarliestStartsRow : OpenClaim := { program := "ytpdmfnfmlcjobaa", sum := "72312dc75f1ea59f9c67fbff719f4acc86834a5c4199d25db34be4993287b88b", func := "loop.example/g00930/laws.FnExactEarliestStarts", spec := "fnExactEarliestStarts", apart := false }
def FnExactEarliestStartsSaid : Prop := fnExactEarliestStartsRow.holds Try.pinned (OpenSpec.ofChange fnExactEarliestStartsSpec)

/-- ITS FALSE NEIGHBOUR: 'it returns false'. Refute it at one input. -/
def fnExactEarliestStartsWrong : ChangeSpec := { name := "fnExactEarliestStarts", fn := fun _ => fun
  | [d] => { results := [.lit (.bool false)], args := [d] }
  | _ => none }
def FnExactEarliestStartsWrongFalsely : Prop := fnExactEarliestStartsRow.holds Try.pinned (OpenSpec.ofChange fnExactEarliestStartsWrong)

/-- 'laws.FnExactJobsBefore': WHATEVER THE INPUT: true; the input reads as it did. -/
def fnExactJobsBeforeSpec : ChangeSpec := { name := "fnExactJobsBefore", fn := fun _ => fun
  | [d1, d2] => { results := [.lit (.bool true)], args := [d1, d2] }
  | _ => none }
def fnExactJobsBeforeRow : OpenClaim := { program := "ytpdmfnfmlcjobaa", sum := "72312dc75f1ea59f9c67fbff719f4acc86834a5c4199d25db34be4993287b88b", func := "loop.example/g00930/laws.FnExactJobsBefore", spec := "fnExactJobsBefore", apart := false }
def FnExactJobsBeforeSaid : Prop := fnExactJobsBeforeRow.holds Try.pinned (OpenSpec.ofChange fnExactJobsBeforeSpec)

/-- ITS FALSE NEIGHBOUR: 'it returns false'. Refute it at one input. -/
def fnExactJobsBeforeWrong : ChangeSpec := { name := "fnExactJobsBefore", fn := fun _ => fun
  | [d1, d2] => { results := [.lit (.bool false)], args := [d1, d2] }
  | _ => none }
def FnExactJobsBeforeWrongFalsely : Prop := fnExactJobsBeforeRow.holds Try.pinned (OpenSpec.ofChange fnExactJobsBeforeWrong)

/-- 'laws.FnExactPlanFault': WHATEVER THE INPUT: true; the input reads as it did. -/
def fnExactPlanFaultSpec : ChangeSpec := { name := "fnExactPlanFault", fn := fun _ => fun
  | [d1, d2, d3] => { results := [.lit (.bool true)], args := [d1, d2, d3] }
  | _ => none }
def fnExactPlanFaultRow : OpenClaim := { program := "ytpdmfnfmlcjobaa", sum := "72312dc75f1ea59f9c67fbff719f4acc86834a5c4199d25db34be4993287b88b", func := "loop.example/g00930/laws.FnExactPlanFault", spec := "fnExactPlanFault", apart := false }
def FnExactPlanFaultSaid : Prop := fnExactPlanFaultRow.holds Try.pinned (OpenSpec.ofChange fnExactPlanFaultSpec)

/-- ITS FALSE NEIGHBOUR: 'it returns false'. Refute it at one input. -/
def fnExactPlanFaultWrong : ChangeSpec := { name := "fnExactPlanFault", fn := fun _ => fun
  | [d1, d2, d3] => { results := [.lit (.bool false)], args := [d1, d2, d3] }
  | _ => none }
def FnExactPlanFaultWrongFalsely : Prop := fnExactPlanFaultRow.holds Try.pinned (OpenSpec.ofChange fnExactPlanFaultWrong)

/-- 'laws.FnExactLatestStarts': WHATEVER THE INPUT: true; the input reads as it did. -/
def fnExactLatestStartsSpec : ChangeSpec := { name := "fnExactLatestStarts", fn := fun _ => fun
  | [d] => { results := [.lit (.bool true)], args := [d] }
  | _ => none }
def fnExactLatestStartsRow : OpenClaim := { program := "ytpdmfnfmlcjobaa", sum := "72312dc75f1ea59f9c67fbff719f4acc86834a5c4199d25db34be4993287b88b", func := "loop.example/g00930/laws.FnExactLatestStarts", spec := "fnExactLatestStarts", apart := false }
def FnExactLatestStartsSaid : Prop := fnExactLatestStartsRow.holds Try.pinned (OpenSpec.ofChange fnExactLatestStartsSpec)

/-- ITS FALSE NEIGHBOUR: 'it returns false'. Refute it at one input. -/
def fnExactLatestStartsWrong : ChangeSpec := { name := "fnExactLatestStarts", fn := fun _ => fun
  | [d] => { results := [.lit (.bool false)], args := [d] }
  | _ => none }
def FnExactLatestStartsWrongFalsely : Prop := fnExactLatestStartsRow.holds Try.pinned (OpenSpec.ofChange fnExactLatestStartsWrong)

/-- 'laws.FnExactCriticalJobs': WHATEVER THE INPUT: true; the input reads as it did. -/
def fnExactCriticalJobsSpec : ChangeSpec := { name := "fnExactCriticalJobs", fn := fun _ => fun
  | [d] => { results := [.lit (.bool true)], args := [d] }
  | _ => none }
def fnExactCriticalJobsRow : OpenClaim := { program := "ytpdmfnfmlcjobaa", sum := "72312dc75f1ea59f9c67fbff719f4acc86834a5c4199d25db34be4993287b88b", func := "loop.example/g00930/laws.FnExactCriticalJobs", spec := "fnExactCriticalJobs", apart := false }
def FnExactCriticalJobsSaid : Prop := fnExactCriticalJobsRow.holds Try.pinned (OpenSpec.ofChange fnExactCriticalJobsSpec)

/-- ITS FALSE NEIGHBOUR: 'it returns false'. Refute it at one input. -/
def fnExactCriticalJobsWrong : ChangeSpec := { name := "fnExactCriticalJobs", fn := fun _ => fun
  | [d] => { results := [.lit (.bool false)], args := [d] }
  | _ => none }
def FnExactCriticalJobsWrongFalsely : Prop := fnExactCriticalJobsRow.holds Try.pinned (OpenSpec.ofChange fnExactCriticalJobsWrong)

/-- 'laws.FnExactPlanFor': WHATEVER THE INPUT: true; the input reads as it did. -/
def fnExactPlanForSpec : ChangeSpec := { name := "fnExactPlanFor", fn := fun _ => fun
  | [d1, d2] => { results := [.lit (.bool true)], args := [d1, d2] }
  | _ => none }
def fnExactPlanForRow : OpenClaim := { program := "ytpdmfnfmlcjobaa", sum := "72312dc75f1ea59f9c67fbff719f4acc86834a5c4199d25db34be4993287b88b", func := "loop.example/g00930/laws.FnExactPlanFor", spec := "fnExactPlanFor", apart := false }
def FnExactPlanForSaid : Prop := fnExactPlanForRow.holds Try.pinned (OpenSpec.ofChange fnExactPlanForSpec)

/-- ITS FALSE NEIGHBOUR: 'it returns false'. Refute it at one input. -/
def fnExactPlanForWrong : ChangeSpec := { name := "fnExactPlanFor", fn := fun _ => fun
  | [d1, d2] => { results := [.lit (.bool false)], args := [d1, d2] }
  | _ => none }
def FnExactPlanForWrongFalsely : Prop := fnExactPlanForRow.holds Try.pinned (OpenSpec.ofChange fnExactPlanForWrong)

/- THE SECOND FORM. 'bulk': how many values and letters a reading holds, each counted each time it is reached (what is shared counts as often as it is met; a slice's spare places count too). A statement '..UptoSaid' is the law's where the arguments, and the package variables that the reading takes, are together of bulk at most 1048576: NARROWER than '..Said'. Prove '..Said' where nothing that the law and all that it calls make is longer than what came in: it says more and counts as full. Else prove '..UptoSaid'. A law counts once. -/
mutual
def uptoBulk {H : Type} : DataW H → Nat
  | .lit (.string bytes) => bytes.length + 1
  | .lit _ => 1
  | .nil => 1
  | .ptr d => uptoBulk d + 1
  | .slice elems spare => uptoBulkAll elems + uptoBulkAll spare + 1
  | .agg parts => uptoBulkAll parts + 1
  | .iface _ d => uptoBulk d + 1
  | .map entries => uptoBulkEntries entries + 1
  | .held _ => 1
def uptoBulkAll {H : Type} : List (DataW H) → Nat
  | [] => 0
  | d :: r => uptoBulk d + uptoBulkAll r
def uptoBulkEntries {H : Type} : List (Lit × DataW H) → Nat
  | [] => 0
  | x :: r => uptoBulkEntry x + uptoBulkEntries r
def uptoBulkEntry {H : Type} : Lit × DataW H → Nat
  | (.string bytes, d) => bytes.length + uptoBulk d + 1
  | (_, d) => uptoBulk d + 1
 end
def uptoSmall : (H : Type) → List (DataW H) → Bool := fun _ ds => decide (uptoBulkAll ds ≤ 1048576)
def OpenSpec.upto (s : _root_.Go.ChangeSpec) : _root_.Go.OpenSpec := { _root_.Go.OpenSpec.ofChange s with cond := some uptoSmall }

/-- 'laws.FnExactSameJobs', WHERE WHAT IT READS IS OF BULK AT MOST 1048576: true; the input reads as it did. -/
def fnExactSameJobsUptoRow : OpenClaim := { program := "ytpdmfnfmlcjobaa", sum := "72312dc75f1ea59f9c67fbff719f4acc86834a5c4199d25db34be4993287b88b", func := "loop.example/g00930/laws.FnExactSameJobs", spec := "fnExactSameJobs", apart := false, narrowed := true }
def FnExactSameJobsUptoSaid : Prop := fnExactSameJobsUptoRow.holds Try.pinned (OpenSpec.upto fnExactSameJobsSpec)

/-- 'laws.FnExactValidJobs', WHERE WHAT IT READS IS OF BULK AT MOST 1048576: true; the input reads as it did. -/
def fnExactValidJobsUptoRow : OpenClaim := { program := "ytpdmfnfmlcjobaa", sum := "72312dc75f1ea59f9c67fbff719f4acc86834a5c4199d25db34be4993287b88b", func := "loop.example/g00930/laws.FnExactValidJobs", spec := "fnExactValidJobs", apart := false, narrowed := true }
def FnExactValidJobsUptoSaid : Prop := fnExactValidJobsUptoRow.holds Try.pinned (OpenSpec.upto fnExactValidJobsSpec)

/-- 'laws.FnExactCostBy', WHERE WHAT IT READS IS OF BULK AT MOST 1048576: true; the input reads as it did. -/
def fnExactCostByUptoRow : OpenClaim := { program := "ytpdmfnfmlcjobaa", sum := "72312dc75f1ea59f9c67fbff719f4acc86834a5c4199d25db34be4993287b88b", func := "loop.example/g00930/laws.FnExactCostBy", spec := "fnExactCostBy", apart := false, narrowed := true }
def FnExactCostByUptoSaid : Prop := fnExactCostByUptoRow.holds Try.pinned (OpenSpec.upto fnExactCostBySpec)

/-- 'laws.FnExactDaysNeeded', WHERE WHAT IT READS IS OF BULK AT MOST 1048576: true; the input reads as it did. -/
def fnExactDaysNeededUptoRow : OpenClaim := { program := "ytpdmfnfmlcjobaa", sum := "72312dc75f1ea59f9c67fbff719f4acc86834a5c4199d25db34be4993287b88b", func := "loop.example/g00930/laws.FnExactDaysNeeded", spec := "fnExactDaysNeeded", apart := false, narrowed := true }
def FnExactDaysNeededUptoSaid : Prop := fnExactDaysNeededUptoRow.holds Try.pinned (OpenSpec.upto fnExactDaysNeededSpec)

/-- 'laws.FnExactEarliestStarts', WHERE WHAT IT READS IS OF BULK AT MOST 1048576: true; the input reads as it did. -/
def fnExactEarliestStartsUptoRow : OpenClaim := { program := "ytpdmfnfmlcjobaa", sum := "72312dc75f1ea59f9c67fbff719f4acc86834a5c4199d25db34be4993287b88b", func := "loop.example/g00930/laws.FnExactEarliestStarts", spec := "fnExactEarliestStarts", apart := false, narrowed := true }
def FnExactEarliestStartsUptoSaid : Prop := fnExactEarliestStartsUptoRow.holds Try.pinned (OpenSpec.upto fnExactEarliestStartsSpec)

/-- 'laws.FnExactJobsBefore', WHERE WHAT IT READS IS OF BULK AT MOST 1048576: true; the input reads as it did. -/
def fnExactJobsBeforeUptoRow : OpenClaim := { program := "ytpdmfnfmlcjobaa", sum := "72312dc75f1ea59f9c67fbff719f4acc86834a5c4199d25db34be4993287b88b", func := "loop.example/g00930/laws.FnExactJobsBefore", spec := "fnExactJobsBefore", apart := false, narrowed := true }
def FnExactJobsBeforeUptoSaid : Prop := fnExactJobsBeforeUptoRow.holds Try.pinned (OpenSpec.upto fnExactJobsBeforeSpec)

/-- 'laws.FnExactPlanFault', WHERE WHAT IT READS IS OF BULK AT MOST 1048576: true; the input reads as it did. -/
def fnExactPlanFaultUptoRow : OpenClaim := { program := "ytpdmfnfmlcjobaa", sum := "72312dc75f1ea59f9c67fbff719f4acc86834a5c4199d25db34be4993287b88b", func := "loop.example/g00930/laws.FnExactPlanFault", spec := "fnExactPlanFault", apart := false, narrowed := true }
def FnExactPlanFaultUptoSaid : Prop := fnExactPlanFaultUptoRow.holds Try.pinned (OpenSpec.upto fnExactPlanFaultSpec)

/-- 'laws.FnExactLatestStarts', WHERE WHAT IT READS IS OF BULK AT MOST 1048576: true; the input reads as it did. -/
def fnExactLatestStartsUptoRow : OpenClaim := { program := "ytpdmfnfmlcjobaa", sum := "72312dc75f1ea59f9c67fbff719f4acc86834a5c4199d25db34be4993287b88b", func := "loop.example/g00930/laws.FnExactLatestStarts", spec := "fnExactLatestStarts", apart := false, narrowed := true }
def FnExactLatestStartsUptoSaid : Prop := fnExactLatestStartsUptoRow.holds Try.pinned (OpenSpec.upto fnExactLatestStartsSpec)

/-- 'laws.FnExactCriticalJobs', WHERE WHAT IT READS IS OF BULK AT MOST 1048576: true; the input reads as it did. -/
def fnExactCriticalJobsUptoRow : OpenClaim := { program := "ytpdmfnfmlcjobaa", sum := "72312dc75f1ea59f9c67fbff719f4acc86834a5c4199d25db34be4993287b88b", func := "loop.example/g00930/laws.FnExactCriticalJobs", spec := "fnExactCriticalJobs", apart := false, narrowed := true }
def FnExactCriticalJobsUptoSaid : Prop := fnExactCriticalJobsUptoRow.holds Try.pinned (OpenSpec.upto fnExactCriticalJobsSpec)

/-- 'laws.FnExactPlanFor', WHERE WHAT IT READS IS OF BULK AT MOST 1048576: true; the input reads as it did. -/
def fnExactPlanForUptoRow : OpenClaim := { program := "ytpdmfnfmlcjobaa", sum := "72312dc75f1ea59f9c67fbff719f4acc86834a5c4199d25db34be4993287b88b", func := "loop.example/g00930/laws.FnExactPlanFor", spec := "fnExactPlanFor", apart := false, narrowed := true }
def FnExactPlanForUptoSaid : Prop := fnExactPlanForUptoRow.holds Try.pinned (OpenSpec.upto fnExactPlanForSpec)

end Rows
end Go.Proofs.Ytpdmfnfmlcjobaa
