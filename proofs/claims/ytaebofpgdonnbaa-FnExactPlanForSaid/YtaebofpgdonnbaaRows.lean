/-
  No cell of these rows narrows 'for every input' (looked for: loops, veiled, ifaces, maps, wideKeys, modest, calm, conditions, laid).
  DERIVED. THE GIVEN ROWS OF THIS SEAT. 2 by the template 'for every input the law returns true; each argument reads behind the call as it read before'; 0 by the template 'total and deterministic' (their statements: YtaebofpgdonnbaaTotals.lean).
  GIVEN WITH THE SEED: the statements are not yours to turn. If you find one false, say at which input.
  Laid BY PROGRAM, IN A SANDBOX (cutbox-rows.mjs): the forced cells as the released guide's own fill.sh prints them over the translation 0a6c73a8fe5c6947… (all of the seat's roots in one cut). By AI agents, Wed Nov 11 2026. No macro, syntax, notation, axiom, sorry.
-/
import Derived.Test.YtaebofpgdonnbaaChecked
import GoSem.Claim
import GoSem.ClaimJoined
import GoSem.ClaimMapViews
import Derived.JoinedTies
import Derived.KernelRfl
namespace Go.Proofs.Ytaebofpgdonnbaa
/- THE CELL 'sum', in the pinned program and in every row, IS THE sha256 OF THE DUMP (.gsa) THAT YtaebofpgdonnbaaProg.lean LOADS. Nothing in Lean hashes anything: it is a label: what it is worth is what the hold of that sum in a sandbox is worth. -/
noncomputable def Try.pinned : Pinned := { name := "ytaebofpgdonnbaa", sum := "0a6c73a8fe5c6947bd17148c1a9771a137fae970078b500e767abfb9e1382625", checked := Try.checked }
namespace Rows
def none {H : Type} : Left H := { results := [], args := [] }

/-- 'laws.FnExactPlanFor': WHATEVER THE INPUT: true; the input reads as it did. -/
def fnExactPlanForSpec : ChangeSpec := { name := "fnExactPlanFor", fn := fun _ => fun
  | [d1, d2] => { results := [.lit (.bool true)], args := [d1, d2] }
  | _ => none }
def fnExactPlanForRow : OpenClaim := { program := "ytaebofpgdonnbaa", sum := "0a6c73a8fe5c6947bd17148c1a9771a137fae970078b500e767abfb9e1382625", func := "loop.example/g00930/laws.FnExactPlanFor", spec := "fnExactPlanFor", apart := false }
def FnExactPlanForSaid : Prop := fnExactPlanForRow.holds Try.pinned (OpenSpec.ofChange fnExactPlanForSpec)

/-- ITS FALSE NEIGHBOUR: 'it returns false'. Refute it at one input. -/
def fnExactPlanForWrong : ChangeSpec := { name := "fnExactPlanFor", fn := fun _ => fun
  | [d1, d2] => { results := [.lit (.bool false)], args := [d1, d2] }
  | _ => none }
def FnExactPlanForWrongFalsely : Prop := fnExactPlanForRow.holds Try.pinned (OpenSpec.ofChange fnExactPlanForWrong)

/-- 'laws.FnExactSameTrials': WHATEVER THE INPUT: true; the input reads as it did. -/
def fnExactSameTrialsSpec : ChangeSpec := { name := "fnExactSameTrials", fn := fun _ => fun
  | [d1, d2] => { results := [.lit (.bool true)], args := [d1, d2] }
  | _ => none }
def fnExactSameTrialsRow : OpenClaim := { program := "ytaebofpgdonnbaa", sum := "0a6c73a8fe5c6947bd17148c1a9771a137fae970078b500e767abfb9e1382625", func := "loop.example/g00930/laws.FnExactSameTrials", spec := "fnExactSameTrials", apart := false }
def FnExactSameTrialsSaid : Prop := fnExactSameTrialsRow.holds Try.pinned (OpenSpec.ofChange fnExactSameTrialsSpec)

/-- ITS FALSE NEIGHBOUR: 'it returns false'. Refute it at one input. -/
def fnExactSameTrialsWrong : ChangeSpec := { name := "fnExactSameTrials", fn := fun _ => fun
  | [d1, d2] => { results := [.lit (.bool false)], args := [d1, d2] }
  | _ => none }
def FnExactSameTrialsWrongFalsely : Prop := fnExactSameTrialsRow.holds Try.pinned (OpenSpec.ofChange fnExactSameTrialsWrong)

/- THE SECOND FORM. 'bulk': how many values and letters a reading holds, each counted each time it is reached (what is shared counts as often as it is met; a slice's spare places count too). A statement '..UptoSaid' is the law's where the arguments, and the package variables that the reading takes, are together of bulk at most 1048576: NARROWER than '..Said'. Prove '..Said' where nothing that the law and all that it calls make is longer than what came in: it says more and counts as full. Else prove '..UptoSaid'. A law counts once. -/
mutual
def uptoBulk {H : Type} : DataW H → Nat
  | .lit (.string bytes) => bytes.length + 1
  | .lit _ => 1
  | .nil => 1
  | .ptr d => uptoBulk d + 1
  | .slice elems spare => uptoBulkAll elems + uptoBulkAll spare + 1
  | .agg parts => uptoBulkAll parts + 1
  | .iface _ d => uptoBulk d + 1
  | .map entries => uptoBulkEntries entries + 1
  | .held _ => 1
def uptoBulkAll {H : Type} : List (DataW H) → Nat
  | [] => 0
  | d :: r => uptoBulk d + uptoBulkAll r
def uptoBulkEntries {H : Type} : List (Lit × DataW H) → Nat
  | [] => 0
  | x :: r => uptoBulkEntry x + uptoBulkEntries r
def uptoBulkEntry {H : Type} : Lit × DataW H → Nat
  | (.string bytes, d) => bytes.length + uptoBulk d + 1
  | (_, d) => uptoBulk d + 1
 end
def uptoSmall : (H : Type) → List (DataW H) → Bool := fun _ ds => decide (uptoBulkAll ds ≤ 1048576)
def OpenSpec.upto (s : _root_.Go.ChangeSpec) : _root_.Go.OpenSpec := { _root_.Go.OpenSpec.ofChange s with cond := some uptoSmall }

/-- 'laws.FnExactPlanFor', WHERE WHAT IT READS IS OF BULK AT MOST 1048576: true; the input reads as it did. -/
def fnExactPlanForUptoRow : OpenClaim := { program := "ytaebofpgdonnbaa", sum := "0a6c73a8fe5c6947bd17148c1a9771a137fae970078b500e767abfb9e1382625", func := "loop.example/g00930/laws.FnExactPlanFor", spec := "fnExactPlanFor", apart := false, narrowed := true }
def FnExactPlanForUptoSaid : Prop := fnExactPlanForUptoRow.holds Try.pinned (OpenSpec.upto fnExactPlanForSpec)

/-- 'laws.FnExactSameTrials', WHERE WHAT IT READS IS OF BULK AT MOST 1048576: true; the input reads as it did. -/
def fnExactSameTrialsUptoRow : OpenClaim := { program := "ytaebofpgdonnbaa", sum := "0a6c73a8fe5c6947bd17148c1a9771a137fae970078b500e767abfb9e1382625", func := "loop.example/g00930/laws.FnExactSameTrials", spec := "fnExactSameTrials", apart := false, narrowed := true }
def FnExactSameTrialsUptoSaid : Prop := fnExactSameTrialsUptoRow.holds Try.pinned (OpenSpec.upto fnExactSameTrialsSpec)

end Rows
end Go.Proofs.Ytaebofpgdonnbaa
