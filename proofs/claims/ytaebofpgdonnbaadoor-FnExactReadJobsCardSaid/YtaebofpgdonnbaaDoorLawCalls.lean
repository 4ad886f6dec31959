/- What the laws' walks lean on: contracts turned to one form. -/
import Derived.Test.YtaebofpgdonnbaaDoorLawInts
set_option linter.unusedVariables false
set_option linter.unusedSimpArgs false
namespace Go.Proofs.YtaebofpgdonnbaaDoor
open Go.RowKit
theorem to_below {P : Program} {f : FuncId} {args : Array Value} {w : World} {R : Ending → Prop} (h : Calls P f args w fun e w' => R e ∧ ∃ m, w' = w.drewN m) : Calls P f args w fun e w' => R e ∧ Below w.heap.size w w' :=
  h.mono fun _ _ ⟨a, m, b⟩ => ⟨a, by subst b; exact below_drewN (Below.refl _ _) m⟩
theorem to_below' {P : Program} {f : FuncId} {args : Array Value} {w : World} {R : Ending → Prop} (h : Calls P f args w fun e w' => R e ∧ w = w') : Calls P f args w fun e w' => R e ∧ Below w.heap.size w w' :=
  h.mono fun _ _ ⟨a, b⟩ => ⟨a, by subst b; exact Below.refl _ _⟩
theorem gen_calls {P : Program} {f : FuncId} {args : Array Value} {w : World} {Q : Ending → World → Prop} (h : ∀ W, Hid (W = w) → Calls P f args W Q) : Calls P f args w Q := h w rfl
end Go.Proofs.YtaebofpgdonnbaaDoor
