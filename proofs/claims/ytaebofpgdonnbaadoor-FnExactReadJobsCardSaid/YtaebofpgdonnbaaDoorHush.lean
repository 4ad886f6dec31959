/- A region that draws its order, whose callees make memory alone: one walk in the text's order. -/
import Derived.Test.YtaebofpgdonnbaaDoorCore
import Derived.Lib.QuietBelow
set_option linter.unusedVariables false
set_option linter.unusedSimpArgs false
namespace Go.Proofs.YtaebofpgdonnbaaDoor
open Go.RowKit Go.Sort

theorem cell_rg {w : World} {d : Nat} {os : Array Obj} {b o : Nat} {s : Option Nat} (h : b < w.heap.size) : (grow (redrawn w d) os).cell? ⟨b, o, s⟩ = w.cell? ⟨b, o, s⟩ := cell?_grow (redrawn w d) os ⟨b, o, s⟩ h
theorem frozen_rg {w : World} {d : Nat} {os : Array Obj} {b o : Nat} {s : Option Nat} (h : b < w.heap.size) : (grow (redrawn w d) os).frozen? ⟨b, o, s⟩ = w.frozen? ⟨b, o, s⟩ := frozen?_grow (redrawn w d) os ⟨b, o, s⟩ h
attribute [go_sem] cell_rg frozen_rg

theorem rg_of {P : Program} {f : FuncId} {args : Array Value} {w : World} {d : Nat} {os : Array Obj} {v : Value}
    (h : ∀ w', Below w.heap.size w w' → Calls P f args w' fun e w'' => e = .returned v ∧ Below w'.heap.size w' w'') : Calls P f args (grow (redrawn w d) os) fun e w'' => e = .returned v ∧ ∃ p : Regrown, w'' = grow (redrawn w p.d) p.os :=
  Calls.regrown_of (h _ (below_regrown w d os))
/-- .. of a callee that draws alone -/
theorem rg_drawn {P : Program} {f : FuncId} {args : Array Value} {w : World} {d : Nat} {os : Array Obj} {v : Value}
    (h : ∀ w', Below w.heap.size w w' → Calls P f args w' fun e w'' => e = .returned v ∧ ∃ m, w'' = w'.drewN m) : Calls P f args (grow (redrawn w d) os) fun e w'' => e = .returned v ∧ ∃ p : Regrown, w'' = grow (redrawn w p.d) p.os :=
  rg_of fun w' hb => (h w' hb).mono fun _ _ ⟨a, m, b⟩ => ⟨a, by subst b; exact below_drewN (Below.refl _ _) m⟩
/-- .. of a callee that leaves the world alone -/
theorem rg_same {P : Program} {f : FuncId} {args : Array Value} {w : World} {d : Nat} {os : Array Obj} {v : Value}
    (h : ∀ w', Below w.heap.size w w' → Calls P f args w' fun e w'' => e = .returned v ∧ w' = w'') : Calls P f args (grow (redrawn w d) os) fun e w'' => e = .returned v ∧ ∃ p : Regrown, w'' = grow (redrawn w p.d) p.os :=
  rg_of fun w' hb => (h w' hb).mono fun _ _ ⟨a, b⟩ => ⟨a, by subst b; exact Below.refl _ _⟩
theorem qg_end {w : World} {R : World → Prop} (h : ∀ wq, Below w.heap.size w wq → R wq) : ∀ w', (∃ p : Regrown, w' = grow (redrawn w p.d) p.os) → R w' :=
  fun _ ⟨p, e⟩ => by subst e; exact h _ (below_regrown w p.d p.os)
end Go.Proofs.YtaebofpgdonnbaaDoor
