/- What the walks of the laws lean on: rows of numbers kept over calls. -/
import Derived.Test.YtaebofpgdonnbaaDoorOwn
import Derived.Test.YtaebofpgdonnbaaDoorOpen
set_option linter.unusedVariables false
set_option linter.unusedSimpArgs false
namespace Go.Proofs.YtaebofpgdonnbaaDoor
open Go.RowKit

theorem Rd.none_len {D : Type} {w : World} {B sz : Nat} {cells : D → List Value} {A : Option Addr} {l : List D} (h : Rd w B sz cells A l) (hA : A = none) : l.length = 0 := by
  rcases Nat.eq_zero_or_pos l.length with h0 | h0
  · exact h0
  · obtain ⟨b, off, e, _⟩ := h h0
    rw [hA] at e
    cases e

theorem below_grown {B : Nat} {w w' : World} (h : Below B w w') : w.grownBy w' none ∨ True := .inr trivial

/-- kept over a call that makes memory alone -/
theorem own_call {w w' : World} {base : Nat} {e : TypeId} {size : Nat} {v : Value} {n : Nat} {xs : List Value} (h : w.ownsRow base e size v n xs) (hb : Below w.heap.size w w') : w'.ownsRow base e size v n xs := own_below h hb fun k hk => (h.lt k hk).2
theorem own_drewN {w : World} {base : Nat} {e : TypeId} {size : Nat} {v : Value} {n : Nat} {xs : List Value} (h : w.ownsRow base e size v n xs) (m : Nat) : (w.drewN m).ownsRow base e size v n xs := h

theorem own_ne {w w' : World} {base : Nat} {e : TypeId} {size : Nat} {v : Value} {n : Nat} {xs : List Value} {row : Option Nat} (h : w.ownsRow base e size v n xs) (hg : w.grownBy w' row) (hne : ∀ k, v.ownBlock = some k → some k ≠ row) : w'.ownsRow base e size v n xs := by
  refine h.kept hg ?_
  cases hv : v.ownBlock with
  | none => exact .inl rfl
  | some k => exact .inr (hne k hv)

theorem rd_own {w : World} {base : Nat} {e : TypeId} {A : Option Addr} {n c : Nat} {l : List Int} (h : w.ownsRow base e 1 (.slice A n c) n (l.map (Value.int .i64))) : Rd w w.heap.size 1 icell A l :=
  Rd.of_own icell_len (by decide) (n := n) (c := c) (by rw [icell_flat]; exact h)
theorem Rd.drewN {D : Type} {w : World} {B sz : Nat} {cells : D → List Value} {A : Option Addr} {l : List D} (h : Rd w B sz cells A l) (m : Nat) : Rd (w.drewN m) B sz cells A l := h
theorem below_of_grown {B : Nat} {a w w' : World} {row : Option Nat} (h : Below B a w) (hg : w.grownBy w' row) (hB : B ≤ w.heap.size) (hr : ∀ k, row = some k → B ≤ k) : Below B a w' := h.grown hg hB hr

end Go.Proofs.YtaebofpgdonnbaaDoor
