/- Contracts: lists of numbers compared, jobs compared. -/
import Derived.Test.YtaebofpgdonnbaaDoorJobs2
set_option linter.unusedVariables false
set_option linter.unusedSimpArgs false
namespace Go.Proofs.YtaebofpgdonnbaaDoor
open Go.RowKit

theorem same_no {l l' : List Int} (h : ¬ l.length = l'.length) : (l == l') = false := by
  rw [beq_eq_false_iff_ne]
  intro e
  exact h (by rw [e])
theorem same_at {l l' : List Int} {k : Nat} {x y : Int} (hx : l[k]? = some x) (hy : l'[k]? = some y) (h : ¬ x = y) : (l == l') = false := by
  rw [beq_eq_false_iff_ne]
  intro e
  rw [e, hy] at hx
  injection hx with hx
  exact h hx.symm
theorem same_yes {l l' : List Int} {n : Nat} (h1 : l.length = n) (h2 : l'.length = n) (h : l.take n = l'.take n) : (l == l') = true := by
  rw [List.take_of_length_le (by omega), List.take_of_length_le (by omega)] at h
  rw [h]
  exact beq_self_eq_true _



def jobEq (x y : JobD) : Bool := (x.name.toList == y.name.toList) && (x.days == y.days) && (x.cost == y.cost) && (x.needs == y.needs)
def sameJ (l l' : List JobD) : Bool := decide (l.length = l'.length) && (List.range l.length).all fun i => jobEq (getJ l i) (getJ l' i)
theorem sameJ_no {l l' : List JobD} (h : ¬ l.length = l'.length) : sameJ l l' = false := by unfold sameJ; rw [decide_eq_false h]; rfl
theorem sameJ_at {l l' : List JobD} {k : Nat} (hk : k < l.length) (h : jobEq (getJ l k) (getJ l' k) = false) : sameJ l l' = false := by unfold sameJ; rw [all_range_no _ _ k hk h, Bool.and_false]
theorem sameJ_yes {l l' : List JobD} {n : Nat} (h1 : l.length = n) (h2 : l'.length = n) (h : ((List.range n).all fun i => jobEq (getJ l i) (getJ l' i)) = true) : sameJ l l' = true := by unfold sameJ; rw [h1, h2, h, decide_eq_true rfl]; rfl



end Go.Proofs.YtaebofpgdonnbaaDoor
