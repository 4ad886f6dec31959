/- Contracts: the code of a plan; its cost by a day; both sides. -/
import Derived.Test.YtaebofpgdonnbaaJobs5
set_option linter.unusedVariables false
set_option linter.unusedSimpArgs false
namespace Go.Proofs.Ytaebofpgdonnbaa
open Go.RowKit

def daysB (s : List Int) : Bool := (List.range s.length).all fun i => inB (s.getD i 0) 0 400
def startsB (n : Nat) (s : List Int) : Bool := daysB s && decide (s.length = n)
def planR (l : List JobD) (s : List Int) : Int := if validS l = true then (if startsB l.length s = true then 0 else 2) else 1
theorem planR_zero {l : List JobD} {s : List Int} (h : planR l s = 0) : validS l = true ∧ startsB l.length s = true := by
  unfold planR at h
  cases hv : validS l
  · rw [hv] at h; simp at h
  · rw [hv, if_pos rfl] at h
    cases h2 : startsB l.length s
    · rw [h2] at h; simp at h
    · exact ⟨rfl, rfl⟩
theorem startsB_len {n : Nat} {s : List Int} (h : startsB n s = true) : s.length = n := by
  unfold startsB at h
  simp only [Bool.and_eq_true, decide_eq_true_eq] at h
  exact h.2
theorem starts_at {n : Nat} {s : List Int} (h : startsB n s = true) {i : Nat} {x : Int} (hx : s[i]? = some x) : 0 ≤ x ∧ x ≤ 400 := by
  unfold startsB daysB at h
  simp only [Bool.and_eq_true] at h
  have := (all_range_iff _ _).1 h.1 i (List.getElem?_eq_some_iff.1 hx).1
  rw [getD_eq hx] at this
  exact inB_iff.1 this
def costS (l : List JobD) (s : List Int) (day : Int) : Nat → Int
  | 0 => 0
  | k + 1 => costS l s day k + (if s.getD k 0 < day then (getJ l k).cost else 0)
def costR (l : List JobD) (s : List Int) (day : Int) : Int × Int := if planR l s = 0 then (costS l s day l.length, 0) else (0, planR l s)
theorem planR_bd (l : List JobD) (s : List Int) : 0 ≤ planR l s ∧ planR l s ≤ 2 := by
  unfold planR
  split
  · split <;> omega
  · omega





end Go.Proofs.Ytaebofpgdonnbaa
