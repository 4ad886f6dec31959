/- Plain laws of what is a list of jobs. -/
import Derived.Test.YtaebofpgdonnbaaDoorJobs3
set_option linter.unusedVariables false
set_option linter.unusedSimpArgs false
namespace Go.Proofs.YtaebofpgdonnbaaDoor

def risesAt (l : List Int) (lo hi : Int) (i : Nat) : Bool := inB (l.getD i 0) lo hi && (decide (i = 0) || decide (l.getD (i - 1) 0 < l.getD i 0))
def risesB (l : List Int) (lo hi : Int) : Bool := (List.range l.length).all (risesAt l lo hi)
theorem risesB_no {l : List Int} {lo hi : Int} {i : Nat} (hi' : i < l.length) (h : risesAt l lo hi i = false) : risesB l lo hi = false := all_range_no _ _ i hi' h
theorem getD_eq {l : List Int} {i : Nat} {x : Int} (h : l[i]? = some x) : l.getD i 0 = x := by rw [List.getD_eq_getElem?_getD, h]; rfl
def jobB (d : JobD) : Bool := nameB d.name && inB d.days 1 60 && inB d.cost 0 1000000
def newJ (l : List JobD) (k : Nat) : Bool := (List.range k).all fun i => !((getJ l i).name.toList == (getJ l k).name.toList)
def risesJ (l : List JobD) (k : Nat) : Bool := risesB (getJ l k).needs 0 ((k : Int) - 1)
def okS (l : List JobD) (k : Nat) : Bool := (jobB (getJ l k) && risesJ l k) && newJ l k
def okI (l : List JobD) (k : Nat) : Bool := (jobB (getJ l k) && newJ l k) && risesJ l k
def sumD (l : List JobD) : Nat → Int
  | 0 => 0
  | k + 1 => sumD l k + (getJ l k).days
def validS (l : List JobD) : Bool := (List.range l.length).all (okS l) && (decide (l.length ≤ 30) && decide (sumD l l.length ≤ 400))
def validI (l : List JobD) : Bool := decide (l.length ≤ 30) && ((List.range l.length).all (okI l) && decide (sumD l l.length ≤ 400))
theorem ok_eq (l : List JobD) (k : Nat) : okI l k = okS l k := by unfold okI okS; rw [Bool.and_assoc, Bool.and_assoc, Bool.and_comm (newJ l k)]
theorem valid_eq (l : List JobD) : validI l = validS l := by
  unfold validI validS
  rw [show okI l = okS l from funext (ok_eq l), ← Bool.and_assoc, ← Bool.and_assoc, Bool.and_comm (decide (l.length ≤ 30))]
theorem sum_bd {l : List JobD} {k : Nat} (h : (List.range k).all (okS l) = true) : 0 ≤ sumD l k ∧ sumD l k ≤ 60 * (k : Int) := by
  induction k with
  | zero => exact ⟨Int.le_refl _, Int.le_refl _⟩
  | succ k ih =>
    have h1 := (all_range_iff _ _).1 h
    have h2 := ih ((all_range_iff _ _).2 fun j hj => h1 j (by omega))
    have h3 := h1 k (by omega)
    unfold okS jobB at h3
    simp only [Bool.and_eq_true] at h3
    have := inB_iff.1 h3.1.1.1.2
    show 0 ≤ sumD l k + (getJ l k).days ∧ sumD l k + (getJ l k).days ≤ 60 * ((k + 1 : Nat) : Int)
    omega
theorem validS_no {l : List JobD} {k : Nat} (hk : k < l.length) (h : okS l k = false) : validS l = false := by unfold validS; rw [all_range_no _ _ k hk h, Bool.false_and]
theorem validI_no {l : List JobD} {k : Nat} (hk : k < l.length) (h : okI l k = false) : validI l = false := by rw [valid_eq]; exact validS_no hk (by rw [← ok_eq]; exact h)
/-- what a list of jobs is good for -/
theorem valid_all {l : List JobD} (h : validS l = true) : l.length ≤ 30 ∧ ∀ k, k < l.length → 1 ≤ (getJ l k).days ∧ (getJ l k).days ≤ 60 ∧ 0 ≤ (getJ l k).cost ∧ (getJ l k).cost ≤ 1000000 ∧ (∀ (i : Nat) (x : Int), (getJ l k).needs[i]? = some x → 0 ≤ x ∧ x < (k : Int)) ∧ (getJ l k).needs.length ≤ k := by
  unfold validS at h
  simp only [Bool.and_eq_true, decide_eq_true_eq] at h
  refine ⟨h.2.1, fun k hk => ?_⟩
  have h1 := (all_range_iff _ _).1 h.1 k hk
  unfold okS jobB risesJ risesB at h1
  simp only [Bool.and_eq_true] at h1
  have a1 := inB_iff.1 h1.1.1.1.2
  have a2 := inB_iff.1 h1.1.1.2
  have hr := (all_range_iff _ _).1 h1.1.2
  have hn : ∀ (i : Nat) (x : Int), (getJ l k).needs[i]? = some x → 0 ≤ x ∧ x < (k : Int) := fun i x hx => by
    have := hr i (List.getElem?_eq_some_iff.1 hx).1
    unfold risesAt at this
    rw [Bool.and_eq_true, getD_eq hx] at this
    have := inB_iff.1 this.1
    omega
  refine ⟨a1.1, a1.2, a2.1, a2.2, hn, ?_⟩
  -- a rising list of numbers from 0 below k has at most k of them
  have rise : ∀ i, i < (getJ l k).needs.length → (i : Int) ≤ (getJ l k).needs.getD i 0 := by
    intro i
    induction i with
    | zero =>
      intro hi
      have := hn 0 _ (List.getElem?_eq_getElem hi)
      rw [List.getD_eq_getElem?_getD, List.getElem?_eq_getElem hi]
      simp
      exact this.1
    | succ i ih =>
      intro hi
      have h2 := hr (i + 1) hi
      unfold risesAt at h2
      simp only [Bool.and_eq_true, Bool.or_eq_true, decide_eq_true_eq] at h2
      have h3 := ih (by omega)
      have h4 : (getJ l k).needs.getD i 0 < (getJ l k).needs.getD (i + 1) 0 := by
        rcases h2.2 with h5 | h5
        · omega
        · exact h5
      omega
  rcases Nat.lt_or_ge k (getJ l k).needs.length with hlt | hge
  · have h5 := rise k hlt
    obtain ⟨x, hx⟩ := get_ex (getJ l k).needs k hlt
    have h6 := hn k x hx
    rw [getD_eq hx] at h5
    omega
  · exact hge
end Go.Proofs.YtaebofpgdonnbaaDoor
