/- Plain laws of what is left of an inventory when a piece is cut. -/
import Derived.Test.YtnifpmfmhilhlaaPieceMath4
set_option linter.unusedVariables false
set_option linter.unusedSimpArgs false
namespace Go.Proofs.Ytnifpmfmhilhlaa

def keptN (l : List PieceD) (k m : Nat) : Nat := ((List.range m).filter fun i => !uB l k i).length
theorem keptN_le (l : List PieceD) (k m : Nat) : keptN l k m ≤ m := by
  unfold keptN
  have := List.length_filter_le (fun i => !uB l k i) (List.range m)
  rw [List.length_range] at this
  exact this
/-- the new places when index m has been reached -/
def plI (l : List PieceD) (k m j : Nat) : Int := if (decide (j < m) && !uB l k j) = true then (keptN l k j : Int) else 0
def plV (l : List PieceD) (k m j : Nat) : Value := .int .i64 (plI l k m j)
theorem plV_start (l : List PieceD) (n k : Nat) : fl n (fun _ => Value.int .i64 0) = fl n (plV l k 0) := fl_congr fun j _ => by unfold plV plI; simp
theorem plV_gone {l : List PieceD} {n k m : Nat} (hu : uB l k m = true) : fl n (plV l k m) = fl n (plV l k (m + 1)) := fl_congr fun j _ => by
  unfold plV plI
  by_cases h : j = m
  · subst h; rw [hu]; simp
  · by_cases h2 : j < m
    · rw [decide_eq_true h2, decide_eq_true (by omega)]
    · rw [decide_eq_false h2, decide_eq_false (by omega)]
theorem plV_set {l : List PieceD} {n k m : Nat} (hu : uB l k m = false) : (fl n (plV l k m)).set m (.int .i64 (keptN l k m : Int)) = fl n (plV l k (m + 1)) := by
  apply fl_set_eq
  intro j hj
  unfold plV plI
  by_cases h : j = m
  · subst h; rw [if_pos rfl, hu]; simp
  · rw [if_neg h]
    by_cases h2 : j < m
    · rw [decide_eq_true h2, decide_eq_true (by omega)]
    · rw [decide_eq_false h2, decide_eq_false (by omega)]
/-- piece i with its new parent -/
def cutD (l : List PieceD) (k i : Nat) : PieceD := { getP l i with parent := if i = 0 then (getP l i).parent else plI l k (i + 1) (getP l i).parent.toNat }
def cutL (l : List PieceD) (k m : Nat) : List PieceD := ((List.range m).filter fun i => !uB l k i).map (cutD l k)
theorem cutL_len (l : List PieceD) (k m : Nat) : (cutL l k m).length = keptN l k m := by unfold cutL keptN; rw [List.length_map]
theorem cutL_no {l : List PieceD} {k m : Nat} (hu : uB l k m = true) : cutL l k (m + 1) = cutL l k m := by
  unfold cutL
  rw [List.range_succ, List.filter_append]
  simp [hu]
theorem cutL_yes {l : List PieceD} {k m : Nat} (hu : uB l k m = false) : cutL l k (m + 1) = cutL l k m ++ [cutD l k m] := by
  unfold cutL
  rw [List.range_succ, List.filter_append, List.map_append]
  simp [hu]
/-- the marks when q of the pieces under piece k have been marked -/
def goneB (l : List PieceD) (k n q j : Nat) : Bool := decide (j = k) || ((undL l k n).take q).contains (j : Int)
theorem goneB_end {l : List PieceD} {k n q j : Nat} (hq : (undL l k n).length ≤ q) (hj : j < n) : goneB l k n q j = uB l k j := by
  unfold goneB
  rw [List.take_of_length_le hq]
  by_cases h : j = k
  · subst h; rw [uB_self]; simp
  · rw [decide_eq_false h, Bool.false_or, Bool.eq_iff_iff, List.contains_iff_mem]
    unfold undL
    simp only [List.mem_map, List.mem_filter, List.mem_range, Bool.and_eq_true, decide_eq_true_eq]
    constructor
    · rintro ⟨i, ⟨_, _, hu⟩, hi⟩
      obtain rfl : i = j := by omega
      exact hu
    · intro hu
      refine ⟨j, ⟨hj, ?_, hu⟩, rfl⟩
      rcases Nat.lt_trichotomy j k with h1 | h1 | h1
      · rw [uB_low l h1] at hu; cases hu
      · exact absurd h1 h
      · exact h1
theorem goneB_zero (l : List PieceD) (k n j : Nat) : goneB l k n 0 j = decide (j = k) := by unfold goneB; simp
def goneV (l : List PieceD) (k n q j : Nat) : Value := .bool (goneB l k n q j)
theorem goneV_start (l : List PieceD) (k n : Nat) : (fl n (fun _ => Value.bool false)).set k (.bool true) = fl n (goneV l k n 0) := by
  apply fl_set_eq
  intro j hj
  unfold goneV
  rw [goneB_zero]
  by_cases h : j = k
  · rw [if_pos h, decide_eq_true h]
  · rw [if_neg h, decide_eq_false h]
theorem goneV_set {l : List PieceD} {k n q i : Nat} (h : (undL l k n)[q]? = some (i : Int)) : (fl n (goneV l k n q)).set i (.bool true) = fl n (goneV l k n (q + 1)) := by
  apply fl_set_eq
  intro j hj
  unfold goneV goneB
  rw [List.take_add_one, h]
  by_cases hji : j = i
  · subst hji; rw [if_pos rfl]; simp
  · rw [if_neg hji]
    have : ¬ ((j : Int) = (i : Int)) := by omega
    simp [this]
theorem undL_at {l : List PieceD} {k n q : Nat} (h : q < (undL l k n).length) : ∃ i : Nat, (undL l k n)[q]? = some (i : Int) ∧ i < n := by
  have hm := List.getElem_mem h
  unfold undL at hm
  simp only [List.mem_map, List.mem_filter, List.mem_range] at hm
  obtain ⟨i, ⟨hi, _⟩, he⟩ := hm
  refine ⟨i, ?_, hi⟩
  rw [List.getElem?_eq_getElem h]
  exact congrArg some he.symm
end Go.Proofs.Ytnifpmfmhilhlaa
