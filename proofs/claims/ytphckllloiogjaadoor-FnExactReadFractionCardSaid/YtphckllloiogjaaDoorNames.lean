/- Contracts: what is a name. -/
import Derived.Test.YtphckllloiogjaaDoorCore
set_option linter.unusedVariables false
set_option linter.unusedSimpArgs false
namespace Go.Proofs.YtphckllloiogjaaDoor
open Go.RowKit

/-- a byte that may stand at place i of a name -/
def okC (i : Nat) (c : Int) : Bool := decide (97 ≤ c ∧ c ≤ 122 ∨ i ≠ 0 ∧ (c = 45 ∨ 48 ≤ c ∧ c ≤ 57))
def byteAt (s : ByteArray) (i : Nat) : Int := ((s.data.toList[i]?.getD 0).toNat : Int)
def nameB (s : ByteArray) : Bool := decide (0 < s.size ∧ s.size ≤ 12) && (List.range s.size).all fun i => okC i (byteAt s i)

theorem byteAt_eq (s : ByteArray) (k : Nat) (h : k < s.size) : (s[k].toNat : Int) = byteAt s k := by
  have h' : k < s.data.toList.length := by simpa using h
  unfold byteAt
  rw [List.getElem?_eq_getElem h']
  rfl
theorem byteAt_bd (s : ByteArray) (k : Nat) : 0 ≤ byteAt s k ∧ byteAt s k ≤ 255 := by
  unfold byteAt
  have := (s.data.toList[k]?.getD 0).toNat_lt
  omega
theorem all_range_succ (p : Nat → Bool) (k : Nat) (h : (List.range k).all p = true) (hp : p k = true) : (List.range (k + 1)).all p = true := by
  rw [List.range_succ, List.all_append, h]; simp [hp]
theorem nameB_no (s : ByteArray) (k : Nat) (hk : k < s.size) (h : okC k (byteAt s k) = false) : nameB s = false := by
  unfold nameB
  rw [Bool.and_eq_false_iff]
  right
  rw [List.all_eq_false]
  exact ⟨k, List.mem_range.2 hk, by simp [h]⟩
theorem nameB_size (s : ByteArray) (h : ¬ (0 < s.size ∧ s.size ≤ 12)) : nameB s = false := by
  unfold nameB
  rw [decide_eq_false h]; rfl

def digB (c : Int) : Bool := decide (48 ≤ c ∧ c ≤ 57)
def smallB (c : Int) : Bool := decide (97 ≤ c ∧ c ≤ 122)

theorem isDigit_c (c : Int) (w : World) : Calls Tryd.prog 30 #[.int .u8 c] w fun e w' => e = .returned (.bool (digB c)) ∧ w = w' := by
  go_enter Tryd.func30, Tryd.ntmps30
  go_wp2
  all_goals (go_ret; exact ⟨ret_bool (by simp [digB]; omega), rfl⟩)
theorem l01Digit_c (c : Int) (w : World) : Calls Tryd.prog 29 #[.int .u8 c] w fun e w' => e = .returned (.bool (digB c)) ∧ w = w' := by
  go_enter Tryd.func29, Tryd.ntmps29
  go_wp2
  all_goals (go_ret; exact ⟨ret_bool (by simp [digB]; omega), rfl⟩)


theorem size_toList (s : ByteArray) : s.toList.isEmpty = decide (s.size = 0) := by
  rw [ByteArray.toList_eq]
  cases h : s.data.toList with
  | nil =>
    have : s.size = 0 := by
      have h1 := congrArg List.length h
      simpa using h1
    simp [this]
  | cons a l =>
    have : ¬ s.size = 0 := by
      have h1 := congrArg List.length h
      simp at h1
      have : s.size = s.data.size := rfl
      omega
    simp [this]


end Go.Proofs.YtphckllloiogjaaDoor
