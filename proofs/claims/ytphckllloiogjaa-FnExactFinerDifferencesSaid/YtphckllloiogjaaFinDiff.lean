/- Plain laws of the differences of a finer table. -/
import Derived.Test.YtphckllloiogjaaFin4
import Derived.Test.YtphckllloiogjaaCommon
set_option linter.unusedVariables false
set_option linter.unusedSimpArgs false
namespace Go.Proofs.Ytphckllloiogjaa
open Go.RowKit

/-- the numerator of a difference of order j at place i, over the denominator of the table -/
def NN (l : List Int) (p : Int) : Nat → Nat → Int
  | 0, i => pnum (leads l) i p l.length
  | j + 1, i => NN l p j (i + 1) - NN l p j i
def DM (l : List Int) (p : Int) : Int := blw p l.length
def levL (l : List Int) (p : Int) (j : Nat) : Nat → List (Int × Int)
  | 0 => []
  | m + 1 => levL l p j m ++ [low (NN l p j m) (DM l p)]
theorem levL_len (l : List Int) (p : Int) (j m : Nat) : (levL l p j m).length = m := by
  induction m with
  | zero => rfl
  | succ m ih => rw [levL, List.length_append, ih]; rfl
theorem levL_get (l : List Int) (p : Int) (j m i : Nat) (h : i < m) : (levL l p j m)[i]? = some (low (NN l p j i) (DM l p)) := by
  induction m with
  | zero => omega
  | succ m ih =>
    rw [levL]
    by_cases hi : i < m
    · rw [List.getElem?_append_left (by rw [levL_len]; exact hi)]; exact ih hi
    · obtain rfl : i = m := by omega
      rw [List.getElem?_append_right (by rw [levL_len]; exact Nat.le_refl _), levL_len]; simp
theorem finL_lev (l : List Int) (p : Int) (m : Nat) : finL l p m = levL l p 0 m := by
  induction m with
  | zero => rfl
  | succ m ih => rw [finL, levL, ih]; rfl
def outL (l : List Int) (p : Int) : Nat → List (Int × Int)
  | 0 => []
  | j + 1 => outL l p j ++ [low (NN l p j 0) (DM l p)]
theorem outL_len (l : List Int) (p : Int) (m : Nat) : (outL l p m).length = m := by
  induction m with
  | zero => rfl
  | succ m ih => rw [outL, List.length_append, ih]; rfl
def outOk (l : List Int) (p : Int) (m : Nat) : Bool := plainsB (outL l p m)
theorem outOk_succ (l : List Int) (p : Int) (m : Nat) : outOk l p (m + 1) = (outOk l p m && plainB (low (NN l p m 0) (DM l p)).1 (low (NN l p m 0) (DM l p)).2) := by
  unfold outOk plainsB
  rw [outL, List.all_append]; simp
theorem outOk_le (l : List Int) (p : Int) {j m : Nat} (h : j ≤ m) (hf : outOk l p j = false) : outOk l p m = false := by
  induction m with
  | zero => obtain rfl : j = 0 := by omega
            exact hf
  | succ m ih =>
    by_cases hj : j ≤ m
    · rw [outOk_succ, ih hj]; rfl
    · obtain rfl : j = m + 1 := by omega
      exact hf
theorem outOk_no (l : List Int) (p : Int) {j m : Nat} (h : j < m) (hf : plainB (low (NN l p j 0) (DM l p)).1 (low (NN l p j 0) (DM l p)).2 = false) : outOk l p m = false :=
  outOk_le l p (show j + 1 ≤ m by omega) (by rw [outOk_succ, hf, Bool.and_false])
def finD (l : List Int) (p : Int) : List (Int × Int) × Int :=
  if knownB l && inB p 1 20 then (if finOk l p l.length then (if outOk l p l.length then (outL l p l.length, 0) else ([], 5)) else ([], 5)) else ([], 2)
theorem finD_len (l : List Int) (p : Int) : (finD l p).1.length ≤ 6 := by
  unfold finD
  split
  · rename_i h
    rw [Bool.and_eq_true] at h
    have := (known_len h.1).2
    split
    · split
      · simp only [outL_len]; exact this
      · simp
    · simp
  · simp
theorem NN_bd {l : List Int} {p : Int} (hk : knownB l = true) (hp : 1 ≤ p ∧ p ≤ 20) : ∀ j i, i + j < l.length → (NN l p j i).natAbs ≤ 100000000000000000 * 2 ^ j := by
  have h6 := (known_len hk).2
  intro j
  induction j with
  | zero =>
    intro i h
    have h1 := pnum_bd (U := U2) (num := (i : Int)) (fun j => U2_ok (by omega) hp j) hp (leads_bd hk) l.length
    have h2 := tab3 l.length (by omega)
    rw [NN]
    omega
  | succ j ih =>
    intro i h
    have h1 := ih i (by omega)
    have h2 := ih (i + 1) (by omega)
    rw [NN, Nat.pow_succ]
    omega
theorem NN_small {l : List Int} {p : Int} (hk : knownB l = true) (hp : 1 ≤ p ∧ p ≤ 20) (j i : Nat) (h : i + j < l.length) : (NN l p j i).natAbs ≤ 3200000000000000000 := by
  have h1 := NN_bd hk hp j i h
  have h6 := (known_len hk).2
  have h2 : 2 ^ j ≤ 2 ^ 5 := Nat.pow_le_pow_right (by omega) (by omega)
  have h3 : (2 : Nat) ^ 5 = 32 := rfl
  omega
theorem DM_bd {l : List Int} {p : Int} (hk : knownB l = true) (hp : 1 ≤ p ∧ p ≤ 20) : 1 ≤ DM l p ∧ DM l p ≤ 384000000 := blw_bd hp l.length (known_len hk).2
theorem low_back (X M : Int) (hM : 0 < M) : (low X M).1 * (M / (low X M).2) = X := by
  have h1 := low_num X M
  have h2 := low_den X M
  have h3 := low_den_pos X M hM
  have h4 : M / (low X M).2 = (Int.gcd X M : Int) := by
    have h5 := Int.mul_ediv_cancel (Int.gcd X M : Int) (show (low X M).2 ≠ 0 by omega)
    rwa [h2] at h5
  rw [h4, Int.mul_comm]; exact h1
theorem low_quo (X M : Int) (hM : 0 < M) : 1 ≤ M / (low X M).2 ∧ M / (low X M).2 ≤ M := by
  have h3 := low_den_pos X M hM
  have h2 := low_den X M
  have hg := gcd_pos X M hM
  refine ⟨?_, Int.ediv_le_self _ (by omega)⟩
  have h4 : M / (low X M).2 = (Int.gcd X M : Int) := by
    have h5 := Int.mul_ediv_cancel (Int.gcd X M : Int) (show (low X M).2 ≠ 0 by omega)
    rwa [h2] at h5
  omega

end Go.Proofs.Ytphckllloiogjaa
