/- Plain laws of a guess: a sum with binomials and changing signs. -/
import Derived.Test.YtklpjpablmiaoaaBoundMath
set_option linter.unusedVariables false
set_option linter.unusedSimpArgs false
namespace Go.Proofs.Ytklpjpablmiaoaa

theorem ch_small {n k : Nat} (h : n ≤ 8) : ch n k ≤ 256 := by
  have h1 := ch_pow n k
  have h2 : 2 ^ n ≤ 2 ^ 8 := Nat.pow_le_pow_right (by omega) h
  omega
theorem ch_sym : ∀ n, n < 9 → ∀ k, k < 9 → k ≤ n → ch n (min k (n - k)) = ch n k := by decide
theorem ch_div_int (n i : Nat) (h : i ≤ n) : (ch n i : Int) * ((n : Int) - i) / ((i : Int) + 1) = (ch n (i + 1) : Int) := by
  rw [show (n : Int) - i = ((n - i : Nat) : Int) by omega, show ((i : Int) + 1) = ((i + 1 : Nat) : Int) by omega, ← Int.natCast_mul, ← Int.natCast_ediv, ch_div]

def sgn (j : Nat) : Int := if j % 2 = 1 then 1 else -1
theorem sgn_one : sgn 1 = 1 := rfl
theorem sgn_succ (j : Nat) : sgn (j + 1) = -(sgn j) := by
  unfold sgn
  by_cases h : j % 2 = 1
  · rw [if_neg (by omega), if_pos h]
  · rw [if_pos (by omega), if_neg h]; rfl
theorem sgn_bd (j : Nat) : sgn j = 1 ∨ sgn j = -1 := by unfold sgn; split <;> omega
/-- the place of a row's neighbour -/
def nbr (row order j : Nat) : Nat := if row < order then row + j else row - j
def gtm (l : List Int) (row order j : Nat) : Int := (ch order j : Int) * l.getD (nbr row order j) 0
def gsum (l : List Int) (row order : Nat) : Nat → Int
  | 0 => 0
  | j + 1 => gsum l row order j + sgn (j + 1) * gtm l row order (j + 1)
def smallV (l : List Int) : Prop := ∀ i, -1000000000000 ≤ l.getD i 0 ∧ l.getD i 0 ≤ 1000000000000
theorem gtm_bd {l : List Int} (h : smallV l) {row order j : Nat} (ho : order ≤ 8) : (gtm l row order j).natAbs ≤ 256000000000000 := by
  unfold gtm
  rw [Int.natAbs_mul, Int.natAbs_natCast]
  have h1 := ch_small (k := j) ho
  have h2 := h (nbr row order j)
  have := Nat.mul_le_mul h1 (show (l.getD (nbr row order j) 0).natAbs ≤ 1000000000000 by omega)
  omega
theorem sg_mul {s x : Int} (h : s = 1 ∨ s = -1) : (s * x).natAbs = x.natAbs := by
  rcases h with rfl | rfl
  · rw [Int.one_mul]
  · rw [Int.neg_mul, Int.one_mul, Int.natAbs_neg]
theorem gsum_bd {l : List Int} (h : smallV l) {row order : Nat} (ho : order ≤ 8) (j : Nat) : (gsum l row order j).natAbs ≤ 256000000000000 * j := by
  induction j with
  | zero => exact Nat.le_refl _
  | succ j ih =>
    rw [gsum]
    have h1 := gtm_bd (row := row) (j := j + 1) h ho
    have h2 := sg_mul (x := gtm l row order (j + 1)) (sgn_bd (j + 1))
    have := Int.natAbs_add_le (gsum l row order j) (sgn (j + 1) * gtm l row order (j + 1))
    omega
def gss (l : List Int) (row order : Nat) : Int := gsum l row order order
theorem gss_bd {l : List Int} (h : smallV l) {row order : Nat} (ho : order ≤ 8) : -3000000000000000 ≤ gss l row order ∧ gss l row order ≤ 3000000000000000 := by
  have := gsum_bd (row := row) h ho order
  unfold gss
  omega

/-- the rows that do not fit, one after the other; the values change on the way -/
def oddG (order : Nat) : Nat → Nat → List Int → List Int
  | 0, _, _ => []
  | f + 1, i, l => if gss l i order = l.getD i 0 then oddG order f (i + 1) l else (i : Int) :: oddG order f (i + 1) (if inB (gss l i order) (-1000000000000) 1000000000000 then l.set i (gss l i order) else l)
theorem oddG_len (order f : Nat) : ∀ i l, (oddG order f i l).length ≤ f := by
  induction f with
  | zero => intro i l; exact Nat.le_refl _
  | succ f ih =>
    intro i l
    rw [oddG]
    split
    · have := ih (i + 1) l; omega
    · rw [List.length_cons]; have := ih (i + 1) (if inB (gss l i order) (-1000000000000) 1000000000000 then l.set i (gss l i order) else l); omega
theorem small_set {l : List Int} (h : smallV l) (i : Nat) {x : Int} (hx : -1000000000000 ≤ x ∧ x ≤ 1000000000000) : smallV (l.set i x) := by
  intro j
  rw [List.getD_eq_getElem?_getD, List.getElem?_set]
  split
  · split
    · exact hx
    · simp
  · rw [← List.getD_eq_getElem?_getD]; exact h j
theorem small_of {l : List Int} (h : ∀ x ∈ l, -1000000000000 ≤ x ∧ x ≤ 1000000000000) : smallV l := by
  intro i
  rcases Nat.lt_or_ge i l.length with hi | hi
  · rw [List.getD_eq_getElem?_getD, List.getElem?_eq_getElem hi]; exact h _ (List.getElem_mem hi)
  · rw [List.getD_eq_getElem?_getD, List.getElem?_eq_none hi]; simp

end Go.Proofs.Ytklpjpablmiaoaa
