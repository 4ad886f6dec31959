/- Plain laws of binomials, bounds of errors, and a search by halves. -/
import Derived.Test.YtklpjpablmiaoaaFracMath
set_option linter.unusedVariables false
set_option linter.unusedSimpArgs false
namespace Go.Proofs.Ytklpjpablmiaoaa

def ch : Nat → Nat → Nat
  | _, 0 => 1
  | 0, _ + 1 => 0
  | n + 1, k + 1 => ch n k + ch n (k + 1)
theorem ch_zero (n : Nat) : ch n 0 = 1 := by cases n <;> rfl
theorem ch_succ (n k : Nat) : ch (n + 1) (k + 1) = ch n k + ch n (k + 1) := rfl
theorem ch_big : ∀ n k : Nat, n < k → ch n k = 0 := by
  intro n
  induction n with
  | zero => intro k h; cases k with
    | zero => omega
    | succ k => rfl
  | succ n ih => intro k h; cases k with
    | zero => omega
    | succ k => rw [ch_succ, ih k (by omega), ih (k + 1) (by omega)]
theorem ch_up : ∀ n k : Nat, ch (n + 1) (k + 1) * (k + 1) = (n + 1) * ch n k := by
  intro n
  induction n with
  | zero => intro k; cases k with
    | zero => rfl
    | succ k => rw [ch_succ]; simp [ch]
  | succ n ih => intro k; cases k with
    | zero =>
      have := ih 0
      rw [ch_zero] at this
      rw [ch_succ (n + 1) 0, ch_zero]
      omega
    | succ k =>
      have h1 := ih k
      have h2 := ih (k + 1)
      have e1 : ch (n + 1) (k + 1) = ch n k + ch n (k + 1) := ch_succ n k
      have e3 : (n + 1) * ch (n + 1) (k + 1) = (n + 1) * ch n k + (n + 1) * ch n (k + 1) := by rw [e1, Nat.mul_add]
      have e2 : ch (n + 1 + 1) (k + 1 + 1) = ch (n + 1) (k + 1) + ch (n + 1) (k + 1 + 1) := ch_succ (n + 1) (k + 1)
      rw [e2]
      generalize ch (n + 1) (k + 1) = a at *
      generalize ch (n + 1) (k + 1 + 1) = b at *
      generalize (n + 1) * ch n k = p at *
      generalize (n + 1) * ch n (k + 1) = q at *
      have f1 : (a + b) * (k + 1 + 1) = a * (k + 1) + a + b * (k + 1 + 1) := by
        rw [Nat.add_mul, Nat.mul_succ a (k + 1)]
      have f2 : (n + 1 + 1) * a = (n + 1) * a + a := by rw [Nat.succ_mul]
      omega
theorem ch_next (n k : Nat) : ch n (k + 1) * (k + 1) = ch n k * (n - k) := by
  rcases Nat.lt_or_ge n k with h | h
  · rw [ch_big n k h, ch_big n (k + 1) (by omega)]; omega
  · have h1 := ch_up n k
    rw [ch_succ, Nat.add_mul] at h1
    have h2 : (n + 1) * ch n k = ch n k * (k + 1) + ch n k * (n - k) := by
      rw [← Nat.mul_add, Nat.mul_comm]; congr 1; omega
    omega
theorem ch_pow (n : Nat) : ∀ k, ch n k ≤ 2 ^ n := by
  induction n with
  | zero => intro k; cases k <;> simp [ch]
  | succ n ih => intro k; cases k with
    | zero => rw [ch_zero]; exact Nat.one_le_two_pow
    | succ k => rw [ch_succ, Nat.pow_succ]; have := ih k; have := ih (k + 1); omega
theorem ch_mono (n k : Nat) : ch n k ≤ ch (n + 1) (k + 1) := by rw [ch_succ]; omega
/-- the next binomial by one product and one division -/
theorem ch_div (n k : Nat) : ch n k * (n - k) / (k + 1) = ch n (k + 1) := by
  rw [← ch_next]; exact Nat.mul_div_cancel _ (by omega)
theorem ch_div_up (n k : Nat) : ch n k * (n + 1) / (k + 1) = ch (n + 1) (k + 1) := by
  rw [Nat.mul_comm, ← ch_up]; exact Nat.mul_div_cancel _ (by omega)
/-- once too great, too great for good -/
theorem ch_stay (n k : Nat) (hk : k ≤ 8) (h : 1000000000000 < ch n k) : 1000000000000 < ch n (k + 1) := by
  have hn : 17 ≤ n := by
    rcases Nat.lt_or_ge n 17 with h1 | h1
    · have := ch_pow n k
      have h2 : 2 ^ n ≤ 2 ^ 17 := Nat.pow_le_pow_right (by omega) (by omega)
      omega
    · exact h1
  have h1 := ch_next n k
  have h2 : ch n k * (k + 1) ≤ ch n k * (n - k) := Nat.mul_le_mul_left _ (by omega)
  have h3 : ch n k * (k + 1) ≤ ch n (k + 1) * (k + 1) := by omega
  have := Nat.le_of_mul_le_mul_right h3 (by omega)
  omega
/-- a binomial, 10^12 + 1 where it is greater than 10^12 -/
def cb (n k : Nat) : Int := min (ch n k : Int) 1000000000001
theorem cb_bd (n k : Nat) : 0 ≤ cb n k ∧ cb n k ≤ 1000000000001 := by unfold cb; omega
theorem cb_zero (n : Nat) : cb n 0 = 1 := by unfold cb; rw [ch_zero]; rfl
theorem cb_next (n k : Nat) (h : cb n k ≤ 1000000000000) : min (cb n k * max ((n : Int) - (k + 1) + 1) 0 / (k + 1)) 1000000000001 = cb n (k + 1) := by
  have h1 : cb n k = (ch n k : Int) := by unfold cb at *; omega
  have h2 : max ((n : Int) - (k + 1) + 1) 0 = ((n - k : Nat) : Int) := by omega
  rw [h1, h2, ← Int.natCast_mul, show ((k : Int) + 1) = ((k + 1 : Nat) : Int) by omega, ← Int.natCast_ediv, ch_div]
  rfl
theorem cb_stay (n k : Nat) (hk : k ≤ 8) (h : ¬ cb n k ≤ 1000000000000) : cb n (k + 1) = cb n k := by
  have h1 : 1000000000000 < ch n k := by unfold cb at h; omega
  have h2 := ch_stay n k hk h1
  unfold cb
  omega
theorem ch_diag (m i j : Nat) : ch m i ≤ ch (m + j) (i + j) := by
  induction j with
  | zero => exact Nat.le_refl _
  | succ j ih => exact Nat.le_trans ih (ch_mono _ _)
/-- the reference's product: too great on the way, too great at its end -/
theorem cb_up_full (n k i : Nat) (hi : i ≤ k) (hk : k ≤ n) (h : 1000000000000 < ch (n - k + i) i) : cb n k = 1000000000001 := by
  have h1 := ch_diag (n - k + i) i (k - i)
  rw [show n - k + i + (k - i) = n by omega, show i + (k - i) = k by omega] at h1
  unfold cb
  omega
theorem cb_up_end (n k : Nat) (h : ch n k ≤ 1000000000000) : cb n k = (ch n k : Int) := by unfold cb; omega
theorem ch_up_int (m i : Nat) : ((ch m i : Int) * ((m : Int) + 1) / ((i : Int) + 1)) = (ch (m + 1) (i + 1) : Int) := by
  rw [show ((m : Int) + 1) = ((m + 1 : Nat) : Int) by omega, show ((i : Int) + 1) = ((i + 1 : Nat) : Int) by omega, ← Int.natCast_mul, ← Int.natCast_ediv, ch_div_up]

/-- one round of a sum -/
def stp (x c s : Int) : Int := if 0 < x then min 1000000000001 (s + x * min c (1000000000000 / x + 1)) else s
theorem stp_zero {x c s : Int} (h : ¬ 0 < x) : stp x c s = s := by unfold stp; rw [if_neg h]
theorem stp_pos {x c s : Int} (h : 0 < x) : stp x c s = min 1000000000001 (s + x * min c (1000000000000 / x + 1)) := by unfold stp; rw [if_pos h]
theorem stp_bd {x c s : Int} (hc : 0 ≤ c) (hs : 0 ≤ s ∧ s ≤ 1000000000001) : 0 ≤ stp x c s ∧ stp x c s ≤ 1000000000001 := by
  by_cases h : 0 < x
  · rw [stp_pos h]
    have h1 : 0 ≤ 1000000000000 / x := Int.ediv_nonneg (by omega) (by omega)
    have h2 : 0 ≤ x * min c (1000000000000 / x + 1) := Int.mul_nonneg (by omega) (by omega)
    omega
  · rw [stp_zero h]; exact hs
theorem stp_top {x c : Int} (hc : 0 ≤ c) : stp x c 1000000000001 = 1000000000001 := by
  by_cases h : 0 < x
  · rw [stp_pos h]
    have h1 : 0 ≤ 1000000000000 / x := Int.ediv_nonneg (by omega) (by omega)
    have h2 : 0 ≤ x * min c (1000000000000 / x + 1) := Int.mul_nonneg (by omega) (by omega)
    omega
  · rw [stp_zero h]
theorem over {x : Int} (h : 0 < x) : 1000000000000 < x * (1000000000000 / x + 1) := by
  have h1 := Int.lt_ediv_add_one_mul_self 1000000000000 h
  rw [Int.mul_comm]; exact h1
theorem stp_over {x c s : Int} (h : 0 < x) (hc : 1000000000000 / x < c) (hs : 0 ≤ s) : stp x c s = 1000000000001 := by
  rw [stp_pos h, show min c (1000000000000 / x + 1) = 1000000000000 / x + 1 by omega]
  have := over h
  omega
theorem mul_in {x c : Int} (h : 0 < x) (hc0 : 0 ≤ c) (hc : ¬ 1000000000000 / x < c) : 0 ≤ x * c ∧ x * c ≤ 1000000000000 := by
  have h1 := Int.mul_le_mul_of_nonneg_left (show c ≤ 1000000000000 / x by omega) (show 0 ≤ x by omega)
  have h2 := Int.mul_ediv_self_le (x := 1000000000000) (k := x) (by omega)
  exact ⟨Int.mul_nonneg (by omega) hc0, by omega⟩
theorem stp_in {x c s : Int} (h : 0 < x) (hc : ¬ 1000000000000 / x < c) : stp x c s = min 1000000000001 (s + x * c) := by
  rw [stp_pos h, show min c (1000000000000 / x + 1) = c by omega]
theorem mul_cap {x c : Int} (h : 0 < x) (hx : x ≤ 1000000) (hc0 : 0 ≤ c) : 0 ≤ x * min c (1000000000000 / x + 1) ∧ x * min c (1000000000000 / x + 1) ≤ 1000001000000 := by
  have h0 : 0 ≤ 1000000000000 / x := Int.ediv_nonneg (by omega) (by omega)
  have h1 := Int.mul_le_mul_of_nonneg_left (show min c (1000000000000 / x + 1) ≤ 1000000000000 / x + 1 by omega) (show 0 ≤ x by omega)
  have h2 := Int.mul_ediv_self_le (x := 1000000000000) (k := x) (by omega)
  have h3 : x * (1000000000000 / x + 1) = x * (1000000000000 / x) + x := by rw [Int.mul_add, Int.mul_one]
  exact ⟨Int.mul_nonneg (by omega) (by omega), by omega⟩

/-- the sum over the rest of the errors -/
def sumF (n : Nat) : Nat → Int → List Int → Int
  | _, s, [] => s
  | k, s, x :: l => sumF n (k + 1) (stp x (cb n k) s) l
def sumB (l : List Int) (n : Nat) : Int := sumF n 0 0 l
theorem sumF_top (n : Nat) (l : List Int) : ∀ k, sumF n k 1000000000001 l = 1000000000001 := by
  induction l with
  | nil => intro k; rfl
  | cons x l ih => intro k; rw [sumF, stp_top (cb_bd n k).1]; exact ih _
theorem sumF_bd (n : Nat) (l : List Int) : ∀ k s, 0 ≤ s ∧ s ≤ 1000000000001 → 0 ≤ sumF n k s l ∧ sumF n k s l ≤ 1000000000001 := by
  induction l with
  | nil => intro k s h; exact h
  | cons x l ih => intro k s h; rw [sumF]; exact ih _ _ (stp_bd (cb_bd n k).1 h)
theorem sumB_bd (l : List Int) (n : Nat) : 0 ≤ sumB l n ∧ sumB l n ≤ 1000000000001 := sumF_bd n l 0 0 (by omega)
theorem drop_one {α : Type} {l : List α} {k : Nat} {x : α} (h : l[k]? = some x) : l.drop k = x :: l.drop (k + 1) := by
  obtain ⟨hk, rfl⟩ := List.getElem?_eq_some_iff.1 h
  exact List.drop_eq_getElem_cons hk
theorem sumF_at {n k : Nat} {s x : Int} {l : List Int} (h : l[k]? = some x) : sumF n k s (l.drop k) = sumF n (k + 1) (stp x (cb n k) s) (l.drop (k + 1)) := by rw [drop_one h, sumF]

def slipB (x : Int) : Bool := inB x 0 1000000
def slipsB (l : List Int) : Bool := l.all slipB && inB l.length 1 9
theorem slips_at {l : List Int} (h : slipsB l = true) {k : Nat} {x : Int} (hx : l[k]? = some x) : 0 ≤ x ∧ x ≤ 1000000 := by
  unfold slipsB at h
  rw [Bool.and_eq_true] at h
  exact inB_iff.1 (List.all_eq_true.1 h.1 x (List.mem_of_getElem? hx))
theorem slips_len {l : List Int} (h : slipsB l = true) : 1 ≤ l.length ∧ l.length ≤ 9 := by
  unfold slipsB at h
  rw [Bool.and_eq_true] at h
  have := inB_iff.1 h.2
  omega

/-- the table of bounds: none where one is too great -/
def boundL (l : List Int) : Nat → List Int
  | 0 => []
  | k + 1 => boundL l k ++ [sumB l k]
theorem boundL_len (l : List Int) (k : Nat) : (boundL l k).length = k := by
  induction k with
  | zero => rfl
  | succ k ih => rw [boundL, List.length_append, ih]; rfl
def boundOk (l : List Int) (n : Nat) : Bool := (List.range n).all fun k => decide (sumB l k ≤ 1000000000000)
theorem boundOk_succ (l : List Int) (n : Nat) : boundOk l (n + 1) = (boundOk l n && decide (sumB l n ≤ 1000000000000)) := by
  unfold boundOk; rw [List.range_succ, List.all_append]; simp
theorem boundOk_no {l : List Int} {n k : Nat} (hk : k < n) (h : 1000000000000 < sumB l k) : boundOk l n = false := by
  unfold boundOk
  rw [List.all_eq_false]
  exact ⟨k, List.mem_range.2 hk, by simp; omega⟩
def boundR (l : List Int) (c : Int) : List Int × Int :=
  if slipsB l && inB c 0 200 then (if boundOk l c.toNat then (boundL l c.toNat, 0) else ([], 5)) else ([], 2)
theorem boundR_len (l : List Int) (c : Int) : (boundR l c).1.length ≤ 200 := by
  unfold boundR
  split
  · rename_i h
    rw [Bool.and_eq_true] at h
    have := inB_iff.1 h.2
    split
    · simp only [boundL_len]; omega
    · simp
  · simp

def bsr (P : Int → Bool) : Nat → Int → Int → Int
  | 0, lo, _ => lo
  | f + 1, lo, hi => if lo < hi then (if P ((lo + hi + 1) / 2) = true then bsr P f ((lo + hi + 1) / 2) hi else bsr P f lo ((lo + hi + 1) / 2 - 1)) else lo
theorem bsr_yes {P : Int → Bool} {f : Nat} {lo hi : Int} (h : lo < hi) (hp : P ((lo + hi + 1) / 2) = true) : bsr P (f + 1) lo hi = bsr P f ((lo + hi + 1) / 2) hi := by
  conv => lhs; unfold bsr
  rw [if_pos h, if_pos hp]
theorem bsr_no {P : Int → Bool} {f : Nat} {lo hi : Int} (h : lo < hi) (hp : P ((lo + hi + 1) / 2) = false) : bsr P (f + 1) lo hi = bsr P f lo ((lo + hi + 1) / 2 - 1) := by
  conv => lhs; unfold bsr
  rw [if_pos h, if_neg (by rw [hp]; simp)]
theorem bsr_end {P : Int → Bool} {f : Nat} {lo hi : Int} (h : ¬ lo < hi) : bsr P f lo hi = lo := by
  cases f with
  | zero => rfl
  | succ f => unfold bsr; rw [if_neg h]
def safeP (l : List Int) (lim : Int) (m : Int) : Bool := decide (sumB l m.toNat ≤ lim)
def safeR (l : List Int) (lim : Int) : Int × Int :=
  if slipsB l && inB lim 0 1000000000000 then (if lim < sumB l 0 then (0, 3) else (bsr (safeP l lim) 100001 0 100000, 0)) else (0, 2)

end Go.Proofs.Ytklpjpablmiaoaa
