/- Plain laws on whole numbers and fractions in lowest terms; nothing of the program. -/
set_option linter.unusedVariables false
set_option linter.unusedSimpArgs false
namespace Go.Proofs.YtaebofpgdonnbaaDoor

def inB (n lo hi : Int) : Bool := decide (lo ≤ n) && decide (n ≤ hi)
theorem inB_iff {n lo hi : Int} : inB n lo hi = true ↔ lo ≤ n ∧ n ≤ hi := by simp [inB]
theorem inB_no {n lo hi : Int} : inB n lo hi = false ↔ ¬ (lo ≤ n ∧ n ≤ hi) := by
  rw [← inB_iff]; simp

/-- n / d in lowest terms -/
def low (n d : Int) : Int × Int := (n.tdiv (Int.gcd n d), d / (Int.gcd n d))

theorem gcd_pos (n d : Int) (h : 0 < d) : 0 < (Int.gcd n d : Int) := by
  have : 0 < Int.gcd n d := Int.gcd_pos_of_ne_zero_right n (by omega)
  omega
theorem low_num (n d : Int) : (Int.gcd n d : Int) * (low n d).1 = n := Int.mul_tdiv_cancel' (Int.gcd_dvd_left ..)
theorem low_den (n d : Int) : (Int.gcd n d : Int) * (low n d).2 = d := Int.mul_ediv_cancel' (Int.gcd_dvd_right ..)
theorem low_den_pos (n d : Int) (h : 0 < d) : 0 < (low n d).2 := by
  have h1 := low_den n d
  have h2 := gcd_pos n d h
  rcases Int.lt_or_le 0 (low n d).2 with h3 | h3
  · exact h3
  · have := Int.mul_le_mul_of_nonneg_left h3 (Int.le_of_lt h2)
    simp at this
    omega
theorem low_den_le (n d : Int) (h : 0 < d) : (low n d).2 ≤ d := by
  have h1 := low_den n d
  have h2 := gcd_pos n d h
  have h3 := low_den_pos n d h
  have := Int.mul_le_mul_of_nonneg_right (show (1 : Int) ≤ Int.gcd n d by omega) (Int.le_of_lt h3)
  omega
theorem low_num_le (n d : Int) (h : 0 < d) : (low n d).1.natAbs ≤ n.natAbs := by
  have h1 := low_num n d
  have h2 := gcd_pos n d h
  have h3 : n.natAbs = Int.gcd n d * (low n d).1.natAbs := by
    have := congrArg Int.natAbs h1
    rw [Int.natAbs_mul] at this
    simpa using this.symm
  have h4 : 1 ≤ Int.gcd n d := by omega
  have := Nat.mul_le_mul_right (low n d).1.natAbs h4
  omega
theorem low_scale (k n d : Int) (hk : 0 < k) : low (k * n) (k * d) = low n d := by
  have hg : ((Int.gcd (k * n) (k * d) : Nat) : Int) = k * (Int.gcd n d : Int) := by
    rw [Int.gcd_mul_left, Int.natCast_mul]
    congr 1
    omega
  unfold low
  rw [hg, Int.mul_tdiv_mul_of_pos _ _ hk, Int.mul_ediv_mul_of_pos _ _ hk]
theorem low_eq {n d n' d' : Int} (hd : 0 < d) (hd' : 0 < d') (h : n * d' = n' * d) : low n d = low n' d' := by
  rw [← low_scale d' n d hd', ← low_scale d n' d' hd]
  congr 1
  · rw [Int.mul_comm d' n, h, Int.mul_comm]
  · rw [Int.mul_comm]
theorem low_one (n : Int) : low n 1 = (n, 1) := by simp [low]
theorem low_cross (n d : Int) : (low n d).1 * d = n * (low n d).2 := by
  have h1 := low_num n d
  have h2 := low_den n d
  generalize (Int.gcd n d : Int) = g at *
  generalize (low n d).1 = a at *
  generalize (low n d).2 = b at *
  subst h1
  subst h2
  rw [← Int.mul_assoc, Int.mul_comm a g]
theorem low_low (n d : Int) (h : 0 < d) : low (low n d).1 (low n d).2 = low n d := low_eq (low_den_pos n d h) h (low_cross n d)
theorem gcd_low (n d : Int) (h : 0 < d) : Int.gcd (low n d).1 (low n d).2 = 1 := by
  have h1 := low_low n d h
  have h2 := low_den (low n d).1 (low n d).2
  rw [h1] at h2
  have h3 := low_den_pos n d h
  generalize (low n d).2 = b at *
  generalize Int.gcd (low n d).1 b = g at *
  have h4 : ((g : Int) - 1) * b = 0 := by rw [Int.sub_mul]; omega
  rcases Int.mul_eq_zero.1 h4 with h5 | h5 <;> omega

/-- the sum of two fractions, in lowest terms -/
def fsum (a b c d : Int) : Int × Int := low (a * d + c * b) (b * d)
theorem fsum_by (a b c d g b' d' : Int) (hg : 0 < g) (hb : b = g * b') (hd : d = g * d') : low (a * d' + c * b') (b' * d) = fsum a b c d := by
  unfold fsum
  rw [← low_scale g _ _ hg]
  congr 1
  · subst hb; subst hd
    rw [Int.mul_add]
    congr 1
    · rw [Int.mul_left_comm]
    · rw [Int.mul_left_comm]
  · rw [hb, Int.mul_assoc]

def plainB (n d : Int) : Bool := inB n (-1000000000000) 1000000000000 && inB d 1 1000000000000 && decide (Int.gcd n d = 1)
theorem plainB_iff {n d : Int} : plainB n d = true ↔ (-1000000000000 ≤ n ∧ n ≤ 1000000000000) ∧ (1 ≤ d ∧ d ≤ 1000000000000) ∧ Int.gcd n d = 1 := by
  simp [plainB, inB_iff, and_assoc]
theorem low_plain {n d : Int} (h : plainB n d = true) : low n d = (n, d) := by
  obtain ⟨_, _, h⟩ := plainB_iff.1 h
  simp [low, h]

end Go.Proofs.YtaebofpgdonnbaaDoor
