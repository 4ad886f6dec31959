/- Plain laws of the check digit; nothing of the program. -/
import Derived.Test.YtaebofpgdonnbaaDoorFracMath
set_option linter.unusedVariables false
set_option linter.unusedSimpArgs false
namespace Go.Proofs.YtaebofpgdonnbaaDoor

/-- the decimal digits of x, the lowest one k times, the next one k + 1 times .. -/
def wsum (k x : Nat) : Nat := if x = 0 then 0 else k * (x % 10) + wsum (k + 1) (x / 10)
termination_by x
decreasing_by omega
theorem wsum_zero (k : Nat) : wsum k 0 = 0 := by rw [wsum]; rfl
theorem wsum_step (k x : Nat) (h : 0 < x) : wsum k x = k * (x % 10) + wsum (k + 1) (x / 10) := by rw [wsum, if_neg (by omega)]
def neg5 (n : Int) : Nat := if n < 0 then 5 else 0
def chk (n : Int) : Int := (((wsum 1 n.natAbs + neg5 n) % 11 : Nat) : Int)
theorem chk_range (n : Int) : 0 ≤ chk n ∧ chk n ≤ 10 := by unfold chk; omega

/-- room for the digits that are left -/
def room (k x : Nat) : Prop := 1 ≤ k ∧ k ≤ 14 ∧ x < 10 ^ (14 - k)
theorem room_start (x : Nat) (h : x ≤ 1000000000000) : room 1 x := ⟨by omega, by omega, by simp; omega⟩
theorem room_step {k x : Nat} (h : room k x) (hx : 0 < x) : room (k + 1) (x / 10) := by
  obtain ⟨h1, h2, h3⟩ := h
  have h4 : k < 14 := by
    rcases Nat.lt_or_ge k 14 with h | h
    · exact h
    · rw [show 14 - k = 0 by omega] at h3; simp at h3; omega
  refine ⟨by omega, by omega, ?_⟩
  rw [show 14 - k = (14 - (k + 1)) + 1 by omega, Nat.pow_succ] at h3
  omega
theorem room_lt {k x : Nat} (h : room k x) : k ≤ 14 ∧ x < 10000000000000 := by
  obtain ⟨h1, h2, h3⟩ := h
  refine ⟨h2, Nat.lt_of_lt_of_le h3 ?_⟩
  have : 10 ^ (14 - k) ≤ 10 ^ 13 := Nat.pow_le_pow_right (by omega) (by omega)
  simpa using this
theorem weigh_le (k d : Nat) (hk : k ≤ 14) (hd : d ≤ 9) : k * d ≤ 126 := by
  have := Nat.mul_le_mul hk hd
  omega

end Go.Proofs.YtaebofpgdonnbaaDoor
