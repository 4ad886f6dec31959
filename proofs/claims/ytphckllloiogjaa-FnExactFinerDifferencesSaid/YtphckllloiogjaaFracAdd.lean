/- Contracts: plain fractions, sums. -/
import Derived.Test.YtphckllloiogjaaFracFn
set_option linter.unusedVariables false
set_option linter.unusedSimpArgs false
namespace Go.Proofs.Ytphckllloiogjaa
open Go.RowKit

theorem gcd_one (n d : Int) : ((Int.gcd n d : Int) == 1) = (true && true && decide (Int.gcd n d = 1)) := by
  rw [Bool.eq_iff_iff]
  simp
  omega

theorem isPlainFraction_c (p : Int × Int) (w : World) (h : p.2 ≤ 9223372036854775807) : Calls Try.prog 50 #[fr p] w fun e w' => e = .returned (.bool (plainB p.1 p.2)) ∧ Below w.heap.size w w' := by
  obtain ⟨n, d⟩ := p
  simp only [fr]
  cases h1 : inB n (-1000000000000) 1000000000000
  · go_enter Try.func50, Try.ntmps50
    go_wp2_with fail
    go_quiet ((go_at_call 46; exact quiet_eq (retb (isValue_c _ _) h1)))
    go_wp2
    go_ret
    refine ⟨ret_bool (by simp [plainB, h1]), ?_⟩
    (repeat' (first | (with_reducible exact Below.refl _ _) | (with_reducible assumption) | (with_reducible refine below_drewN ?_ _) | (with_reducible refine Below.drew ?_) | (with_reducible refine Below.alloc ?_ ?_ _) | (with_reducible refine Below.setCell ?_ ?_ _) | (with_reducible refine via (by with_reducible assumption) ?_ ?_) | go_size))
  · cases h2 : inB d 1 1000000000000
    · go_enter Try.func50, Try.ntmps50
      go_wp2_with fail
      go_quiet (first | ((go_at_call 46; exact quiet_eq (retb (isValue_c _ _) h1))) | ((go_at_call 61; exact quiet_eq (retb (between_c _ _ _ _) h2))))
      go_wp2
      go_ret
      refine ⟨ret_bool (by simp [plainB, h1, h2]), ?_⟩
      (repeat' (first | (with_reducible exact Below.refl _ _) | (with_reducible assumption) | (with_reducible refine below_drewN ?_ _) | (with_reducible refine Below.drew ?_) | (with_reducible refine Below.alloc ?_ ?_ _) | (with_reducible refine Below.setCell ?_ ?_ _) | (with_reducible refine via (by with_reducible assumption) ?_ ?_) | go_size))
    · have b1 := inB_iff.1 h1
      have b2 := inB_iff.1 h2
      have hq : ∀ W : World, Calls Try.prog 66 #[.int .i64 (n.natAbs : Int), .int .i64 d] W fun e w' => e = .returned (.int .i64 (Int.gcd n d : Int)) ∧ ∃ m, w' = W.drewN m := fun W => by
        rw [← gcd_natAbs]; exact divisor_c _ _ _ (by omega) (by omega) (by omega) (by omega)
      have H := Lib.hid hq; clear hq
      go_enter Try.func50, Try.ntmps50
      go_wp2_with fail
      go_quiet (first | ((go_at_call 46; exact quiet_eq (retb (isValue_c _ _) h1))) | ((go_at_call 61; exact quiet_eq (retb (between_c _ _ _ _) h2))) | (go_at_call 51; exact quiet_eq (absolute_c _ _ (by omega))) | (go_at_call 66; exact Calls.quiet_of (H.out _)))
      go_wp2
      go_ret
      refine ⟨ret_bool (by rw [plainB, h1, h2]; exact gcd_one _ _), ?_⟩
      (repeat' (first | (with_reducible exact Below.refl _ _) | (with_reducible assumption) | (with_reducible refine below_drewN ?_ _) | (with_reducible refine Below.drew ?_) | (with_reducible refine Below.alloc ?_ ?_ _) | (with_reducible refine Below.setCell ?_ ?_ _) | (with_reducible refine via (by with_reducible assumption) ?_ ?_) | go_size))

theorem l19Ok_c (p : Int × Int) (w : World) (h : p.2 ≤ 9223372036854775807) : Calls Try.prog 48 #[fr p] w fun e w' => e = .returned (.bool (plainB p.1 p.2)) ∧ Below w.heap.size w w' := by
  obtain ⟨n, d⟩ := p
  simp only [fr]
  cases h1 : inB n (-1000000000000) 1000000000000
  · go_enter Try.func48, Try.ntmps48
    go_wp2_with fail
    go_quiet ((go_at_call 44; exact quiet_eq (retb (l17Most_c _ _) h1)))
    go_wp2
    go_ret
    refine ⟨ret_bool (by simp [plainB, h1]), ?_⟩
    (repeat' (first | (with_reducible exact Below.refl _ _) | (with_reducible assumption) | (with_reducible refine below_drewN ?_ _) | (with_reducible refine Below.drew ?_) | (with_reducible refine Below.alloc ?_ ?_ _) | (with_reducible refine Below.setCell ?_ ?_ _) | (with_reducible refine via (by with_reducible assumption) ?_ ?_) | go_size))
  · cases h2 : inB d 1 1000000000000
    · go_enter Try.func48, Try.ntmps48
      go_wp2_with fail
      go_quiet (first | ((go_at_call 44; exact quiet_eq (retb (l17Most_c _ _) h1))) | ((go_at_call 58; exact quiet_eq (retb (l00In_c _ _ _ _) h2))))
      go_wp2
      go_ret
      refine ⟨ret_bool (by simp [plainB, h1, h2]), ?_⟩
      (repeat' (first | (with_reducible exact Below.refl _ _) | (with_reducible assumption) | (with_reducible refine below_drewN ?_ _) | (with_reducible refine Below.drew ?_) | (with_reducible refine Below.alloc ?_ ?_ _) | (with_reducible refine Below.setCell ?_ ?_ _) | (with_reducible refine via (by with_reducible assumption) ?_ ?_) | go_size))
    · have b1 := inB_iff.1 h1
      have b2 := inB_iff.1 h2
      have hq : ∀ W : World, Calls Try.prog 73 #[.int .i64 (n.natAbs : Int), .int .i64 d] W fun e w' => e = .returned (.int .i64 (Int.gcd n d : Int)) ∧ W = w' := fun W => by
        rw [← gcd_natAbs]; exact l04Gcd_c _ _ _ (by omega) (by omega) (by omega) (by omega)
      have H := Lib.hid hq; clear hq
      go_enter Try.func48, Try.ntmps48
      go_wp2_with fail
      go_quiet (first | ((go_at_call 44; exact quiet_eq (retb (l17Most_c _ _) h1))) | ((go_at_call 58; exact quiet_eq (retb (l00In_c _ _ _ _) h2))) | (go_at_call 49; exact quiet_eq (l03Size_c _ _ (by omega))) | (go_at_call 73; exact quiet_eq (H.out _)))
      go_wp2
      go_ret
      refine ⟨ret_bool (by rw [plainB, h1, h2]; exact gcd_one _ _), ?_⟩
      (repeat' (first | (with_reducible exact Below.refl _ _) | (with_reducible assumption) | (with_reducible refine below_drewN ?_ _) | (with_reducible refine Below.drew ?_) | (with_reducible refine Below.alloc ?_ ?_ _) | (with_reducible refine Below.setCell ?_ ?_ _) | (with_reducible refine via (by with_reducible assumption) ?_ ?_) | go_size))

theorem sum_c (p q : Int × Int) (w : World) (h1 : 1 ≤ p.2) (h2 : 1 ≤ q.2) (h3 : p.2 ≤ 9223372036854775807) (h4 : q.2 ≤ 9223372036854775807)
    (b1 : -4611686018427387903 ≤ p.1 * (q.2 / (Int.gcd p.2 q.2 : Int)) ∧ p.1 * (q.2 / (Int.gcd p.2 q.2 : Int)) ≤ 4611686018427387903)
    (b2 : -4611686018427387903 ≤ q.1 * (p.2 / (Int.gcd p.2 q.2 : Int)) ∧ q.1 * (p.2 / (Int.gcd p.2 q.2 : Int)) ≤ 4611686018427387903)
    (b3 : 1 ≤ p.2 / (Int.gcd p.2 q.2 : Int) * q.2 ∧ p.2 / (Int.gcd p.2 q.2 : Int) * q.2 ≤ 9223372036854775807) :
    Calls Try.prog 52 #[fr p, fr q] w fun e w' => e = .returned (fr (fsum p.1 p.2 q.1 q.2)) ∧ Below w.heap.size w w' := by
  obtain ⟨a, b⟩ := p
  obtain ⟨c, d⟩ := q
  simp only [fr] at *
  have hg := gcd_pos b d (by omega)
  have hgl : (Int.gcd b d : Int) ≤ d := by have := Int.gcd_le_right b (show 0 < d by omega); omega
  have hgb : (Int.gcd b d : Int) ∣ b := Int.gcd_dvd_left ..
  have hgd : (Int.gcd b d : Int) ∣ d := Int.gcd_dvd_right ..
  have hq : ∀ W : World, Calls Try.prog 66 #[.int .i64 b, .int .i64 d] W fun e w' => e = .returned (.int .i64 (Int.gcd b d : Int)) ∧ ∃ m, w' = W.drewN m := fun W => divisor_c _ _ _ (by omega) (by omega) (by omega) (by omega)
  generalize (Int.gcd b d : Int) = g at *
  have hge : (g == 0) = false := by simp; omega
  have hgn : ¬ g = 0 := by omega
  have hg1 : 1 ≤ g := by omega
  have HF : Hid (fsum a b c d = low (a * (d / g) + c * (b / g)) (b / g * d)) := by
    obtain ⟨b', rfl⟩ := hgb
    obtain ⟨d', rfl⟩ := hgd
    show _ = _
    rw [Int.mul_ediv_cancel_left _ (by omega), Int.mul_ediv_cancel_left _ (by omega)]
    exact (fsum_by a _ c _ g b' d' (by omega) rfl rfl).symm
  have H := Lib.hid hq; clear hq
  clear hgb hgd
  go_enter Try.func52, Try.ntmps52
  go_wp2_with fail
  refine (H.out _).mono ?_
  rintro e w' ⟨rfl, m, rfl⟩
  go_wp2_with fail
  (refine still_tail 22 (by kernel_rfl) (by kernel_rfl) ?_; simp only [List.take_succ_cons, List.take_zero, List.drop_succ_cons, List.drop_zero]; (repeat (refine wpStill_step (fun K hK => ?_); go_simp; (try go_bits); refine hK _ ?_; clear hK K)); refine wpStill_nil ?_)
  go_wp2_with fail
  refine (lowest_c _ _ _ (by omega) (by omega)).mono ?_
  rintro e w1 ⟨rfl, hb1⟩
  rw [← HF.out]
  obtain ⟨hc1, hf1⟩ := bcell hb1; have hz1 := hb1.size; (try simp only [World.size_alloc, size_drewN, World.size_setCell, World.size_drew] at hz1 hc1 hf1)
  simp only [fr]
  go_wp2_with fail
  (refine bodyPost_ret (v := fr (fsum a b c d)) (by simp only [results, Try.results52, fr]; go_simp) rfl ⟨rfl, ?_⟩; (repeat' (first | (with_reducible exact Below.refl _ _) | (with_reducible assumption) | (with_reducible refine below_drewN ?_ _) | (with_reducible refine Below.drew ?_) | (with_reducible refine Below.alloc ?_ ?_ _) | (with_reducible refine Below.setCell ?_ ?_ _) | (with_reducible refine via (by with_reducible assumption) ?_ ?_) | go_size)))

/-- a small fraction -/
def tinyB (p : Int × Int) : Bool := decide ((p.1.natAbs : Int) ≤ 1000000) && decide (p.2 ≤ 1000000)
def addFr (p q : Int × Int) : (Int × Int) × Int :=
  if plainB p.1 p.2 && plainB q.1 q.2 then
    if tinyB p && tinyB q then
      if plainB (fsum p.1 p.2 q.1 q.2).1 (fsum p.1 p.2 q.1 q.2).2 then (fsum p.1 p.2 q.1 q.2, 0) else ((0, 0), 5)
    else ((0, 0), 2)
  else ((0, 0), 1)

theorem mul_bd {a b A B : Int} (ha : -A ≤ a ∧ a ≤ A) (hb : 0 ≤ b ∧ b ≤ B) : -(A * B) ≤ a * b ∧ a * b ≤ A * B := by
  have hA : 0 ≤ A := by omega
  have h1 : a * b ≤ A * b := Int.mul_le_mul_of_nonneg_right ha.2 hb.1
  have h2 : -A * b ≤ a * b := Int.mul_le_mul_of_nonneg_right ha.1 hb.1
  have h3 : A * b ≤ A * B := Int.mul_le_mul_of_nonneg_left hb.2 hA
  rw [Int.neg_mul] at h2
  omega

/-- what the sum needs -/
theorem sum_ok (p q : Int × Int) (hp : plainB p.1 p.2 = true) (hq : plainB q.1 q.2 = true) (tp : tinyB p = true) (tq : tinyB q = true) :
    (-1000000000000 ≤ p.1 * (q.2 / (Int.gcd p.2 q.2 : Int)) ∧ p.1 * (q.2 / (Int.gcd p.2 q.2 : Int)) ≤ 1000000000000) ∧
    (-1000000000000 ≤ q.1 * (p.2 / (Int.gcd p.2 q.2 : Int)) ∧ q.1 * (p.2 / (Int.gcd p.2 q.2 : Int)) ≤ 1000000000000) ∧
    (1 ≤ p.2 / (Int.gcd p.2 q.2 : Int) * q.2 ∧ p.2 / (Int.gcd p.2 q.2 : Int) * q.2 ≤ 1000000000000) := by
  obtain ⟨a, b⟩ := p
  obtain ⟨c, d⟩ := q
  obtain ⟨_, hb, _⟩ := plainB_iff.1 hp
  obtain ⟨_, hd, _⟩ := plainB_iff.1 hq
  simp only [tinyB, Bool.and_eq_true, decide_eq_true_eq] at tp tq
  have hg := gcd_pos b d (by simp at *; omega)
  have hgb : (Int.gcd b d : Int) ∣ b := Int.gcd_dvd_left ..
  simp only at *
  generalize (Int.gcd b d : Int) = g at *
  have k1 : 0 ≤ d / g ∧ d / g ≤ 1000000 := ⟨Int.ediv_nonneg (by omega) (by omega), by have := Int.ediv_le_self g (show 0 ≤ d by omega); omega⟩
  have k2 : 0 ≤ b / g ∧ b / g ≤ 1000000 := ⟨Int.ediv_nonneg (by omega) (by omega), by have := Int.ediv_le_self g (show 0 ≤ b by omega); omega⟩
  have k3 : 1 ≤ b / g := by
    obtain ⟨b', rfl⟩ := hgb
    rw [Int.mul_ediv_cancel_left _ (by omega)] at *
    rcases Int.lt_or_le 0 b' with h | h
    · omega
    · have := Int.mul_le_mul_of_nonneg_left h (Int.le_of_lt hg)
      omega
  have m1 := mul_bd (A := 1000000) (B := 1000000) (a := a) ⟨by omega, by omega⟩ k1
  have m2 := mul_bd (A := 1000000) (B := 1000000) (a := c) ⟨by omega, by omega⟩ k2
  have m3 := mul_bd (A := 1000000) (B := 1000000) (a := b / g) (b := d) ⟨by omega, by omega⟩ ⟨by omega, by omega⟩
  have m4 : 1 * 1 ≤ b / g * d := Int.mul_le_mul k3 (by omega) (by omega) (by omega)
  refine ⟨by omega, by omega, by omega⟩

theorem fsum_den (p q : Int × Int) (h1 : 1 ≤ p.2) (h2 : 1 ≤ q.2) : 1 ≤ (fsum p.1 p.2 q.1 q.2).2 := by
  have : 0 < p.2 * q.2 := Int.mul_pos (by omega) (by omega)
  have := low_den_pos (p.1 * q.2 + q.1 * p.2) (p.2 * q.2) this
  unfold fsum
  omega

end Go.Proofs.Ytphckllloiogjaa
