/- Contracts: fractions, those of a door seat. -/
import Derived.Test.YtphckllloiogjaaDoorFracScal
import Derived.Test.YtphckllloiogjaaDoorLawCalls
set_option linter.unusedVariables false
set_option linter.unusedSimpArgs false
namespace Go.Proofs.YtphckllloiogjaaDoor
open Go.RowKit

theorem l00Max_c (a b : Int) (w : World) : Calls Tryd.prog 31 #[.int .i64 a, .int .i64 b] w fun e w' => e = .returned (.int .i64 (max a b)) ∧ w = w' := by
  by_cases h : b < a
  · go_enter Tryd.func31, Tryd.ntmps31
    go_wp2
    go_ret
    exact ⟨ret_int (by omega), rfl⟩
  · go_enter Tryd.func31, Tryd.ntmps31
    go_wp2
    go_ret
    exact ⟨ret_int (by omega), rfl⟩

theorem l03Size_c (n : Int) (w : World) (h : -9223372036854775807 ≤ n ∧ n ≤ 9223372036854775807) : Calls Tryd.prog 22 #[.int .i64 n] w fun e w' => e = .returned (.int .i64 (n.natAbs : Int)) ∧ w = w' := by
  go_enter Tryd.func22, Tryd.ntmps22
  go_wp2_with (go_at_call 31; refine (l00Max_c _ _ _).mono ?_; rintro e w' ⟨rfl, rfl⟩)
  go_ret
  exact ⟨ret_int (by omega), rfl⟩

set_option maxHeartbeats 400000 in
theorem l04Gcd_c (a b : Int) (w : World) (ha : 0 ≤ a) (hb : 0 ≤ b) (ha' : a ≤ 9223372036854775807) (hb' : b ≤ 9223372036854775807) :
    Calls Tryd.prog 21 #[.int .i64 a, .int .i64 b] w fun e w' => e = .returned (.int .i64 (Int.gcd a b : Int)) ∧ w = w' := by
  go_enter Tryd.func21, Tryd.ntmps21
  go_wp2
  go_loop [0, 1] (fun p q => ∃ x y : Int, 0 ≤ x ∧ 0 ≤ y ∧ x ≤ 9223372036854775807 ∧ y ≤ 9223372036854775807 ∧ Int.gcd x y = Int.gcd a b ∧ p = .int .i64 x ∧ q = .int .i64 y) (fun _ q => (intOf q).toNat)
  case atStart => exact ⟨a, b, ha, hb, ha', hb', rfl, rfl, rfl⟩
  case round =>
    obtain ⟨x, y, hx, hy, hx', hy', hg, rfl, rfl⟩ := hrel
    have H := Lib.hid hg; clear hg
    by_cases h0 : y = 0
    · subst h0
      go_wp2
      go_ret
      exact ⟨ret_int (by rw [← H.out]; simp; omega), rfl⟩
    · have hne : (y == 0) = false := by simpa using h0
      have hy1 : 1 ≤ y := by omega
      go_wp2
      have h1 := Int.emod_nonneg x h0
      have h2 := Int.emod_lt_of_pos x (show 0 < y by omega)
      go_round
      case rel => exact ⟨y, x % y, hy, h1, hy', by omega, by rw [gcd_step x y hx (by omega)]; exact H.out, rfl, rfl⟩
      case measure => simp [intOf]; omega

theorem isValue_c (n : Int) (w : World) : Calls Tryd.prog 24 #[.int .i64 n] w fun e w' => e = .returned (.bool (inB n (-1000000000000) 1000000000000)) ∧ w = w' := by
  go_enter Tryd.func24, Tryd.ntmps24
  go_wp2_with (go_at_call 25; refine (between_c _ _ _ _).mono ?_; rintro e w' ⟨rfl, rfl⟩)
  go_ret
  exact ⟨rfl, rfl⟩

theorem l17Most_c (n : Int) (w : World) : Calls Tryd.prog 19 #[.int .i64 n] w fun e w' => e = .returned (.bool (inB n (-1000000000000) 1000000000000)) ∧ w = w' := by
  go_enter Tryd.func19, Tryd.ntmps19
  go_wp2_with (go_at_call 20; refine (l00In_c _ _ _ _).mono ?_; rintro e w' ⟨rfl, rfl⟩)
  go_ret
  exact ⟨rfl, rfl⟩

def fr (p : Int × Int) : Value := .agg #[.int .i64 p.1, .int .i64 p.2]

theorem gcd_natAbs (n d : Int) : (Int.gcd (n.natAbs : Int) d) = Int.gcd n d := by simp [Int.gcd]

theorem eqFraction_c (p : Int × Int) (w : World) : Calls Tryd.prog 10 #[fr p, fr p] w fun e w' => e = .returned (.bool true) ∧ Below w.heap.size w w' := by
  simp only [fr]
  go_enter Tryd.func10, Tryd.ntmps10
  go_wp2
  go_ret
  refine ⟨rfl, ?_⟩
  (repeat' (first | (with_reducible exact Below.refl _ _) | (with_reducible assumption) | (with_reducible refine below_drewN ?_ _) | (with_reducible refine Below.drew ?_) | (with_reducible refine Below.alloc ?_ ?_ _) | (with_reducible refine Below.setCell ?_ ?_ _) | (with_reducible refine via (by with_reducible assumption) ?_ ?_) | go_size))

theorem toFraction_c (p : Int × Int) (w : World) : Calls Tryd.prog 6 #[fr p] w fun e w' => e = .returned (fr p) ∧ Below w.heap.size w w' := by
  simp only [fr]
  go_enter Tryd.func6, Tryd.ntmps6
  go_wp2
  refine bodyPost_ret (v := fr p) (by simp [results, Tryd.results6, go_sem, fr]) rfl ⟨rfl, ?_⟩
  (repeat' (first | (with_reducible exact Below.refl _ _) | (with_reducible assumption) | (with_reducible refine below_drewN ?_ _) | (with_reducible refine Below.drew ?_) | (with_reducible refine Below.alloc ?_ ?_ _) | (with_reducible refine Below.setCell ?_ ?_ _) | (with_reducible refine via (by with_reducible assumption) ?_ ?_) | go_size))

theorem gcd_one (n d : Int) : ((Int.gcd n d : Int) == 1) = (true && true && decide (Int.gcd n d = 1)) := by
  rw [Bool.eq_iff_iff]
  simp
  omega

theorem isPlainFraction_c (p : Int × Int) (w : World) (h : p.2 ≤ 9223372036854775807) : Calls Tryd.prog 13 #[fr p] w fun e w' => e = .returned (.bool (plainB p.1 p.2)) ∧ Below w.heap.size w w' := by
  obtain ⟨n, d⟩ := p
  simp only [fr]
  cases h1 : inB n (-1000000000000) 1000000000000
  · go_enter Tryd.func13, Tryd.ntmps13
    go_wp2_with fail
    go_quiet ((go_at_call 24; exact quiet_eq (retb (isValue_c _ _) h1)))
    go_wp2
    go_ret
    refine ⟨ret_bool (by simp [plainB, h1]), ?_⟩
    (repeat' (first | (with_reducible exact Below.refl _ _) | (with_reducible assumption) | (with_reducible refine below_drewN ?_ _) | (with_reducible refine Below.drew ?_) | (with_reducible refine Below.alloc ?_ ?_ _) | (with_reducible refine Below.setCell ?_ ?_ _) | (with_reducible refine via (by with_reducible assumption) ?_ ?_) | go_size))
  · cases h2 : inB d 1 1000000000000
    · go_enter Tryd.func13, Tryd.ntmps13
      go_wp2_with fail
      go_quiet (first | ((go_at_call 24; exact quiet_eq (retb (isValue_c _ _) h1))) | ((go_at_call 25; exact quiet_eq (retb (between_c _ _ _ _) h2))))
      go_wp2
      go_ret
      refine ⟨ret_bool (by simp [plainB, h1, h2]), ?_⟩
      (repeat' (first | (with_reducible exact Below.refl _ _) | (with_reducible assumption) | (with_reducible refine below_drewN ?_ _) | (with_reducible refine Below.drew ?_) | (with_reducible refine Below.alloc ?_ ?_ _) | (with_reducible refine Below.setCell ?_ ?_ _) | (with_reducible refine via (by with_reducible assumption) ?_ ?_) | go_size))
    · have b1 := inB_iff.1 h1
      have b2 := inB_iff.1 h2
      have hq : ∀ W : World, Calls Tryd.prog 26 #[.int .i64 (n.natAbs : Int), .int .i64 d] W fun e w' => e = .returned (.int .i64 (Int.gcd n d : Int)) ∧ ∃ m, w' = W.drewN m := fun W => by
        rw [← gcd_natAbs]; exact divisor_c _ _ _ (by omega) (by omega) (by omega) (by omega)
      have H := Lib.hid hq; clear hq
      go_enter Tryd.func13, Tryd.ntmps13
      go_wp2_with fail
      go_quiet (first | ((go_at_call 24; exact quiet_eq (retb (isValue_c _ _) h1))) | ((go_at_call 25; exact quiet_eq (retb (between_c _ _ _ _) h2))) | (go_at_call 27; exact quiet_eq (absolute_c _ _ (by omega))) | (go_at_call 26; exact Calls.quiet_of (H.out _)))
      go_wp2
      go_ret
      refine ⟨ret_bool (by rw [plainB, h1, h2]; exact gcd_one _ _), ?_⟩
      (repeat' (first | (with_reducible exact Below.refl _ _) | (with_reducible assumption) | (with_reducible refine below_drewN ?_ _) | (with_reducible refine Below.drew ?_) | (with_reducible refine Below.alloc ?_ ?_ _) | (with_reducible refine Below.setCell ?_ ?_ _) | (with_reducible refine via (by with_reducible assumption) ?_ ?_) | go_size))

theorem l19Ok_c (p : Int × Int) (w : World) (h : p.2 ≤ 9223372036854775807) : Calls Tryd.prog 11 #[fr p] w fun e w' => e = .returned (.bool (plainB p.1 p.2)) ∧ Below w.heap.size w w' := by
  obtain ⟨n, d⟩ := p
  simp only [fr]
  cases h1 : inB n (-1000000000000) 1000000000000
  · go_enter Tryd.func11, Tryd.ntmps11
    go_wp2_with fail
    go_quiet ((go_at_call 19; exact quiet_eq (retb (l17Most_c _ _) h1)))
    go_wp2
    go_ret
    refine ⟨ret_bool (by simp [plainB, h1]), ?_⟩
    (repeat' (first | (with_reducible exact Below.refl _ _) | (with_reducible assumption) | (with_reducible refine below_drewN ?_ _) | (with_reducible refine Below.drew ?_) | (with_reducible refine Below.alloc ?_ ?_ _) | (with_reducible refine Below.setCell ?_ ?_ _) | (with_reducible refine via (by with_reducible assumption) ?_ ?_) | go_size))
  · cases h2 : inB d 1 1000000000000
    · go_enter Tryd.func11, Tryd.ntmps11
      go_wp2_with fail
      go_quiet (first | ((go_at_call 19; exact quiet_eq (retb (l17Most_c _ _) h1))) | ((go_at_call 20; exact quiet_eq (retb (l00In_c _ _ _ _) h2))))
      go_wp2
      go_ret
      refine ⟨ret_bool (by simp [plainB, h1, h2]), ?_⟩
      (repeat' (first | (with_reducible exact Below.refl _ _) | (with_reducible assumption) | (with_reducible refine below_drewN ?_ _) | (with_reducible refine Below.drew ?_) | (with_reducible refine Below.alloc ?_ ?_ _) | (with_reducible refine Below.setCell ?_ ?_ _) | (with_reducible refine via (by with_reducible assumption) ?_ ?_) | go_size))
    · have b1 := inB_iff.1 h1
      have b2 := inB_iff.1 h2
      have hq : ∀ W : World, Calls Tryd.prog 21 #[.int .i64 (n.natAbs : Int), .int .i64 d] W fun e w' => e = .returned (.int .i64 (Int.gcd n d : Int)) ∧ W = w' := fun W => by
        rw [← gcd_natAbs]; exact l04Gcd_c _ _ _ (by omega) (by omega) (by omega) (by omega)
      have H := Lib.hid hq; clear hq
      go_enter Tryd.func11, Tryd.ntmps11
      go_wp2_with fail
      go_quiet (first | ((go_at_call 19; exact quiet_eq (retb (l17Most_c _ _) h1))) | ((go_at_call 20; exact quiet_eq (retb (l00In_c _ _ _ _) h2))) | (go_at_call 22; exact quiet_eq (l03Size_c _ _ (by omega))) | (go_at_call 21; exact quiet_eq (H.out _)))
      go_wp2
      go_ret
      refine ⟨ret_bool (by rw [plainB, h1, h2]; exact gcd_one _ _), ?_⟩
      (repeat' (first | (with_reducible exact Below.refl _ _) | (with_reducible assumption) | (with_reducible refine below_drewN ?_ _) | (with_reducible refine Below.drew ?_) | (with_reducible refine Below.alloc ?_ ?_ _) | (with_reducible refine Below.setCell ?_ ?_ _) | (with_reducible refine via (by with_reducible assumption) ?_ ?_) | go_size))

end Go.Proofs.YtphckllloiogjaaDoor
