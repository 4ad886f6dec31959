/- Contracts: fractions in lowest terms. -/
import Derived.Test.YtphckllloiogjaaFracScal
set_option linter.unusedVariables false
set_option linter.unusedSimpArgs false
namespace Go.Proofs.Ytphckllloiogjaa
open Go.RowKit

theorem l00Max_c (a b : Int) (w : World) : Calls Try.prog 74 #[.int .i64 a, .int .i64 b] w fun e w' => e = .returned (.int .i64 (max a b)) ∧ w = w' := by
  by_cases h : b < a
  · go_enter Try.func74, Try.ntmps74
    go_wp2
    go_ret
    exact ⟨ret_int (by omega), rfl⟩
  · go_enter Try.func74, Try.ntmps74
    go_wp2
    go_ret
    exact ⟨ret_int (by omega), rfl⟩

theorem l00Min_c (a b : Int) (w : World) : Calls Try.prog 77 #[.int .i64 a, .int .i64 b] w fun e w' => e = .returned (.int .i64 (min a b)) ∧ w = w' := by
  by_cases h : a < b
  · go_enter Try.func77, Try.ntmps77
    go_wp2
    go_ret
    exact ⟨ret_int (by omega), rfl⟩
  · go_enter Try.func77, Try.ntmps77
    go_wp2
    go_ret
    exact ⟨ret_int (by omega), rfl⟩

theorem l03Size_c (n : Int) (w : World) (h : -9223372036854775807 ≤ n ∧ n ≤ 9223372036854775807) : Calls Try.prog 49 #[.int .i64 n] w fun e w' => e = .returned (.int .i64 (n.natAbs : Int)) ∧ w = w' := by
  go_enter Try.func49, Try.ntmps49
  go_wp2_with (go_at_call 74; refine (l00Max_c _ _ _).mono ?_; rintro e w' ⟨rfl, rfl⟩)
  go_ret
  exact ⟨ret_int (by omega), rfl⟩

set_option maxHeartbeats 400000 in
theorem l04Gcd_c (a b : Int) (w : World) (ha : 0 ≤ a) (hb : 0 ≤ b) (ha' : a ≤ 9223372036854775807) (hb' : b ≤ 9223372036854775807) :
    Calls Try.prog 73 #[.int .i64 a, .int .i64 b] w fun e w' => e = .returned (.int .i64 (Int.gcd a b : Int)) ∧ w = w' := by
  go_enter Try.func73, Try.ntmps73
  go_wp2
  go_loop [0, 1] (fun p q => ∃ x y : Int, 0 ≤ x ∧ 0 ≤ y ∧ x ≤ 9223372036854775807 ∧ y ≤ 9223372036854775807 ∧ Int.gcd x y = Int.gcd a b ∧ p = .int .i64 x ∧ q = .int .i64 y) (fun _ q => (intOf q).toNat)
  case atStart => exact ⟨a, b, ha, hb, ha', hb', rfl, rfl, rfl⟩
  case round =>
    obtain ⟨x, y, hx, hy, hx', hy', hg, rfl, rfl⟩ := hrel
    have H := Lib.hid hg; clear hg
    by_cases h0 : y = 0
    · subst h0
      go_wp2
      go_ret
      exact ⟨ret_int (by rw [← H.out]; simp; omega), rfl⟩
    · have hne : (y == 0) = false := by simpa using h0
      have hy1 : 1 ≤ y := by omega
      go_wp2
      have h1 := Int.emod_nonneg x h0
      have h2 := Int.emod_lt_of_pos x (show 0 < y by omega)
      go_round
      case rel => exact ⟨y, x % y, hy, h1, hy', by omega, by rw [gcd_step x y hx (by omega)]; exact H.out, rfl, rfl⟩
      case measure => simp [intOf]; omega

theorem isValue_c (n : Int) (w : World) : Calls Try.prog 46 #[.int .i64 n] w fun e w' => e = .returned (.bool (inB n (-1000000000000) 1000000000000)) ∧ w = w' := by
  go_enter Try.func46, Try.ntmps46
  go_wp2_with (go_at_call 61; refine (between_c _ _ _ _).mono ?_; rintro e w' ⟨rfl, rfl⟩)
  go_ret
  exact ⟨rfl, rfl⟩

theorem l17Most_c (n : Int) (w : World) : Calls Try.prog 44 #[.int .i64 n] w fun e w' => e = .returned (.bool (inB n (-1000000000000) 1000000000000)) ∧ w = w' := by
  go_enter Try.func44, Try.ntmps44
  go_wp2_with (go_at_call 58; refine (l00In_c _ _ _ _).mono ?_; rintro e w' ⟨rfl, rfl⟩)
  go_ret
  exact ⟨rfl, rfl⟩

def fr (p : Int × Int) : Value := .agg #[.int .i64 p.1, .int .i64 p.2]

theorem gcd_natAbs (n d : Int) : (Int.gcd (n.natAbs : Int) d) = Int.gcd n d := by simp [Int.gcd]

theorem lowest_c (n d : Int) (w : World) (hn : -9223372036854775807 ≤ n ∧ n ≤ 9223372036854775807) (hd : 1 ≤ d ∧ d ≤ 9223372036854775807) :
    Calls Try.prog 47 #[.int .i64 n, .int .i64 d] w fun e w' => e = .returned (fr (low n d)) ∧ Below w.heap.size w w' := by
  have hg := gcd_pos n d (by omega)
  have hgl : (Int.gcd n d : Int) ≤ d := by have := Int.gcd_le_right n (show 0 < d by omega); omega
  have hge : ((Int.gcd n d : Int) == 0) = false := by simp; omega
  go_enter Try.func47, Try.ntmps47
  go_wp2_with fail
  refine (absolute_c _ _ (by omega)).mono ?_
  rintro e w' ⟨rfl, rfl⟩
  go_wp2_with fail
  refine (divisor_c _ _ _ (by omega) (by omega) (by omega) (by omega)).mono ?_
  rintro e w' ⟨rfl, m, rfl⟩
  rw [gcd_natAbs]
  go_wp2_with fail
  go_region
  all_goals go_wp2
  all_goals refine bodyPost_ret (v := fr (low n d)) (by simp [results, Try.results47, go_sem, low, fr]) rfl ⟨rfl, ?_⟩
  all_goals (repeat' (first | (with_reducible exact Below.refl _ _) | (with_reducible assumption) | (with_reducible refine below_drewN ?_ _) | (with_reducible refine Below.drew ?_) | (with_reducible refine Below.alloc ?_ ?_ _) | (with_reducible refine Below.setCell ?_ ?_ _) | (with_reducible refine via (by with_reducible assumption) ?_ ?_) | go_size))

theorem l19Make_c (n d : Int) (w : World) (hn : -9223372036854775807 ≤ n ∧ n ≤ 9223372036854775807) (hd : 1 ≤ d ∧ d ≤ 9223372036854775807) :
    Calls Try.prog 45 #[.int .i64 n, .int .i64 d] w fun e w' => e = .returned (fr (low n d)) ∧ Below w.heap.size w w' := by
  have hg := gcd_pos n d (by omega)
  have hgl : (Int.gcd n d : Int) ≤ d := by have := Int.gcd_le_right n (show 0 < d by omega); omega
  have hge : ((Int.gcd n d : Int) == 0) = false := by simp; omega
  go_enter Try.func45, Try.ntmps45
  go_wp2_with fail
  refine (l03Size_c _ _ (by omega)).mono ?_
  rintro e w' ⟨rfl, rfl⟩
  go_wp2_with fail
  refine (l04Gcd_c _ _ _ (by omega) (by omega) (by omega) (by omega)).mono ?_
  rintro e w' ⟨rfl, rfl⟩
  rw [gcd_natAbs]
  go_wp2_with fail
  go_region
  all_goals go_wp2
  all_goals refine bodyPost_ret (v := fr (low n d)) (by simp [results, Try.results45, go_sem, low, fr]) rfl ⟨rfl, ?_⟩
  all_goals (repeat' (first | (with_reducible exact Below.refl _ _) | (with_reducible assumption) | (with_reducible refine below_drewN ?_ _) | (with_reducible refine Below.drew ?_) | (with_reducible refine Below.alloc ?_ ?_ _) | (with_reducible refine Below.setCell ?_ ?_ _) | (with_reducible refine via (by with_reducible assumption) ?_ ?_) | go_size))

def plainFr (n d : Int) : (Int × Int) × Int :=
  if inB n (-1000000000000) 1000000000000 && inB d (-1000000000000) 1000000000000 && !(d == 0) then (if d < 0 then low (-n) (-d) else low n d, 0) else ((0, 0), 2)

theorem plainFr_no (n d : Int) (h : ¬ (inB n (-1000000000000) 1000000000000 = true ∧ inB d (-1000000000000) 1000000000000 = true ∧ (d == 0) = false)) : plainFr n d = ((0, 0), 2) := by
  unfold plainFr
  rw [if_neg (by simpa using h)]

set_option maxHeartbeats 400000 in
theorem PlainFractionI_c (n d : Int) (w : World) : Calls Try.prog 14 #[.int .i64 n, .int .i64 d] w fun e w' => e = .returned (.tuple #[fr (plainFr n d).1, .int .i64 (plainFr n d).2]) ∧ Below w.heap.size w w' := by
  by_cases h : inB n (-1000000000000) 1000000000000 = true ∧ inB d (-1000000000000) 1000000000000 = true ∧ (d == 0) = false
  · obtain ⟨h1, h2, h3⟩ := h
    have b1 := inB_iff.1 h1
    have b2 := inB_iff.1 h2
    have b3 : d ≠ 0 := by simpa using h3
    have H : Hid (plainFr n d = (if d < 0 then low (-n) (-d) else low n d, 0)) := by show _ = _; unfold plainFr; rw [if_pos (by simp [h1, h2, b3])]
    by_cases h4 : d < 0
    all_goals
      simp only [h4, if_true, if_false] at H
      go_enter Try.func14, Try.ntmps14
      go_wp2_with (go_at_call 46; refine (isValue_c _ _).mono ?_; rintro e w' ⟨rfl, rfl⟩)
      refine (lowest_c _ _ _ (by omega) (by omega)).mono ?_
      rintro e w1 ⟨rfl, hb1⟩
      obtain ⟨hc1, hf1⟩ := bcell hb1; have hz1 := hb1.size; (try simp only [World.size_alloc, size_drewN, World.size_setCell, World.size_drew] at hz1 hc1 hf1)
      simp only [fr]
      go_wp2_with fail
      refine bodyPost_ret (v := .tuple #[fr (plainFr n d).1, .int .i64 (plainFr n d).2]) (by rw [H.out]; simp only [results, Try.results14, fr]; go_simp) rfl ⟨rfl, ?_⟩
      (repeat' (first | (with_reducible exact Below.refl _ _) | (with_reducible assumption) | (with_reducible refine below_drewN ?_ _) | (with_reducible refine Below.drew ?_) | (with_reducible refine Below.alloc ?_ ?_ _) | (with_reducible refine Below.setCell ?_ ?_ _) | (with_reducible refine via (by with_reducible assumption) ?_ ?_) | go_size))
  · rw [plainFr_no n d h]
    cases h1 : inB n (-1000000000000) 1000000000000
    · go_enter Try.func14, Try.ntmps14
      go_wp2_with (go_at_call 46; refine (isValue_c _ _).mono ?_; rintro e w' ⟨rfl, rfl⟩)
      refine bodyPost_ret (v := .tuple #[fr (0, 0), .int .i64 2]) (by simp [results, Try.results14, go_sem, fr]) rfl ⟨rfl, ?_⟩
      (repeat' (first | (with_reducible exact Below.refl _ _) | (with_reducible assumption) | (with_reducible refine below_drewN ?_ _) | (with_reducible refine Below.drew ?_) | (with_reducible refine Below.alloc ?_ ?_ _) | (with_reducible refine Below.setCell ?_ ?_ _) | (with_reducible refine via (by with_reducible assumption) ?_ ?_) | go_size))
    · cases h2 : inB d (-1000000000000) 1000000000000
      · go_enter Try.func14, Try.ntmps14
        go_wp2_with (go_at_call 46; refine (isValue_c _ _).mono ?_; rintro e w' ⟨rfl, rfl⟩)
        refine bodyPost_ret (v := .tuple #[fr (0, 0), .int .i64 2]) (by simp [results, Try.results14, go_sem, fr]) rfl ⟨rfl, ?_⟩
        (repeat' (first | (with_reducible exact Below.refl _ _) | (with_reducible assumption) | (with_reducible refine below_drewN ?_ _) | (with_reducible refine Below.drew ?_) | (with_reducible refine Below.alloc ?_ ?_ _) | (with_reducible refine Below.setCell ?_ ?_ _) | (with_reducible refine via (by with_reducible assumption) ?_ ?_) | go_size))
      · have h3 : (d == 0) = true := by simpa [h1, h2] using h
        go_enter Try.func14, Try.ntmps14
        go_wp2_with (go_at_call 46; refine (isValue_c _ _).mono ?_; rintro e w' ⟨rfl, rfl⟩)
        refine bodyPost_ret (v := .tuple #[fr (0, 0), .int .i64 2]) (by simp [results, Try.results14, go_sem, fr]) rfl ⟨rfl, ?_⟩
        (repeat' (first | (with_reducible exact Below.refl _ _) | (with_reducible assumption) | (with_reducible refine below_drewN ?_ _) | (with_reducible refine Below.drew ?_) | (with_reducible refine Below.alloc ?_ ?_ _) | (with_reducible refine Below.setCell ?_ ?_ _) | (with_reducible refine via (by with_reducible assumption) ?_ ?_) | go_size))

set_option maxHeartbeats 400000 in
theorem PlainFractionS_c (n d : Int) (w : World) : Calls Try.prog 13 #[.int .i64 n, .int .i64 d] w fun e w' => e = .returned (.tuple #[fr (plainFr n d).1, .int .i64 (plainFr n d).2]) ∧ Below w.heap.size w w' := by
  by_cases h : inB n (-1000000000000) 1000000000000 = true ∧ inB d (-1000000000000) 1000000000000 = true ∧ (d == 0) = false
  · obtain ⟨h1, h2, h3⟩ := h
    have b1 := inB_iff.1 h1
    have b2 := inB_iff.1 h2
    have b3 : d ≠ 0 := by simpa using h3
    have H : Hid (plainFr n d = (if d < 0 then low (-n) (-d) else low n d, 0)) := by show _ = _; unfold plainFr; rw [if_pos (by simp [h1, h2, b3])]
    by_cases h4 : d < 0
    all_goals
      simp only [h4, if_true, if_false] at H
      go_enter Try.func13, Try.ntmps13
      go_wp2_with (go_at_call 44; refine (l17Most_c _ _).mono ?_; rintro e w' ⟨rfl, rfl⟩)
      refine (l19Make_c _ _ _ (by omega) (by omega)).mono ?_
      rintro e w1 ⟨rfl, hb1⟩
      obtain ⟨hc1, hf1⟩ := bcell hb1; have hz1 := hb1.size; (try simp only [World.size_alloc, size_drewN, World.size_setCell, World.size_drew] at hz1 hc1 hf1)
      simp only [fr]
      go_wp2_with fail
      refine bodyPost_ret (v := .tuple #[fr (plainFr n d).1, .int .i64 (plainFr n d).2]) (by rw [H.out]; simp only [results, Try.results13, fr]; go_simp) rfl ⟨rfl, ?_⟩
      (repeat' (first | (with_reducible exact Below.refl _ _) | (with_reducible assumption) | (with_reducible refine below_drewN ?_ _) | (with_reducible refine Below.drew ?_) | (with_reducible refine Below.alloc ?_ ?_ _) | (with_reducible refine Below.setCell ?_ ?_ _) | (with_reducible refine via (by with_reducible assumption) ?_ ?_) | go_size))
  · rw [plainFr_no n d h]
    cases h1 : inB n (-1000000000000) 1000000000000
    · go_enter Try.func13, Try.ntmps13
      go_wp2_with (go_at_call 44; refine (l17Most_c _ _).mono ?_; rintro e w' ⟨rfl, rfl⟩)
      refine bodyPost_ret (v := .tuple #[fr (0, 0), .int .i64 2]) (by simp [results, Try.results13, go_sem, fr]) rfl ⟨rfl, ?_⟩
      (repeat' (first | (with_reducible exact Below.refl _ _) | (with_reducible assumption) | (with_reducible refine below_drewN ?_ _) | (with_reducible refine Below.drew ?_) | (with_reducible refine Below.alloc ?_ ?_ _) | (with_reducible refine Below.setCell ?_ ?_ _) | (with_reducible refine via (by with_reducible assumption) ?_ ?_) | go_size))
    · cases h2 : inB d (-1000000000000) 1000000000000
      · go_enter Try.func13, Try.ntmps13
        go_wp2_with (go_at_call 44; refine (l17Most_c _ _).mono ?_; rintro e w' ⟨rfl, rfl⟩)
        refine bodyPost_ret (v := .tuple #[fr (0, 0), .int .i64 2]) (by simp [results, Try.results13, go_sem, fr]) rfl ⟨rfl, ?_⟩
        (repeat' (first | (with_reducible exact Below.refl _ _) | (with_reducible assumption) | (with_reducible refine below_drewN ?_ _) | (with_reducible refine Below.drew ?_) | (with_reducible refine Below.alloc ?_ ?_ _) | (with_reducible refine Below.setCell ?_ ?_ _) | (with_reducible refine via (by with_reducible assumption) ?_ ?_) | go_size))
      · have h3 : (d == 0) = true := by simpa [h1, h2] using h
        go_enter Try.func13, Try.ntmps13
        go_wp2_with (go_at_call 44; refine (l17Most_c _ _).mono ?_; rintro e w' ⟨rfl, rfl⟩)
        refine bodyPost_ret (v := .tuple #[fr (0, 0), .int .i64 2]) (by simp [results, Try.results13, go_sem, fr]) rfl ⟨rfl, ?_⟩
        (repeat' (first | (with_reducible exact Below.refl _ _) | (with_reducible assumption) | (with_reducible refine below_drewN ?_ _) | (with_reducible refine Below.drew ?_) | (with_reducible refine Below.alloc ?_ ?_ _) | (with_reducible refine Below.setCell ?_ ?_ _) | (with_reducible refine via (by with_reducible assumption) ?_ ?_) | go_size))

theorem eqFraction_c (p : Int × Int) (w : World) : Calls Try.prog 15 #[fr p, fr p] w fun e w' => e = .returned (.bool true) ∧ Below w.heap.size w w' := by
  simp only [fr]
  go_enter Try.func15, Try.ntmps15
  go_wp2
  go_ret
  refine ⟨rfl, ?_⟩
  (repeat' (first | (with_reducible exact Below.refl _ _) | (with_reducible assumption) | (with_reducible refine below_drewN ?_ _) | (with_reducible refine Below.drew ?_) | (with_reducible refine Below.alloc ?_ ?_ _) | (with_reducible refine Below.setCell ?_ ?_ _) | (with_reducible refine via (by with_reducible assumption) ?_ ?_) | go_size))

theorem toFraction_c (p : Int × Int) (w : World) : Calls Try.prog 17 #[fr p] w fun e w' => e = .returned (fr p) ∧ Below w.heap.size w w' := by
  simp only [fr]
  go_enter Try.func17, Try.ntmps17
  go_wp2
  refine bodyPost_ret (v := fr p) (by simp [results, Try.results17, go_sem, fr]) rfl ⟨rfl, ?_⟩
  (repeat' (first | (with_reducible exact Below.refl _ _) | (with_reducible assumption) | (with_reducible refine below_drewN ?_ _) | (with_reducible refine Below.drew ?_) | (with_reducible refine Below.alloc ?_ ?_ _) | (with_reducible refine Below.setCell ?_ ?_ _) | (with_reducible refine via (by with_reducible assumption) ?_ ?_) | go_size))

end Go.Proofs.Ytphckllloiogjaa
