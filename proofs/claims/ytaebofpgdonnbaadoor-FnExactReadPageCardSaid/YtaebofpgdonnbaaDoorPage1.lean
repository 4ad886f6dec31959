/- Contracts: numbers in range, the check digit, names of faults. -/
import Derived.Test.YtaebofpgdonnbaaDoorCore
import Derived.Test.YtaebofpgdonnbaaDoorPageMath
set_option linter.unusedVariables false
set_option linter.unusedSimpArgs false
namespace Go.Proofs.YtaebofpgdonnbaaDoor
open Go.RowKit

theorem between_c (n lo hi : Int) (w : World) : Calls Tryd.prog 95 #[.int .i64 n, .int .i64 lo, .int .i64 hi] w fun e w' => e = .returned (.bool (inB n lo hi)) ∧ w = w' := by
  go_enter Tryd.func95, Tryd.ntmps95
  go_wp2
  all_goals (go_ret; exact ⟨ret_bool (by simp [inB]; omega), rfl⟩)

theorem l00In_c (n lo hi : Int) (w : World) : Calls Tryd.prog 86 #[.int .i64 n, .int .i64 lo, .int .i64 hi] w fun e w' => e = .returned (.bool (inB n lo hi)) ∧ w = w' := by
  go_enter Tryd.func86, Tryd.ntmps86
  go_wp2
  all_goals (go_ret; exact ⟨ret_bool (by simp [inB]; omega), rfl⟩)

def valB (n : Int) : Bool := inB n (-1000000000000) 1000000000000
theorem valB_iff {n : Int} : valB n = true ↔ -1000000000000 ≤ n ∧ n ≤ 1000000000000 := inB_iff

theorem isValue_c (n : Int) (w : World) : Calls Tryd.prog 89 #[.int .i64 n] w fun e w' => e = .returned (.bool (valB n)) ∧ w = w' := by
  go_enter Tryd.func89, Tryd.ntmps89
  go_wp2_with (go_at_call 95; refine (between_c _ _ _ _).mono ?_; rintro e w' ⟨rfl, rfl⟩)
  go_ret
  exact ⟨rfl, rfl⟩
theorem l17Most_c (n : Int) (w : World) : Calls Tryd.prog 87 #[.int .i64 n] w fun e w' => e = .returned (.bool (valB n)) ∧ w = w' := by
  go_enter Tryd.func87, Tryd.ntmps87
  go_wp2_with (go_at_call 86; refine (l00In_c _ _ _ _).mono ?_; rintro e w' ⟨rfl, rfl⟩)
  go_ret
  exact ⟨rfl, rfl⟩

theorem absolute_c (n : Int) (w : World) (h : -9223372036854775807 ≤ n ∧ n ≤ 9223372036854775807) : Calls Tryd.prog 106 #[.int .i64 n] w fun e w' => e = .returned (.int .i64 (n.natAbs : Int)) ∧ w = w' := by
  by_cases hn : n < 0
  · go_enter Tryd.func106, Tryd.ntmps106
    go_wp2
    go_ret
    exact ⟨ret_int (by omega), rfl⟩
  · go_enter Tryd.func106, Tryd.ntmps106
    go_wp2
    go_ret
    exact ⟨ret_int (by omega), rfl⟩
theorem l00Max_c (a b : Int) (w : World) : Calls Tryd.prog 114 #[.int .i64 a, .int .i64 b] w fun e w' => e = .returned (.int .i64 (max a b)) ∧ w = w' := by
  by_cases hn : b < a
  · go_enter Tryd.func114, Tryd.ntmps114
    go_wp2
    go_ret
    exact ⟨ret_int (by omega), rfl⟩
  · go_enter Tryd.func114, Tryd.ntmps114
    go_wp2
    go_ret
    exact ⟨ret_int (by omega), rfl⟩
theorem l03Size_c (n : Int) (w : World) (h : -9223372036854775807 ≤ n ∧ n ≤ 9223372036854775807) : Calls Tryd.prog 109 #[.int .i64 n] w fun e w' => e = .returned (.int .i64 (n.natAbs : Int)) ∧ w = w' := by
  go_enter Tryd.func109, Tryd.ntmps109
  go_wp2_with (go_at_call 114; refine (l00Max_c _ _ _).mono ?_; rintro e w' ⟨rfl, rfl⟩)
  go_ret
  exact ⟨ret_int (by omega), rfl⟩

set_option maxHeartbeats 400000 in
theorem checkDigit_c (n : Int) (w : World) (h : -1000000000000 ≤ n ∧ n ≤ 1000000000000) : Calls Tryd.prog 93 #[.int .i64 n] w fun e w' => e = .returned (.int .i64 (chk n)) ∧ w = w' := by
  by_cases hn : n < 0
  all_goals
    go_enter Tryd.func93, Tryd.ntmps93
    go_wp2_with ((go_at_call 106; refine (absolute_c _ _ (by omega)).mono ?_; rintro e w' ⟨rfl, rfl⟩))
    go_loop [3, 4, 5] (fun s r q => ∃ k x t : Nat, room k x ∧ t ≤ 126 * k ∧ t + wsum k x = wsum 1 n.natAbs + neg5 n ∧ s = .int .i64 (t : Int) ∧ r = .int .i64 (x : Int) ∧ q = .int .i64 (k : Int)) (fun _ r _ => (intOf r).toNat)
    case atStart => exact ⟨1, n.natAbs, neg5 n, room_start _ (by omega), by unfold neg5; split <;> omega, by omega, congrArg (Value.int .i64) (by unfold neg5; split <;> omega), rfl, rfl⟩
    case round =>
      obtain ⟨k, x, t, hr, ht, hs, rfl, rfl, rfl⟩ := hrel
      obtain ⟨r1, r2⟩ := room_lt hr
      have HS := Lib.hid hs; clear hs
      by_cases hx : 0 < x
      · have hr' := room_step hr hx
        have hk' := (room_lt hr').1
        have hw := weigh_le k (x % 10) r1 (by omega)
        have HR := Lib.hid hr'; clear hr' hr
        have p1 : (0 : Int) < (x : Int) := by omega
        have e1 : ((k : Int) * ((x : Int) % 10)) = ((k * (x % 10) : Nat) : Int) := by simp
        have e2 : IntKind.i64.wrap ((k * (x % 10) : Nat) : Int) = ((k * (x % 10) : Nat) : Int) := IntWalk.i64_in _ (by omega)
        have e3 : IntKind.i64.wrap ((t : Int) + ((k * (x % 10) : Nat) : Int)) = ((t : Int) + ((k * (x % 10) : Nat) : Int)) := IntWalk.i64_in _ (by omega)
        generalize hy : k * (x % 10) = y at *
        have HY := Lib.hid hy; clear hy
        go_wp2
        go_round
        case rel =>
          have h1 := HS.out
          rw [wsum_step k x hx, HY.out] at h1
          exact ⟨k + 1, x / 10, t + y, HR.out, by omega, by omega, by go_num, by go_num, by go_num⟩
        case measure => simp [intOf]; omega
      · obtain rfl : x = 0 := by omega
        have h1 := HS.out
        rw [wsum_zero] at h1
        go_wp2
        go_ret
        exact ⟨ret_int (by unfold chk; rw [← h1]; omega), rfl⟩

set_option maxHeartbeats 400000 in
theorem l18Check_c (n : Int) (w : World) (h : -1000000000000 ≤ n ∧ n ≤ 1000000000000) : Calls Tryd.prog 104 #[.int .i64 n] w fun e w' => e = .returned (.int .i64 (chk n)) ∧ w = w' := by
  go_enter Tryd.func104, Tryd.ntmps104
  go_wp2_with ((go_at_call 109; refine (l03Size_c _ _ (by omega)).mono ?_; rintro e w' ⟨rfl, rfl⟩))
  go_loop [3, 4, 5] (fun s q r => ∃ k x t : Nat, room k x ∧ t ≤ 126 * k ∧ t + wsum k x = wsum 1 n.natAbs ∧ s = .int .i64 (t : Int) ∧ r = .int .i64 (x : Int) ∧ q = .int .i64 (k : Int)) (fun _ _ r => (intOf r).toNat)
  case atStart => exact ⟨1, n.natAbs, 0, room_start _ (by omega), by omega, by omega, rfl, rfl, rfl⟩
  case round =>
    obtain ⟨k, x, t, hr, ht, hs, rfl, rfl, rfl⟩ := hrel
    obtain ⟨r1, r2⟩ := room_lt hr
    have HS := Lib.hid hs; clear hs
    by_cases hx : 0 < x
    · have hr' := room_step hr hx
      have hk' := (room_lt hr').1
      have hw := weigh_le k (x % 10) r1 (by omega)
      have HR := Lib.hid hr'; clear hr' hr
      have p1 : (0 : Int) < (x : Int) := by omega
      have e1 : ((k : Int) * ((x : Int) % 10)) = ((k * (x % 10) : Nat) : Int) := by simp
      have e2 : IntKind.i64.wrap ((k * (x % 10) : Nat) : Int) = ((k * (x % 10) : Nat) : Int) := IntWalk.i64_in _ (by omega)
      have e3 : IntKind.i64.wrap ((t : Int) + ((k * (x % 10) : Nat) : Int)) = ((t : Int) + ((k * (x % 10) : Nat) : Int)) := IntWalk.i64_in _ (by omega)
      generalize hy : k * (x % 10) = y at *
      have HY := Lib.hid hy; clear hy
      go_wp2
      go_round
      case rel =>
        have h1 := HS.out
        rw [wsum_step k x hx, HY.out] at h1
        exact ⟨k + 1, x / 10, t + y, HR.out, by omega, by omega, by go_num, by go_num, by go_num⟩
      case measure => simp [intOf]; omega
    · obtain rfl : x = 0 := by omega
      have h1 := HS.out
      rw [wsum_zero] at h1
      by_cases hn : n < 0
      all_goals
        go_wp2
        go_ret
        exact ⟨ret_int (by have h2 : neg5 n = if n < 0 then 5 else 0 := rfl; unfold chk; split at h2 <;> omega), rfl⟩


end Go.Proofs.YtaebofpgdonnbaaDoor
