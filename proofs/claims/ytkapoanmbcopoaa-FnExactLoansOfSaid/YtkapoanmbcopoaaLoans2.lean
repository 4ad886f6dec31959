/- Contracts: what is a loan, which is ahead, which clash. -/
import Derived.Test.YtkapoanmbcopoaaLoans1
import Derived.Test.YtkapoanmbcopoaaNames
import Derived.Test.YtkapoanmbcopoaaFracMath
import Derived.Test.YtkapoanmbcopoaaLawCalls
set_option linter.unusedVariables false
set_option linter.unusedSimpArgs false
namespace Go.Proofs.Ytkapoanmbcopoaa
open Go.RowKit

theorem between_c (n lo hi : Int) (w : World) : Calls Try.prog 55 #[.int .i64 n, .int .i64 lo, .int .i64 hi] w fun e w' => e = .returned (.bool (inB n lo hi)) ∧ w = w' := by
  go_enter Try.func55, Try.ntmps55
  go_wp2
  all_goals (go_ret; exact ⟨ret_bool (by simp [inB]; omega), rfl⟩)
theorem l00In_c (n lo hi : Int) (w : World) : Calls Try.prog 53 #[.int .i64 n, .int .i64 lo, .int .i64 hi] w fun e w' => e = .returned (.bool (inB n lo hi)) ∧ w = w' := by
  go_enter Try.func53, Try.ntmps53
  go_wp2
  all_goals (go_ret; exact ⟨ret_bool (by simp [inB]; omega), rfl⟩)
theorem isDay_c (n : Int) (w : World) : Calls Try.prog 54 #[.int .i64 n] w fun e w' => e = .returned (.bool (inB n 0 100000)) ∧ w = w' := by
  go_enter Try.func54, Try.ntmps54
  go_wp2_with (go_at_call 55; refine (between_c _ _ _ _).mono ?_; rintro e w' ⟨rfl, rfl⟩)
  go_ret
  exact ⟨rfl, rfl⟩
theorem l23Day_c (n : Int) (w : World) : Calls Try.prog 52 #[.int .i64 n] w fun e w' => e = .returned (.bool (inB n 0 100000)) ∧ w = w' := by
  go_enter Try.func52, Try.ntmps52
  go_wp2_with (go_at_call 53; refine (l00In_c _ _ _ _).mono ?_; rintro e w' ⟨rfl, rfl⟩)
  go_ret
  exact ⟨rfl, rfl⟩

def loanB (d : LoanD) : Bool := nameB d.ex && nameB d.bo && inB d.fr 0 100000 && inB d.to 0 100000 && decide (d.fr ≤ d.to)
def aheadB (x y : LoanD) : Bool := decide (x.fr < y.fr) || (x.fr == y.fr && Op.bytesLess x.ex.toList y.ex.toList)
def clashB (x y : LoanD) : Bool := (x.ex.toList == y.ex.toList) && decide (x.fr ≤ y.to) && decide (y.fr ≤ x.to)

/-- where a loan lies -/
def LoanAt (w : World) (b o : Nat) (d : LoanD) : Prop := w.cell? ⟨b, o, none⟩ = some (.string d.ex) ∧ w.cell? ⟨b, o + 1, none⟩ = some (.string d.bo) ∧ w.cell? ⟨b, o + 2, none⟩ = some (.int .i64 d.fr) ∧ w.cell? ⟨b, o + 3, none⟩ = some (.int .i64 d.to)

set_option maxHeartbeats 1000000 in
theorem validLoan_c (d : LoanD) (w : World) (k1 : d.ex.size ≤ maxLen) (k2 : d.bo.size ≤ maxLen) : Calls Try.prog 47 #[lagg d] w fun e w' => e = .returned (.bool (loanB d)) ∧ Below w.heap.size w w' := by
  simp only [lagg]
  cases h1 : nameB d.ex
  · go_enter Try.func47, Try.ntmps47
    go_wp2_with (first | ((go_at_call 67; with_reducible refine (IsName_c d.ex _ k1).mono ?_; rintro e w' ⟨rfl, rfl⟩)) | ((go_at_call 67; with_reducible refine (IsName_c d.bo _ k2).mono ?_; rintro e w' ⟨rfl, rfl⟩)) | (go_at_call 54; refine (isDay_c _ _).mono ?_; rintro e w' ⟨rfl, rfl⟩))
    go_ret
    refine ⟨ret_bool (by simp [loanB, h1]), ?_⟩
    (repeat' (first | (with_reducible exact Below.refl _ _) | (with_reducible assumption) | (with_reducible refine below_drewN ?_ _) | (with_reducible refine Below.drew ?_) | (with_reducible refine Below.alloc ?_ ?_ _) | (with_reducible refine Below.setCell ?_ ?_ _) | (with_reducible refine via (by with_reducible assumption) ?_ ?_) | go_size))
  · cases h2 : nameB d.bo
    · go_enter Try.func47, Try.ntmps47
      go_wp2_with (first | ((go_at_call 67; with_reducible refine (IsName_c d.ex _ k1).mono ?_; rintro e w' ⟨rfl, rfl⟩)) | ((go_at_call 67; with_reducible refine (IsName_c d.bo _ k2).mono ?_; rintro e w' ⟨rfl, rfl⟩)) | (go_at_call 54; refine (isDay_c _ _).mono ?_; rintro e w' ⟨rfl, rfl⟩))
      go_ret
      refine ⟨ret_bool (by simp [loanB, h1, h2]), ?_⟩
      (repeat' (first | (with_reducible exact Below.refl _ _) | (with_reducible assumption) | (with_reducible refine below_drewN ?_ _) | (with_reducible refine Below.drew ?_) | (with_reducible refine Below.alloc ?_ ?_ _) | (with_reducible refine Below.setCell ?_ ?_ _) | (with_reducible refine via (by with_reducible assumption) ?_ ?_) | go_size))
    · cases h3 : inB d.fr 0 100000
      · go_enter Try.func47, Try.ntmps47
        go_wp2_with (first | ((go_at_call 67; with_reducible refine (IsName_c d.ex _ k1).mono ?_; rintro e w' ⟨rfl, rfl⟩)) | ((go_at_call 67; with_reducible refine (IsName_c d.bo _ k2).mono ?_; rintro e w' ⟨rfl, rfl⟩)) | (go_at_call 54; refine (isDay_c _ _).mono ?_; rintro e w' ⟨rfl, rfl⟩))
        go_ret
        refine ⟨ret_bool (by simp [loanB, h1, h2, h3]), ?_⟩
        (repeat' (first | (with_reducible exact Below.refl _ _) | (with_reducible assumption) | (with_reducible refine below_drewN ?_ _) | (with_reducible refine Below.drew ?_) | (with_reducible refine Below.alloc ?_ ?_ _) | (with_reducible refine Below.setCell ?_ ?_ _) | (with_reducible refine via (by with_reducible assumption) ?_ ?_) | go_size))
      · cases h4 : inB d.to 0 100000
        · go_enter Try.func47, Try.ntmps47
          go_wp2_with (first | ((go_at_call 67; with_reducible refine (IsName_c d.ex _ k1).mono ?_; rintro e w' ⟨rfl, rfl⟩)) | ((go_at_call 67; with_reducible refine (IsName_c d.bo _ k2).mono ?_; rintro e w' ⟨rfl, rfl⟩)) | (go_at_call 54; refine (isDay_c _ _).mono ?_; rintro e w' ⟨rfl, rfl⟩))
          go_ret
          refine ⟨ret_bool (by simp [loanB, h1, h2, h3, h4]), ?_⟩
          (repeat' (first | (with_reducible exact Below.refl _ _) | (with_reducible assumption) | (with_reducible refine below_drewN ?_ _) | (with_reducible refine Below.drew ?_) | (with_reducible refine Below.alloc ?_ ?_ _) | (with_reducible refine Below.setCell ?_ ?_ _) | (with_reducible refine via (by with_reducible assumption) ?_ ?_) | go_size))
        · cases h5 : decide (d.fr ≤ d.to)
          · go_enter Try.func47, Try.ntmps47
            go_wp2_with (first | ((go_at_call 67; with_reducible refine (IsName_c d.ex _ k1).mono ?_; rintro e w' ⟨rfl, rfl⟩)) | ((go_at_call 67; with_reducible refine (IsName_c d.bo _ k2).mono ?_; rintro e w' ⟨rfl, rfl⟩)) | (go_at_call 54; refine (isDay_c _ _).mono ?_; rintro e w' ⟨rfl, rfl⟩))
            go_ret
            refine ⟨ret_bool (by simp [loanB, h1, h2, h3, h4, h5]), ?_⟩
            (repeat' (first | (with_reducible exact Below.refl _ _) | (with_reducible assumption) | (with_reducible refine below_drewN ?_ _) | (with_reducible refine Below.drew ?_) | (with_reducible refine Below.alloc ?_ ?_ _) | (with_reducible refine Below.setCell ?_ ?_ _) | (with_reducible refine via (by with_reducible assumption) ?_ ?_) | go_size))
          · go_enter Try.func47, Try.ntmps47
            go_wp2_with (first | ((go_at_call 67; with_reducible refine (IsName_c d.ex _ k1).mono ?_; rintro e w' ⟨rfl, rfl⟩)) | ((go_at_call 67; with_reducible refine (IsName_c d.bo _ k2).mono ?_; rintro e w' ⟨rfl, rfl⟩)) | (go_at_call 54; refine (isDay_c _ _).mono ?_; rintro e w' ⟨rfl, rfl⟩))
            go_ret
            refine ⟨ret_bool (by simp [loanB, h1, h2, h3, h4, h5]), ?_⟩
            (repeat' (first | (with_reducible exact Below.refl _ _) | (with_reducible assumption) | (with_reducible refine below_drewN ?_ _) | (with_reducible refine Below.drew ?_) | (with_reducible refine Below.alloc ?_ ?_ _) | (with_reducible refine Below.setCell ?_ ?_ _) | (with_reducible refine via (by with_reducible assumption) ?_ ?_) | go_size))

set_option maxHeartbeats 1000000 in
theorem l23One_c (d : LoanD) (b o : Nat) (w : World) (k1 : d.ex.size ≤ maxLen) (k2 : d.bo.size ≤ maxLen) (h : LoanAt w b o d) : Calls Try.prog 64 #[.pointer (some ⟨b, o, none⟩)] w fun e w' => e = .returned (.bool (loanB d)) ∧ ∃ m, w' = w.drewN m := by
  obtain ⟨g0, g1, g2, g3⟩ := h
  cases h1 : nameB d.ex
  · go_enter Try.func64, Try.ntmps64
    go_wp2_with fail
    go_quiet (first | ((go_at_call 74; with_reducible exact quiet_eq (retb (IsNameS_c d.ex _ k1) h1))))
    go_wp2_with fail
    go_ret
    exact ⟨ret_bool (by simp [loanB, h1]), nq, rfl⟩
  · cases h2 : nameB d.bo
    · go_enter Try.func64, Try.ntmps64
      go_wp2_with fail
      go_quiet (first | ((go_at_call 74; with_reducible exact quiet_eq (retb (IsNameS_c d.ex _ k1) h1))) | ((go_at_call 74; with_reducible exact quiet_eq (retb (IsNameS_c d.bo _ k2) h2))))
      go_wp2_with fail
      go_ret
      exact ⟨ret_bool (by simp [loanB, h1, h2]), nq, rfl⟩
    · cases h3 : inB d.fr 0 100000
      · go_enter Try.func64, Try.ntmps64
        go_wp2_with fail
        go_quiet (first | ((go_at_call 74; with_reducible exact quiet_eq (retb (IsNameS_c d.ex _ k1) h1))) | ((go_at_call 74; with_reducible exact quiet_eq (retb (IsNameS_c d.bo _ k2) h2))) | ((go_at_call 52; with_reducible exact quiet_eq (retb (l23Day_c d.fr _) h3))))
        go_wp2_with fail
        go_ret
        exact ⟨ret_bool (by simp [loanB, h1, h2, h3]), nq, rfl⟩
      · cases h4 : inB d.to 0 100000
        · go_enter Try.func64, Try.ntmps64
          go_wp2_with fail
          go_quiet (first | ((go_at_call 74; with_reducible exact quiet_eq (retb (IsNameS_c d.ex _ k1) h1))) | ((go_at_call 74; with_reducible exact quiet_eq (retb (IsNameS_c d.bo _ k2) h2))) | ((go_at_call 52; with_reducible exact quiet_eq (retb (l23Day_c d.fr _) h3))) | ((go_at_call 52; with_reducible exact quiet_eq (retb (l23Day_c d.to _) h4))))
          go_wp2_with fail
          go_ret
          exact ⟨ret_bool (by simp [loanB, h1, h2, h3, h4]), nq, rfl⟩
        · cases h5 : decide (d.fr ≤ d.to)
          · go_enter Try.func64, Try.ntmps64
            go_wp2_with fail
            go_quiet (first | ((go_at_call 74; with_reducible exact quiet_eq (retb (IsNameS_c d.ex _ k1) h1))) | ((go_at_call 74; with_reducible exact quiet_eq (retb (IsNameS_c d.bo _ k2) h2))) | ((go_at_call 52; with_reducible exact quiet_eq (retb (l23Day_c d.fr _) h3))) | ((go_at_call 52; with_reducible exact quiet_eq (retb (l23Day_c d.to _) h4))))
            go_wp2_with fail
            go_ret
            exact ⟨ret_bool (by simp [loanB, h1, h2, h3, h4, h5]), nq, rfl⟩
          · go_enter Try.func64, Try.ntmps64
            go_wp2_with fail
            go_quiet (first | ((go_at_call 74; with_reducible exact quiet_eq (retb (IsNameS_c d.ex _ k1) h1))) | ((go_at_call 74; with_reducible exact quiet_eq (retb (IsNameS_c d.bo _ k2) h2))) | ((go_at_call 52; with_reducible exact quiet_eq (retb (l23Day_c d.fr _) h3))) | ((go_at_call 52; with_reducible exact quiet_eq (retb (l23Day_c d.to _) h4))))
            go_wp2_with fail
            go_ret
            exact ⟨ret_bool (by simp [loanB, h1, h2, h3, h4, h5]), nq, rfl⟩

set_option maxHeartbeats 1000000 in
theorem ahead_c (x y : LoanD) (w : World) : Calls Try.prog 48 #[lagg x, lagg y] w fun e w' => e = .returned (.bool (aheadB x y)) ∧ Below w.heap.size w w' := by
  simp only [lagg]
  cases h1 : decide (x.fr < y.fr)
  · cases h2 : (x.fr == y.fr)
    all_goals
      go_enter Try.func48, Try.ntmps48
      go_wp2_with fail
      try (go_quiet (fail))
      try go_wp2_with fail
      go_ret
      refine ⟨ret_bool (by simp only [aheadB, h1, h2]; first | rfl | simp), ?_⟩
      (repeat' (first | (with_reducible exact Below.refl _ _) | (with_reducible assumption) | (with_reducible refine below_drewN ?_ _) | (with_reducible refine Below.drew ?_) | (with_reducible refine Below.alloc ?_ ?_ _) | (with_reducible refine Below.setCell ?_ ?_ _) | (with_reducible refine via (by with_reducible assumption) ?_ ?_) | go_size))
  · go_enter Try.func48, Try.ntmps48
    go_wp2_with fail
    try (go_quiet (fail))
    try go_wp2_with fail
    go_ret
    refine ⟨ret_bool (by simp only [aheadB, h1]; first | rfl | simp), ?_⟩
    (repeat' (first | (with_reducible exact Below.refl _ _) | (with_reducible assumption) | (with_reducible refine below_drewN ?_ _) | (with_reducible refine Below.drew ?_) | (with_reducible refine Below.alloc ?_ ?_ _) | (with_reducible refine Below.setCell ?_ ?_ _) | (with_reducible refine via (by with_reducible assumption) ?_ ?_) | go_size))

set_option maxHeartbeats 1000000 in
theorem l23Before_c (x y : LoanD) (b o b' o' : Nat) (w : World) (hx : LoanAt w b o x) (hy : LoanAt w b' o' y) : Calls Try.prog 65 #[.pointer (some ⟨b, o, none⟩), .pointer (some ⟨b', o', none⟩)] w fun e w' => e = .returned (.bool (aheadB x y)) ∧ ∃ m, w' = w.drewN m := by
  obtain ⟨g0, g1, g2, g3⟩ := hx
  obtain ⟨m0, m1, m2, m3⟩ := hy
  cases h1 : decide (x.fr < y.fr)
  · cases h2 : (x.fr == y.fr)
    all_goals
      go_enter Try.func65, Try.ntmps65
      go_wp2_with fail
      go_quiet (fail)
      go_wp2_with fail
      go_ret
      exact ⟨ret_bool (by simp only [aheadB, h1, h2]; first | rfl | simp), nq, rfl⟩
  · go_enter Try.func65, Try.ntmps65
    go_wp2_with fail
    go_quiet (fail)
    go_wp2_with fail
    go_ret
    exact ⟨ret_bool (by simp only [aheadB, h1]; first | rfl | simp), nq, rfl⟩

set_option maxHeartbeats 1000000 in
theorem clashes_c (x y : LoanD) (w : World) : Calls Try.prog 49 #[lagg x, lagg y] w fun e w' => e = .returned (.bool (clashB x y)) ∧ Below w.heap.size w w' := by
  simp only [lagg]
  cases h1 : (x.ex.toList == y.ex.toList)
  · go_enter Try.func49, Try.ntmps49
    go_wp2_with fail
    try (go_quiet (fail))
    try go_wp2_with fail
    go_ret
    refine ⟨ret_bool (by simp only [clashB, h1]; first | rfl | simp), ?_⟩
    (repeat' (first | (with_reducible exact Below.refl _ _) | (with_reducible assumption) | (with_reducible refine below_drewN ?_ _) | (with_reducible refine Below.drew ?_) | (with_reducible refine Below.alloc ?_ ?_ _) | (with_reducible refine Below.setCell ?_ ?_ _) | (with_reducible refine via (by with_reducible assumption) ?_ ?_) | go_size))
  · cases h2 : decide (x.fr ≤ y.to)
    · go_enter Try.func49, Try.ntmps49
      go_wp2_with fail
      try (go_quiet (fail))
      try go_wp2_with fail
      go_ret
      refine ⟨ret_bool (by simp only [clashB, h1, h2]; first | rfl | simp), ?_⟩
      (repeat' (first | (with_reducible exact Below.refl _ _) | (with_reducible assumption) | (with_reducible refine below_drewN ?_ _) | (with_reducible refine Below.drew ?_) | (with_reducible refine Below.alloc ?_ ?_ _) | (with_reducible refine Below.setCell ?_ ?_ _) | (with_reducible refine via (by with_reducible assumption) ?_ ?_) | go_size))
    · cases h3 : decide (y.fr ≤ x.to)
      · go_enter Try.func49, Try.ntmps49
        go_wp2_with fail
        try (go_quiet (fail))
        try go_wp2_with fail
        go_ret
        refine ⟨ret_bool (by simp only [clashB, h1, h2, h3]; first | rfl | simp), ?_⟩
        (repeat' (first | (with_reducible exact Below.refl _ _) | (with_reducible assumption) | (with_reducible refine below_drewN ?_ _) | (with_reducible refine Below.drew ?_) | (with_reducible refine Below.alloc ?_ ?_ _) | (with_reducible refine Below.setCell ?_ ?_ _) | (with_reducible refine via (by with_reducible assumption) ?_ ?_) | go_size))
      · go_enter Try.func49, Try.ntmps49
        go_wp2_with fail
        try (go_quiet (fail))
        try go_wp2_with fail
        go_ret
        refine ⟨ret_bool (by simp only [clashB, h1, h2, h3]; first | rfl | simp), ?_⟩
        (repeat' (first | (with_reducible exact Below.refl _ _) | (with_reducible assumption) | (with_reducible refine below_drewN ?_ _) | (with_reducible refine Below.drew ?_) | (with_reducible refine Below.alloc ?_ ?_ _) | (with_reducible refine Below.setCell ?_ ?_ _) | (with_reducible refine via (by with_reducible assumption) ?_ ?_) | go_size))

set_option maxHeartbeats 1000000 in
theorem l23Clash_c (x y : LoanD) (b o b' o' : Nat) (w : World) (hx : LoanAt w b o x) (hy : LoanAt w b' o' y) : Calls Try.prog 66 #[.pointer (some ⟨b, o, none⟩), .pointer (some ⟨b', o', none⟩)] w fun e w' => e = .returned (.bool (clashB x y)) ∧ ∃ m, w' = w.drewN m := by
  obtain ⟨g0, g1, g2, g3⟩ := hx
  obtain ⟨m0, m1, m2, m3⟩ := hy
  cases h1 : (x.ex.toList == y.ex.toList)
  · go_enter Try.func66, Try.ntmps66
    go_wp2_with fail
    go_quiet (fail)
    go_wp2_with fail
    go_ret
    exact ⟨ret_bool (by simp only [clashB, h1]; first | rfl | simp), nq, rfl⟩
  · cases h2 : decide (x.fr ≤ y.to)
    · go_enter Try.func66, Try.ntmps66
      go_wp2_with fail
      go_quiet (fail)
      go_wp2_with fail
      go_ret
      exact ⟨ret_bool (by simp only [clashB, h1, h2]; first | rfl | simp), nq, rfl⟩
    · cases h3 : decide (y.fr ≤ x.to)
      · go_enter Try.func66, Try.ntmps66
        go_wp2_with fail
        go_quiet (fail)
        go_wp2_with fail
        go_ret
        exact ⟨ret_bool (by simp only [clashB, h1, h2, h3]; first | rfl | simp), nq, rfl⟩
      · go_enter Try.func66, Try.ntmps66
        go_wp2_with fail
        go_quiet (fail)
        go_wp2_with fail
        go_ret
        exact ⟨ret_bool (by simp only [clashB, h1, h2, h3]; first | rfl | simp), nq, rfl⟩

end Go.Proofs.Ytkapoanmbcopoaa
