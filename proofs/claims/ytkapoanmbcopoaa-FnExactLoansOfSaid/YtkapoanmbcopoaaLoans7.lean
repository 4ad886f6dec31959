/- Contracts: from when on an exhibit is free; the busiest day. -/
import Derived.Test.YtkapoanmbcopoaaLoans6
set_option linter.unusedVariables false
set_option linter.unusedSimpArgs false
namespace Go.Proofs.Ytkapoanmbcopoaa
open Go.RowKit

theorem loanB_bd {d : LoanD} (h : loanB d = true) : 0 ≤ d.fr ∧ d.fr ≤ d.to ∧ d.to ≤ 100000 := by
  simp only [loanB, inB, Bool.and_eq_true, decide_eq_true_eq] at h
  omega
theorem valid_at {l : List LoanD} {k : Nat} {d : LoanD} (hv : validS l = true) (h : l[k]? = some d) : loanB d = true := by
  unfold validS at hv
  rw [Bool.and_eq_true] at hv
  have h1 := List.all_eq_true.1 hv.1 k (List.mem_range.2 (List.getElem?_eq_some_iff.1 h).1)
  unfold okS at h1
  rw [getL_eq h] at h1
  simp only [Bool.and_eq_true] at h1
  exact h1.1.1

/-! ### From when on an exhibit is free -/
def freeF (ex : ByteArray) (days a : Int) (d : LoanD) : Int := if ((d.ex.toList == ex.toList) && decide (d.fr ≤ a + days - 1) && decide (a ≤ d.to)) = true then d.to + 1 else a
def freeM (l : List LoanD) (ex : ByteArray) (day days : Int) : Int := l.foldl (freeF ex days) day
def freeR (l : List LoanD) (ex : ByteArray) (day days : Int) : Int × Int :=
  if validS l = true then
    (if (inB day 0 100000 && inB days 1 1000) = true then
      (if inB (freeM l ex day days + days - 1) 0 100000 = true then (freeM l ex day days, 0) else (0, 3)) else (0, 2)) else (0, 1)

set_option maxHeartbeats 2000000 in
theorem FreeFromI_c (A : Option Addr) (n c : Nat) (l : List LoanD) (ex : ByteArray) (day days : Int) (w : World) (hn : l.length = n) (hm : n ≤ 1048576) (hcap : n ≤ c) (hr : Rd w w.heap.size 4 lcell A l) (ok : ∀ d ∈ l, okL d) (_ : ex.size ≤ 1048576) :
    Calls Try.prog 27 #[.slice A n c, .string ex, .int .i64 day, .int .i64 days] w fun e w' => e = .returned (.tuple #[.int .i64 (freeR l ex day days).1, .int .i64 (freeR l ex day days).2]) ∧ Below w.heap.size w w' := by
  have HN := Lib.hid hn; clear hn
  cases hv : validS l
  · have HR := Lib.hid (show freeR l ex day days = (0, 1) by unfold freeR; rw [hv]; rfl)
    go_enter Try.func27, Try.ntmps27
    go_wp2_with fail
    refine (retb (ValidLoansI_c A n c l _ HN.out hm hcap hr ok) hv).mono ?_
    rintro e w1 ⟨rfl, hb1⟩
    go_wp2_with fail
    go_ret2
    exact ⟨ret_two HR.out.symm, hb1⟩
  cases h1 : inB day 0 100000
  · have HR := Lib.hid (show freeR l ex day days = (0, 2) by unfold freeR; rw [hv, h1]; rfl)
    go_enter Try.func27, Try.ntmps27
    go_wp2_with fail
    refine (retb (ValidLoansI_c A n c l _ HN.out hm hcap hr ok) hv).mono ?_
    rintro e w1 ⟨rfl, hb1⟩
    go_wp2_with (first | (go_at_call 54; refine (isDay_c _ _).mono ?_; rintro e w' ⟨rfl, rfl⟩) | (go_at_call 55; refine (between_c _ _ _ _).mono ?_; rintro e w' ⟨rfl, rfl⟩))
    go_ret2
    exact ⟨ret_two HR.out.symm, hb1⟩
  cases h2 : inB days 1 1000
  · have HR := Lib.hid (show freeR l ex day days = (0, 2) by unfold freeR; rw [hv, h1, h2]; rfl)
    go_enter Try.func27, Try.ntmps27
    go_wp2_with fail
    refine (retb (ValidLoansI_c A n c l _ HN.out hm hcap hr ok) hv).mono ?_
    rintro e w1 ⟨rfl, hb1⟩
    go_wp2_with (first | (go_at_call 54; refine (isDay_c _ _).mono ?_; rintro e w' ⟨rfl, rfl⟩) | (go_at_call 55; refine (between_c _ _ _ _).mono ?_; rintro e w' ⟨rfl, rfl⟩))
    go_ret2
    exact ⟨ret_two HR.out.symm, hb1⟩
  have HR := Lib.hid (show freeR l ex day days = (if inB (freeM l ex day days + days - 1) 0 100000 = true then (freeM l ex day days, 0) else (0, 3)) by unfold freeR; rw [hv, h1, h2]; rfl)
  have bd : 0 ≤ day ∧ day ≤ 100000 ∧ 1 ≤ days ∧ days ≤ 1000 := by have e1 := inB_iff.1 h1; have e2 := inB_iff.1 h2; omega
  obtain ⟨bd1, bd2, bd3, bd4⟩ := bd
  have HV := Lib.hid hv
  go_enter Try.func27, Try.ntmps27
  go_wp2_with fail
  refine (retb (ValidLoansI_c A n c l _ HN.out hm hcap hr ok) hv).mono ?_
  rintro e w1 ⟨rfl, hb1⟩
  have hz1 := hb1.size
  go_wp2_with (first | (go_at_call 54; refine (isDay_c _ _).mono ?_; rintro e w' ⟨rfl, rfl⟩) | (go_at_call 55; refine (between_c _ _ _ _).mono ?_; rintro e w' ⟨rfl, rfl⟩))
  clear h1 h2 hv
  have hr1 := (hr.below hb1).mono hz1
  go_loopw [2, 25] (fun q i wr => ∃ (k : Nat) (a : Int), k ≤ n ∧ i = .int .i64 k ∧ q = .int .i64 a ∧ a = freeM (l.take k) ex day days ∧ 0 ≤ a ∧ a ≤ 100001 ∧ Below w1.heap.size w1 wr) (fun _ i _ => n - (intOf i).toNat)
  case atStart => exact ⟨0, day, Nat.zero_le _, rfl, rfl, rfl, by omega, by omega, Below.refl _ _⟩
  case round =>
    obtain ⟨k, a, hk, rfl, rfl, ha, ab1, ab2, hb⟩ := hrel
    have HA := Lib.hid ha; clear ha
    have hbs := hb.size
    by_cases hlt : k < n
    · obtain ⟨b1, off, rfl, hbl, hc⟩ := (hr1.below hb).loan (by rw [HN.out]; omega)
      obtain ⟨d, hd⟩ := get_ex l k (by rw [HN.out]; omega)
      obtain ⟨g0, g1, g2, g3⟩ := hc k d hd
      obtain ⟨v1, v2, v3⟩ := loanB_bd (valid_at HV.out hd)
      have hf1 := far (show b1 < wr.heap.size by omega)
      have HD := Lib.hid hd; clear hd hc
      have p1 : (0 : Int) ≤ (k : Int) := by omega
      have p2 : (k : Int) < (n : Int) := by omega
      have HF := Lib.hid (show freeF ex days a d = freeM (l.take (k + 1)) ex day days by unfold freeM; rw [foldl_take_succ _ _ l k d HD.out]; have := HA.out; unfold freeM at this; rw [this])
      cases h0 : (d.ex.toList == ex.toList)
      · have HS := Lib.hid (show a = freeM (l.take (k + 1)) ex day days by rw [← HF.out]; unfold freeF; rw [h0]; rfl)
        go_wp2_with fail
        (first | (refine ⟨?_, ?_⟩; rotate_left; (simp [intOf]; omega); (repeat apply Exists.intro); refine ⟨?_, rfl⟩; exact ⟨k + 1, _, by omega, by go_num, rfl, HS.out, by omega, by omega, by (repeat' (first | (with_reducible exact Below.refl _ _) | (with_reducible assumption) | (with_reducible refine below_drewN ?_ _) | (with_reducible refine Below.drew ?_) | (with_reducible refine Below.alloc ?_ ?_ _) | (with_reducible refine Below.setCell ?_ ?_ _) | (with_reducible refine via (by with_reducible assumption) ?_ ?_) | go_size))⟩) | exact ⟨⟨k + 1, _, by omega, by go_num, rfl, HS.out, by omega, by omega, by (repeat' (first | (with_reducible exact Below.refl _ _) | (with_reducible assumption) | (with_reducible refine below_drewN ?_ _) | (with_reducible refine Below.drew ?_) | (with_reducible refine Below.alloc ?_ ?_ _) | (with_reducible refine Below.setCell ?_ ?_ _) | (with_reducible refine via (by with_reducible assumption) ?_ ?_) | go_size))⟩, by simp [intOf]; omega⟩)
      · cases h2 : decide (d.fr ≤ a + days - 1)
        · have HS := Lib.hid (show a = freeM (l.take (k + 1)) ex day days by rw [← HF.out]; unfold freeF; rw [h0, h2]; rfl)
          have h2' : decide (d.fr < a + days) = false := by simp at h2 ⊢; omega
          have h2b : a + days - 1 < d.fr := by simp at h2; omega
          go_wp2_with fail
          (first | (refine ⟨?_, ?_⟩; rotate_left; (simp [intOf]; omega); (repeat apply Exists.intro); refine ⟨?_, rfl⟩; exact ⟨k + 1, _, by omega, by go_num, rfl, HS.out, by omega, by omega, by (repeat' (first | (with_reducible exact Below.refl _ _) | (with_reducible assumption) | (with_reducible refine below_drewN ?_ _) | (with_reducible refine Below.drew ?_) | (with_reducible refine Below.alloc ?_ ?_ _) | (with_reducible refine Below.setCell ?_ ?_ _) | (with_reducible refine via (by with_reducible assumption) ?_ ?_) | go_size))⟩) | exact ⟨⟨k + 1, _, by omega, by go_num, rfl, HS.out, by omega, by omega, by (repeat' (first | (with_reducible exact Below.refl _ _) | (with_reducible assumption) | (with_reducible refine below_drewN ?_ _) | (with_reducible refine Below.drew ?_) | (with_reducible refine Below.alloc ?_ ?_ _) | (with_reducible refine Below.setCell ?_ ?_ _) | (with_reducible refine via (by with_reducible assumption) ?_ ?_) | go_size))⟩, by simp [intOf]; omega⟩)
        · have h2' : decide (d.fr < a + days) = true := by simp at h2 ⊢; omega
          have h2b : d.fr ≤ a + days - 1 := by simp at h2; omega
          cases h3 : decide (a ≤ d.to)
          · have HS := Lib.hid (show a = freeM (l.take (k + 1)) ex day days by rw [← HF.out]; unfold freeF; rw [h0, h2, h3]; rfl)
            have h3b : d.to < a := by simp at h3; omega
            go_wp2_with fail
            (first | (refine ⟨?_, ?_⟩; rotate_left; (simp [intOf]; omega); (repeat apply Exists.intro); refine ⟨?_, rfl⟩; exact ⟨k + 1, _, by omega, by go_num, rfl, HS.out, by omega, by omega, by (repeat' (first | (with_reducible exact Below.refl _ _) | (with_reducible assumption) | (with_reducible refine below_drewN ?_ _) | (with_reducible refine Below.drew ?_) | (with_reducible refine Below.alloc ?_ ?_ _) | (with_reducible refine Below.setCell ?_ ?_ _) | (with_reducible refine via (by with_reducible assumption) ?_ ?_) | go_size))⟩) | exact ⟨⟨k + 1, _, by omega, by go_num, rfl, HS.out, by omega, by omega, by (repeat' (first | (with_reducible exact Below.refl _ _) | (with_reducible assumption) | (with_reducible refine below_drewN ?_ _) | (with_reducible refine Below.drew ?_) | (with_reducible refine Below.alloc ?_ ?_ _) | (with_reducible refine Below.setCell ?_ ?_ _) | (with_reducible refine via (by with_reducible assumption) ?_ ?_) | go_size))⟩, by simp [intOf]; omega⟩)
          · have HS := Lib.hid (show d.to + 1 = freeM (l.take (k + 1)) ex day days by rw [← HF.out]; unfold freeF; rw [h0, h2, h3]; rfl)
            have h3b : a ≤ d.to := by simp at h3; omega
            go_wp2_with fail
            (first | (refine ⟨?_, ?_⟩; rotate_left; (simp [intOf]; omega); (repeat apply Exists.intro); refine ⟨?_, rfl⟩; exact ⟨k + 1, _, by omega, by go_num, rfl, HS.out, by omega, by omega, by (repeat' (first | (with_reducible exact Below.refl _ _) | (with_reducible assumption) | (with_reducible refine below_drewN ?_ _) | (with_reducible refine Below.drew ?_) | (with_reducible refine Below.alloc ?_ ?_ _) | (with_reducible refine Below.setCell ?_ ?_ _) | (with_reducible refine via (by with_reducible assumption) ?_ ?_) | go_size))⟩) | exact ⟨⟨k + 1, _, by omega, by go_num, rfl, HS.out, by omega, by omega, by (repeat' (first | (with_reducible exact Below.refl _ _) | (with_reducible assumption) | (with_reducible refine below_drewN ?_ _) | (with_reducible refine Below.drew ?_) | (with_reducible refine Below.alloc ?_ ?_ _) | (with_reducible refine Below.setCell ?_ ?_ _) | (with_reducible refine via (by with_reducible assumption) ?_ ?_) | go_size))⟩, by simp [intOf]; omega⟩)
    · have hkn : l.take k = l := List.take_of_length_le (by rw [HN.out]; omega)
      have HF := Lib.hid (show a = freeM l ex day days by rw [HA.out, hkn]); clear hkn
      cases h5 : inB (a + days - 1) 0 100000
      · go_wp2_with (go_at_call 54; refine (isDay_c _ _).mono ?_; rintro e w' ⟨rfl, rfl⟩)
        go_ret2
        exact ⟨ret_two (by rw [HR.out, ← HF.out, h5]; rfl), by (repeat' (first | (with_reducible exact Below.refl _ _) | (with_reducible assumption) | (with_reducible refine below_drewN ?_ _) | (with_reducible refine Below.drew ?_) | (with_reducible refine Below.alloc ?_ ?_ _) | (with_reducible refine Below.setCell ?_ ?_ _) | (with_reducible refine via (by with_reducible assumption) ?_ ?_) | go_size))⟩
      · go_wp2_with (go_at_call 54; refine (isDay_c _ _).mono ?_; rintro e w' ⟨rfl, rfl⟩)
        go_ret2
        exact ⟨ret_two (by rw [HR.out, ← HF.out, h5]; rfl), by (repeat' (first | (with_reducible exact Below.refl _ _) | (with_reducible assumption) | (with_reducible refine below_drewN ?_ _) | (with_reducible refine Below.drew ?_) | (with_reducible refine Below.alloc ?_ ?_ _) | (with_reducible refine Below.setCell ?_ ?_ _) | (with_reducible refine via (by with_reducible assumption) ?_ ?_) | go_size))⟩

set_option maxHeartbeats 2000000 in
theorem FreeFromS_c (A : Option Addr) (n c : Nat) (l : List LoanD) (ex : ByteArray) (day days : Int) (w : World) (hn : l.length = n) (hm : n ≤ 1048576) (hcap : n ≤ c) (hr : Rd w w.heap.size 4 lcell A l) (ok : ∀ d ∈ l, okL d) (_ : ex.size ≤ 1048576) :
    Calls Try.prog 26 #[.slice A n c, .string ex, .int .i64 day, .int .i64 days] w fun e w' => e = .returned (.tuple #[.int .i64 (freeR l ex day days).1, .int .i64 (freeR l ex day days).2]) ∧ Below w.heap.size w w' := by
  have HN := Lib.hid hn; clear hn
  cases hv : validS l
  · have HR := Lib.hid (show freeR l ex day days = (0, 1) by unfold freeR; rw [hv]; rfl)
    go_enter Try.func26, Try.ntmps26
    go_wp2_with fail
    refine (retb (l23OkB_c A n c l _ HN.out hm hcap hr ok) hv).mono ?_
    rintro e w1 ⟨rfl, hb1⟩
    go_wp2_with fail
    go_ret2
    exact ⟨ret_two HR.out.symm, hb1⟩
  cases h1 : inB day 0 100000
  · have HR := Lib.hid (show freeR l ex day days = (0, 2) by unfold freeR; rw [hv, h1]; rfl)
    go_enter Try.func26, Try.ntmps26
    go_wp2_with fail
    refine (retb (l23OkB_c A n c l _ HN.out hm hcap hr ok) hv).mono ?_
    rintro e w1 ⟨rfl, hb1⟩
    go_wp2_with (first | (go_at_call 52; refine (l23Day_c _ _).mono ?_; rintro e w' ⟨rfl, rfl⟩) | (go_at_call 53; refine (l00In_c _ _ _ _).mono ?_; rintro e w' ⟨rfl, rfl⟩))
    go_ret2
    exact ⟨ret_two HR.out.symm, hb1⟩
  cases h2 : inB days 1 1000
  · have HR := Lib.hid (show freeR l ex day days = (0, 2) by unfold freeR; rw [hv, h1, h2]; rfl)
    go_enter Try.func26, Try.ntmps26
    go_wp2_with fail
    refine (retb (l23OkB_c A n c l _ HN.out hm hcap hr ok) hv).mono ?_
    rintro e w1 ⟨rfl, hb1⟩
    go_wp2_with (first | (go_at_call 52; refine (l23Day_c _ _).mono ?_; rintro e w' ⟨rfl, rfl⟩) | (go_at_call 53; refine (l00In_c _ _ _ _).mono ?_; rintro e w' ⟨rfl, rfl⟩))
    go_ret2
    exact ⟨ret_two HR.out.symm, hb1⟩
  have HR := Lib.hid (show freeR l ex day days = (if inB (freeM l ex day days + days - 1) 0 100000 = true then (freeM l ex day days, 0) else (0, 3)) by unfold freeR; rw [hv, h1, h2]; rfl)
  have bd : 0 ≤ day ∧ day ≤ 100000 ∧ 1 ≤ days ∧ days ≤ 1000 := by have e1 := inB_iff.1 h1; have e2 := inB_iff.1 h2; omega
  obtain ⟨bd1, bd2, bd3, bd4⟩ := bd
  have HV := Lib.hid hv
  go_enter Try.func26, Try.ntmps26
  go_wp2_with fail
  refine (retb (l23OkB_c A n c l _ HN.out hm hcap hr ok) hv).mono ?_
  rintro e w1 ⟨rfl, hb1⟩
  have hz1 := hb1.size
  go_wp2_with (first | (go_at_call 52; refine (l23Day_c _ _).mono ?_; rintro e w' ⟨rfl, rfl⟩) | (go_at_call 53; refine (l00In_c _ _ _ _).mono ?_; rintro e w' ⟨rfl, rfl⟩))
  clear h1 h2 hv
  have hr1 := (hr.below hb1).mono hz1
  go_loopw [10, 11] (fun q i wr => ∃ (k : Nat) (a : Int), k ≤ n ∧ i = .int .i64 k ∧ q = .int .i64 a ∧ a = freeM (l.take k) ex day days ∧ 0 ≤ a ∧ a ≤ 100001 ∧ Below w1.heap.size w1 wr) (fun _ i _ => n - (intOf i).toNat)
  case atStart => exact ⟨0, day, Nat.zero_le _, rfl, rfl, rfl, by omega, by omega, Below.refl _ _⟩
  case round =>
    obtain ⟨k, a, hk, rfl, rfl, ha, ab1, ab2, hb⟩ := hrel
    have HA := Lib.hid ha; clear ha
    have hbs := hb.size
    by_cases hlt : k < n
    · obtain ⟨b1, off, rfl, hbl, hc⟩ := (hr1.below hb).loan (by rw [HN.out]; omega)
      obtain ⟨d, hd⟩ := get_ex l k (by rw [HN.out]; omega)
      obtain ⟨g0, g1, g2, g3⟩ := hc k d hd
      obtain ⟨v1, v2, v3⟩ := loanB_bd (valid_at HV.out hd)
      have hf1 := far (show b1 < wr.heap.size by omega)
      have HD := Lib.hid hd; clear hd hc
      have p1 : (0 : Int) ≤ (k : Int) := by omega
      have p2 : (k : Int) < (n : Int) := by omega
      have HF := Lib.hid (show freeF ex days a d = freeM (l.take (k + 1)) ex day days by unfold freeM; rw [foldl_take_succ _ _ l k d HD.out]; have := HA.out; unfold freeM at this; rw [this])
      cases h0 : (d.ex.toList == ex.toList)
      · have HS := Lib.hid (show a = freeM (l.take (k + 1)) ex day days by rw [← HF.out]; unfold freeF; rw [h0]; rfl)
        go_wp2_with fail
        (first | (refine ⟨?_, ?_⟩; rotate_left; (simp [intOf]; omega); (repeat apply Exists.intro); refine ⟨?_, rfl⟩; exact ⟨k + 1, _, by omega, by go_num, rfl, HS.out, by omega, by omega, by (repeat' (first | (with_reducible exact Below.refl _ _) | (with_reducible assumption) | (with_reducible refine below_drewN ?_ _) | (with_reducible refine Below.drew ?_) | (with_reducible refine Below.alloc ?_ ?_ _) | (with_reducible refine Below.setCell ?_ ?_ _) | (with_reducible refine via (by with_reducible assumption) ?_ ?_) | go_size))⟩) | exact ⟨⟨k + 1, _, by omega, by go_num, rfl, HS.out, by omega, by omega, by (repeat' (first | (with_reducible exact Below.refl _ _) | (with_reducible assumption) | (with_reducible refine below_drewN ?_ _) | (with_reducible refine Below.drew ?_) | (with_reducible refine Below.alloc ?_ ?_ _) | (with_reducible refine Below.setCell ?_ ?_ _) | (with_reducible refine via (by with_reducible assumption) ?_ ?_) | go_size))⟩, by simp [intOf]; omega⟩)
      · cases h2 : decide (d.fr ≤ a + days - 1)
        · have HS := Lib.hid (show a = freeM (l.take (k + 1)) ex day days by rw [← HF.out]; unfold freeF; rw [h0, h2]; rfl)
          have h2' : decide (d.fr < a + days) = false := by simp at h2 ⊢; omega
          have h2b : a + days - 1 < d.fr := by simp at h2; omega
          go_wp2_with fail
          (first | (refine ⟨?_, ?_⟩; rotate_left; (simp [intOf]; omega); (repeat apply Exists.intro); refine ⟨?_, rfl⟩; exact ⟨k + 1, _, by omega, by go_num, rfl, HS.out, by omega, by omega, by (repeat' (first | (with_reducible exact Below.refl _ _) | (with_reducible assumption) | (with_reducible refine below_drewN ?_ _) | (with_reducible refine Below.drew ?_) | (with_reducible refine Below.alloc ?_ ?_ _) | (with_reducible refine Below.setCell ?_ ?_ _) | (with_reducible refine via (by with_reducible assumption) ?_ ?_) | go_size))⟩) | exact ⟨⟨k + 1, _, by omega, by go_num, rfl, HS.out, by omega, by omega, by (repeat' (first | (with_reducible exact Below.refl _ _) | (with_reducible assumption) | (with_reducible refine below_drewN ?_ _) | (with_reducible refine Below.drew ?_) | (with_reducible refine Below.alloc ?_ ?_ _) | (with_reducible refine Below.setCell ?_ ?_ _) | (with_reducible refine via (by with_reducible assumption) ?_ ?_) | go_size))⟩, by simp [intOf]; omega⟩)
        · have h2' : decide (d.fr < a + days) = true := by simp at h2 ⊢; omega
          have h2b : d.fr ≤ a + days - 1 := by simp at h2; omega
          cases h3 : decide (a ≤ d.to)
          · have HS := Lib.hid (show a = freeM (l.take (k + 1)) ex day days by rw [← HF.out]; unfold freeF; rw [h0, h2, h3]; rfl)
            have h3b : d.to < a := by simp at h3; omega
            go_wp2_with fail
            (first | (refine ⟨?_, ?_⟩; rotate_left; (simp [intOf]; omega); (repeat apply Exists.intro); refine ⟨?_, rfl⟩; exact ⟨k + 1, _, by omega, by go_num, rfl, HS.out, by omega, by omega, by (repeat' (first | (with_reducible exact Below.refl _ _) | (with_reducible assumption) | (with_reducible refine below_drewN ?_ _) | (with_reducible refine Below.drew ?_) | (with_reducible refine Below.alloc ?_ ?_ _) | (with_reducible refine Below.setCell ?_ ?_ _) | (with_reducible refine via (by with_reducible assumption) ?_ ?_) | go_size))⟩) | exact ⟨⟨k + 1, _, by omega, by go_num, rfl, HS.out, by omega, by omega, by (repeat' (first | (with_reducible exact Below.refl _ _) | (with_reducible assumption) | (with_reducible refine below_drewN ?_ _) | (with_reducible refine Below.drew ?_) | (with_reducible refine Below.alloc ?_ ?_ _) | (with_reducible refine Below.setCell ?_ ?_ _) | (with_reducible refine via (by with_reducible assumption) ?_ ?_) | go_size))⟩, by simp [intOf]; omega⟩)
          · have HS := Lib.hid (show d.to + 1 = freeM (l.take (k + 1)) ex day days by rw [← HF.out]; unfold freeF; rw [h0, h2, h3]; rfl)
            have h3b : a ≤ d.to := by simp at h3; omega
            go_wp2_with fail
            (first | (refine ⟨?_, ?_⟩; rotate_left; (simp [intOf]; omega); (repeat apply Exists.intro); refine ⟨?_, rfl⟩; exact ⟨k + 1, _, by omega, by go_num, rfl, HS.out, by omega, by omega, by (repeat' (first | (with_reducible exact Below.refl _ _) | (with_reducible assumption) | (with_reducible refine below_drewN ?_ _) | (with_reducible refine Below.drew ?_) | (with_reducible refine Below.alloc ?_ ?_ _) | (with_reducible refine Below.setCell ?_ ?_ _) | (with_reducible refine via (by with_reducible assumption) ?_ ?_) | go_size))⟩) | exact ⟨⟨k + 1, _, by omega, by go_num, rfl, HS.out, by omega, by omega, by (repeat' (first | (with_reducible exact Below.refl _ _) | (with_reducible assumption) | (with_reducible refine below_drewN ?_ _) | (with_reducible refine Below.drew ?_) | (with_reducible refine Below.alloc ?_ ?_ _) | (with_reducible refine Below.setCell ?_ ?_ _) | (with_reducible refine via (by with_reducible assumption) ?_ ?_) | go_size))⟩, by simp [intOf]; omega⟩)
    · have hkn : l.take k = l := List.take_of_length_le (by rw [HN.out]; omega)
      have HF := Lib.hid (show a = freeM l ex day days by rw [HA.out, hkn]); clear hkn
      cases h5 : inB (a + days - 1) 0 100000
      · go_wp2_with (go_at_call 52; refine (l23Day_c _ _).mono ?_; rintro e w' ⟨rfl, rfl⟩)
        go_ret2
        exact ⟨ret_two (by rw [HR.out, ← HF.out, h5]; rfl), by (repeat' (first | (with_reducible exact Below.refl _ _) | (with_reducible assumption) | (with_reducible refine below_drewN ?_ _) | (with_reducible refine Below.drew ?_) | (with_reducible refine Below.alloc ?_ ?_ _) | (with_reducible refine Below.setCell ?_ ?_ _) | (with_reducible refine via (by with_reducible assumption) ?_ ?_) | go_size))⟩
      · go_wp2_with (go_at_call 52; refine (l23Day_c _ _).mono ?_; rintro e w' ⟨rfl, rfl⟩)
        go_ret2
        exact ⟨ret_two (by rw [HR.out, ← HF.out, h5]; rfl), by (repeat' (first | (with_reducible exact Below.refl _ _) | (with_reducible assumption) | (with_reducible refine below_drewN ?_ _) | (with_reducible refine Below.drew ?_) | (with_reducible refine Below.alloc ?_ ?_ _) | (with_reducible refine Below.setCell ?_ ?_ _) | (with_reducible refine via (by with_reducible assumption) ?_ ?_) | go_size))⟩

/-! ### The busiest day -/
def busyF (l : List LoanD) (a : Int) (d : LoanD) : Int := if lentM l a < lentM l d.fr then d.fr else a
def busyM (l : List LoanD) (k : Nat) : Int := (l.take k).foldl (busyF l) (getL l 0).fr
def busyD (l : List LoanD) (k : Nat) : Int := if k = 0 then 0 else busyM l k
def busyN (l : List LoanD) (k : Nat) : Int := if k = 0 then 0 else lentM l (busyM l k)
def busyR (l : List LoanD) : Int × Int × Int := if validS l = true then (if l.length = 0 then (0, 0, 3) else (busyM l l.length, lentM l (busyM l l.length), 0)) else (0, 0, 1)
theorem ret_three {a b c : Int} {p : Int × Int × Int} (h : (a, b, c) = p) : Ending.returned (.tuple #[.int .i64 a, .int .i64 b, .int .i64 c]) = .returned (.tuple #[.int .i64 p.1, .int .i64 p.2.1, .int .i64 p.2.2]) := by rw [← h]
theorem busyM_succ {l : List LoanD} {k : Nat} {d : LoanD} (h : l[k]? = some d) : busyM l (k + 1) = busyF l (busyM l k) d := foldl_take_succ _ _ l k d h
theorem lentM_mem (day : Int) : ∀ (l : List LoanD) (a : Int) (d : LoanD), d ∈ l → inB day d.fr d.to = true → 0 ≤ a → a + 1 ≤ l.foldl (lentF day) a := by
  have mono : ∀ (l : List LoanD) (a : Int), a ≤ l.foldl (lentF day) a := by
    intro l
    induction l with
    | nil => intro a; simp
    | cons d l ih =>
      intro a
      have := ih (lentF day a d)
      have h1 : a ≤ lentF day a d := by unfold lentF; split <;> omega
      simp only [List.foldl_cons]
      omega
  intro l
  induction l with
  | nil => intro a d h; cases h
  | cons x l ih =>
    intro a d h hd ha
    simp only [List.foldl_cons]
    rcases List.mem_cons.1 h with h | h
    · subst h
      have e : lentF day a d = a + 1 := by unfold lentF; rw [if_pos hd]
      rw [e]
      exact mono l _
    · have h1 : a ≤ lentF day a x := by unfold lentF; split <;> omega
      have := ih (lentF day a x) d h hd (by omega)
      omega
theorem lentM_pos {l : List LoanD} {k : Nat} {d : LoanD} (hv : validS l = true) (h : l[k]? = some d) : 0 < lentM l d.fr := by
  have hb := loanB_bd (valid_at hv h)
  have := lentM_mem d.fr l 0 d (List.mem_of_getElem? h) (inB_iff.2 ⟨by omega, by omega⟩) (by omega)
  unfold lentM
  omega
theorem busy_yes {l : List LoanD} {k : Nat} {d : LoanD} (h : l[k]? = some d) (h1 : busyN l k < lentM l d.fr) : busyD l (k + 1) = d.fr ∧ busyN l (k + 1) = lentM l d.fr := by
  have e : busyM l (k + 1) = d.fr := by
    rw [busyM_succ h]
    unfold busyF
    by_cases hk : k = 0
    · subst hk
      have : busyM l 0 = d.fr := by unfold busyM; rw [getL_eq h]; rfl
      rw [this, if_neg (by omega)]
    · unfold busyN at h1
      rw [if_neg hk] at h1
      rw [if_pos h1]
  unfold busyD busyN
  rw [if_neg (by omega), if_neg (by omega), e]
  exact ⟨rfl, rfl⟩
theorem busy_no {l : List LoanD} {k : Nat} {d : LoanD} (hv : validS l = true) (h : l[k]? = some d) (h1 : ¬ busyN l k < lentM l d.fr) : busyD l (k + 1) = busyD l k ∧ busyN l (k + 1) = busyN l k := by
  have hp := lentM_pos hv h
  have hk : ¬ k = 0 := fun hk => by subst hk; unfold busyN at h1; rw [if_pos rfl] at h1; omega
  have e : busyM l (k + 1) = busyM l k := by
    rw [busyM_succ h]
    unfold busyF
    unfold busyN at h1
    rw [if_neg hk] at h1
    rw [if_neg h1]
  simp [busyD, busyN, hk, e]

set_option maxHeartbeats 2000000 in
theorem BusiestDayI_c (A : Option Addr) (n c : Nat) (l : List LoanD) (w : World) (hn : l.length = n) (hm : n ≤ 1048576) (hcap : n ≤ c) (hr : Rd w w.heap.size 4 lcell A l) (ok : ∀ d ∈ l, okL d) :
    Calls Try.prog 31 #[.slice A n c] w fun e w' => e = .returned (.tuple #[.int .i64 (busyR l).1, .int .i64 (busyR l).2.1, .int .i64 (busyR l).2.2]) ∧ Below w.heap.size w w' := by
  have HN := Lib.hid hn; clear hn
  cases hv : validS l
  · have HR := Lib.hid (show busyR l = (0, 0, 1) by unfold busyR; rw [hv]; rfl)
    go_enter Try.func31, Try.ntmps31
    go_wp2_with fail
    refine (retb (ValidLoansI_c A n c l _ HN.out hm hcap hr ok) hv).mono ?_
    rintro e w1 ⟨rfl, hb1⟩
    go_wp2_with fail
    go_ret3
    exact ⟨ret_three HR.out.symm, hb1⟩
  by_cases h0 : n = 0
  · subst h0
    have HR := Lib.hid (show busyR l = (0, 0, 3) by unfold busyR; rw [hv, if_pos rfl, if_pos HN.out])
    go_enter Try.func31, Try.ntmps31
    go_wp2_with fail
    refine (retb (ValidLoansI_c A 0 c l _ HN.out hm hcap hr ok) hv).mono ?_
    rintro e w1 ⟨rfl, hb1⟩
    go_wp2_with fail
    go_ret3
    exact ⟨ret_three HR.out.symm, hb1⟩
  have HR := Lib.hid (show busyR l = (busyM l n, lentM l (busyM l n), 0) by unfold busyR; rw [hv, if_pos rfl, if_neg (by rw [HN.out]; exact h0), HN.out])
  have q0 : ((n : Int) == 0) = false := by simpa using h0
  have q1 : 0 < n := by omega
  clear h0
  have HV := Lib.hid hv
  go_enter Try.func31, Try.ntmps31
  go_wp2_with fail
  refine (retb (ValidLoansI_c A n c l _ HN.out hm hcap hr ok) hv).mono ?_
  rintro e w1 ⟨rfl, hb1⟩
  have hz1 := hb1.size
  clear hv
  go_wp2_with fail
  have hr1 := (hr.below hb1).mono hz1
  go_loopw [5, 6, 18] (fun t q i wr => ∃ (k : Nat) (a b : Int), k ≤ n ∧ i = .int .i64 k ∧ t = .int .i64 a ∧ q = .int .i64 b ∧ a = busyD l k ∧ b = busyN l k ∧ Below w1.heap.size w1 wr) (fun _ _ i _ => n - (intOf i).toNat)
  case atStart => exact ⟨0, 0, 0, Nat.zero_le _, rfl, rfl, rfl, rfl, rfl, Below.refl _ _⟩
  case round =>
    obtain ⟨k, a, b, hk, rfl, rfl, rfl, ha, hbn, hb⟩ := hrel
    have HA := Lib.hid ha; clear ha
    have HBN := Lib.hid hbn; clear hbn
    have hbs := hb.size
    by_cases hlt : k < n
    · have hr2 := (hr1.below hb).mono hbs
      obtain ⟨b1, off, rfl, hbl, hc⟩ := hr2.loan (by rw [HN.out]; omega)
      obtain ⟨d, hd⟩ := get_ex l k (by rw [HN.out]; omega)
      obtain ⟨g0, g1, g2, g3⟩ := hc k d hd
      have hf1 := far (show b1 < wr.heap.size by omega)
      have HD := Lib.hid hd; clear hd hc
      have p1 : (0 : Int) ≤ (k : Int) := by omega
      have p2 : (k : Int) < (n : Int) := by omega
      have lb := lentM_bd l d.fr
      generalize hq : lentM l d.fr = q at lb
      have HQ := Lib.hid hq; clear hq
      go_wp2_with fail
      refine gen_calls fun W hW => ?_
      have hbW : Below wr.heap.size wr W := by rw [hW.out]; (repeat' (first | (with_reducible exact Below.refl _ _) | (with_reducible assumption) | (with_reducible refine below_drewN ?_ _) | (with_reducible refine Below.drew ?_) | (with_reducible refine Below.alloc ?_ ?_ _) | (with_reducible refine Below.setCell ?_ ?_ _) | (with_reducible refine via (by with_reducible assumption) ?_ ?_) | go_size))
      have x0 : W.cell? ⟨wr.heap.size, 0, none⟩ = some (.string d.ex) := by rw [hW.out]; simp [go_sem]
      have x1 : W.cell? ⟨wr.heap.size, 1, none⟩ = some (.string d.bo) := by rw [hW.out]; simp [go_sem]
      have x2 : W.cell? ⟨wr.heap.size, 2, none⟩ = some (.int .i64 d.fr) := by rw [hW.out]; simp [go_sem]
      have x3 : W.cell? ⟨wr.heap.size, 3, none⟩ = some (.int .i64 d.to) := by rw [hW.out]; simp [go_sem]
      have xl : wr.heap.size < W.heap.size := by rw [hW.out]; simp [go_sem]
      clear hW g0 g1 g2 g3
      have hWs := hbW.size
      refine (lentAt_c _ n c l d.fr W HN.out hm ((hr2.below hbW).mono hWs)).mono ?_
      rw [HQ.out]
      rintro e w2 ⟨rfl, hb2⟩
      rw [← hb2.cell xl] at x0 x1 x2 x3
      have hz2 := hb2.size
      cases h1 : decide (b < q)
      · have HS := Lib.hid (busy_no HV.out HD.out (by rw [HQ.out, ← HBN.out]; simpa using h1))
        go_wp2_with fail
        (first | (refine ⟨?_, ?_⟩; rotate_left; (simp [intOf]; omega); (repeat apply Exists.intro); refine ⟨?_, rfl⟩; exact ⟨k + 1, _, _, by omega, by go_num, rfl, rfl, HA.out.trans HS.out.1.symm, HBN.out.trans HS.out.2.symm, by (repeat' (first | (with_reducible exact Below.refl _ _) | (with_reducible assumption) | (with_reducible refine below_drewN ?_ _) | (with_reducible refine Below.drew ?_) | (with_reducible refine Below.alloc ?_ ?_ _) | (with_reducible refine Below.setCell ?_ ?_ _) | (with_reducible refine via (by with_reducible assumption) ?_ ?_) | go_size))⟩) | exact ⟨⟨k + 1, _, _, by omega, by go_num, rfl, rfl, HA.out.trans HS.out.1.symm, HBN.out.trans HS.out.2.symm, by (repeat' (first | (with_reducible exact Below.refl _ _) | (with_reducible assumption) | (with_reducible refine below_drewN ?_ _) | (with_reducible refine Below.drew ?_) | (with_reducible refine Below.alloc ?_ ?_ _) | (with_reducible refine Below.setCell ?_ ?_ _) | (with_reducible refine via (by with_reducible assumption) ?_ ?_) | go_size))⟩, by simp [intOf]; omega⟩)
      · have HS := Lib.hid (busy_yes HD.out (by rw [HQ.out, ← HBN.out]; simpa using h1))
        go_wp2_with fail
        (first | (refine ⟨?_, ?_⟩; rotate_left; (simp [intOf]; omega); (repeat apply Exists.intro); refine ⟨?_, rfl⟩; exact ⟨k + 1, _, _, by omega, by go_num, rfl, rfl, HS.out.1.symm, by rw [HS.out.2]; exact HQ.out.symm, by (repeat' (first | (with_reducible exact Below.refl _ _) | (with_reducible assumption) | (with_reducible refine below_drewN ?_ _) | (with_reducible refine Below.drew ?_) | (with_reducible refine Below.alloc ?_ ?_ _) | (with_reducible refine Below.setCell ?_ ?_ _) | (with_reducible refine via (by with_reducible assumption) ?_ ?_) | go_size))⟩) | exact ⟨⟨k + 1, _, _, by omega, by go_num, rfl, rfl, HS.out.1.symm, by rw [HS.out.2]; exact HQ.out.symm, by (repeat' (first | (with_reducible exact Below.refl _ _) | (with_reducible assumption) | (with_reducible refine below_drewN ?_ _) | (with_reducible refine Below.drew ?_) | (with_reducible refine Below.alloc ?_ ?_ _) | (with_reducible refine Below.setCell ?_ ?_ _) | (with_reducible refine via (by with_reducible assumption) ?_ ?_) | go_size))⟩, by simp [intOf]; omega⟩)
    · have hkn : k = n := by omega
      subst hkn
      have HF := Lib.hid (show busyR l = (a, b, 0) by rw [HR.out, HA.out, HBN.out]; unfold busyD busyN; rw [if_neg (by omega), if_neg (by omega)])
      go_wp2_with fail
      go_ret3
      exact ⟨ret_three HF.out.symm, by (repeat' (first | (with_reducible exact Below.refl _ _) | (with_reducible assumption) | (with_reducible refine below_drewN ?_ _) | (with_reducible refine Below.drew ?_) | (with_reducible refine Below.alloc ?_ ?_ _) | (with_reducible refine Below.setCell ?_ ?_ _) | (with_reducible refine via (by with_reducible assumption) ?_ ?_) | go_size))⟩

set_option maxHeartbeats 2000000 in
theorem BusiestDayS_c (A : Option Addr) (n c : Nat) (l : List LoanD) (w : World) (hn : l.length = n) (hm : n ≤ 1048576) (hcap : n ≤ c) (hr : Rd w w.heap.size 4 lcell A l) (ok : ∀ d ∈ l, okL d) :
    Calls Try.prog 30 #[.slice A n c] w fun e w' => e = .returned (.tuple #[.int .i64 (busyR l).1, .int .i64 (busyR l).2.1, .int .i64 (busyR l).2.2]) ∧ Below w.heap.size w w' := by
  have HN := Lib.hid hn; clear hn
  cases hv : validS l
  · have HR := Lib.hid (show busyR l = (0, 0, 1) by unfold busyR; rw [hv]; rfl)
    go_enter Try.func30, Try.ntmps30
    go_wp2_with fail
    refine (retb (l23OkB_c A n c l _ HN.out hm hcap hr ok) hv).mono ?_
    rintro e w1 ⟨rfl, hb1⟩
    go_wp2_with fail
    go_ret3
    exact ⟨ret_three HR.out.symm, hb1⟩
  by_cases h0 : n = 0
  · subst h0
    have HR := Lib.hid (show busyR l = (0, 0, 3) by unfold busyR; rw [hv, if_pos rfl, if_pos HN.out])
    go_enter Try.func30, Try.ntmps30
    go_wp2_with fail
    refine (retb (l23OkB_c A 0 c l _ HN.out hm hcap hr ok) hv).mono ?_
    rintro e w1 ⟨rfl, hb1⟩
    go_wp2_with fail
    go_ret3
    exact ⟨ret_three HR.out.symm, hb1⟩
  have HR := Lib.hid (show busyR l = (busyM l n, lentM l (busyM l n), 0) by unfold busyR; rw [hv, if_pos rfl, if_neg (by rw [HN.out]; exact h0), HN.out])
  have q0 : ((n : Int) == 0) = false := by simpa using h0
  have q1 : 0 < n := by omega
  clear h0
  have HV := Lib.hid hv
  go_enter Try.func30, Try.ntmps30
  go_wp2_with fail
  refine (retb (l23OkB_c A n c l _ HN.out hm hcap hr ok) hv).mono ?_
  rintro e w1 ⟨rfl, hb1⟩
  have hz1 := hb1.size
  clear hv
  have hr1 := (hr.below hb1).mono hz1
  obtain ⟨b0, off0, rfl, hbl0, hc0⟩ := hr1.loan (by rw [HN.out]; omega)
  obtain ⟨d0, hd0⟩ := get_ex l 0 (by rw [HN.out]; omega)
  obtain ⟨g0, g1, g2, g3⟩ := hc0 0 d0 hd0
  simp only [Nat.zero_mul, Nat.add_zero] at g0 g1 g2 g3
  have HM := Lib.hid (show d0.fr = busyM l 1 by rw [busyM_succ hd0]; unfold busyM busyF; rw [getL_eq hd0]; simp)
  clear hc0 hd0
  have p0 : (0 : Int) < (n : Int) := by omega
  go_wp2_with fail
  clear g0 g1 g2 g3
  go_loopw [5, 6] (fun t i wr => ∃ (k : Nat) (a : Int), k ≤ n ∧ 1 ≤ k ∧ i = .int .i64 k ∧ t = .int .i64 a ∧ a = busyM l k ∧ Below w1.heap.size w1 wr) (fun _ i _ => n - (intOf i).toNat)
  case atStart => exact ⟨1, d0.fr, by omega, by omega, rfl, rfl, HM.out, Below.refl _ _⟩
  case round =>
    obtain ⟨k, a, hk, hk1, rfl, rfl, ha, hb⟩ := hrel
    have HA := Lib.hid ha; clear ha
    have hbs := hb.size
    have hr2 := (hr1.below hb).mono hbs
    by_cases hlt : k < n
    · obtain ⟨b1, off, e1, hbl, hc⟩ := hr2.loan (by rw [HN.out]; omega)
      obtain ⟨rfl, rfl⟩ : b1 = b0 ∧ off = off0 := by cases e1; exact ⟨rfl, rfl⟩
      clear e1
      obtain ⟨d, hd⟩ := get_ex l k (by rw [HN.out]; omega)
      obtain ⟨g0, g1, g2, g3⟩ := hc k d hd
      have HD := Lib.hid hd; clear hd hc
      have p1 : (0 : Int) ≤ (k : Int) := by omega
      have p2 : (k : Int) < (n : Int) := by omega
      generalize hq : lentM l d.fr = q
      have HQ := Lib.hid hq; clear hq
      generalize hp : lentM l a = p
      have HP := Lib.hid hp; clear hp
      go_wp2_with fail
      refine (l23Lent_c _ n c l d.fr _ wr HN.out hm hr2).mono ?_
      rw [HQ.out]
      rintro e w2 ⟨rfl, m2, rfl⟩
      go_wp2_with fail
      refine (l23Lent_c _ n c l a wr.heap.size (wr.drewN m2) HN.out hm hr2).mono ?_
      rw [HP.out]
      rintro e w2 ⟨rfl, m3, rfl⟩
      cases h1 : decide (p < q)
      · have HS := Lib.hid (show a = busyM l (k + 1) by rw [busyM_succ HD.out]; unfold busyF; rw [← HA.out, HP.out, HQ.out, if_neg (by simpa using h1)])
        go_wp2_with fail
        (first | (refine ⟨?_, ?_⟩; rotate_left; (simp [intOf]; omega); (repeat apply Exists.intro); refine ⟨?_, rfl⟩; exact ⟨k + 1, _, by omega, by omega, by go_num, rfl, HS.out, by (repeat' (first | (with_reducible exact Below.refl _ _) | (with_reducible assumption) | (with_reducible refine below_drewN ?_ _) | (with_reducible refine Below.drew ?_) | (with_reducible refine Below.alloc ?_ ?_ _) | (with_reducible refine Below.setCell ?_ ?_ _) | (with_reducible refine via (by with_reducible assumption) ?_ ?_) | go_size))⟩) | exact ⟨⟨k + 1, _, by omega, by omega, by go_num, rfl, HS.out, by (repeat' (first | (with_reducible exact Below.refl _ _) | (with_reducible assumption) | (with_reducible refine below_drewN ?_ _) | (with_reducible refine Below.drew ?_) | (with_reducible refine Below.alloc ?_ ?_ _) | (with_reducible refine Below.setCell ?_ ?_ _) | (with_reducible refine via (by with_reducible assumption) ?_ ?_) | go_size))⟩, by simp [intOf]; omega⟩)
      · have HS := Lib.hid (show d.fr = busyM l (k + 1) by rw [busyM_succ HD.out]; unfold busyF; rw [← HA.out, HP.out, HQ.out, if_pos (by simpa using h1)])
        go_wp2_with fail
        (first | (refine ⟨?_, ?_⟩; rotate_left; (simp [intOf]; omega); (repeat apply Exists.intro); refine ⟨?_, rfl⟩; exact ⟨k + 1, _, by omega, by omega, by go_num, rfl, HS.out, by (repeat' (first | (with_reducible exact Below.refl _ _) | (with_reducible assumption) | (with_reducible refine below_drewN ?_ _) | (with_reducible refine Below.drew ?_) | (with_reducible refine Below.alloc ?_ ?_ _) | (with_reducible refine Below.setCell ?_ ?_ _) | (with_reducible refine via (by with_reducible assumption) ?_ ?_) | go_size))⟩) | exact ⟨⟨k + 1, _, by omega, by omega, by go_num, rfl, HS.out, by (repeat' (first | (with_reducible exact Below.refl _ _) | (with_reducible assumption) | (with_reducible refine below_drewN ?_ _) | (with_reducible refine Below.drew ?_) | (with_reducible refine Below.alloc ?_ ?_ _) | (with_reducible refine Below.setCell ?_ ?_ _) | (with_reducible refine via (by with_reducible assumption) ?_ ?_) | go_size))⟩, by simp [intOf]; omega⟩)
    · have hkn : k = n := by omega
      subst hkn
      go_wp2_with fail
      refine (l23Lent_c _ k c l a _ wr HN.out hm hr2).mono ?_
      rintro e w2 ⟨rfl, m2, rfl⟩
      have HF := Lib.hid (show busyR l = (a, lentM l a, 0) by rw [HR.out, HA.out])
      go_wp2_with fail
      go_ret3
      exact ⟨ret_three HF.out.symm, by (repeat' (first | (with_reducible exact Below.refl _ _) | (with_reducible assumption) | (with_reducible refine below_drewN ?_ _) | (with_reducible refine Below.drew ?_) | (with_reducible refine Below.alloc ?_ ?_ _) | (with_reducible refine Below.setCell ?_ ?_ _) | (with_reducible refine via (by with_reducible assumption) ?_ ?_) | go_size))⟩

end Go.Proofs.Ytkapoanmbcopoaa
