/- Contracts: which loan has a day, who borrowed, from when on an exhibit is free, the busiest day. -/
import Derived.Test.YtkapoanmbcopoaaLoans5
set_option linter.unusedVariables false
set_option linter.unusedSimpArgs false
namespace Go.Proofs.Ytkapoanmbcopoaa
open Go.RowKit

/-! ### The loan of an exhibit that has a day -/
def matchB (ex : ByteArray) (day : Int) (d : LoanD) : Bool := (d.ex.toList == ex.toList) && inB day d.fr d.to
def findO (l : List LoanD) (ex : ByteArray) (day : Int) : Option Nat := (List.range l.length).find? fun i => matchB ex day (getL l i)
def findM (l : List LoanD) (ex : ByteArray) (day : Int) : Int := match findO l ex day with
  | some i => (i : Int)
  | none => -1
theorem findM_yes {l : List LoanD} {ex : ByteArray} {day : Int} {k : Nat} (hk : k < l.length) (h0 : ((List.range k).all fun i => !matchB ex day (getL l i)) = true) (h1 : matchB ex day (getL l k) = true) : findM l ex day = (k : Int) := by
  have : findO l ex day = some k := by
    unfold findO
    rw [List.find?_range_eq_some]
    exact ⟨h1, List.mem_range.2 hk, fun j hj => List.all_eq_true.1 h0 j (List.mem_range.2 hj)⟩
  unfold findM
  rw [this]
theorem findM_no {l : List LoanD} {ex : ByteArray} {day : Int} (h0 : ((List.range l.length).all fun i => !matchB ex day (getL l i)) = true) : findM l ex day = -1 := by
  have : findO l ex day = none := by
    unfold findO
    rw [List.find?_range_eq_none]
    exact fun j hj => List.all_eq_true.1 h0 j (List.mem_range.2 hj)
  unfold findM
  rw [this]
theorem findM_bd (l : List LoanD) (ex : ByteArray) (day : Int) : -1 ≤ findM l ex day ∧ findM l ex day < l.length := by
  unfold findM
  cases h : findO l ex day with
  | none => simp; omega
  | some i =>
    unfold findO at h
    rw [List.find?_range_eq_some] at h
    have := List.mem_range.1 h.2.1
    simp only
    omega

set_option maxHeartbeats 1000000 in
theorem loanAt_c (A : Option Addr) (n c : Nat) (l : List LoanD) (ex : ByteArray) (day : Int) (w : World) (hn : l.length = n) (hm : n ≤ 1048576) (hr : Rd w w.heap.size 4 lcell A l) :
    Calls Try.prog 57 #[.slice A n c, .string ex, .int .i64 day] w fun e w' => e = .returned (.int .i64 (findM l ex day)) ∧ Below w.heap.size w w' := by
  have HN := Lib.hid hn; clear hn
  go_enter Try.func57, Try.ntmps57
  go_wp2_with fail
  go_loopw [11] (fun i wr => ∃ (k : Nat), k ≤ n ∧ i = .int .i64 k ∧ ((List.range k).all fun i => !matchB ex day (getL l i)) = true ∧ Below w.heap.size w wr) (fun i _ => n - (intOf i).toNat)
  case atStart => exact ⟨0, Nat.zero_le _, rfl, by simp, Below.refl _ _⟩
  case round =>
    obtain ⟨k, hk, rfl, ha, hb⟩ := hrel
    have HA := Lib.hid ha; clear ha
    have hbs := hb.size
    by_cases hlt : k < n
    · obtain ⟨b1, off, rfl, hbl, hc⟩ := (hr.below hb).loan (by rw [HN.out]; omega)
      obtain ⟨d, hd⟩ := get_ex l k (by rw [HN.out]; omega)
      obtain ⟨g0, g1, g2, g3⟩ := hc k d hd
      have hf1 := far (show b1 < wr.heap.size by omega)
      have HG := Lib.hid (getL_eq hd); clear hd hc
      have p1 : (0 : Int) ≤ (k : Int) := by omega
      have p2 : (k : Int) < (n : Int) := by omega
      cases h0 : (d.ex.toList == ex.toList)
      · have HS := Lib.hid (all_range_succ _ k HA.out (show (!matchB ex day (getL l k)) = true by rw [HG.out]; unfold matchB; rw [h0]; rfl))
        go_wp2_with (go_at_call 55; refine (between_c _ _ _ _).mono ?_; rintro e w' ⟨rfl, rfl⟩)
        (first | (refine ⟨?_, ?_⟩; rotate_left; (simp [intOf]; omega); (repeat apply Exists.intro); refine ⟨?_, rfl⟩; exact ⟨k + 1, by omega, by go_num, HS.out, by (repeat' (first | (with_reducible exact Below.refl _ _) | (with_reducible assumption) | (with_reducible refine below_drewN ?_ _) | (with_reducible refine Below.drew ?_) | (with_reducible refine Below.alloc ?_ ?_ _) | (with_reducible refine Below.setCell ?_ ?_ _) | (with_reducible refine via (by with_reducible assumption) ?_ ?_) | go_size))⟩) | exact ⟨⟨k + 1, by omega, by go_num, HS.out, by (repeat' (first | (with_reducible exact Below.refl _ _) | (with_reducible assumption) | (with_reducible refine below_drewN ?_ _) | (with_reducible refine Below.drew ?_) | (with_reducible refine Below.alloc ?_ ?_ _) | (with_reducible refine Below.setCell ?_ ?_ _) | (with_reducible refine via (by with_reducible assumption) ?_ ?_) | go_size))⟩, by simp [intOf]; omega⟩)
      · cases h1 : inB day d.fr d.to
        · have HS := Lib.hid (all_range_succ _ k HA.out (show (!matchB ex day (getL l k)) = true by rw [HG.out]; unfold matchB; rw [h0, h1]; rfl))
          go_wp2_with (go_at_call 55; refine (between_c _ _ _ _).mono ?_; rintro e w' ⟨rfl, rfl⟩)
          (first | (refine ⟨?_, ?_⟩; rotate_left; (simp [intOf]; omega); (repeat apply Exists.intro); refine ⟨?_, rfl⟩; exact ⟨k + 1, by omega, by go_num, HS.out, by (repeat' (first | (with_reducible exact Below.refl _ _) | (with_reducible assumption) | (with_reducible refine below_drewN ?_ _) | (with_reducible refine Below.drew ?_) | (with_reducible refine Below.alloc ?_ ?_ _) | (with_reducible refine Below.setCell ?_ ?_ _) | (with_reducible refine via (by with_reducible assumption) ?_ ?_) | go_size))⟩) | exact ⟨⟨k + 1, by omega, by go_num, HS.out, by (repeat' (first | (with_reducible exact Below.refl _ _) | (with_reducible assumption) | (with_reducible refine below_drewN ?_ _) | (with_reducible refine Below.drew ?_) | (with_reducible refine Below.alloc ?_ ?_ _) | (with_reducible refine Below.setCell ?_ ?_ _) | (with_reducible refine via (by with_reducible assumption) ?_ ?_) | go_size))⟩, by simp [intOf]; omega⟩)
        · have HF := Lib.hid (findM_yes (l := l) (k := k) (by rw [HN.out]; exact hlt) HA.out (show matchB ex day (getL l k) = true by rw [HG.out]; unfold matchB; rw [h0, h1]; rfl))
          go_wp2_with (go_at_call 55; refine (between_c _ _ _ _).mono ?_; rintro e w' ⟨rfl, rfl⟩)
          go_ret
          exact ⟨ret_int HF.out.symm, by (repeat' (first | (with_reducible exact Below.refl _ _) | (with_reducible assumption) | (with_reducible refine below_drewN ?_ _) | (with_reducible refine Below.drew ?_) | (with_reducible refine Below.alloc ?_ ?_ _) | (with_reducible refine Below.setCell ?_ ?_ _) | (with_reducible refine via (by with_reducible assumption) ?_ ?_) | go_size))⟩
    · have hkn : k = n := by omega
      have HF := Lib.hid (findM_no (l := l) (ex := ex) (day := day) (by rw [HN.out, ← hkn]; exact HA.out)); clear hkn
      go_wp2_with fail
      go_ret
      exact ⟨ret_int HF.out.symm, hb⟩

set_option maxHeartbeats 1000000 in
theorem l23Find_c (A : Option Addr) (n c : Nat) (l : List LoanD) (ex : ByteArray) (day : Int) (B : Nat) (w : World) (hn : l.length = n) (hm : n ≤ 1048576) (hr : Rd w B 4 lcell A l) :
    Calls Try.prog 68 #[.slice A n c, .string ex, .int .i64 day] w fun e w' => e = .returned (.int .i64 (findM l ex day)) ∧ ∃ m, w' = w.drewN m := by
  have HN := Lib.hid hn; clear hn
  go_enter Try.func68, Try.ntmps68
  go_wp2_with fail
  go_loopw [7] (fun i wr => ∃ (k : Nat), k ≤ n ∧ i = .int .i64 k ∧ ((List.range k).all fun i => !matchB ex day (getL l i)) = true ∧ ∃ m, wr = w.drewN m) (fun i _ => n - (intOf i).toNat)
  case atStart => exact ⟨0, Nat.zero_le _, rfl, by simp, 0, rfl⟩
  case round =>
    obtain ⟨k, hk, rfl, ha, m, hw⟩ := hrel
    have HA := Lib.hid ha; clear ha
    have hrw : Rd wr B 4 lcell A l := by rw [hw]; exact hr
    have HW := Lib.hid hw; clear hw
    by_cases hlt : k < n
    · obtain ⟨b1, off, rfl, hbl, hc⟩ := hrw.loan (by rw [HN.out]; omega)
      obtain ⟨d, hd⟩ := get_ex l k (by rw [HN.out]; omega)
      obtain ⟨g0, g1, g2, g3⟩ := hc k d hd
      have HG := Lib.hid (getL_eq hd); clear hd hc
      have p1 : (0 : Int) ≤ (k : Int) := by omega
      have p2 : (k : Int) < (n : Int) := by omega
      cases h0 : (d.ex.toList == ex.toList)
      · have HS := Lib.hid (all_range_succ _ k HA.out (show (!matchB ex day (getL l k)) = true by rw [HG.out]; unfold matchB; rw [h0]; rfl))
        go_wp2_with fail
        go_quiet (fail)
        go_wp2_with fail
        (first | (refine ⟨?_, ?_⟩; rotate_left; (simp [intOf]; omega); (repeat apply Exists.intro); refine ⟨?_, rfl⟩; exact ⟨k + 1, by omega, by go_num, HS.out, m + nq, by rw [HW.out, World.drewN_drewN]⟩) | exact ⟨⟨k + 1, by omega, by go_num, HS.out, m + nq, by rw [HW.out, World.drewN_drewN]⟩, by simp [intOf]; omega⟩)
      · cases h1 : inB day d.fr d.to
        · have HS := Lib.hid (all_range_succ _ k HA.out (show (!matchB ex day (getL l k)) = true by rw [HG.out]; unfold matchB; rw [h0, h1]; rfl))
          go_wp2_with fail
          go_quiet (((go_at_call 53; exact quiet_eq (retb (l00In_c _ _ _ _) h1))))
          go_wp2_with fail
          (first | (refine ⟨?_, ?_⟩; rotate_left; (simp [intOf]; omega); (repeat apply Exists.intro); refine ⟨?_, rfl⟩; exact ⟨k + 1, by omega, by go_num, HS.out, m + nq, by rw [HW.out, World.drewN_drewN]⟩) | exact ⟨⟨k + 1, by omega, by go_num, HS.out, m + nq, by rw [HW.out, World.drewN_drewN]⟩, by simp [intOf]; omega⟩)
        · have HF := Lib.hid (findM_yes (l := l) (k := k) (by rw [HN.out]; exact hlt) HA.out (show matchB ex day (getL l k) = true by rw [HG.out]; unfold matchB; rw [h0, h1]; rfl))
          go_wp2_with fail
          go_quiet (((go_at_call 53; exact quiet_eq (retb (l00In_c _ _ _ _) h1))))
          go_wp2_with fail
          go_ret
          exact ⟨ret_int HF.out.symm, m + nq, by rw [HW.out, World.drewN_drewN]⟩
    · have hkn : k = n := by omega
      have HF := Lib.hid (findM_no (l := l) (ex := ex) (day := day) (by rw [HN.out, ← hkn]; exact HA.out)); clear hkn
      go_wp2_with fail
      go_ret
      exact ⟨ret_int HF.out.symm, m, HW.out⟩

/-! ### Who borrowed -/
def askR (l : List LoanD) (ex : ByteArray) (day : Int) : Int × Int := if validS l = true then (if findM l ex day < 0 then (0, 3) else (findM l ex day, 0)) else (0, 1)
theorem l23Ask_c (A : Option Addr) (n c : Nat) (l : List LoanD) (ex : ByteArray) (day : Int) (w : World) (hn : l.length = n) (hm : n ≤ 1048576) (hcap : n ≤ c) (hr : Rd w w.heap.size 4 lcell A l) (ok : ∀ d ∈ l, okL d) :
    Calls Try.prog 56 #[.slice A n c, .string ex, .int .i64 day] w fun e w' => e = .returned (.tuple #[.int .i64 (askR l ex day).1, .int .i64 (askR l ex day).2]) ∧ Below w.heap.size w w' := by
  have HN := Lib.hid hn; clear hn
  have hfb := findM_bd l ex day
  cases hv : validS l
  · have HR := Lib.hid (show askR l ex day = _ by unfold askR; rw [hv])
    go_enter Try.func56, Try.ntmps56
    go_wp2_with fail
    refine (retb (l23OkB_c A n c l _ HN.out hm hcap hr ok) hv).mono ?_
    rintro e w1 ⟨rfl, hb1⟩
    go_wp2_with fail
    go_ret2
    exact ⟨ret_two HR.out.symm, hb1⟩
  · by_cases hf : findM l ex day < 0
    all_goals
      have HR := Lib.hid (show askR l ex day = (if findM l ex day < 0 then (0, 3) else (findM l ex day, 0)) by unfold askR; rw [hv, if_pos rfl])
      go_enter Try.func56, Try.ntmps56
      go_wp2_with fail
      refine (retb (l23OkB_c A n c l _ HN.out hm hcap hr ok) hv).mono ?_
      rintro e w1 ⟨rfl, hb1⟩
      have hz1 := hb1.size
      go_wp2_with fail
      refine (to_below (l23Find_c A n c l ex day _ _ HN.out hm ((hr.below hb1).mono hz1))).mono ?_
      rintro e w2 ⟨rfl, hb2⟩
      go_wp2_with fail
      go_ret2
      exact ⟨ret_two (by rw [HR.out]; first | rw [if_pos (by omega)] | rw [if_neg (by omega)]), by (repeat' (first | (with_reducible exact Below.refl _ _) | (with_reducible assumption) | (with_reducible refine below_drewN ?_ _) | (with_reducible refine Below.drew ?_) | (with_reducible refine Below.alloc ?_ ?_ _) | (with_reducible refine Below.setCell ?_ ?_ _) | (with_reducible refine via (by with_reducible assumption) ?_ ?_) | go_size))⟩

def borrowR (l : List LoanD) (ex : ByteArray) (day : Int) : ByteArray × Int := if validS l = true then (if findM l ex day < 0 then (ByteArray.empty, 3) else ((getL l (findM l ex day).toNat).bo, 0)) else (ByteArray.empty, 1)
theorem ret_sc {s : ByteArray} {b : Int} {p : ByteArray × Int} (h : (s, b) = p) : Ending.returned (.tuple #[.string s, .int .i64 b]) = .returned (.tuple #[.string p.1, .int .i64 p.2]) := by rw [← h]

theorem BorrowerAtI_c (A : Option Addr) (n c : Nat) (l : List LoanD) (ex : ByteArray) (day : Int) (w : World) (hn : l.length = n) (hm : n ≤ 1048576) (hcap : n ≤ c) (hr : Rd w w.heap.size 4 lcell A l) (ok : ∀ d ∈ l, okL d) (_ : ex.size ≤ 1048576) :
    Calls Try.prog 29 #[.slice A n c, .string ex, .int .i64 day] w fun e w' => e = .returned (.tuple #[.string (borrowR l ex day).1, .int .i64 (borrowR l ex day).2]) ∧ Below w.heap.size w w' := by
  have HN := Lib.hid hn; clear hn
  have hfb := findM_bd l ex day
  cases hv : validS l
  · have HR := Lib.hid (show borrowR l ex day = _ by unfold borrowR; rw [hv])
    go_enter Try.func29, Try.ntmps29
    go_wp2_with fail
    refine (retb (ValidLoansI_c A n c l _ HN.out hm hcap hr ok) hv).mono ?_
    rintro e w1 ⟨rfl, hb1⟩
    go_wp2_with fail
    go_ret2
    exact ⟨ret_sc HR.out.symm, hb1⟩
  · by_cases hf : findM l ex day < 0
    · have HR := Lib.hid (show borrowR l ex day = _ by unfold borrowR; rw [hv, if_pos rfl, if_pos hf])
      go_enter Try.func29, Try.ntmps29
      go_wp2_with fail
      refine (retb (ValidLoansI_c A n c l _ HN.out hm hcap hr ok) hv).mono ?_
      rintro e w1 ⟨rfl, hb1⟩
      have hz1 := hb1.size
      go_wp2_with fail
      refine (loanAt_c A n c l ex day _ HN.out hm ((hr.below hb1).mono hz1)).mono ?_
      rintro e w2 ⟨rfl, hb2⟩
      go_wp2_with fail
      go_ret2
      exact ⟨ret_sc HR.out.symm, by (repeat' (first | (with_reducible exact Below.refl _ _) | (with_reducible assumption) | (with_reducible refine below_drewN ?_ _) | (with_reducible refine Below.drew ?_) | (with_reducible refine Below.alloc ?_ ?_ _) | (with_reducible refine Below.setCell ?_ ?_ _) | (with_reducible refine via (by with_reducible assumption) ?_ ?_) | go_size))⟩
    · obtain ⟨k, hk⟩ : ∃ k : Nat, findM l ex day = (k : Int) := ⟨(findM l ex day).toNat, by omega⟩
      have HR := Lib.hid (show borrowR l ex day = ((getL l k).bo, 0) by unfold borrowR; rw [hv, if_pos rfl, if_neg hf, hk]; rfl)
      have hkn : k < n := by rw [← HN.out]; omega
      have HK := Lib.hid hk; clear hk hf hfb
      go_enter Try.func29, Try.ntmps29
      go_wp2_with fail
      refine (retb (ValidLoansI_c A n c l _ HN.out hm hcap hr ok) hv).mono ?_
      rintro e w1 ⟨rfl, hb1⟩
      have hz1 := hb1.size
      go_wp2_with fail
      have hr2 := (hr.below hb1).mono hz1
      refine (loanAt_c A n c l ex day _ HN.out hm hr2).mono ?_
      rw [HK.out]
      rintro e w2 ⟨rfl, hb2⟩
      obtain ⟨b1, off, rfl, hbl, hc⟩ := (hr2.below hb2).loan (by rw [HN.out]; omega)
      obtain ⟨d, hd⟩ := get_ex l k (by rw [HN.out]; omega)
      obtain ⟨g0, g1, g2, g3⟩ := hc k d hd
      have HG := Lib.hid (getL_eq hd); clear hd hc
      have p1 : (0 : Int) ≤ (k : Int) := by omega
      have p2 : (k : Int) < (n : Int) := by omega
      go_wp2_with fail
      go_ret2
      exact ⟨ret_sc (by rw [HR.out, HG.out]), by (repeat' (first | (with_reducible exact Below.refl _ _) | (with_reducible assumption) | (with_reducible refine below_drewN ?_ _) | (with_reducible refine Below.drew ?_) | (with_reducible refine Below.alloc ?_ ?_ _) | (with_reducible refine Below.setCell ?_ ?_ _) | (with_reducible refine via (by with_reducible assumption) ?_ ?_) | go_size))⟩

theorem BorrowerAtS_c (A : Option Addr) (n c : Nat) (l : List LoanD) (ex : ByteArray) (day : Int) (w : World) (hn : l.length = n) (hm : n ≤ 1048576) (hcap : n ≤ c) (hr : Rd w w.heap.size 4 lcell A l) (ok : ∀ d ∈ l, okL d) (_ : ex.size ≤ 1048576) :
    Calls Try.prog 28 #[.slice A n c, .string ex, .int .i64 day] w fun e w' => e = .returned (.tuple #[.string (borrowR l ex day).1, .int .i64 (borrowR l ex day).2]) ∧ Below w.heap.size w w' := by
  have HN := Lib.hid hn; clear hn
  have hfb := findM_bd l ex day
  by_cases hs : (askR l ex day).2 = 0
  · obtain ⟨k, hk, hkn, hR⟩ : ∃ k : Nat, askR l ex day = ((k : Int), 0) ∧ k < n ∧ borrowR l ex day = ((getL l k).bo, 0) := by
      unfold askR at hs ⊢
      unfold borrowR
      cases hv : validS l
      · rw [hv] at hs; simp at hs
      · rw [hv] at hs
        simp only [if_true] at hs ⊢
        by_cases hf : findM l ex day < 0
        · rw [if_pos hf] at hs; simp at hs
        · refine ⟨(findM l ex day).toNat, ?_, ?_, ?_⟩
          · rw [if_neg hf]; congr 1; omega
          · rw [← HN.out]; omega
          · rw [if_neg hf]
    have HR := Lib.hid hR; clear hR
    have HK := Lib.hid hk; clear hk hfb hs
    go_enter Try.func28, Try.ntmps28
    go_wp2_with fail
    refine (l23Ask_c A n c l ex day _ HN.out hm hcap hr ok).mono ?_
    rw [HK.out]
    rintro e w1 ⟨rfl, hb1⟩
    obtain ⟨b1, off, rfl, hbl, hc⟩ := (hr.below hb1).loan (by rw [HN.out]; omega)
    obtain ⟨d, hd⟩ := get_ex l k (by rw [HN.out]; omega)
    obtain ⟨g0, g1, g2, g3⟩ := hc k d hd
    have HG := Lib.hid (getL_eq hd); clear hd hc
    have p1 : (0 : Int) ≤ (k : Int) := by omega
    have p2 : (k : Int) < (n : Int) := by omega
    go_wp2_with fail
    go_ret2
    exact ⟨ret_sc (by rw [HR.out, HG.out]), hb1⟩
  · obtain ⟨q, hq, hR, hq0⟩ : ∃ q : Int, askR l ex day = (0, q) ∧ borrowR l ex day = (ByteArray.empty, q) ∧ ¬ q = 0 := by
      unfold askR at hs ⊢
      unfold borrowR
      cases hv : validS l
      · exact ⟨1, by simp, by simp, by decide⟩
      · rw [hv] at hs
        simp only [if_true] at hs ⊢
        by_cases hf : findM l ex day < 0
        · exact ⟨3, by rw [if_pos hf], by rw [if_pos hf], by decide⟩
        · rw [if_neg hf] at hs; simp at hs
    have HR := Lib.hid hR; clear hR
    have HK := Lib.hid hq; clear hq hfb hs
    have q1 : (q == 0) = false := by simpa using hq0
    have q2 : (q != 0) = true := by simpa using hq0
    go_enter Try.func28, Try.ntmps28
    go_wp2_with fail
    refine (l23Ask_c A n c l ex day _ HN.out hm hcap hr ok).mono ?_
    rw [HK.out]
    rintro e w1 ⟨rfl, hb1⟩
    go_wp2_with fail
    go_ret2
    exact ⟨ret_sc HR.out.symm, hb1⟩

end Go.Proofs.Ytkapoanmbcopoaa
