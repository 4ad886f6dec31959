/- Contracts: the code of a plan; its cost by a day; both sides. -/
import Derived.Test.YtpdmfnfmlcjobaaJobs5
set_option linter.unusedVariables false
set_option linter.unusedSimpArgs false
namespace Go.Proofs.Ytpdmfnfmlcjobaa
open Go.RowKit

def daysB (s : List Int) : Bool := (List.range s.length).all fun i => inB (s.getD i 0) 0 400
def startsB (n : Nat) (s : List Int) : Bool := daysB s && decide (s.length = n)
def planR (l : List JobD) (s : List Int) : Int := if validS l = true then (if startsB l.length s = true then 0 else 2) else 1
theorem planR_zero {l : List JobD} {s : List Int} (h : planR l s = 0) : validS l = true ∧ startsB l.length s = true := by
  unfold planR at h
  cases hv : validS l
  · rw [hv] at h; simp at h
  · rw [hv, if_pos rfl] at h
    cases h2 : startsB l.length s
    · rw [h2] at h; simp at h
    · exact ⟨rfl, rfl⟩
theorem startsB_len {n : Nat} {s : List Int} (h : startsB n s = true) : s.length = n := by
  unfold startsB at h
  simp only [Bool.and_eq_true, decide_eq_true_eq] at h
  exact h.2
theorem starts_at {n : Nat} {s : List Int} (h : startsB n s = true) {i : Nat} {x : Int} (hx : s[i]? = some x) : 0 ≤ x ∧ x ≤ 400 := by
  unfold startsB daysB at h
  simp only [Bool.and_eq_true] at h
  have := (all_range_iff _ _).1 h.1 i (List.getElem?_eq_some_iff.1 hx).1
  rw [getD_eq hx] at this
  exact inB_iff.1 this
def costS (l : List JobD) (s : List Int) (day : Int) : Nat → Int
  | 0 => 0
  | k + 1 => costS l s day k + (if s.getD k 0 < day then (getJ l k).cost else 0)
def costR (l : List JobD) (s : List Int) (day : Int) : Int × Int := if planR l s = 0 then (costS l s day l.length, 0) else (0, planR l s)
theorem planR_bd (l : List JobD) (s : List Int) : 0 ≤ planR l s ∧ planR l s ≤ 2 := by
  unfold planR
  split
  · split <;> omega
  · omega

set_option maxHeartbeats 2000000 in
theorem planCode_c (A : Option Addr) (n c : Nat) (l : List JobD) (A2 : Option Addr) (n2 c2 : Nat) (s : List Int) (w : World) (hn : l.length = n) (hm : n ≤ 1048576) (hr : JRd w w.heap.size A l) (ok : ∀ d ∈ l, okJD d) (hkk : ∀ (i : Nat) (d : JobD), l[i]? = some d → d.needs.length ≤ 1048576) (hn2 : s.length = n2) (hm2 : n2 ≤ 1048576) (hr2 : Rd w w.heap.size 1 icell A2 s) :
    Calls Try.prog 50 #[.slice A n c, .slice A2 n2 c2] w fun e w' => e = .returned (.int .i64 (planR l s)) ∧ Below w.heap.size w w' := by
  have HN := Lib.hid hn; clear hn
  have HN2 := Lib.hid hn2; clear hn2
  have HKK := Lib.hid hkk; clear hkk
  cases hv : validS l
  · have HR := Lib.hid (show planR l s = 1 by unfold planR; rw [hv]; rfl)
    go_enter Try.func50, Try.ntmps50
    go_wp2_with fail
    refine (retb (ValidJobsI_c A n c l _ HN.out hm hr ok HKK.out) hv).mono ?_
    rintro e w1 ⟨rfl, hb1⟩
    go_wp2_with fail
    go_ret
    exact ⟨ret_int HR.out.symm, hb1⟩
  have HR := Lib.hid (show planR l s = (if startsB n s = true then 0 else 2) by unfold planR; rw [hv, if_pos rfl, HN.out])
  by_cases h3 : n2 = n
  rotate_left
  · have HO := Lib.hid (show startsB n s = false by unfold startsB; rw [HN2.out, decide_eq_false h3, Bool.and_false])
    have q1 : ((n2 : Int) == (n : Int)) = false := by rw [beq_eq_false_iff_ne]; omega
    have q2 : ((n2 : Int) != (n : Int)) = true := by rw [bne_iff_ne]; omega
    have q3 : (n2 == n) = false := by simpa using h3
    have q4 : (n2 != n) = true := by simpa using h3
    go_enter Try.func50, Try.ntmps50
    go_wp2_with fail
    refine (retb (ValidJobsI_c A n c l _ HN.out hm hr ok HKK.out) hv).mono ?_
    rintro e w1 ⟨rfl, hb1⟩
    go_wp2_with fail
    go_ret
    exact ⟨ret_int (by rw [HR.out, HO.out]; rfl), hb1⟩
  subst h3
  go_enter Try.func50, Try.ntmps50
  go_wp2_with fail
  refine (retb (ValidJobsI_c A n2 c l _ HN.out hm hr ok HKK.out) hv).mono ?_
  rintro e w1 ⟨rfl, hb1⟩
  have hb1s := hb1.size
  have hr1 := hr2.below hb1
  clear hv
  go_wp2_with fail
  go_loop [17] (fun i => ∃ k : Nat, k ≤ n2 ∧ i = .int .i64 k ∧ (List.range k).all (fun i => inB (s.getD i 0) 0 400) = true) (fun i => n2 - (intOf i).toNat)
  case atStart => exact ⟨0, Nat.zero_le _, rfl, by simp⟩
  case round =>
    obtain ⟨k, hk, rfl, ha⟩ := hrel
    have HA := Lib.hid ha; clear ha
    by_cases hlt : k < n2
    · obtain ⟨b1, off, rfl, hbl, hc⟩ := hr1.ints' (by rw [HN2.out]; omega)
      obtain ⟨x, hx⟩ := get_ex s k (by rw [HN2.out]; omega)
      have g0 := hc k x hx
      have HG := Lib.hid (getD_eq hx); clear hx hc
      have p1 : (0 : Int) ≤ (k : Int) := by omega
      have p2 : (k : Int) < (n2 : Int) := by omega
      cases h1 : inB x 0 400
      · have HO := Lib.hid (show startsB n2 s = false by unfold startsB daysB; rw [all_range_no _ _ k (by rw [HN2.out]; exact hlt) (by rw [HG.out]; exact h1)]; rfl)
        go_wp2_with (go_at_call 48; refine (between_c _ _ _ _).mono ?_; rintro e w' ⟨rfl, rfl⟩)
        go_ret
        exact ⟨ret_int (by rw [HR.out, HO.out]; rfl), hb1⟩
      · have HS := Lib.hid (all_range_succ _ k HA.out (show inB (s.getD k 0) 0 400 = true by rw [HG.out]; exact h1))
        go_wp2_with (go_at_call 48; refine (between_c _ _ _ _).mono ?_; rintro e w' ⟨rfl, rfl⟩)
        (first | (refine ⟨⟨(by first | trivial | rfl), ?_⟩, ?_⟩; rotate_left; (first | (simp [intOf]; done) | (simp [intOf]; omega)); (repeat apply Exists.intro); refine ⟨?_, rfl⟩; exact ⟨k + 1, by omega, by go_num, HS.out⟩) | exact ⟨⟨k + 1, by omega, by go_num, HS.out⟩, by first | (simp [intOf]; done) | (simp [intOf]; omega)⟩)
    · have hkn : k = n2 := by omega
      have HO := Lib.hid (show startsB n2 s = true by unfold startsB daysB; rw [HN2.out, ← hkn, HA.out, decide_eq_true rfl]; rfl)
      clear hkn
      go_wp2_with fail
      go_ret
      exact ⟨ret_int (by rw [HR.out, HO.out]; rfl), hb1⟩

set_option maxHeartbeats 2000000 in
theorem l22Starts_c (A : Option Addr) (n c : Nat) (A2 : Option Addr) (n2 c2 : Nat) (s : List Int) (B : Nat) (w : World) (hm : n ≤ 1048576) (hn2 : s.length = n2) (hm2 : n2 ≤ 1048576) (hr2 : Rd w B 1 icell A2 s) :
    Calls Try.prog 49 #[.slice A n c, .slice A2 n2 c2] w fun e w' => e = .returned (.bool (startsB n s)) ∧ w = w' := by
  have HN2 := Lib.hid hn2; clear hn2
  go_enter Try.func49, Try.ntmps49
  go_wp2_with fail
  go_loop [5] (fun i => ∃ k : Nat, k ≤ n2 ∧ i = .int .i64 k ∧ (List.range k).all (fun i => inB (s.getD i 0) 0 400) = true) (fun i => n2 - (intOf i).toNat)
  case atStart => exact ⟨0, Nat.zero_le _, rfl, by simp⟩
  case round =>
    obtain ⟨k, hk, rfl, ha⟩ := hrel
    have HA := Lib.hid ha; clear ha
    by_cases hlt : k < n2
    · obtain ⟨b1, off, rfl, hbl, hc⟩ := hr2.ints' (by rw [HN2.out]; omega)
      obtain ⟨x, hx⟩ := get_ex s k (by rw [HN2.out]; omega)
      have g0 := hc k x hx
      have HG := Lib.hid (getD_eq hx); clear hx hc
      have p1 : (0 : Int) ≤ (k : Int) := by omega
      have p2 : (k : Int) < (n2 : Int) := by omega
      cases h1 : inB x 0 400
      · have HO := Lib.hid (show startsB n s = false by unfold startsB daysB; rw [all_range_no _ _ k (by rw [HN2.out]; exact hlt) (by rw [HG.out]; exact h1)]; rfl)
        go_wp2_with (go_at_call 55; refine (l00In_c _ _ _ _).mono ?_; rintro e w' ⟨rfl, rfl⟩)
        go_ret
        exact ⟨ret_bool HO.out.symm, rfl⟩
      · have HS := Lib.hid (all_range_succ _ k HA.out (show inB (s.getD k 0) 0 400 = true by rw [HG.out]; exact h1))
        go_wp2_with (go_at_call 55; refine (l00In_c _ _ _ _).mono ?_; rintro e w' ⟨rfl, rfl⟩)
        (first | (refine ⟨⟨(by first | trivial | rfl), ?_⟩, ?_⟩; rotate_left; (first | (simp [intOf]; done) | (simp [intOf]; omega)); (repeat apply Exists.intro); refine ⟨?_, rfl⟩; exact ⟨k + 1, by omega, by go_num, HS.out⟩) | exact ⟨⟨k + 1, by omega, by go_num, HS.out⟩, by first | (simp [intOf]; done) | (simp [intOf]; omega)⟩)
    · have hkn : k = n2 := by omega
      have HO := Lib.hid (show startsB n s = decide (n2 = n) by unfold startsB daysB; rw [HN2.out, ← hkn, HA.out]; rfl)
      clear hkn
      by_cases h3 : n2 = n
      · have q1 : ((n2 : Int) == (n : Int)) = true := by rw [beq_iff_eq]; omega
        have q3 : (n2 == n) = true := by simpa using h3
        have HO2 := Lib.hid (show startsB n s = true by rw [HO.out]; exact decide_eq_true h3)
        clear h3
        go_wp2_with fail
        go_ret
        exact ⟨ret_bool HO2.out.symm, rfl⟩
      · have q1 : ((n2 : Int) == (n : Int)) = false := by rw [beq_eq_false_iff_ne]; omega
        have q3 : (n2 == n) = false := by simpa using h3
        have HO2 := Lib.hid (show startsB n s = false by rw [HO.out]; exact decide_eq_false h3)
        go_wp2_with fail
        go_ret
        exact ⟨ret_bool HO2.out.symm, rfl⟩

set_option maxHeartbeats 2000000 in
theorem CostByI_c (A : Option Addr) (n c : Nat) (l : List JobD) (A2 : Option Addr) (n2 c2 : Nat) (s : List Int) (day : Int) (w : World) (hn : l.length = n) (hm : n ≤ 1048576) (hr : JRd w w.heap.size A l) (ok : ∀ d ∈ l, okJD d) (hkk : ∀ (i : Nat) (d : JobD), l[i]? = some d → d.needs.length ≤ 1048576) (hn2 : s.length = n2) (hm2 : n2 ≤ 1048576) (hr2 : Rd w w.heap.size 1 icell A2 s) :
    Calls Try.prog 22 #[.slice A n c, .slice A2 n2 c2, .int .i64 day] w fun e w' => e = .returned (.tuple #[.int .i64 (costR l s day).1, .int .i64 (costR l s day).2]) ∧ Below w.heap.size w w' := by
  have HN := Lib.hid hn; clear hn
  have HN2 := Lib.hid hn2; clear hn2
  have HKK := Lib.hid hkk; clear hkk
  generalize hq : planR l s = q
  have cb := planR_bd l s
  rw [hq] at cb
  by_cases h0 : q = 0
  rotate_left
  · have HR := Lib.hid (show costR l s day = (0, q) by unfold costR; rw [hq, if_neg h0])
    have HQ := Lib.hid hq; clear hq
    have q1 : (q == 0) = false := by simpa using h0
    have q2 : (q != 0) = true := by simpa using h0
    go_enter Try.func22, Try.ntmps22
    go_wp2_with fail
    refine (planCode_c A n c l A2 n2 c2 s w HN.out hm hr ok HKK.out HN2.out hm2 hr2).mono ?_
    rw [HQ.out]
    rintro e w1 ⟨rfl, hb1⟩
    go_wp2_with fail
    go_ret2
    exact ⟨ret_two HR.out.symm, hb1⟩
  subst h0

  obtain ⟨hv, hst⟩ := planR_zero hq
  rw [HN.out] at hst
  have hsl := startsB_len hst
  rw [HN2.out] at hsl
  subst hsl
  have HVA := Lib.hid (valid_all hv); have HV := Lib.hid hv; clear hv
  have HST := Lib.hid hst; clear hst
  have h30 : n2 ≤ 30 := by have := HVA.out.1; rw [HN.out] at this; exact this
  have HR := Lib.hid (show costR l s day = (costS l s day n2, 0) by unfold costR; rw [if_pos hq, HN.out])
  have HQ := Lib.hid hq; clear hq
  go_enter Try.func22, Try.ntmps22
  go_wp2_with fail
  refine (planCode_c A n2 c l A2 n2 c2 s w HN.out hm hr ok HKK.out HN2.out hm2 hr2).mono ?_
  rw [HQ.out]
  rintro e w1 ⟨rfl, hb1⟩
  have hb1s := hb1.size
  have hr1 := (hr.below hb1).mono hb1s
  have hr21 := (hr2.below hb1).mono hb1s
  go_wp2_with fail
  go_loopw [9, 20] (fun t i wr => ∃ (k : Nat) (q : Int), k ≤ n2 ∧ i = .int .i64 k ∧ t = .int .i64 q ∧ q = costS l s day k ∧ 0 ≤ q ∧ q ≤ 1000000 * (k : Int) ∧ Below w1.heap.size w1 wr) (fun _ i _ => n2 - (intOf i).toNat)
  case atStart => exact ⟨0, 0, Nat.zero_le _, rfl, rfl, rfl, by omega, by omega, Below.refl _ _⟩
  case round =>
    obtain ⟨k, q, hk, rfl, rfl, hq, q0, q1, hb⟩ := hrel
    have HQQ := Lib.hid hq; clear hq
    have hbs := hb.size
    by_cases hlt : k < n2
    · obtain ⟨b1, off, rfl, hbl, hc⟩ := (hr1.below hb) (by rw [HN.out]; omega)
      obtain ⟨b2, off2, rfl, hbl2, hc2⟩ := (hr21.below hb).ints' (by rw [HN2.out]; omega)
      obtain ⟨d, hd⟩ := get_ex l k (by rw [HN.out]; omega)
      obtain ⟨x, hx⟩ := get_ex s k (by rw [HN2.out]; omega)
      obtain ⟨g0, g1, g2, An, cn, g3, _⟩ := hc k d hd
      have g4 := hc2 k x hx
      have hva := HVA.out.2 k (by rw [HN.out]; exact hlt)
      rw [getJ_eq hd] at hva
      have e1 := hva.2.2.1
      have e2 := hva.2.2.2.1
      have HS := Lib.hid (show costS l s day (k + 1) = q + (if x < day then d.cost else 0) by show costS l s day k + _ = _; rw [HQQ.out, getD_eq hx, getJ_eq hd])
      clear hva hd hx hc hc2
      have hf1 := far (show b1 < wr.heap.size by omega)
      have hf2 := far (show b2 < wr.heap.size by omega)
      have p1 : (0 : Int) ≤ (k : Int) := by omega
      have p2 : (k : Int) < (n2 : Int) := by omega
      cases h1 : decide (x < day)
      · have HS2 := Lib.hid (show q = costS l s day (k + 1) by rw [HS.out, if_neg (by simpa using h1)]; omega)
        go_wp2_with fail
        (first | (refine ⟨?_, ?_⟩; rotate_left; (first | (simp [intOf]; done) | (simp [intOf]; omega)); (repeat apply Exists.intro); refine ⟨?_, rfl⟩; exact ⟨k + 1, q, by omega, by go_num, rfl, HS2.out, by omega, by omega, by (repeat' (first | (with_reducible exact Below.refl _ _) | (with_reducible assumption) | (with_reducible refine below_drewN ?_ _) | (with_reducible refine Below.drew ?_) | (with_reducible refine Below.alloc ?_ ?_ _) | (with_reducible refine Below.setCell ?_ ?_ _) | (with_reducible refine via (by with_reducible assumption) ?_ ?_) | go_size))⟩) | exact ⟨⟨k + 1, q, by omega, by go_num, rfl, HS2.out, by omega, by omega, by (repeat' (first | (with_reducible exact Below.refl _ _) | (with_reducible assumption) | (with_reducible refine below_drewN ?_ _) | (with_reducible refine Below.drew ?_) | (with_reducible refine Below.alloc ?_ ?_ _) | (with_reducible refine Below.setCell ?_ ?_ _) | (with_reducible refine via (by with_reducible assumption) ?_ ?_) | go_size))⟩, by first | (simp [intOf]; done) | (simp [intOf]; omega)⟩)
      · have HS2 := Lib.hid (show q + d.cost = costS l s day (k + 1) by rw [HS.out, if_pos (by simpa using h1)])
        go_wp2_with fail
        (first | (refine ⟨?_, ?_⟩; rotate_left; (first | (simp [intOf]; done) | (simp [intOf]; omega)); (repeat apply Exists.intro); refine ⟨?_, rfl⟩; exact ⟨k + 1, q + d.cost, by omega, by go_num, rfl, HS2.out, by omega, by omega, by (repeat' (first | (with_reducible exact Below.refl _ _) | (with_reducible assumption) | (with_reducible refine below_drewN ?_ _) | (with_reducible refine Below.drew ?_) | (with_reducible refine Below.alloc ?_ ?_ _) | (with_reducible refine Below.setCell ?_ ?_ _) | (with_reducible refine via (by with_reducible assumption) ?_ ?_) | go_size))⟩) | exact ⟨⟨k + 1, q + d.cost, by omega, by go_num, rfl, HS2.out, by omega, by omega, by (repeat' (first | (with_reducible exact Below.refl _ _) | (with_reducible assumption) | (with_reducible refine below_drewN ?_ _) | (with_reducible refine Below.drew ?_) | (with_reducible refine Below.alloc ?_ ?_ _) | (with_reducible refine Below.setCell ?_ ?_ _) | (with_reducible refine via (by with_reducible assumption) ?_ ?_) | go_size))⟩, by first | (simp [intOf]; done) | (simp [intOf]; omega)⟩)
    · have hkn : k = n2 := by omega
      have HF := Lib.hid (show q = costS l s day n2 by rw [← hkn]; exact HQQ.out); clear hkn
      go_wp2_with fail
      go_ret2
      exact ⟨ret_two (by rw [HR.out, HF.out]), by (repeat' (first | (with_reducible exact Below.refl _ _) | (with_reducible assumption) | (with_reducible refine below_drewN ?_ _) | (with_reducible refine Below.drew ?_) | (with_reducible refine Below.alloc ?_ ?_ _) | (with_reducible refine Below.setCell ?_ ?_ _) | (with_reducible refine via (by with_reducible assumption) ?_ ?_) | go_size))⟩

set_option maxHeartbeats 2000000 in
theorem CostByS_c (A : Option Addr) (n c : Nat) (l : List JobD) (A2 : Option Addr) (n2 c2 : Nat) (s : List Int) (day : Int) (w : World) (hn : l.length = n) (hm : n ≤ 1048576) (hr : JRd w w.heap.size A l) (ok : ∀ d ∈ l, okJD d) (hkk : ∀ (i : Nat) (d : JobD), l[i]? = some d → d.needs.length ≤ 1048576) (hn2 : s.length = n2) (hm2 : n2 ≤ 1048576) (hr2 : Rd w w.heap.size 1 icell A2 s) :
    Calls Try.prog 20 #[.slice A n c, .slice A2 n2 c2, .int .i64 day] w fun e w' => e = .returned (.tuple #[.int .i64 (costR l s day).1, .int .i64 (costR l s day).2]) ∧ Below w.heap.size w w' := by
  have HN := Lib.hid hn; clear hn
  have HN2 := Lib.hid hn2; clear hn2
  have HKK := Lib.hid hkk; clear hkk
  cases hv : validS l
  · have HR := Lib.hid (show costR l s day = (0, 1) by unfold costR planR; rw [hv]; rfl)
    go_enter Try.func20, Try.ntmps20
    go_wp2_with fail
    refine (retb (l22OkB_c A n c l _ HN.out hm hr ok HKK.out) hv).mono ?_
    rintro e w1 ⟨rfl, hb1⟩
    go_wp2_with fail
    go_ret2
    exact ⟨ret_two HR.out.symm, hb1⟩
  cases hst : startsB n s
  · have HR := Lib.hid (show costR l s day = (0, 2) by unfold costR planR; rw [hv, HN.out, hst]; rfl)
    go_enter Try.func20, Try.ntmps20
    go_wp2_with fail
    refine (retb (l22OkB_c A n c l _ HN.out hm hr ok HKK.out) hv).mono ?_
    rintro e w1 ⟨rfl, hb1⟩
    have hb1s := hb1.size
    go_wp2_with fail
    refine (retb (l22Starts_c A n c A2 n2 c2 s _ w1 hm HN2.out hm2 ((hr2.below hb1).mono hb1s)) hst).mono ?_
    rintro e w' ⟨rfl, rfl⟩
    go_wp2_with fail
    go_ret2
    exact ⟨ret_two HR.out.symm, hb1⟩
  have hq : planR l s = 0 := by unfold planR; rw [hv, HN.out, hst]; rfl
  clear hv hst

  obtain ⟨hv, hst⟩ := planR_zero hq
  rw [HN.out] at hst
  have hsl := startsB_len hst
  rw [HN2.out] at hsl
  subst hsl
  have HVA := Lib.hid (valid_all hv); have HV := Lib.hid hv; clear hv
  have HST := Lib.hid hst; clear hst
  have h30 : n2 ≤ 30 := by have := HVA.out.1; rw [HN.out] at this; exact this
  have HR := Lib.hid (show costR l s day = (costS l s day n2, 0) by unfold costR; rw [if_pos hq, HN.out])
  have HQ := Lib.hid hq; clear hq
  go_enter Try.func20, Try.ntmps20
  go_wp2_with fail
  refine (retb (l22OkB_c A n2 c l _ HN.out hm hr ok HKK.out) HV.out).mono ?_
  rintro e w1 ⟨rfl, hb1⟩
  go_wp2_with fail
  refine (retb (l22Starts_c A n2 c A2 n2 c2 s _ w1 hm HN2.out hm2 ((hr2.below hb1).mono hb1.size)) HST.out).mono ?_
  rintro e w' ⟨rfl, rfl⟩
  have hb1s := hb1.size
  have hr1 := (hr.below hb1).mono hb1s
  have hr21 := (hr2.below hb1).mono hb1s
  go_wp2_with fail
  go_loopw [8, 9] (fun t i wr => ∃ (k : Nat) (q : Int), k ≤ n2 ∧ i = .int .i64 k ∧ t = .int .i64 q ∧ q = costS l s day k ∧ 0 ≤ q ∧ q ≤ 1000000 * (k : Int) ∧ Below w1.heap.size w1 wr) (fun _ i _ => n2 - (intOf i).toNat)
  case atStart => exact ⟨0, 0, Nat.zero_le _, rfl, rfl, rfl, by omega, by omega, Below.refl _ _⟩
  case round =>
    obtain ⟨k, q, hk, rfl, rfl, hq, q0, q1, hb⟩ := hrel
    have HQQ := Lib.hid hq; clear hq
    have hbs := hb.size
    by_cases hlt : k < n2
    · obtain ⟨b1, off, rfl, hbl, hc⟩ := (hr1.below hb) (by rw [HN.out]; omega)
      obtain ⟨b2, off2, rfl, hbl2, hc2⟩ := (hr21.below hb).ints' (by rw [HN2.out]; omega)
      obtain ⟨d, hd⟩ := get_ex l k (by rw [HN.out]; omega)
      obtain ⟨x, hx⟩ := get_ex s k (by rw [HN2.out]; omega)
      obtain ⟨g0, g1, g2, An, cn, g3, _⟩ := hc k d hd
      have g4 := hc2 k x hx
      have hva := HVA.out.2 k (by rw [HN.out]; exact hlt)
      rw [getJ_eq hd] at hva
      have e1 := hva.2.2.1
      have e2 := hva.2.2.2.1
      have HS := Lib.hid (show costS l s day (k + 1) = q + (if x < day then d.cost else 0) by show costS l s day k + _ = _; rw [HQQ.out, getD_eq hx, getJ_eq hd])
      clear hva hd hx hc hc2
      have hf1 := far (show b1 < wr.heap.size by omega)
      have hf2 := far (show b2 < wr.heap.size by omega)
      have p1 : (0 : Int) ≤ (k : Int) := by omega
      have p2 : (k : Int) < (n2 : Int) := by omega
      cases h1 : decide (x < day)
      · have HS2 := Lib.hid (show q = costS l s day (k + 1) by rw [HS.out, if_neg (by simpa using h1)]; omega)
        go_wp2_with fail
        (first | (refine ⟨?_, ?_⟩; rotate_left; (first | (simp [intOf]; done) | (simp [intOf]; omega)); (repeat apply Exists.intro); refine ⟨?_, rfl⟩; exact ⟨k + 1, q, by omega, by go_num, rfl, HS2.out, by omega, by omega, by (repeat' (first | (with_reducible exact Below.refl _ _) | (with_reducible assumption) | (with_reducible refine below_drewN ?_ _) | (with_reducible refine Below.drew ?_) | (with_reducible refine Below.alloc ?_ ?_ _) | (with_reducible refine Below.setCell ?_ ?_ _) | (with_reducible refine via (by with_reducible assumption) ?_ ?_) | go_size))⟩) | exact ⟨⟨k + 1, q, by omega, by go_num, rfl, HS2.out, by omega, by omega, by (repeat' (first | (with_reducible exact Below.refl _ _) | (with_reducible assumption) | (with_reducible refine below_drewN ?_ _) | (with_reducible refine Below.drew ?_) | (with_reducible refine Below.alloc ?_ ?_ _) | (with_reducible refine Below.setCell ?_ ?_ _) | (with_reducible refine via (by with_reducible assumption) ?_ ?_) | go_size))⟩, by first | (simp [intOf]; done) | (simp [intOf]; omega)⟩)
      · have HS2 := Lib.hid (show q + d.cost = costS l s day (k + 1) by rw [HS.out, if_pos (by simpa using h1)])
        go_wp2_with fail
        (first | (refine ⟨?_, ?_⟩; rotate_left; (first | (simp [intOf]; done) | (simp [intOf]; omega)); (repeat apply Exists.intro); refine ⟨?_, rfl⟩; exact ⟨k + 1, q + d.cost, by omega, by go_num, rfl, HS2.out, by omega, by omega, by (repeat' (first | (with_reducible exact Below.refl _ _) | (with_reducible assumption) | (with_reducible refine below_drewN ?_ _) | (with_reducible refine Below.drew ?_) | (with_reducible refine Below.alloc ?_ ?_ _) | (with_reducible refine Below.setCell ?_ ?_ _) | (with_reducible refine via (by with_reducible assumption) ?_ ?_) | go_size))⟩) | exact ⟨⟨k + 1, q + d.cost, by omega, by go_num, rfl, HS2.out, by omega, by omega, by (repeat' (first | (with_reducible exact Below.refl _ _) | (with_reducible assumption) | (with_reducible refine below_drewN ?_ _) | (with_reducible refine Below.drew ?_) | (with_reducible refine Below.alloc ?_ ?_ _) | (with_reducible refine Below.setCell ?_ ?_ _) | (with_reducible refine via (by with_reducible assumption) ?_ ?_) | go_size))⟩, by first | (simp [intOf]; done) | (simp [intOf]; omega)⟩)
    · have hkn : k = n2 := by omega
      have HF := Lib.hid (show q = costS l s day n2 by rw [← hkn]; exact HQQ.out); clear hkn
      go_wp2_with fail
      go_ret2
      exact ⟨ret_two (by rw [HR.out, HF.out]), by (repeat' (first | (with_reducible exact Below.refl _ _) | (with_reducible assumption) | (with_reducible refine below_drewN ?_ _) | (with_reducible refine Below.drew ?_) | (with_reducible refine Below.alloc ?_ ?_ _) | (with_reducible refine Below.setCell ?_ ?_ _) | (with_reducible refine via (by with_reducible assumption) ?_ ?_) | go_size))⟩

end Go.Proofs.Ytpdmfnfmlcjobaa
