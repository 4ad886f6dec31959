/- Contracts: lists of numbers compared, jobs compared. -/
import Derived.Test.YtpdmfnfmlcjobaaJobs2
set_option linter.unusedVariables false
set_option linter.unusedSimpArgs false
namespace Go.Proofs.Ytpdmfnfmlcjobaa
open Go.RowKit

theorem same_no {l l' : List Int} (h : ¬ l.length = l'.length) : (l == l') = false := by
  rw [beq_eq_false_iff_ne]
  intro e
  exact h (by rw [e])
theorem same_at {l l' : List Int} {k : Nat} {x y : Int} (hx : l[k]? = some x) (hy : l'[k]? = some y) (h : ¬ x = y) : (l == l') = false := by
  rw [beq_eq_false_iff_ne]
  intro e
  rw [e, hy] at hx
  injection hx with hx
  exact h hx.symm
theorem same_yes {l l' : List Int} {n : Nat} (h1 : l.length = n) (h2 : l'.length = n) (h : l.take n = l'.take n) : (l == l') = true := by
  rw [List.take_of_length_le (by omega), List.take_of_length_le (by omega)] at h
  rw [h]
  exact beq_self_eq_true _

set_option maxHeartbeats 1000000 in
theorem sameNumbers_c (A A' : Option Addr) (n n' c c' : Nat) (l l' : List Int) (B : Nat) (w : World) (hn : l.length = n) (hn' : l'.length = n') (hm : n ≤ maxLen) (hm' : n' ≤ maxLen) (hr : Rd w B 1 icell A l) (hr' : Rd w B 1 icell A' l') :
    Calls Try.prog 44 #[.slice A n c, .slice A' n' c'] w fun e w' => e = .returned (.bool (l == l')) ∧ ∃ m, w' = w.drewN m := by
  unfold maxLen at hm hm'
  have HN := Lib.hid hn; clear hn
  have HN' := Lib.hid hn'; clear hn'
  by_cases hl : n = n'
  · subst hl
    go_enter Try.func44, Try.ntmps44
    go_wp2_with fail
    go_loopw [13] (fun i wr => ∃ k : Nat, k ≤ n ∧ i = .int .i64 k ∧ l.take k = l'.take k ∧ ∃ m, wr = w.drewN m) (fun i _ => n - (intOf i).toNat)
    case atStart => exact ⟨0, Nat.zero_le _, rfl, rfl, 0, rfl⟩
    case round =>
      obtain ⟨k, hk, rfl, ht, m, hw⟩ := hrel
      have HT := Lib.hid ht; clear ht
      have hr1 : Rd wr B 1 icell A l := by rw [hw]; exact hr
      have hr2 : Rd wr B 1 icell A' l' := by rw [hw]; exact hr'
      have HW := Lib.hid hw; clear hw
      by_cases hlt : k < n
      · obtain ⟨b, off, rfl, _, hc⟩ := hr1.ints' (by rw [HN.out]; omega)
        obtain ⟨b', off', rfl, _, hc'⟩ := hr2.ints' (by rw [HN'.out]; omega)
        obtain ⟨x, hx⟩ := get_ex l k (by rw [HN.out]; omega)
        obtain ⟨y, hy⟩ := get_ex l' k (by rw [HN'.out]; omega)
        have g1 := hc k x hx
        have g2 := hc' k y hy
        have HX := Lib.hid hx; clear hx hc
        have HY := Lib.hid hy; clear hy hc'
        have p1 : (0 : Int) ≤ (k : Int) := by omega
        have p2 : (k : Int) < (n : Int) := by omega
        by_cases hxy : x = y
        · subst hxy
          have HS := Lib.hid (show l.take (k + 1) = l'.take (k + 1) by rw [take_snoc' l k x HX.out, take_snoc' l' k x HY.out, HT.out])
          go_wp2_with fail
          go_quiet (fail)
          go_wp2_with fail
          (first | (refine ⟨?_, ?_⟩; rotate_left; (first | (simp [intOf]; done) | (simp [intOf]; omega)); (repeat apply Exists.intro); refine ⟨?_, rfl⟩; exact ⟨k + 1, by omega, by go_num, HS.out, m + nq, by rw [HW.out, World.drewN_drewN]⟩) | exact ⟨⟨k + 1, by omega, by go_num, HS.out, m + nq, by rw [HW.out, World.drewN_drewN]⟩, by first | (simp [intOf]; done) | (simp [intOf]; omega)⟩)
        · have HF := Lib.hid (same_at HX.out HY.out hxy)
          have q1 : (x == y) = false := by rw [beq_eq_false_iff_ne]; exact hxy
          have q2 : (x != y) = true := by rw [bne_iff_ne]; exact hxy
          go_wp2_with fail
          go_quiet (fail)
          go_wp2_with fail
          go_ret
          exact ⟨ret_bool HF.out.symm, m + nq, by rw [HW.out, World.drewN_drewN]⟩
      · have hkn : k = n := by omega
        subst hkn
        have HF := Lib.hid (same_yes HN.out HN'.out HT.out)
        go_wp2_with fail
        go_ret
        exact ⟨ret_bool HF.out.symm, m, HW.out⟩
  · have HF := Lib.hid (same_no (l := l) (l' := l') (by rw [HN.out, HN'.out]; exact hl))
    have q1 : ((n : Int) == (n' : Int)) = false := by rw [beq_eq_false_iff_ne]; omega
    have q2 : ((n : Int) != (n' : Int)) = true := by rw [bne_iff_ne]; omega
    have q3 : (n == n') = false := by rw [beq_eq_false_iff_ne]; exact hl
    have q4 : (n != n') = true := by rw [bne_iff_ne]; exact hl
    go_enter Try.func44, Try.ntmps44
    go_wp2_with fail
    go_ret
    exact ⟨ret_bool HF.out.symm, 0, rfl⟩

set_option maxHeartbeats 1000000 in
theorem l00Same_c (A A' : Option Addr) (n n' c c' : Nat) (l l' : List Int) (B : Nat) (w : World) (hn : l.length = n) (hn' : l'.length = n') (hm : n ≤ maxLen) (hm' : n' ≤ maxLen) (hr : Rd w B 1 icell A l) (hr' : Rd w B 1 icell A' l') :
    Calls Try.prog 42 #[.slice A n c, .slice A' n' c'] w fun e w' => e = .returned (.bool (l == l')) ∧ ∃ m, w' = w.drewN m := by
  unfold maxLen at hm hm'
  have HN := Lib.hid hn; clear hn
  have HN' := Lib.hid hn'; clear hn'
  by_cases hl : n = n'
  · subst hl
    go_enter Try.func42, Try.ntmps42
    go_wp2_with fail
    go_loopw [5] (fun i wr => ∃ k : Nat, k ≤ n ∧ i = .int .i64 k ∧ l.take k = l'.take k ∧ ∃ m, wr = w.drewN m) (fun i _ => n - (intOf i).toNat)
    case atStart => exact ⟨0, Nat.zero_le _, rfl, rfl, 0, rfl⟩
    case round =>
      obtain ⟨k, hk, rfl, ht, m, hw⟩ := hrel
      have HT := Lib.hid ht; clear ht
      have hr1 : Rd wr B 1 icell A l := by rw [hw]; exact hr
      have hr2 : Rd wr B 1 icell A' l' := by rw [hw]; exact hr'
      have HW := Lib.hid hw; clear hw
      by_cases hlt : k < n
      · obtain ⟨b, off, rfl, _, hc⟩ := hr1.ints' (by rw [HN.out]; omega)
        obtain ⟨b', off', rfl, _, hc'⟩ := hr2.ints' (by rw [HN'.out]; omega)
        obtain ⟨x, hx⟩ := get_ex l k (by rw [HN.out]; omega)
        obtain ⟨y, hy⟩ := get_ex l' k (by rw [HN'.out]; omega)
        have g1 := hc k x hx
        have g2 := hc' k y hy
        have HX := Lib.hid hx; clear hx hc
        have HY := Lib.hid hy; clear hy hc'
        have p1 : (0 : Int) ≤ (k : Int) := by omega
        have p2 : (k : Int) < (n : Int) := by omega
        by_cases hxy : x = y
        · subst hxy
          have HS := Lib.hid (show l.take (k + 1) = l'.take (k + 1) by rw [take_snoc' l k x HX.out, take_snoc' l' k x HY.out, HT.out])
          go_wp2_with fail
          go_quiet (fail)
          go_wp2_with fail
          (first | (refine ⟨?_, ?_⟩; rotate_left; (first | (simp [intOf]; done) | (simp [intOf]; omega)); (repeat apply Exists.intro); refine ⟨?_, rfl⟩; exact ⟨k + 1, by omega, by go_num, HS.out, m + nq, by rw [HW.out, World.drewN_drewN]⟩) | exact ⟨⟨k + 1, by omega, by go_num, HS.out, m + nq, by rw [HW.out, World.drewN_drewN]⟩, by first | (simp [intOf]; done) | (simp [intOf]; omega)⟩)
        · have HF := Lib.hid (same_at HX.out HY.out hxy)
          have q1 : (x == y) = false := by rw [beq_eq_false_iff_ne]; exact hxy
          have q2 : (x != y) = true := by rw [bne_iff_ne]; exact hxy
          go_wp2_with fail
          go_quiet (fail)
          go_wp2_with fail
          go_ret
          exact ⟨ret_bool HF.out.symm, m + nq, by rw [HW.out, World.drewN_drewN]⟩
      · have hkn : k = n := by omega
        subst hkn
        have HF := Lib.hid (same_yes HN.out HN'.out HT.out)
        go_wp2_with fail
        go_ret
        exact ⟨ret_bool HF.out.symm, m, HW.out⟩
  · have HF := Lib.hid (same_no (l := l) (l' := l') (by rw [HN.out, HN'.out]; exact hl))
    have q1 : ((n : Int) == (n' : Int)) = false := by rw [beq_eq_false_iff_ne]; omega
    have q2 : ((n : Int) != (n' : Int)) = true := by rw [bne_iff_ne]; omega
    have q3 : (n == n') = false := by rw [beq_eq_false_iff_ne]; exact hl
    have q4 : (n != n') = true := by rw [bne_iff_ne]; exact hl
    go_enter Try.func42, Try.ntmps42
    go_wp2_with fail
    go_ret
    exact ⟨ret_bool HF.out.symm, 0, rfl⟩

def jobEq (x y : JobD) : Bool := (x.name.toList == y.name.toList) && (x.days == y.days) && (x.cost == y.cost) && (x.needs == y.needs)
def sameJ (l l' : List JobD) : Bool := decide (l.length = l'.length) && (List.range l.length).all fun i => jobEq (getJ l i) (getJ l' i)
theorem sameJ_no {l l' : List JobD} (h : ¬ l.length = l'.length) : sameJ l l' = false := by unfold sameJ; rw [decide_eq_false h]; rfl
theorem sameJ_at {l l' : List JobD} {k : Nat} (hk : k < l.length) (h : jobEq (getJ l k) (getJ l' k) = false) : sameJ l l' = false := by unfold sameJ; rw [all_range_no _ _ k hk h, Bool.and_false]
theorem sameJ_yes {l l' : List JobD} {n : Nat} (h1 : l.length = n) (h2 : l'.length = n) (h : ((List.range n).all fun i => jobEq (getJ l i) (getJ l' i)) = true) : sameJ l l' = true := by unfold sameJ; rw [h1, h2, h, decide_eq_true rfl]; rfl

set_option maxHeartbeats 4000000 in
theorem SameJobsI_c (A : Option Addr) (n c : Nat) (l : List JobD) (A' : Option Addr) (n' c' : Nat) (l' : List JobD) (w : World) (hn : l.length = n) (hm : n ≤ 1048576) (hr : JRd w w.heap.size A l) (ok : ∀ d ∈ l, okJD d) (hn' : l'.length = n') (hm' : n' ≤ 1048576) (hr' : JRd w w.heap.size A' l') (ok' : ∀ d ∈ l', okJD d) :
    Calls Try.prog 16 #[.slice A n c, .slice A' n' c'] w fun e w' => e = .returned (.bool (sameJ l l')) ∧ Below w.heap.size w w' := by
  have HN := Lib.hid hn; clear hn
  have HN' := Lib.hid hn'; clear hn'
  by_cases hl : n = n'
  rotate_left
  · have HF := Lib.hid (sameJ_no (l := l) (l' := l') (by rw [HN.out, HN'.out]; exact hl))
    have q1 : ((n : Int) == (n' : Int)) = false := by rw [beq_eq_false_iff_ne]; omega
    have q2 : ((n : Int) != (n' : Int)) = true := by rw [bne_iff_ne]; omega
    have q3 : (n == n') = false := by rw [beq_eq_false_iff_ne]; exact hl
    have q4 : (n != n') = true := by rw [bne_iff_ne]; exact hl
    go_enter Try.func16, Try.ntmps16
    go_wp2_with fail
    go_ret
    exact ⟨ret_bool HF.out.symm, Below.refl _ _⟩
  subst hl
  go_enter Try.func16, Try.ntmps16
  go_wp2_with fail
  go_loopw [14] (fun i wr => ∃ k : Nat, k ≤ n ∧ i = .int .i64 k ∧ ((List.range k).all fun i => jobEq (getJ l i) (getJ l' i)) = true ∧ Below w.heap.size w wr) (fun i _ => n - (intOf i).toNat)
  case atStart => exact ⟨0, Nat.zero_le _, rfl, by simp, Below.refl _ _⟩
  case round =>
    obtain ⟨k, hk, rfl, ha, hb0⟩ := hrel
    have HA := Lib.hid ha; clear ha
    have hbs := hb0.size
    by_cases hlt : k < n
    · obtain ⟨b, off, rfl, hbl, hc⟩ := (hr.below hb0) (by rw [HN.out]; omega)
      obtain ⟨b', off', rfl, hbl', hc'⟩ := (hr'.below hb0) (by rw [HN'.out]; omega)
      obtain ⟨x, hx⟩ := get_ex l k (by rw [HN.out]; omega)
      obtain ⟨y, hy⟩ := get_ex l' k (by rw [HN'.out]; omega)
      have HDX := Lib.hid (ok x (List.mem_of_getElem? hx))
      have HDY := Lib.hid (ok' y (List.mem_of_getElem? hy))
      obtain ⟨g0, g1, g2, An, cn, g3, g4⟩ := hc k x hx
      obtain ⟨m0, m1, m2, Am, cm, m3, m4⟩ := hc' k y hy
      have HG4 := Lib.hid g4; clear g4
      have HM4 := Lib.hid m4; clear m4
      have HGX := Lib.hid (getJ_eq hx); clear hx hc
      have HGY := Lib.hid (getJ_eq hy); clear hy hc'
      have hf1 := far (show b < wr.heap.size by omega)
      have hf2 := far (show b' < wr.heap.size by omega)
      have p1 : (0 : Int) ≤ (k : Int) := by omega
      have p2 : (k : Int) < (n : Int) := by omega
      cases h1 : (x.name.toList == y.name.toList)
      · have HF := Lib.hid (sameJ_at (l := l) (l' := l') (k := k) (by rw [HN.out]; exact hlt) (by rw [HGX.out, HGY.out]; unfold jobEq; rw [h1]; rfl))
        go_wp2_with fail
        (refine wp_region_quiet_below (by kernel_rfl) (by kernel_rfl) ?_; (repeat (go_big_quiet_step (first | fail))); refine wpQuiet_nil ?_; refine qg_end ?_; intro wq hbq)
        go_wp2_with fail
        go_ret
        exact ⟨ret_bool HF.out.symm, by (repeat' (first | (with_reducible exact Below.refl _ _) | (with_reducible assumption) | (with_reducible refine below_drewN ?_ _) | (with_reducible refine Below.drew ?_) | (with_reducible refine Below.alloc ?_ ?_ _) | (with_reducible refine Below.setCell ?_ ?_ _) | (with_reducible refine via (by with_reducible assumption) ?_ ?_) | go_size))⟩
      cases h2 : (x.days == y.days)
      · have HF := Lib.hid (sameJ_at (l := l) (l' := l') (k := k) (by rw [HN.out]; exact hlt) (by rw [HGX.out, HGY.out]; unfold jobEq; rw [h1, h2]; simp))
        have h2b : (x.days != y.days) = true := by unfold bne; rw [h2]; rfl
        go_wp2_with fail
        (refine wp_region_quiet_below (by kernel_rfl) (by kernel_rfl) ?_; (repeat (go_big_quiet_step (first | fail))); refine wpQuiet_nil ?_; refine qg_end ?_; intro wq hbq)
        go_wp2_with fail
        go_ret
        exact ⟨ret_bool HF.out.symm, by (repeat' (first | (with_reducible exact Below.refl _ _) | (with_reducible assumption) | (with_reducible refine below_drewN ?_ _) | (with_reducible refine Below.drew ?_) | (with_reducible refine Below.alloc ?_ ?_ _) | (with_reducible refine Below.setCell ?_ ?_ _) | (with_reducible refine via (by with_reducible assumption) ?_ ?_) | go_size))⟩
      have h2b : (x.days != y.days) = false := by unfold bne; rw [h2]; rfl
      cases h3 : (x.cost == y.cost)
      · have HF := Lib.hid (sameJ_at (l := l) (l' := l') (k := k) (by rw [HN.out]; exact hlt) (by rw [HGX.out, HGY.out]; unfold jobEq; rw [h1, h2, h3]; simp))
        have h3b : (x.cost != y.cost) = true := by unfold bne; rw [h3]; rfl
        go_wp2_with fail
        (refine wp_region_quiet_below (by kernel_rfl) (by kernel_rfl) ?_; (repeat (go_big_quiet_step (first | fail))); refine wpQuiet_nil ?_; refine qg_end ?_; intro wq hbq)
        go_wp2_with fail
        go_ret
        exact ⟨ret_bool HF.out.symm, by (repeat' (first | (with_reducible exact Below.refl _ _) | (with_reducible assumption) | (with_reducible refine below_drewN ?_ _) | (with_reducible refine Below.drew ?_) | (with_reducible refine Below.alloc ?_ ?_ _) | (with_reducible refine Below.setCell ?_ ?_ _) | (with_reducible refine via (by with_reducible assumption) ?_ ?_) | go_size))⟩
      have h3b : (x.cost != y.cost) = false := by unfold bne; rw [h3]; rfl
      cases h4 : (x.needs == y.needs)
      · have HF := Lib.hid (sameJ_at (l := l) (l' := l') (k := k) (by rw [HN.out]; exact hlt) (by rw [HGX.out, HGY.out]; unfold jobEq; rw [h1, h2, h3, h4]; simp))
        go_wp2_with fail
        (refine wp_region_quiet_below (by kernel_rfl) (by kernel_rfl) ?_; (repeat (go_big_quiet_step (first | ((go_at_call 44; exact rg_of (fun w' hb => to_below (retb (sameNumbers_c An Am x.needs.length y.needs.length cn cm x.needs y.needs w.heap.size w' rfl rfl HDX.out.2 HDY.out.2 (HG4.out.below (by (repeat' (first | (with_reducible exact Below.refl _ _) | (with_reducible assumption) | (with_reducible refine below_drewN ?_ _) | (with_reducible refine Below.drew ?_) | (with_reducible refine Below.alloc ?_ ?_ _) | (with_reducible refine Below.setCell ?_ ?_ _) | (with_reducible refine via (by with_reducible assumption) ?_ ?_) | go_size)))) (HM4.out.below (by (repeat' (first | (with_reducible exact Below.refl _ _) | (with_reducible assumption) | (with_reducible refine below_drewN ?_ _) | (with_reducible refine Below.drew ?_) | (with_reducible refine Below.alloc ?_ ?_ _) | (with_reducible refine Below.setCell ?_ ?_ _) | (with_reducible refine via (by with_reducible assumption) ?_ ?_) | go_size))))) h4))))))); refine wpQuiet_nil ?_; refine qg_end ?_; intro wq hbq)
        go_wp2_with fail
        go_ret
        exact ⟨ret_bool HF.out.symm, by (repeat' (first | (with_reducible exact Below.refl _ _) | (with_reducible assumption) | (with_reducible refine below_drewN ?_ _) | (with_reducible refine Below.drew ?_) | (with_reducible refine Below.alloc ?_ ?_ _) | (with_reducible refine Below.setCell ?_ ?_ _) | (with_reducible refine via (by with_reducible assumption) ?_ ?_) | go_size))⟩
      have HS := Lib.hid (all_range_succ _ k HA.out (show jobEq (getJ l k) (getJ l' k) = true by rw [HGX.out, HGY.out]; unfold jobEq; rw [h1, h2, h3, h4]; rfl))
      go_wp2_with fail
      (refine wp_region_quiet_below (by kernel_rfl) (by kernel_rfl) ?_; (repeat (go_big_quiet_step (first | ((go_at_call 44; exact rg_of (fun w' hb => to_below (retb (sameNumbers_c An Am x.needs.length y.needs.length cn cm x.needs y.needs w.heap.size w' rfl rfl HDX.out.2 HDY.out.2 (HG4.out.below (by (repeat' (first | (with_reducible exact Below.refl _ _) | (with_reducible assumption) | (with_reducible refine below_drewN ?_ _) | (with_reducible refine Below.drew ?_) | (with_reducible refine Below.alloc ?_ ?_ _) | (with_reducible refine Below.setCell ?_ ?_ _) | (with_reducible refine via (by with_reducible assumption) ?_ ?_) | go_size)))) (HM4.out.below (by (repeat' (first | (with_reducible exact Below.refl _ _) | (with_reducible assumption) | (with_reducible refine below_drewN ?_ _) | (with_reducible refine Below.drew ?_) | (with_reducible refine Below.alloc ?_ ?_ _) | (with_reducible refine Below.setCell ?_ ?_ _) | (with_reducible refine via (by with_reducible assumption) ?_ ?_) | go_size))))) h4))))))); refine wpQuiet_nil ?_; refine qg_end ?_; intro wq hbq)
      go_wp2_with fail
      (first | (refine ⟨?_, ?_⟩; rotate_left; (first | (simp [intOf]; done) | (simp [intOf]; omega)); (repeat apply Exists.intro); refine ⟨?_, rfl⟩; exact ⟨k + 1, by omega, by go_num, HS.out, by (repeat' (first | (with_reducible exact Below.refl _ _) | (with_reducible assumption) | (with_reducible refine below_drewN ?_ _) | (with_reducible refine Below.drew ?_) | (with_reducible refine Below.alloc ?_ ?_ _) | (with_reducible refine Below.setCell ?_ ?_ _) | (with_reducible refine via (by with_reducible assumption) ?_ ?_) | go_size))⟩) | exact ⟨⟨k + 1, by omega, by go_num, HS.out, by (repeat' (first | (with_reducible exact Below.refl _ _) | (with_reducible assumption) | (with_reducible refine below_drewN ?_ _) | (with_reducible refine Below.drew ?_) | (with_reducible refine Below.alloc ?_ ?_ _) | (with_reducible refine Below.setCell ?_ ?_ _) | (with_reducible refine via (by with_reducible assumption) ?_ ?_) | go_size))⟩, by first | (simp [intOf]; done) | (simp [intOf]; omega)⟩)
    · have hkn : k = n := by omega
      subst hkn
      have HF := Lib.hid (sameJ_yes HN.out HN'.out HA.out)
      go_wp2_with fail
      go_ret
      exact ⟨ret_bool HF.out.symm, hb0⟩

set_option maxHeartbeats 4000000 in
theorem SameJobsS_c (A : Option Addr) (n c : Nat) (l : List JobD) (A' : Option Addr) (n' c' : Nat) (l' : List JobD) (w : World) (hn : l.length = n) (hm : n ≤ 1048576) (hr : JRd w w.heap.size A l) (ok : ∀ d ∈ l, okJD d) (hn' : l'.length = n') (hm' : n' ≤ 1048576) (hr' : JRd w w.heap.size A' l') (ok' : ∀ d ∈ l', okJD d) :
    Calls Try.prog 14 #[.slice A n c, .slice A' n' c'] w fun e w' => e = .returned (.bool (sameJ l l')) ∧ Below w.heap.size w w' := by
  have HN := Lib.hid hn; clear hn
  have HN' := Lib.hid hn'; clear hn'
  by_cases hl : n = n'
  rotate_left
  · have HF := Lib.hid (sameJ_no (l := l) (l' := l') (by rw [HN.out, HN'.out]; exact hl))
    have q1 : ((n : Int) == (n' : Int)) = false := by rw [beq_eq_false_iff_ne]; omega
    have q2 : ((n : Int) != (n' : Int)) = true := by rw [bne_iff_ne]; omega
    have q3 : (n == n') = false := by rw [beq_eq_false_iff_ne]; exact hl
    have q4 : (n != n') = true := by rw [bne_iff_ne]; exact hl
    go_enter Try.func14, Try.ntmps14
    go_wp2_with fail
    go_ret
    exact ⟨ret_bool HF.out.symm, Below.refl _ _⟩
  subst hl
  go_enter Try.func14, Try.ntmps14
  go_wp2_with fail
  go_loopw [5] (fun i wr => ∃ k : Nat, k ≤ n ∧ i = .int .i64 k ∧ ((List.range k).all fun i => jobEq (getJ l i) (getJ l' i)) = true ∧ Below w.heap.size w wr) (fun i _ => n - (intOf i).toNat)
  case atStart => exact ⟨0, Nat.zero_le _, rfl, by simp, Below.refl _ _⟩
  case round =>
    obtain ⟨k, hk, rfl, ha, hb0⟩ := hrel
    have HA := Lib.hid ha; clear ha
    have hbs := hb0.size
    by_cases hlt : k < n
    · obtain ⟨b, off, rfl, hbl, hc⟩ := (hr.below hb0) (by rw [HN.out]; omega)
      obtain ⟨b', off', rfl, hbl', hc'⟩ := (hr'.below hb0) (by rw [HN'.out]; omega)
      obtain ⟨x, hx⟩ := get_ex l k (by rw [HN.out]; omega)
      obtain ⟨y, hy⟩ := get_ex l' k (by rw [HN'.out]; omega)
      have HDX := Lib.hid (ok x (List.mem_of_getElem? hx))
      have HDY := Lib.hid (ok' y (List.mem_of_getElem? hy))
      obtain ⟨g0, g1, g2, An, cn, g3, g4⟩ := hc k x hx
      obtain ⟨m0, m1, m2, Am, cm, m3, m4⟩ := hc' k y hy
      have HG4 := Lib.hid g4; clear g4
      have HM4 := Lib.hid m4; clear m4
      have HGX := Lib.hid (getJ_eq hx); clear hx hc
      have HGY := Lib.hid (getJ_eq hy); clear hy hc'
      have hf1 := far (show b < wr.heap.size by omega)
      have hf2 := far (show b' < wr.heap.size by omega)
      have p1 : (0 : Int) ≤ (k : Int) := by omega
      have p2 : (k : Int) < (n : Int) := by omega
      cases h1 : (x.name.toList == y.name.toList)
      · have HF := Lib.hid (sameJ_at (l := l) (l' := l') (k := k) (by rw [HN.out]; exact hlt) (by rw [HGX.out, HGY.out]; unfold jobEq; rw [h1]; rfl))
        go_wp2_with fail
        (refine wp_region_quiet_below (by kernel_rfl) (by kernel_rfl) ?_; (repeat (go_big_quiet_step (first | fail))); refine wpQuiet_nil ?_; refine qg_end ?_; intro wq hbq)
        go_wp2_with fail
        go_ret
        exact ⟨ret_bool HF.out.symm, by (repeat' (first | (with_reducible exact Below.refl _ _) | (with_reducible assumption) | (with_reducible refine below_drewN ?_ _) | (with_reducible refine Below.drew ?_) | (with_reducible refine Below.alloc ?_ ?_ _) | (with_reducible refine Below.setCell ?_ ?_ _) | (with_reducible refine via (by with_reducible assumption) ?_ ?_) | go_size))⟩
      cases h2 : (x.days == y.days)
      · have HF := Lib.hid (sameJ_at (l := l) (l' := l') (k := k) (by rw [HN.out]; exact hlt) (by rw [HGX.out, HGY.out]; unfold jobEq; rw [h1, h2]; simp))
        have h2b : (x.days != y.days) = true := by unfold bne; rw [h2]; rfl
        go_wp2_with fail
        (refine wp_region_quiet_below (by kernel_rfl) (by kernel_rfl) ?_; (repeat (go_big_quiet_step (first | fail))); refine wpQuiet_nil ?_; refine qg_end ?_; intro wq hbq)
        go_wp2_with fail
        go_ret
        exact ⟨ret_bool HF.out.symm, by (repeat' (first | (with_reducible exact Below.refl _ _) | (with_reducible assumption) | (with_reducible refine below_drewN ?_ _) | (with_reducible refine Below.drew ?_) | (with_reducible refine Below.alloc ?_ ?_ _) | (with_reducible refine Below.setCell ?_ ?_ _) | (with_reducible refine via (by with_reducible assumption) ?_ ?_) | go_size))⟩
      have h2b : (x.days != y.days) = false := by unfold bne; rw [h2]; rfl
      cases h3 : (x.cost == y.cost)
      · have HF := Lib.hid (sameJ_at (l := l) (l' := l') (k := k) (by rw [HN.out]; exact hlt) (by rw [HGX.out, HGY.out]; unfold jobEq; rw [h1, h2, h3]; simp))
        have h3b : (x.cost != y.cost) = true := by unfold bne; rw [h3]; rfl
        go_wp2_with fail
        (refine wp_region_quiet_below (by kernel_rfl) (by kernel_rfl) ?_; (repeat (go_big_quiet_step (first | fail))); refine wpQuiet_nil ?_; refine qg_end ?_; intro wq hbq)
        go_wp2_with fail
        go_ret
        exact ⟨ret_bool HF.out.symm, by (repeat' (first | (with_reducible exact Below.refl _ _) | (with_reducible assumption) | (with_reducible refine below_drewN ?_ _) | (with_reducible refine Below.drew ?_) | (with_reducible refine Below.alloc ?_ ?_ _) | (with_reducible refine Below.setCell ?_ ?_ _) | (with_reducible refine via (by with_reducible assumption) ?_ ?_) | go_size))⟩
      have h3b : (x.cost != y.cost) = false := by unfold bne; rw [h3]; rfl
      cases h4 : (x.needs == y.needs)
      · have HF := Lib.hid (sameJ_at (l := l) (l' := l') (k := k) (by rw [HN.out]; exact hlt) (by rw [HGX.out, HGY.out]; unfold jobEq; rw [h1, h2, h3, h4]; simp))
        go_wp2_with fail
        (refine wp_region_quiet_below (by kernel_rfl) (by kernel_rfl) ?_; (repeat (go_big_quiet_step (first | ((go_at_call 42; exact rg_of (fun w' hb => to_below (retb (l00Same_c An Am x.needs.length y.needs.length cn cm x.needs y.needs w.heap.size w' rfl rfl HDX.out.2 HDY.out.2 (HG4.out.below (by (repeat' (first | (with_reducible exact Below.refl _ _) | (with_reducible assumption) | (with_reducible refine below_drewN ?_ _) | (with_reducible refine Below.drew ?_) | (with_reducible refine Below.alloc ?_ ?_ _) | (with_reducible refine Below.setCell ?_ ?_ _) | (with_reducible refine via (by with_reducible assumption) ?_ ?_) | go_size)))) (HM4.out.below (by (repeat' (first | (with_reducible exact Below.refl _ _) | (with_reducible assumption) | (with_reducible refine below_drewN ?_ _) | (with_reducible refine Below.drew ?_) | (with_reducible refine Below.alloc ?_ ?_ _) | (with_reducible refine Below.setCell ?_ ?_ _) | (with_reducible refine via (by with_reducible assumption) ?_ ?_) | go_size))))) h4))))))); refine wpQuiet_nil ?_; refine qg_end ?_; intro wq hbq)
        go_wp2_with fail
        go_ret
        exact ⟨ret_bool HF.out.symm, by (repeat' (first | (with_reducible exact Below.refl _ _) | (with_reducible assumption) | (with_reducible refine below_drewN ?_ _) | (with_reducible refine Below.drew ?_) | (with_reducible refine Below.alloc ?_ ?_ _) | (with_reducible refine Below.setCell ?_ ?_ _) | (with_reducible refine via (by with_reducible assumption) ?_ ?_) | go_size))⟩
      have HS := Lib.hid (all_range_succ _ k HA.out (show jobEq (getJ l k) (getJ l' k) = true by rw [HGX.out, HGY.out]; unfold jobEq; rw [h1, h2, h3, h4]; rfl))
      go_wp2_with fail
      (refine wp_region_quiet_below (by kernel_rfl) (by kernel_rfl) ?_; (repeat (go_big_quiet_step (first | ((go_at_call 42; exact rg_of (fun w' hb => to_below (retb (l00Same_c An Am x.needs.length y.needs.length cn cm x.needs y.needs w.heap.size w' rfl rfl HDX.out.2 HDY.out.2 (HG4.out.below (by (repeat' (first | (with_reducible exact Below.refl _ _) | (with_reducible assumption) | (with_reducible refine below_drewN ?_ _) | (with_reducible refine Below.drew ?_) | (with_reducible refine Below.alloc ?_ ?_ _) | (with_reducible refine Below.setCell ?_ ?_ _) | (with_reducible refine via (by with_reducible assumption) ?_ ?_) | go_size)))) (HM4.out.below (by (repeat' (first | (with_reducible exact Below.refl _ _) | (with_reducible assumption) | (with_reducible refine below_drewN ?_ _) | (with_reducible refine Below.drew ?_) | (with_reducible refine Below.alloc ?_ ?_ _) | (with_reducible refine Below.setCell ?_ ?_ _) | (with_reducible refine via (by with_reducible assumption) ?_ ?_) | go_size))))) h4))))))); refine wpQuiet_nil ?_; refine qg_end ?_; intro wq hbq)
      go_wp2_with fail
      (first | (refine ⟨?_, ?_⟩; rotate_left; (first | (simp [intOf]; done) | (simp [intOf]; omega)); (repeat apply Exists.intro); refine ⟨?_, rfl⟩; exact ⟨k + 1, by omega, by go_num, HS.out, by (repeat' (first | (with_reducible exact Below.refl _ _) | (with_reducible assumption) | (with_reducible refine below_drewN ?_ _) | (with_reducible refine Below.drew ?_) | (with_reducible refine Below.alloc ?_ ?_ _) | (with_reducible refine Below.setCell ?_ ?_ _) | (with_reducible refine via (by with_reducible assumption) ?_ ?_) | go_size))⟩) | exact ⟨⟨k + 1, by omega, by go_num, HS.out, by (repeat' (first | (with_reducible exact Below.refl _ _) | (with_reducible assumption) | (with_reducible refine below_drewN ?_ _) | (with_reducible refine Below.drew ?_) | (with_reducible refine Below.alloc ?_ ?_ _) | (with_reducible refine Below.setCell ?_ ?_ _) | (with_reducible refine via (by with_reducible assumption) ?_ ?_) | go_size))⟩, by first | (simp [intOf]; done) | (simp [intOf]; omega)⟩)
    · have hkn : k = n := by omega
      subst hkn
      have HF := Lib.hid (sameJ_yes HN.out HN'.out HA.out)
      go_wp2_with fail
      go_ret
      exact ⟨ret_bool HF.out.symm, hb0⟩

end Go.Proofs.Ytpdmfnfmlcjobaa
