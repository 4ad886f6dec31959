/- Contracts: lists of numbers compared, jobs compared. -/
import Derived.Test.YtaebofpgdonnbaaJobs2
set_option linter.unusedVariables false
set_option linter.unusedSimpArgs false
namespace Go.Proofs.Ytaebofpgdonnbaa
open Go.RowKit

theorem same_no {l l' : List Int} (h : ¬ l.length = l'.length) : (l == l') = false := by
  rw [beq_eq_false_iff_ne]
  intro e
  exact h (by rw [e])
theorem same_at {l l' : List Int} {k : Nat} {x y : Int} (hx : l[k]? = some x) (hy : l'[k]? = some y) (h : ¬ x = y) : (l == l') = false := by
  rw [beq_eq_false_iff_ne]
  intro e
  rw [e, hy] at hx
  injection hx with hx
  exact h hx.symm
theorem same_yes {l l' : List Int} {n : Nat} (h1 : l.length = n) (h2 : l'.length = n) (h : l.take n = l'.take n) : (l == l') = true := by
  rw [List.take_of_length_le (by omega), List.take_of_length_le (by omega)] at h
  rw [h]
  exact beq_self_eq_true _

set_option maxHeartbeats 1000000 in
theorem sameNumbers_c (A A' : Option Addr) (n n' c c' : Nat) (l l' : List Int) (B : Nat) (w : World) (hn : l.length = n) (hn' : l'.length = n') (hm : n ≤ maxLen) (hm' : n' ≤ maxLen) (hr : Rd w B 1 icell A l) (hr' : Rd w B 1 icell A' l') :
    Calls Try.prog 59 #[.slice A n c, .slice A' n' c'] w fun e w' => e = .returned (.bool (l == l')) ∧ ∃ m, w' = w.drewN m := by
  unfold maxLen at hm hm'
  have HN := Lib.hid hn; clear hn
  have HN' := Lib.hid hn'; clear hn'
  by_cases hl : n = n'
  · subst hl
    go_enter Try.func59, Try.ntmps59
    go_wp2_with fail
    go_loopw [13] (fun i wr => ∃ k : Nat, k ≤ n ∧ i = .int .i64 k ∧ l.take k = l'.take k ∧ ∃ m, wr = w.drewN m) (fun i _ => n - (intOf i).toNat)
    case atStart => exact ⟨0, Nat.zero_le _, rfl, rfl, 0, rfl⟩
    case round =>
      obtain ⟨k, hk, rfl, ht, m, hw⟩ := hrel
      have HT := Lib.hid ht; clear ht
      have hr1 : Rd wr B 1 icell A l := by rw [hw]; exact hr
      have hr2 : Rd wr B 1 icell A' l' := by rw [hw]; exact hr'
      have HW := Lib.hid hw; clear hw
      by_cases hlt : k < n
      · obtain ⟨b, off, rfl, _, hc⟩ := hr1.ints' (by rw [HN.out]; omega)
        obtain ⟨b', off', rfl, _, hc'⟩ := hr2.ints' (by rw [HN'.out]; omega)
        obtain ⟨x, hx⟩ := get_ex l k (by rw [HN.out]; omega)
        obtain ⟨y, hy⟩ := get_ex l' k (by rw [HN'.out]; omega)
        have g1 := hc k x hx
        have g2 := hc' k y hy
        have HX := Lib.hid hx; clear hx hc
        have HY := Lib.hid hy; clear hy hc'
        have p1 : (0 : Int) ≤ (k : Int) := by omega
        have p2 : (k : Int) < (n : Int) := by omega
        by_cases hxy : x = y
        · subst hxy
          have HS := Lib.hid (show l.take (k + 1) = l'.take (k + 1) by rw [take_snoc' l k x HX.out, take_snoc' l' k x HY.out, HT.out])
          go_wp2_with fail
          go_quiet (fail)
          go_wp2_with fail
          (first | (refine ⟨?_, ?_⟩; rotate_left; (first | (simp [intOf]; done) | (simp [intOf]; omega)); (repeat apply Exists.intro); refine ⟨?_, rfl⟩; exact ⟨k + 1, by omega, by go_num, HS.out, m + nq, by rw [HW.out, World.drewN_drewN]⟩) | exact ⟨⟨k + 1, by omega, by go_num, HS.out, m + nq, by rw [HW.out, World.drewN_drewN]⟩, by first | (simp [intOf]; done) | (simp [intOf]; omega)⟩)
        · have HF := Lib.hid (same_at HX.out HY.out hxy)
          have q1 : (x == y) = false := by rw [beq_eq_false_iff_ne]; exact hxy
          have q2 : (x != y) = true := by rw [bne_iff_ne]; exact hxy
          go_wp2_with fail
          go_quiet (fail)
          go_wp2_with fail
          go_ret
          exact ⟨ret_bool HF.out.symm, m + nq, by rw [HW.out, World.drewN_drewN]⟩
      · have hkn : k = n := by omega
        subst hkn
        have HF := Lib.hid (same_yes HN.out HN'.out HT.out)
        go_wp2_with fail
        go_ret
        exact ⟨ret_bool HF.out.symm, m, HW.out⟩
  · have HF := Lib.hid (same_no (l := l) (l' := l') (by rw [HN.out, HN'.out]; exact hl))
    have q1 : ((n : Int) == (n' : Int)) = false := by rw [beq_eq_false_iff_ne]; omega
    have q2 : ((n : Int) != (n' : Int)) = true := by rw [bne_iff_ne]; omega
    have q3 : (n == n') = false := by rw [beq_eq_false_iff_ne]; exact hl
    have q4 : (n != n') = true := by rw [bne_iff_ne]; exact hl
    go_enter Try.func59, Try.ntmps59
    go_wp2_with fail
    go_ret
    exact ⟨ret_bool HF.out.symm, 0, rfl⟩

set_option maxHeartbeats 1000000 in
theorem l00Same_c (A A' : Option Addr) (n n' c c' : Nat) (l l' : List Int) (B : Nat) (w : World) (hn : l.length = n) (hn' : l'.length = n') (hm : n ≤ maxLen) (hm' : n' ≤ maxLen) (hr : Rd w B 1 icell A l) (hr' : Rd w B 1 icell A' l') :
    Calls Try.prog 58 #[.slice A n c, .slice A' n' c'] w fun e w' => e = .returned (.bool (l == l')) ∧ ∃ m, w' = w.drewN m := by
  unfold maxLen at hm hm'
  have HN := Lib.hid hn; clear hn
  have HN' := Lib.hid hn'; clear hn'
  by_cases hl : n = n'
  · subst hl
    go_enter Try.func58, Try.ntmps58
    go_wp2_with fail
    go_loopw [5] (fun i wr => ∃ k : Nat, k ≤ n ∧ i = .int .i64 k ∧ l.take k = l'.take k ∧ ∃ m, wr = w.drewN m) (fun i _ => n - (intOf i).toNat)
    case atStart => exact ⟨0, Nat.zero_le _, rfl, rfl, 0, rfl⟩
    case round =>
      obtain ⟨k, hk, rfl, ht, m, hw⟩ := hrel
      have HT := Lib.hid ht; clear ht
      have hr1 : Rd wr B 1 icell A l := by rw [hw]; exact hr
      have hr2 : Rd wr B 1 icell A' l' := by rw [hw]; exact hr'
      have HW := Lib.hid hw; clear hw
      by_cases hlt : k < n
      · obtain ⟨b, off, rfl, _, hc⟩ := hr1.ints' (by rw [HN.out]; omega)
        obtain ⟨b', off', rfl, _, hc'⟩ := hr2.ints' (by rw [HN'.out]; omega)
        obtain ⟨x, hx⟩ := get_ex l k (by rw [HN.out]; omega)
        obtain ⟨y, hy⟩ := get_ex l' k (by rw [HN'.out]; omega)
        have g1 := hc k x hx
        have g2 := hc' k y hy
        have HX := Lib.hid hx; clear hx hc
        have HY := Lib.hid hy; clear hy hc'
        have p1 : (0 : Int) ≤ (k : Int) := by omega
        have p2 : (k : Int) < (n : Int) := by omega
        by_cases hxy : x = y
        · subst hxy
          have HS := Lib.hid (show l.take (k + 1) = l'.take (k + 1) by rw [take_snoc' l k x HX.out, take_snoc' l' k x HY.out, HT.out])
          go_wp2_with fail
          go_quiet (fail)
          go_wp2_with fail
          (first | (refine ⟨?_, ?_⟩; rotate_left; (first | (simp [intOf]; done) | (simp [intOf]; omega)); (repeat apply Exists.intro); refine ⟨?_, rfl⟩; exact ⟨k + 1, by omega, by go_num, HS.out, m + nq, by rw [HW.out, World.drewN_drewN]⟩) | exact ⟨⟨k + 1, by omega, by go_num, HS.out, m + nq, by rw [HW.out, World.drewN_drewN]⟩, by first | (simp [intOf]; done) | (simp [intOf]; omega)⟩)
        · have HF := Lib.hid (same_at HX.out HY.out hxy)
          have q1 : (x == y) = false := by rw [beq_eq_false_iff_ne]; exact hxy
          have q2 : (x != y) = true := by rw [bne_iff_ne]; exact hxy
          go_wp2_with fail
          go_quiet (fail)
          go_wp2_with fail
          go_ret
          exact ⟨ret_bool HF.out.symm, m + nq, by rw [HW.out, World.drewN_drewN]⟩
      · have hkn : k = n := by omega
        subst hkn
        have HF := Lib.hid (same_yes HN.out HN'.out HT.out)
        go_wp2_with fail
        go_ret
        exact ⟨ret_bool HF.out.symm, m, HW.out⟩
  · have HF := Lib.hid (same_no (l := l) (l' := l') (by rw [HN.out, HN'.out]; exact hl))
    have q1 : ((n : Int) == (n' : Int)) = false := by rw [beq_eq_false_iff_ne]; omega
    have q2 : ((n : Int) != (n' : Int)) = true := by rw [bne_iff_ne]; omega
    have q3 : (n == n') = false := by rw [beq_eq_false_iff_ne]; exact hl
    have q4 : (n != n') = true := by rw [bne_iff_ne]; exact hl
    go_enter Try.func58, Try.ntmps58
    go_wp2_with fail
    go_ret
    exact ⟨ret_bool HF.out.symm, 0, rfl⟩

def jobEq (x y : JobD) : Bool := (x.name.toList == y.name.toList) && (x.days == y.days) && (x.cost == y.cost) && (x.needs == y.needs)
def sameJ (l l' : List JobD) : Bool := decide (l.length = l'.length) && (List.range l.length).all fun i => jobEq (getJ l i) (getJ l' i)
theorem sameJ_no {l l' : List JobD} (h : ¬ l.length = l'.length) : sameJ l l' = false := by unfold sameJ; rw [decide_eq_false h]; rfl
theorem sameJ_at {l l' : List JobD} {k : Nat} (hk : k < l.length) (h : jobEq (getJ l k) (getJ l' k) = false) : sameJ l l' = false := by unfold sameJ; rw [all_range_no _ _ k hk h, Bool.and_false]
theorem sameJ_yes {l l' : List JobD} {n : Nat} (h1 : l.length = n) (h2 : l'.length = n) (h : ((List.range n).all fun i => jobEq (getJ l i) (getJ l' i)) = true) : sameJ l l' = true := by unfold sameJ; rw [h1, h2, h, decide_eq_true rfl]; rfl



end Go.Proofs.Ytaebofpgdonnbaa
