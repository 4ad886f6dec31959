/- Contracts: SameLoans, both sides. -/
import Derived.Test.YtkapoanmbcopoaaLoans1
import Derived.Test.YtkapoanmbcopoaaLawCalls
set_option linter.unusedVariables false
set_option linter.unusedSimpArgs false
namespace Go.Proofs.Ytkapoanmbcopoaa
open Go.RowKit

deriving instance DecidableEq for LoanD
def sameLoanB (l l' : List LoanD) : Bool := decide (l = l')

theorem bytes_inj {a b : ByteArray} (h : a.toList = b.toList) : a = b := by
  rw [ByteArray.toList_eq, ByteArray.toList_eq] at h
  have h2 : a.data = b.data := Array.toList_inj.1 h
  cases a; cases b; simp at h2; rw [h2]

set_option maxRecDepth 100000 in
theorem neq_loan (d d' : LoanD) (h : d ≠ d') (w : World) : (binOp .neq 54 (.agg #[.string d.ex, .string d.bo, .int .i64 d.fr, .int .i64 d.to]) (.agg #[.string d'.ex, .string d'.bo, .int .i64 d'.fr, .int .i64 d'.to])).run Try.prog w = .ok (.bool true) w := by
  have hc : ¬ (d.ex.toList = d'.ex.toList ∧ d.bo.toList = d'.bo.toList ∧ d.fr = d'.fr ∧ d.to = d'.to) := fun hc => h (by
    obtain ⟨c0, c1, c2, c3⟩ := hc
    cases d; cases d'
    simp only at c0 c1 c2 c3
    simp only [LoanD.mk.injEq]
    exact ⟨bytes_inj c0, bytes_inj c1, c2, c3⟩)
  rw [run_neq_struct, run_equalIn_agg (P := Try.prog) w 9999 54 _ _ (by kernel_rfl) (by kernel_rfl)]
  simp [go_sem, Program.fieldsOf, Try.underlying54, Op.eqFields]
  intro c0 c1 c2 c3
  exact hc ⟨c0, c1, c2, c3⟩

set_option maxHeartbeats 1000000 in
theorem SameLoansS_d (A A' : Option Addr) (n n' c c' : Nat) (l l' : List LoanD) (B : Nat) (w : World) (hn : l.length = n) (hn' : l'.length = n') (hm : n ≤ maxLen) (hm' : n' ≤ maxLen) (hr : Rd w B 4 lcell A l) (hr' : Rd w B 4 lcell A' l') :
    Calls Try.prog 13 #[.slice A n c, .slice A' n' c'] w fun e w' => e = .returned (.bool (sameLoanB l l')) ∧ ∃ m, w' = w.drewN m := by
  unfold maxLen at hm hm'
  by_cases hnn : n = n'
  · subst hnn
    go_enter Try.func13, Try.ntmps13
    go_wp2
    go_loopw [5] (fun i wr => ∃ k : Nat, k ≤ n ∧ i = .int .i64 k ∧ l.take k = l'.take k ∧ ∃ m, wr = w.drewN m) (fun i _ => n - (intOf i).toNat)
    case atStart => exact ⟨0, Nat.zero_le _, rfl, by simp, 0, rfl⟩
    case round =>
      obtain ⟨k, hk, rfl, ht, m, rfl⟩ := hrel
      have HT := Lib.hid ht; clear ht
      have HN := Lib.hid hn
      have HN' := Lib.hid hn'
      by_cases hlt : k < n
      · obtain ⟨b, off, rfl, hbl, hc⟩ := hr.loan (by omega)
        obtain ⟨b', off', rfl, hbl', hc'⟩ := hr'.loan (by omega)
        obtain ⟨d, ed⟩ := get_ex l k (by omega)
        obtain ⟨d', ed'⟩ := get_ex l' k (by omega)
        obtain ⟨g0, g1, g2, g3⟩ := hc k d ed
        obtain ⟨m0, m1, m2, m3⟩ := hc' k d' ed'
        clear hc hc' hn hn'
        have HE := Lib.hid ed; clear ed
        have HE' := Lib.hid ed'; clear ed'
        have y3 : (k : Int) < (n : Int) := by omega
        have y4 : (0 : Int) ≤ (k : Int) := by omega
        by_cases hd : d = d'
        · subst hd
          go_wp2
          go_quiet (fail)
          go_wp2_with fail
          go_roundw
          case rel => exact ⟨k + 1, by omega, by go_num, by rw [take_snoc' _ _ _ HE.out, take_snoc' _ _ _ HE'.out, HT.out], m + nq, by first | rfl | rw [World.drewN_drewN]⟩
          case measure => simp [intOf]; omega
        · have hq := neq_loan d d' hd
          have HD := Lib.hid hd; clear hd
          go_wp2
          go_quiet (fail)
          go_wp2_with fail
          go_ret
          refine ⟨ret_bool ?_, m + nq, by first | rfl | rw [World.drewN_drewN]⟩
          symm
          rw [sameLoanB, decide_eq_false_iff_not]
          intro hll
          have h1 := HE.out
          rw [hll, HE'.out] at h1
          exact HD.out (by injection h1 with h1; exact h1.symm)
      · have hfin : sameLoanB l l' = true := by
          have := HT.out
          rw [List.take_of_length_le (by omega), List.take_of_length_le (by omega)] at this
          rw [sameLoanB, decide_eq_true_eq]; exact this
        have HF := Lib.hid hfin; clear hfin hn hn'
        go_wp2_with fail
        go_ret
        exact ⟨ret_bool HF.out.symm, m, rfl⟩
  · have hnf : sameLoanB l l' = false := by
      rw [sameLoanB, decide_eq_false_iff_not]
      intro h
      rw [h] at hn
      omega
    have HF := Lib.hid hnf; clear hnf
    have hne : ((n : Int) == (n' : Int)) = false := by simp; omega
    have hne' : ¬ n = n' := hnn
    clear hn hn'
    go_enter Try.func13, Try.ntmps13
    go_wp2
    go_ret
    exact ⟨ret_bool HF.out.symm, 0, rfl⟩
theorem SameLoansS_c (A : Option Addr) (n c : Nat) (l : List LoanD) (A' : Option Addr) (n' c' : Nat) (l' : List LoanD) (w : World) (hn : l.length = n) (hm : n ≤ 1048576) (hr : Rd w w.heap.size 4 lcell A l) (hn' : l'.length = n') (hm' : n' ≤ 1048576) (hr' : Rd w w.heap.size 4 lcell A' l') :
    Calls Try.prog 13 #[.slice A n c, .slice A' n' c'] w fun e w' => e = .returned (.bool (sameLoanB l l')) ∧ Below w.heap.size w w' :=
  to_below (SameLoansS_d A A' n n' c c' l l' w.heap.size w hn hn' (by unfold maxLen; omega) (by unfold maxLen; omega) hr hr')

set_option maxHeartbeats 1000000 in
theorem SameLoansI_d (A A' : Option Addr) (n n' c c' : Nat) (l l' : List LoanD) (B : Nat) (w : World) (hn : l.length = n) (hn' : l'.length = n') (hm : n ≤ maxLen) (hm' : n' ≤ maxLen) (hr : Rd w B 4 lcell A l) (hr' : Rd w B 4 lcell A' l') :
    Calls Try.prog 15 #[.slice A n c, .slice A' n' c'] w fun e w' => e = .returned (.bool (sameLoanB l l')) ∧ ∃ m, w' = w.drewN m := by
  unfold maxLen at hm hm'
  by_cases hnn : n = n'
  · subst hnn
    go_enter Try.func15, Try.ntmps15
    go_wp2
    go_loopw [13] (fun i wr => ∃ k : Nat, k ≤ n ∧ i = .int .i64 k ∧ l.take k = l'.take k ∧ ∃ m, wr = w.drewN m) (fun i _ => n - (intOf i).toNat)
    case atStart => exact ⟨0, Nat.zero_le _, rfl, by simp, 0, rfl⟩
    case round =>
      obtain ⟨k, hk, rfl, ht, m, rfl⟩ := hrel
      have HT := Lib.hid ht; clear ht
      have HN := Lib.hid hn
      have HN' := Lib.hid hn'
      by_cases hlt : k < n
      · obtain ⟨b, off, rfl, hbl, hc⟩ := hr.loan (by omega)
        obtain ⟨b', off', rfl, hbl', hc'⟩ := hr'.loan (by omega)
        obtain ⟨d, ed⟩ := get_ex l k (by omega)
        obtain ⟨d', ed'⟩ := get_ex l' k (by omega)
        obtain ⟨g0, g1, g2, g3⟩ := hc k d ed
        obtain ⟨m0, m1, m2, m3⟩ := hc' k d' ed'
        clear hc hc' hn hn'
        have HE := Lib.hid ed; clear ed
        have HE' := Lib.hid ed'; clear ed'
        have y3 : (k : Int) < (n : Int) := by omega
        have y4 : (0 : Int) ≤ (k : Int) := by omega
        by_cases hd : d = d'
        · subst hd
          go_wp2
          go_quiet (fail)
          go_wp2_with fail
          go_roundw
          case rel => exact ⟨k + 1, by omega, by go_num, by rw [take_snoc' _ _ _ HE.out, take_snoc' _ _ _ HE'.out, HT.out], m + nq, by first | rfl | rw [World.drewN_drewN]⟩
          case measure => simp [intOf]; omega
        · have hq := neq_loan d d' hd
          have HD := Lib.hid hd; clear hd
          go_wp2
          go_quiet (fail)
          go_wp2_with fail
          go_ret
          refine ⟨ret_bool ?_, m + nq, by first | rfl | rw [World.drewN_drewN]⟩
          symm
          rw [sameLoanB, decide_eq_false_iff_not]
          intro hll
          have h1 := HE.out
          rw [hll, HE'.out] at h1
          exact HD.out (by injection h1 with h1; exact h1.symm)
      · have hfin : sameLoanB l l' = true := by
          have := HT.out
          rw [List.take_of_length_le (by omega), List.take_of_length_le (by omega)] at this
          rw [sameLoanB, decide_eq_true_eq]; exact this
        have HF := Lib.hid hfin; clear hfin hn hn'
        go_wp2_with fail
        go_ret
        exact ⟨ret_bool HF.out.symm, m, rfl⟩
  · have hnf : sameLoanB l l' = false := by
      rw [sameLoanB, decide_eq_false_iff_not]
      intro h
      rw [h] at hn
      omega
    have HF := Lib.hid hnf; clear hnf
    have hne : ((n : Int) == (n' : Int)) = false := by simp; omega
    have hne' : ¬ n = n' := hnn
    clear hn hn'
    go_enter Try.func15, Try.ntmps15
    go_wp2
    go_ret
    exact ⟨ret_bool HF.out.symm, 0, rfl⟩
theorem SameLoansI_c (A : Option Addr) (n c : Nat) (l : List LoanD) (A' : Option Addr) (n' c' : Nat) (l' : List LoanD) (w : World) (hn : l.length = n) (hm : n ≤ 1048576) (hr : Rd w w.heap.size 4 lcell A l) (hn' : l'.length = n') (hm' : n' ≤ 1048576) (hr' : Rd w w.heap.size 4 lcell A' l') :
    Calls Try.prog 15 #[.slice A n c, .slice A' n' c'] w fun e w' => e = .returned (.bool (sameLoanB l l')) ∧ Below w.heap.size w w' :=
  to_below (SameLoansI_d A A' n n' c c' l l' w.heap.size w hn hn' (by unfold maxLen; omega) (by unfold maxLen; omega) hr hr')

end Go.Proofs.Ytkapoanmbcopoaa
