/- Plain laws of the search for the next job of a plan. -/
import Derived.Test.YtaebofpgdonnbaaJobs8
import Derived.Test.YtaebofpgdonnbaaJobMath4
set_option linter.unusedVariables false
set_option linter.unusedSimpArgs false
namespace Go.Proofs.Ytaebofpgdonnbaa

/-- job k can begin at a day -/
def rdyB (l : List JobD) (s : List Int) (day : Int) (k : Nat) : Bool := decide (s.getD k 0 < 0) && doneB l s (getJ l k).needs day
def candB (l : List JobD) (s ls : List Int) (day best : Int) (k : Nat) : Bool := rdyB l s day k && (decide (best < 0) || decide (ls.getD k 0 < ls.getD best.toNat 0))
def bestM (l : List JobD) (s ls : List Int) (day : Int) : Nat → Int
  | 0 => -1
  | k + 1 => if candB l s ls day (bestM l s ls day k) k = true then (k : Int) else bestM l s ls day k
theorem bestM_bd (l : List JobD) (s ls : List Int) (day : Int) (k : Nat) : -1 ≤ bestM l s ls day k ∧ bestM l s ls day k < (k : Int) := by
  induction k with
  | zero => exact ⟨Int.le_refl _, (by omega : (-1 : Int) < ((0 : Nat) : Int))⟩
  | succ k ih =>
    unfold bestM
    split
    · exact ⟨by omega, by omega⟩
    · exact ⟨ih.1, by omega⟩
theorem bestM_ready (l : List JobD) (s ls : List Int) (day : Int) (k : Nat) (h : 0 ≤ bestM l s ls day k) : rdyB l s day (bestM l s ls day k).toNat = true := by
  induction k with
  | zero => exact absurd (show (0 : Int) ≤ -1 from h) (by omega)
  | succ k ih =>
    unfold bestM at h ⊢
    split at h
    · rename_i hc
      rw [if_pos hc, Int.toNat_natCast]
      unfold candB at hc
      rw [Bool.and_eq_true] at hc
      exact hc.1
    · rename_i hc
      rw [if_neg hc]
      exact ih h
theorem bestM_none (l : List JobD) (s ls : List Int) (day : Int) (k : Nat) (h : bestM l s ls day k < 0) : ∀ j, j < k → rdyB l s day j = false := by
  induction k with
  | zero => intro j hj; omega
  | succ k ih =>
    unfold bestM at h
    split at h
    · omega
    · rename_i hc
      intro j hj
      by_cases hjk : j < k
      · exact ih h j hjk
      · obtain rfl : j = k := by omega
        cases hr : rdyB l s day j
        · rfl
        · exfalso
          apply hc
          unfold candB
          rw [hr, decide_eq_true h]
          rfl
/-- if all jobs that have begun are done, and one has not begun, a job can begin: the first that has not begun -/
theorem some_ready {l : List JobD} (hv : validS l = true) {s : List Int} {day : Int} (hd : ∀ j, j < l.length → 0 ≤ s.getD j 0 → s.getD j 0 + (getJ l j).days ≤ day) :
    ∀ k, k < l.length → s.getD k 0 < 0 → ∃ j, j ≤ k ∧ rdyB l s day j = true := by
  obtain ⟨_, hall⟩ := valid_all hv
  intro k
  induction k using Nat.strongRecOn with
  | _ k ih =>
    intro hk hs
    by_cases h : ∃ j, j < k ∧ s.getD j 0 < 0
    · obtain ⟨j, hj, hjs⟩ := h
      obtain ⟨i, hi, hr⟩ := ih j hj (by omega) hjs
      exact ⟨i, by omega, hr⟩
    · refine ⟨k, Nat.le_refl _, ?_⟩
      unfold rdyB
      rw [decide_eq_true hs, Bool.true_and]
      unfold doneB
      rw [List.all_eq_true]
      intro i hi
      have hi' := List.mem_range.1 hi
      obtain ⟨x, hx⟩ := get_ex (getJ l k).needs i hi'
      have hn := (hall k hk).2.2.2.2.1 i x hx
      obtain ⟨q, rfl⟩ := Int.eq_ofNat_of_zero_le hn.1
      rw [getD_eq hx]
      unfold rdAt
      rw [Int.toNat_natCast]
      have h0 : ¬ s.getD q 0 < 0 := fun hc => h ⟨q, by omega, hc⟩
      have h1 := hd q (by omega) (by omega)
      rw [decide_eq_false h0, decide_eq_false (by omega)]
      rfl
/-- when nothing is being done, all that has begun is done -/
theorem busy_zero {l : List JobD} {s : List Int} {day : Int} (hs : ∀ j, s.getD j 0 ≤ day) : ∀ n, busyM l s day n = 0 → ∀ j, j < n → 0 ≤ s.getD j 0 → s.getD j 0 + (getJ l j).days ≤ day := by
  intro n
  induction n with
  | zero => intro _ j hj; omega
  | succ n ih =>
    intro h j hj h0
    have hb := (busyM_bd l s day n).1
    have he : busyM l s day n + (if runB l s day n = true then 1 else 0) = 0 := h
    by_cases hr : runB l s day n = true
    · rw [if_pos hr] at he; omega
    · rw [if_neg hr] at he
      by_cases hjn : j < n
      · exact ih (by omega) j hjn h0
      · obtain rfl : j = n := by omega
        unfold runB at hr
        simp only [Bool.and_eq_true, decide_eq_true_eq] at hr
        have := hs j
        omega
end Go.Proofs.Ytaebofpgdonnbaa
