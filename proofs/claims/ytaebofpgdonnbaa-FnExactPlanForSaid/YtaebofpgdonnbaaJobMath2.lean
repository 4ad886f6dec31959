/- Plain laws of the earliest days. -/
import Derived.Test.YtaebofpgdonnbaaJobMath
set_option linter.unusedVariables false
set_option linter.unusedSimpArgs false
namespace Go.Proofs.Ytaebofpgdonnbaa

def dayF (l : List JobD) (acc : List Int) (day x : Int) : Int := max day (acc.getD x.toNat 0 + (getJ l x.toNat).days)
def dayE (l : List JobD) (acc : List Int) (k : Nat) : Int := (getJ l k).needs.foldl (dayF l acc) 0
def ear (l : List JobD) : Nat → List Int
  | 0 => []
  | k + 1 => ear l k ++ [dayE l (ear l k) k]
theorem ear_succ (l : List JobD) (k : Nat) : ear l (k + 1) = ear l k ++ [dayE l (ear l k) k] := rfl
theorem ear_len (l : List JobD) (k : Nat) : (ear l k).length = k := by
  induction k with
  | zero => rfl
  | succ k ih => rw [ear_succ, List.length_append, ih]; rfl
theorem ear_get (l : List JobD) (k j : Nat) (h : j < k) : (ear l k).getD j 0 = dayE l (ear l j) j := by
  induction k with
  | zero => omega
  | succ k ih =>
    rw [ear_succ]
    by_cases hj : j < k
    · rw [List.getD_eq_getElem?_getD, List.getElem?_append_left (by rw [ear_len]; exact hj), ← List.getD_eq_getElem?_getD]
      exact ih hj
    · obtain rfl : j = k := by omega
      rw [List.getD_eq_getElem?_getD, List.getElem?_append_right (by rw [ear_len]; exact Nat.le_refl _), ear_len]
      simp
theorem fold_bd (l : List JobD) (acc : List Int) (b : Int) : ∀ (xs : List Int) (z : Int), 0 ≤ z → z ≤ b → (∀ x ∈ xs, 0 ≤ acc.getD x.toNat 0 + (getJ l x.toNat).days ∧ acc.getD x.toNat 0 + (getJ l x.toNat).days ≤ b) → 0 ≤ xs.foldl (dayF l acc) z ∧ xs.foldl (dayF l acc) z ≤ b := by
  intro xs
  induction xs with
  | nil => intro z h0 h1 _; exact ⟨h0, h1⟩
  | cons x xs ih =>
    intro z h0 h1 h
    have hx := h x (by simp)
    rw [List.foldl_cons]
    refine ih _ ?_ ?_ fun y hy => h y (by simp [hy])
    · unfold dayF; omega
    · unfold dayF; omega
theorem ear_bd {l : List JobD} (hv : validS l = true) : ∀ k, k < l.length → 0 ≤ dayE l (ear l k) k ∧ dayE l (ear l k) k ≤ 60 * (k : Int) := by
  obtain ⟨_, hall⟩ := valid_all hv
  intro k
  induction k using Nat.strongRecOn with
  | _ k ih =>
    intro hk
    refine fold_bd l (ear l k) _ _ 0 (Int.le_refl _) (by omega) fun x hx => ?_
    obtain ⟨i, hi⟩ := List.getElem?_of_mem hx
    have hn := (hall k hk).2.2.2.2.1 i x hi
    obtain ⟨j, rfl⟩ := Int.eq_ofNat_of_zero_le hn.1
    rw [Int.toNat_natCast, ear_get l k j (by omega)]
    have h1 := ih j (by omega) (by omega)
    have h2 := hall j (by omega)
    omega
/-- what is at hand in the walk: a need x of job k -/
theorem need_at {l : List JobD} (hv : validS l = true) {k i : Nat} {x : Int} (hk : k < l.length) (hx : (getJ l k).needs[i]? = some x) : ∃ j : Nat, x = (j : Int) ∧ j < k ∧ 0 ≤ (ear l k).getD j 0 ∧ (ear l k).getD j 0 ≤ 60 * (j : Int) ∧ 1 ≤ (getJ l j).days ∧ (getJ l j).days ≤ 60 := by
  obtain ⟨_, hall⟩ := valid_all hv
  have hn := (hall k hk).2.2.2.2.1 i x hx
  obtain ⟨j, rfl⟩ := Int.eq_ofNat_of_zero_le hn.1
  have h1 := ear_bd hv j (by omega)
  have h2 := hall j (by omega)
  exact ⟨j, rfl, by omega, by rw [ear_get l k j (by omega)]; exact h1.1, by rw [ear_get l k j (by omega)]; exact h1.2, h2.1, h2.2.1⟩
theorem part_bd {l : List JobD} (hv : validS l = true) {k : Nat} (hk : k < l.length) (j : Nat) : 0 ≤ ((getJ l k).needs.take j).foldl (dayF l (ear l k)) 0 ∧ ((getJ l k).needs.take j).foldl (dayF l (ear l k)) 0 ≤ 60 * (k : Int) := by
  refine fold_bd l (ear l k) _ _ 0 (Int.le_refl _) (by omega) fun x hx => ?_
  obtain ⟨i, hi⟩ := List.getElem?_of_mem (List.mem_of_mem_take hx)
  obtain ⟨q, rfl, h1, h2, h3, h4, h5⟩ := need_at hv hk hi
  rw [Int.toNat_natCast]
  omega
def daysM (l : List JobD) : Nat → Int
  | 0 => 0
  | k + 1 => max (daysM l k) (dayE l (ear l k) k + (getJ l k).days)
theorem daysM_bd {l : List JobD} (hv : validS l = true) : ∀ k, k ≤ l.length → 0 ≤ daysM l k ∧ daysM l k ≤ 60 * (k : Int) := by
  obtain ⟨_, hall⟩ := valid_all hv
  intro k
  induction k with
  | zero => intro _; exact ⟨Int.le_refl _, Int.le_refl _⟩
  | succ k ih =>
    intro hk
    have h1 := ih (by omega)
    have h2 := ear_bd hv k (by omega)
    have h3 := hall k (by omega)
    show 0 ≤ max (daysM l k) (dayE l (ear l k) k + (getJ l k).days) ∧ max (daysM l k) (dayE l (ear l k) k + (getJ l k).days) ≤ 60 * ((k + 1 : Nat) : Int)
    omega
end Go.Proofs.Ytaebofpgdonnbaa
