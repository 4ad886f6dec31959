/- Plain laws of the value of a polynomial at a fraction: by products that are not reduced. -/
import Derived.Test.YtphckllloiogjaaKnown
set_option linter.unusedVariables false
set_option linter.unusedSimpArgs false
namespace Go.Proofs.Ytphckllloiogjaa
open Go.RowKit

/-! ### sums of fractions over one denominator -/
theorem lcm_part (p q M : Nat) (hp : p ∣ M) (hq : q ∣ M) : p * (q / Nat.gcd p q) ∣ M := by
  have h := Nat.lcm_dvd hp hq
  rwa [Nat.lcm, Nat.mul_div_assoc _ (Nat.gcd_dvd_right p q)] at h
theorem gcd_swap (p q : Nat) (h : 0 < q) : p * (q / Nat.gcd p q) = (p / Nat.gcd p q) * q := by
  have hg : 0 < Nat.gcd p q := Nat.gcd_pos_of_pos_right p h
  obtain ⟨a, ha⟩ := Nat.gcd_dvd_left p q
  obtain ⟨b, hb⟩ := Nat.gcd_dvd_right p q
  generalize Nat.gcd p q = g at *
  rw [ha, hb, Nat.mul_div_cancel_left _ hg, Nat.mul_div_cancel_left _ hg, Nat.mul_comm g a, Nat.mul_assoc]
theorem low_dvd (X M : Int) : (low X M).2 ∣ M := ⟨(Int.gcd X M : Int), by rw [Int.mul_comm]; exact (low_den X M).symm⟩
/-- a numerator times the other denominator's part is no greater than the numerator over the common denominator -/
theorem part_le (X M q : Int) (hM : 0 < M) (hq : 0 < q) (hqd : q ∣ M) : ((low X M).1 * (q / (Int.gcd (low X M).2 q : Int))).natAbs ≤ X.natAbs ∧ 1 ≤ (low X M).2 / (Int.gcd (low X M).2 q : Int) * q ∧ (low X M).2 / (Int.gcd (low X M).2 q : Int) * q ≤ M := by
  have h1 := low_num X M
  have h2 := low_den X M
  have h3 := low_den_pos X M hM
  have h4 := low_dvd X M
  generalize (low X M).1 = a at *
  generalize (low X M).2 = p at *
  obtain ⟨P, rfl⟩ : ∃ P : Nat, p = (P : Int) := ⟨p.toNat, by omega⟩
  obtain ⟨Q, rfl⟩ : ∃ Q : Nat, q = (Q : Int) := ⟨q.toNat, by omega⟩
  obtain ⟨m, rfl⟩ : ∃ m : Nat, M = (m : Int) := ⟨M.toNat, by omega⟩
  have hPd : P ∣ m := Int.natCast_dvd_natCast.1 h4
  have hQd : Q ∣ m := Int.natCast_dvd_natCast.1 hqd
  have hgc : Int.gcd (P : Int) (Q : Int) = Nat.gcd P Q := Int.gcd_natCast_natCast P Q
  rw [hgc, ← Int.natCast_ediv, ← Int.natCast_ediv, ← Int.natCast_mul, ← gcd_swap P Q (by omega)]
  obtain ⟨t, ht⟩ := lcm_part P Q m hPd hQd
  have hm : 0 < m := by omega
  generalize Q / Nat.gcd P Q = k at *
  generalize Int.gcd X (m : Int) = g at *
  have hk : 0 < P * k := by
    rcases Nat.eq_zero_or_pos (P * k) with h | h
    · rw [h] at ht; omega
    · exact h
  have hgk : g = k * t := by
    have e1 : (g : Int) * (P : Int) = ((g * P : Nat) : Int) := by rw [Int.natCast_mul]
    rw [e1] at h2
    have e2 : g * P = P * k * t := by omega
    have e3 : P * g = P * (k * t) := by rw [← Nat.mul_assoc, Nat.mul_comm P g]; exact e2
    exact Nat.eq_of_mul_eq_mul_left (by omega) e3
  have ht1 : 1 ≤ t := by
    rcases Nat.eq_zero_or_pos t with h | h
    · rw [h] at ht; omega
    · exact h
  refine ⟨?_, by omega, ?_⟩
  · rw [← h1, Int.natAbs_mul, Int.natAbs_mul, Int.natAbs_natCast, Int.natAbs_natCast, hgk]
    have : a.natAbs * k * 1 ≤ a.natAbs * k * t := Nat.mul_le_mul_left _ ht1
    rw [Nat.mul_comm (k * t), ← Nat.mul_assoc]
    omega
  · have : P * k * 1 ≤ P * k * t := Nat.mul_le_mul_left _ ht1
    omega
/-- the sum of two fractions over one denominator -/
theorem fsum_low (X Y M : Int) (hM : 0 < M) : fsum (low X M).1 (low X M).2 (low Y M).1 (low Y M).2 = low (X + Y) M := by
  unfold fsum
  have h1 := low_cross X M
  have h2 := low_cross Y M
  have h3 := low_den_pos X M hM
  have h4 := low_den_pos Y M hM
  refine low_eq (Int.mul_pos h3 h4) hM ?_
  generalize (low X M).1 = a at *
  generalize (low X M).2 = p at *
  generalize (low Y M).1 = b at *
  generalize (low Y M).2 = q at *
  rw [Int.add_mul, Int.add_mul, show a * q * M = a * M * q by rw [Int.mul_right_comm], show b * p * M = b * M * p by rw [Int.mul_right_comm], h1, h2, Int.mul_assoc, Int.mul_assoc, Int.mul_comm q p]
theorem low_neg (Y M : Int) : low (-Y) M = (-(low Y M).1, (low Y M).2) := by
  unfold low
  rw [Int.neg_gcd, Int.neg_tdiv]

/-! ### the polynomial -/
def fk (den : Int) (k : Nat) : Int := if k = 0 then 1 else den * k
theorem fk_zero (den : Int) : fk den 0 = 1 := rfl
theorem fk_succ (den : Int) (k : Nat) : fk den (k + 1) = den * ((k : Int) + 1) := by unfold fk; rw [if_neg (by omega)]; rfl
def abv (num den : Int) : Nat → Int
  | 0 => 1
  | k + 1 => abv num den k * (num - k * den)
def blw (den : Int) : Nat → Int
  | 0 => 1
  | k + 1 => blw den k * fk den k
def pnum (ds : List Int) (num den : Int) : Nat → Int
  | 0 => 0
  | k + 1 => pnum ds num den k * fk den k + ds.getD k 0 * abv num den k
def rst (den : Int) : Nat → Nat → Int
  | _, 0 => 1
  | k, m + 1 => fk den k * rst den (k + 1) m
theorem blw_rst (den : Int) : ∀ m k, blw den (k + m) = blw den k * rst den k m := by
  intro m
  induction m with
  | zero => intro k; rw [rst, Int.mul_one, Nat.add_zero]
  | succ m ih => intro k; rw [rst, show k + (m + 1) = k + 1 + m by omega, ih (k + 1), blw, Int.mul_assoc]
theorem blw_one (den : Int) : blw den 1 = 1 := by simp [blw, fk]

def Fb (k : Nat) : Nat := if k = 0 then 1 else 20 * k
def Abd (U : Nat → Nat) : Nat → Nat
  | 0 => 1
  | k + 1 => Abd U k * U k
def Pbd (U : Nat → Nat) : Nat → Nat
  | 0 => 0
  | k + 1 => Pbd U k * Fb k + 100000 * 2 ^ k * Abd U k
def Rbd : Nat → Nat → Nat
  | _, 0 => 1
  | k, m + 1 => Fb k * Rbd (k + 1) m
theorem fk_bd {den : Int} (h : 1 ≤ den ∧ den ≤ 20) (k : Nat) : 1 ≤ fk den k ∧ (fk den k).natAbs ≤ Fb k := by
  cases k with
  | zero => exact ⟨by rw [fk_zero]; omega, by rw [fk_zero]; exact Nat.le_refl _⟩
  | succ k =>
    rw [fk_succ]
    have h1 := Int.mul_le_mul_of_nonneg_right h.2 (show 0 ≤ (k : Int) + 1 by omega)
    have h2 := Int.mul_le_mul_of_nonneg_right h.1 (show 0 ≤ (k : Int) + 1 by omega)
    unfold Fb
    rw [if_neg (by omega)]
    omega
theorem abv_bd {U : Nat → Nat} {num den : Int} (h : ∀ j : Nat, (num - j * den).natAbs ≤ U j) : ∀ k, (abv num den k).natAbs ≤ Abd U k := by
  intro k
  induction k with
  | zero => exact Nat.le_refl _
  | succ k ih => rw [abv, Abd, Int.natAbs_mul]; exact Nat.mul_le_mul ih (h k)
theorem pnum_bd {U : Nat → Nat} {ds : List Int} {num den : Int} (h : ∀ j : Nat, (num - j * den).natAbs ≤ U j) (hd : 1 ≤ den ∧ den ≤ 20) (hs : ∀ k, (ds.getD k 0).natAbs ≤ 100000 * 2 ^ k) : ∀ k, (pnum ds num den k).natAbs ≤ Pbd U k := by
  intro k
  induction k with
  | zero => exact Nat.le_refl _
  | succ k ih =>
    rw [pnum, Pbd]
    refine Nat.le_trans (Int.natAbs_add_le _ _) ?_
    rw [Int.natAbs_mul, Int.natAbs_mul]
    exact Nat.add_le_add (Nat.mul_le_mul ih (fk_bd hd k).2) (Nat.mul_le_mul (hs k) (abv_bd h k))
theorem rst_bd {den : Int} (hd : 1 ≤ den ∧ den ≤ 20) : ∀ m k, 1 ≤ rst den k m ∧ (rst den k m).natAbs ≤ Rbd k m := by
  intro m
  induction m with
  | zero => intro k; exact ⟨by rw [rst]; omega, Nat.le_refl _⟩
  | succ m ih =>
    intro k
    rw [rst, Rbd, Int.natAbs_mul]
    have h1 := fk_bd hd k
    have h2 := ih (k + 1)
    refine ⟨?_, Nat.mul_le_mul h1.2 h2.2⟩
    have := Int.mul_pos (show 0 < fk den k by omega) (show 0 < rst den (k + 1) m by omega)
    omega
theorem blw_bd {den : Int} (hd : 1 ≤ den ∧ den ≤ 20) (k : Nat) (hk : k ≤ 6) : 1 ≤ blw den k ∧ blw den k ≤ 384000000 := by
  have h := blw_rst den k 0
  rw [Nat.zero_add] at h
  have h1 := rst_bd hd k 0
  rw [h, show blw den 0 = 1 from rfl, Int.one_mul]
  have h2 : Rbd 0 k ≤ 384000000 := by
    have : ∀ k, k < 7 → Rbd 0 k ≤ 384000000 := by decide
    exact this k (by omega)
  omega
def U1 (j : Nat) : Nat := 120 + 20 * j
def U2 (j : Nat) : Nat := if j = 0 then 5 else 20 * j
theorem U1_ok {num den : Int} (h : -120 ≤ num ∧ num ≤ 120) (hd : 1 ≤ den ∧ den ≤ 20) (j : Nat) : (num - j * den).natAbs ≤ U1 j := by
  have h1 := Int.mul_le_mul_of_nonneg_left hd.2 (show 0 ≤ (j : Int) by omega)
  have h2 := Int.mul_nonneg (show 0 ≤ (j : Int) by omega) (show 0 ≤ den by omega)
  unfold U1
  omega
theorem U2_ok {num den : Int} (h : 0 ≤ num ∧ num ≤ 5) (hd : 1 ≤ den ∧ den ≤ 20) (j : Nat) : (num - j * den).natAbs ≤ U2 j := by
  have h1 := Int.mul_le_mul_of_nonneg_left hd.2 (show 0 ≤ (j : Int) by omega)
  have h2 := Int.mul_le_mul_of_nonneg_left hd.1 (show 0 ≤ (j : Int) by omega)
  unfold U2
  split
  · rename_i h0; subst h0; simp at *; omega
  · omega
/-- every number on the way is small -/
theorem tab1 : ∀ k, k < 7 → Abd U1 k ≤ 1000000000000000000 ∧ Pbd U1 k ≤ 1000000000000000000 ∧ (k < 6 → 100000 * 2 ^ k * Abd U1 k ≤ 4000000000000000000) := by decide
theorem tab2 : ∀ n, n < 7 → ∀ k, k < 7 → k ≤ n → Pbd U1 k * Rbd k (n - k) ≤ 1000000000000000000 ∧ (k < n → 100000 * 2 ^ k * Abd U1 k * Rbd (k + 1) (n - (k + 1)) ≤ 1000000000000000000) ∧ (k < n → Abd U1 k * Rbd (k + 1) (n - (k + 1)) ≤ 1000000000000000000) := by decide
theorem tab3 : ∀ k, k < 7 → Pbd U2 k ≤ 100000000000000000 := by decide

/-! ### the leading differences are small -/
theorem wrap_in (x : Int) (h : -9223372036854775808 ≤ x ∧ x ≤ 9223372036854775807) : wrap64 x = x := by
  rw [← IntWalk.i64_left]; exact IntWalk.i64_in _ (by omega)
theorem diffs_at (l : List Int) (k : Nat) (x : Int) (h : (diffs l)[k]? = some x) : ∃ a b, l[k]? = some a ∧ l[k + 1]? = some b ∧ x = wrap64 (b - a) := by
  have hk := (List.getElem?_eq_some_iff.1 h).1
  rw [diffs_len] at hk
  obtain ⟨a, ha⟩ := get_ex l k (by omega)
  obtain ⟨b, hb⟩ := get_ex l (k + 1) (by omega)
  have := diffs_get l k a b ha hb
  rw [this] at h
  injection h with h
  exact ⟨a, b, ha, hb, h.symm⟩
theorem iterD_bd {l : List Int} (hl : ∀ (i : Nat) (x : Int), l[i]? = some x → x.natAbs ≤ 100000) (h6 : l.length ≤ 6) : ∀ (k i : Nat) (x : Int), (iterD k l)[i]? = some x → x.natAbs ≤ 100000 * 2 ^ k := by
  intro k
  induction k with
  | zero => intro i x h; have := hl i x h; simpa using this
  | succ k ih =>
    intro i x h
    obtain ⟨a, b, ha, hb, rfl⟩ := diffs_at _ _ _ h
    have h1 := ih i a ha
    have h2 := ih (i + 1) b hb
    have hk : k ≤ 6 := by
      have := (List.getElem?_eq_some_iff.1 ha).1
      rw [iterD_len] at this
      omega
    have hp : 2 ^ k ≤ 2 ^ 6 := Nat.pow_le_pow_right (by omega) hk
    have hp' : (2 : Nat) ^ 6 = 64 := rfl
    rw [wrap_in _ (by omega), Nat.pow_succ]
    omega
theorem known_at {l : List Int} (h : knownB l = true) (i : Nat) (x : Int) (hx : l[i]? = some x) : x.natAbs ≤ 100000 := by
  unfold knownB at h
  rw [Bool.and_eq_true] at h
  have := inB_iff.1 (List.all_eq_true.1 h.1 x (List.mem_of_getElem? hx))
  omega
theorem known_len {l : List Int} (h : knownB l = true) : 1 ≤ l.length ∧ l.length ≤ 6 := by
  unfold knownB at h
  rw [Bool.and_eq_true] at h
  have := inB_iff.1 h.2
  omega
theorem leads_bd {l : List Int} (h : knownB l = true) (k : Nat) : ((leads l).getD k 0).natAbs ≤ 100000 * 2 ^ k := by
  by_cases hk : k < l.length
  · have hk2 : 0 < (iterD k l).length := by rw [iterD_len]; omega
    obtain ⟨x, hx⟩ := get_ex (iterD k l) 0 hk2
    rw [List.getD_eq_getElem?_getD, leads_get l k x hk hx]
    exact iterD_bd (known_at h) (known_len h).2 k 0 x hx
  · rw [List.getD_eq_getElem?_getD, List.getElem?_eq_none (by rw [leads_len]; omega)]
    exact Nat.zero_le _

/-! ### what the functions answer -/
def vAt (l : List Int) (num den : Int) : Int × Int := low (pnum (leads l) num den l.length) (blw den l.length)
def betw (l : List Int) (num den : Int) : (Int × Int) × Int :=
  if knownB l && inB den 1 20 && inB num (-120) 120 then (if plainB (vAt l num den).1 (vAt l num den).2 then (vAt l num den, 0) else ((0, 0), 5)) else ((0, 0), 2)
def finL (l : List Int) (parts : Int) : Nat → List (Int × Int)
  | 0 => []
  | i + 1 => finL l parts i ++ [vAt l i parts]
theorem finL_len (l : List Int) (parts : Int) (c : Nat) : (finL l parts c).length = c := by
  induction c with
  | zero => rfl
  | succ c ih => rw [finL, List.length_append, ih]; rfl
def finOk (l : List Int) (parts : Int) (c : Nat) : Bool := (List.range c).all fun i => plainB (vAt l i parts).1 (vAt l i parts).2
theorem finOk_succ (l : List Int) (parts : Int) (c : Nat) : finOk l parts (c + 1) = (finOk l parts c && plainB (vAt l c parts).1 (vAt l c parts).2) := by
  unfold finOk; rw [List.range_succ, List.all_append]; simp
theorem finOk_no {l : List Int} {parts : Int} {c k : Nat} (hk : k < c) (h : plainB (vAt l k parts).1 (vAt l k parts).2 = false) : finOk l parts c = false := by
  unfold finOk
  rw [List.all_eq_false]
  exact ⟨k, List.mem_range.2 hk, by simp [h]⟩
def finC (l : List Int) (parts : Int) (c : Nat) : List (Int × Int) × Int := if finOk l parts c then (finL l parts c, 0) else ([], 5)
def finT (l : List Int) (parts c : Int) : List (Int × Int) × Int :=
  if knownB l && inB parts 1 20 && inB c 0 120 then finC l parts c.toNat else ([], 2)
theorem finC_len (l : List Int) (parts : Int) (c : Nat) : (finC l parts c).1.length ≤ c := by
  unfold finC; split
  · simp only [finL_len]; exact Nat.le_refl _
  · simp
theorem finT_len (l : List Int) (parts c : Int) : (finT l parts c).1.length ≤ 120 := by
  unfold finT; split
  · rename_i h
    rw [Bool.and_eq_true] at h
    have := inB_iff.1 h.2
    have := finC_len l parts c.toNat
    omega
  · simp

end Go.Proofs.Ytphckllloiogjaa
