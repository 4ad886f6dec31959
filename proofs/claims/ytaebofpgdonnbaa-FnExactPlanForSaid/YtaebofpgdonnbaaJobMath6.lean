/- Plain laws of the plan: the days at which jobs begin. -/
import Derived.Test.YtaebofpgdonnbaaJobMath5
set_option linter.unusedVariables false
set_option linter.unusedSimpArgs false
namespace Go.Proofs.Ytaebofpgdonnbaa

/-- how many of the first k jobs have not begun -/
def nleft (s : List Int) : Nat → Nat
  | 0 => 0
  | k + 1 => nleft s k + (if s.getD k 0 < 0 then 1 else 0)
/-- the day at which all of the first k jobs that have begun are done -/
def endM (l : List JobD) (s : List Int) : Nat → Int
  | 0 => 0
  | k + 1 => if s.getD k 0 < 0 then endM l s k else max (endM l s k) (s.getD k 0 + (getJ l k).days)
def inF (l : List JobD) (ls : List Int) (m day : Int) : Nat → List Int → Option (List Int)
  | 0, _ => none
  | f + 1, s => if busyM l s day l.length < m ∧ 0 ≤ bestM l s ls day l.length then inF l ls m day f (s.set (bestM l s ls day l.length).toNat day) else some s
def outF (l : List JobD) (ls : List Int) (m : Int) : Nat → Int → List Int → Option (List Int)
  | 0, _, _ => none
  | f + 1, day, s => if nleft s l.length = 0 then some s else (inF l ls m day (l.length + 1) s).bind (outF l ls m f (day + 1))

theorem getD_set (s : List Int) (b : Nat) (x : Int) (hb : b < s.length) (k : Nat) : (s.set b x).getD k 0 = if k = b then x else s.getD k 0 := by
  rw [List.getD_eq_getElem?_getD, List.getElem?_set, List.getD_eq_getElem?_getD]
  by_cases h : b = k
  · subst h
    rw [if_pos rfl, if_pos rfl, if_pos hb]; rfl
  · rw [if_neg h, if_neg (Ne.symm h)]
theorem nleft_le (s : List Int) : ∀ k, nleft s k ≤ k
  | 0 => Nat.le_refl _
  | k + 1 => by
    have := nleft_le s k
    simp only [nleft]
    split <;> omega
theorem nleft_set {s : List Int} {b : Nat} {x : Int} (hb : b < s.length) (h0 : s.getD b 0 < 0) (hx : 0 ≤ x) : ∀ k, nleft (s.set b x) k + (if b < k then 1 else 0) = nleft s k
  | 0 => rfl
  | k + 1 => by
    have ih := nleft_set hb h0 hx k
    simp only [nleft]
    rw [getD_set s b x hb]
    by_cases hkb : k = b
    · subst hkb
      rw [if_pos rfl, if_neg (by omega), if_pos h0, if_pos (by omega)]
      rw [if_neg (by omega)] at ih
      omega
    · rw [if_neg hkb]
      by_cases hbk : b < k
      · rw [if_pos hbk] at ih
        rw [if_pos (show b < k + 1 by omega)]
        omega
      · rw [if_neg hbk] at ih
        rw [if_neg (show ¬ b < k + 1 by omega)]
        omega
theorem nleft_pos {s : List Int} : ∀ k, 0 < nleft s k → ∃ j, j < k ∧ s.getD j 0 < 0
  | 0, h => absurd h (Nat.lt_irrefl 0)
  | k + 1, h => by
    simp only [nleft] at h
    by_cases h0 : s.getD k 0 < 0
    · exact ⟨k, by omega, h0⟩
    · rw [if_neg h0] at h
      obtain ⟨j, hj, hs⟩ := nleft_pos k (by omega)
      exact ⟨j, by omega, hs⟩
theorem nleft_zero {s : List Int} : ∀ k, nleft s k = 0 → ∀ j, j < k → 0 ≤ s.getD j 0
  | 0, _, j, hj => absurd hj (Nat.not_lt_zero j)
  | k + 1, h, j, hj => by
    simp only [nleft] at h
    by_cases h0 : s.getD k 0 < 0
    · rw [if_pos h0] at h; omega
    · rw [if_neg h0] at h
      by_cases hjk : j < k
      · exact nleft_zero k (by omega) j hjk
      · obtain rfl : j = k := by omega
        omega
theorem endM_set (l : List JobD) {s : List Int} {b : Nat} {x : Int} (hb : b < s.length) (h0 : s.getD b 0 < 0) (hx : 0 ≤ x) : ∀ k, endM l (s.set b x) k = if b < k then max (endM l s k) (x + (getJ l b).days) else endM l s k
  | 0 => rfl
  | k + 1 => by
    have ih := endM_set l hb h0 hx k
    simp only [endM]
    rw [getD_set s b x hb, ih]
    by_cases hkb : k = b
    · subst hkb
      rw [if_pos (rfl : k = k), if_neg (show ¬ x < 0 by omega), if_neg (Nat.lt_irrefl k), if_pos (Nat.lt_succ_self k), if_pos h0]
    · rw [if_neg hkb]
      by_cases hbk : b < k
      · rw [if_pos hbk, if_pos (show b < k + 1 by omega)]
        split
        · rfl
        · omega
      · rw [if_neg hbk, if_neg (show ¬ b < k + 1 by omega)]
theorem endM_nonneg (l : List JobD) (s : List Int) : ∀ k, 0 ≤ endM l s k
  | 0 => Int.le_refl _
  | k + 1 => by
    have := endM_nonneg l s k
    simp only [endM]
    split
    · exact this
    · omega
theorem busy_end (l : List JobD) (s : List Int) (day : Int) : ∀ k, 1 ≤ busyM l s day k → day + 1 ≤ endM l s k
  | 0, h => absurd (show (1 : Int) ≤ 0 from h) (by omega)
  | k + 1, h => by
    have h2 : 1 ≤ busyM l s day k + (if runB l s day k = true then 1 else 0) := h
    simp only [endM]
    by_cases hr : runB l s day k = true
    · unfold runB at hr
      simp only [Bool.and_eq_true, decide_eq_true_eq] at hr
      rw [if_neg (by omega)]
      omega
    · rw [if_neg hr] at h2
      have ih := busy_end l s day k (by omega)
      split
      · exact ih
      · omega

/-- the starts at a day -/
def Kst (l : List JobD) (day : Int) (s : List Int) : Prop := s.length = l.length ∧ ∀ j, j < l.length → -1 ≤ s.getD j 0 ∧ s.getD j 0 ≤ day
theorem Kst.day {l : List JobD} {day : Int} {s : List Int} (h : Kst l day s) (hd : 0 ≤ day) : ∀ j, s.getD j 0 ≤ day := fun j => by
  by_cases hj : j < l.length
  · exact (h.2 j hj).2
  · rw [List.getD_eq_getElem?_getD, List.getElem?_eq_none (by rw [h.1]; omega)]
    exact hd
theorem Kst.sok {l : List JobD} {day : Int} {s : List Int} (h : Kst l day s) (hd : day ≤ 1000000) : sOk s := fun i x hx => by
  have hi : i < l.length := by rw [← h.1]; exact (List.getElem?_eq_some_iff.1 hx).1
  have := h.2 i hi
  rw [getD_eq hx] at this
  omega
/-- one job begins -/
theorem plan_step {l : List JobD} (hv : validS l = true) {ls s : List Int} {day : Int} (hK : Kst l day s) (hd : 0 ≤ day) (hb : 0 ≤ bestM l s ls day l.length) :
    ∃ b : Nat, bestM l s ls day l.length = (b : Int) ∧ b < l.length ∧ s.getD b 0 = -1 ∧ Kst l day (s.set b day) ∧ nleft (s.set b day) l.length + 1 = nleft s l.length ∧ endM l (s.set b day) l.length = max (endM l s l.length) (day + (getJ l b).days) := by
  have hlt := (bestM_bd l s ls day l.length).2
  have hr := bestM_ready l s ls day l.length hb
  obtain ⟨b, hbe⟩ := Int.eq_ofNat_of_zero_le hb
  rw [hbe] at hlt hr
  rw [Int.toNat_natCast] at hr
  unfold rdyB at hr
  rw [Bool.and_eq_true, decide_eq_true_eq] at hr
  have hbl : b < l.length := by omega
  have hbs : b < s.length := by rw [hK.1]; exact hbl
  have h1 := nleft_set hbs hr.1 hd l.length
  have h2 := endM_set l hbs hr.1 hd l.length
  rw [if_pos hbl] at h1 h2
  refine ⟨b, hbe, hbl, by have := (hK.2 b hbl).1; omega, ⟨by rw [List.length_set]; exact hK.1, fun j hj => ?_⟩, h1, h2⟩
  rw [getD_set s b day hbs]
  split
  · omega
  · exact hK.2 j hj

theorem in_some {l : List JobD} (hv : validS l = true) (ls : List Int) (m : Int) {day : Int} (hd : 0 ≤ day) : ∀ (f : Nat) (s : List Int), Kst l day s → nleft s l.length < f →
    ∃ s1, inF l ls m day f s = some s1 ∧ Kst l day s1 ∧ ¬ (busyM l s1 day l.length < m ∧ 0 ≤ bestM l s1 ls day l.length) ∧ nleft s1 l.length ≤ nleft s l.length ∧ endM l s l.length ≤ endM l s1 l.length ∧
      endM l s1 l.length ≤ max (endM l s l.length) (day + 60) ∧ (nleft s1 l.length < nleft s l.length → day + 1 ≤ endM l s1 l.length) ∧ (nleft s1 l.length = nleft s l.length → s1 = s) := by
  intro f
  induction f with
  | zero => intro s _ h; omega
  | succ f ih =>
    intro s hK hl
    by_cases hc : busyM l s day l.length < m ∧ 0 ≤ bestM l s ls day l.length
    · obtain ⟨b, hbe, hbl, h0, hK2, hn, he⟩ := plan_step hv hK hd hc.2
      obtain ⟨s1, e1, k1, c1, n1, g1, g2, g3, g4⟩ := ih (s.set b day) hK2 (by omega)
      have hdd := ((valid_all hv).2 b hbl)
      refine ⟨s1, ?_, k1, c1, by omega, by omega, by omega, fun _ => by omega, fun h => by omega⟩
      unfold inF
      rw [if_pos hc, hbe, Int.toNat_natCast]
      exact e1
    · refine ⟨s, ?_, hK, hc, Nat.le_refl _, Int.le_refl _, by omega, fun h => by omega, fun _ => rfl⟩
      unfold inF
      rw [if_neg hc]
def mu (l : List JobD) (day : Int) (s : List Int) : Nat := nleft s l.length * 500 + (endM l s l.length - day).toNat
/-- what holds at the beginning of a day -/
def Dst (l : List JobD) (day : Int) (s : List Int) : Prop := Kst l day s ∧ 0 ≤ day ∧ day ≤ endM l s l.length ∧ endM l s l.length ≤ day + 60
theorem day_next {l : List JobD} (hv : validS l = true) (ls : List Int) {m : Int} (hm : 1 ≤ m) {day : Int} {s : List Int} (h : Dst l day s) (hl : ¬ nleft s l.length = 0) :
    ∃ s1, inF l ls m day (l.length + 1) s = some s1 ∧ Dst l (day + 1) s1 ∧ mu l (day + 1) s1 < mu l day s := by
  obtain ⟨hK, hd, h1, h2⟩ := h
  obtain ⟨s1, e1, k1, c1, n1, g1, g2, g3, g4⟩ := in_some hv ls m hd (l.length + 1) s hK (by have := nleft_le s l.length; omega)
  have key : day + 1 ≤ endM l s1 l.length := by
    by_cases hlt : nleft s1 l.length < nleft s l.length
    · exact g3 hlt
    · have hs := g4 (by omega)
      subst hs
      apply busy_end
      have hbd := (busyM_bd l s1 day l.length).1
      by_cases hb0 : busyM l s1 day l.length = 0
      · exfalso
        obtain ⟨j, hj, hjs⟩ := nleft_pos l.length (by omega : 0 < nleft s1 l.length)
        have hz := busy_zero (k1.day hd) l.length hb0
        obtain ⟨i, hi, hr⟩ := some_ready hv hz j hj hjs
        have hbn : bestM l s1 ls day l.length < 0 := by
          by_cases hx : bestM l s1 ls day l.length < 0
          · exact hx
          · exact absurd ⟨by omega, by omega⟩ c1
        have := bestM_none l s1 ls day l.length hbn i (by omega)
        rw [hr] at this
        cases this
      · omega
  refine ⟨s1, e1, ⟨⟨k1.1, fun j hj => by have := k1.2 j hj; omega⟩, by omega, key, by omega⟩, ?_⟩
  unfold mu
  by_cases hlt : nleft s1 l.length < nleft s l.length
  · have : (endM l s1 l.length - (day + 1)).toNat ≤ 60 := by omega
    omega
  · have hs := g4 (by omega)
    subst hs
    omega
theorem out_some {l : List JobD} (hv : validS l = true) (ls : List Int) {m : Int} (hm : 1 ≤ m) : ∀ (F : Nat) (day : Int) (s : List Int), Dst l day s → mu l day s < F → ∃ R, outF l ls m F day s = some R := by
  intro F
  induction F with
  | zero => intro day s _ h; omega
  | succ F ih =>
    intro day s h hF
    unfold outF
    by_cases hl : nleft s l.length = 0
    · exact ⟨s, by rw [if_pos hl]⟩
    · obtain ⟨s1, e1, d1, m1⟩ := day_next hv ls hm h hl
      rw [if_neg hl, e1]
      exact ih (day + 1) s1 d1 (by omega)
/-- how the search over the days goes on -/
theorem out_done {l : List JobD} {ls : List Int} {m : Int} {F : Nat} {day : Int} {s R : List Int} (h : outF l ls m F day s = some R) (hl : nleft s l.length = 0) : s = R := by
  cases F with
  | zero => cases h
  | succ F => unfold outF at h; rw [if_pos hl] at h; injection h
theorem out_next {l : List JobD} {ls : List Int} {m : Int} {F : Nat} {day : Int} {s s1 R : List Int} (h : outF l ls m F day s = some R) (hl : ¬ nleft s l.length = 0) (h1 : inF l ls m day (l.length + 1) s = some s1) : ∃ F', outF l ls m F' (day + 1) s1 = some R := by
  cases F with
  | zero => cases h
  | succ F => unfold outF at h; rw [if_neg hl, h1] at h; exact ⟨F, h⟩
theorem in_done {l : List JobD} {ls : List Int} {m day : Int} {f : Nat} {s s1 : List Int} (h : inF l ls m day f s = some s1) (hc : ¬ (busyM l s day l.length < m ∧ 0 ≤ bestM l s ls day l.length)) : s = s1 := by
  cases f with
  | zero => cases h
  | succ f => unfold inF at h; rw [if_neg hc] at h; injection h
theorem in_next {l : List JobD} {ls : List Int} {m day : Int} {f : Nat} {s s1 : List Int} {b : Nat} (h : inF l ls m day f s = some s1) (hc : busyM l s day l.length < m) (hb : bestM l s ls day l.length = (b : Int)) : ∃ f', inF l ls m day f' (s.set b day) = some s1 := by
  cases f with
  | zero => cases h
  | succ f => unfold inF at h; rw [if_pos ⟨hc, by omega⟩, hb, Int.toNat_natCast] at h; exact ⟨f, h⟩

/-- the plan -/
def start0 (n : Nat) : List Int := List.replicate n (-1)
theorem start0_get {n j : Nat} (h : j < n) : (start0 n).getD j 0 = -1 := by
  unfold start0
  rw [List.getD_eq_getElem?_getD, List.getElem?_replicate, if_pos h]; rfl
theorem start0_end (l : List JobD) (n : Nat) : ∀ k, k ≤ n → endM l (start0 n) k = 0
  | 0, _ => rfl
  | k + 1, h => by
    simp only [endM]
    rw [start0_get (by omega), if_pos (by omega)]
    exact start0_end l n k (by omega)
theorem start0_left (n : Nat) : ∀ k, k ≤ n → nleft (start0 n) k = k
  | 0, _ => rfl
  | k + 1, h => by
    simp only [nleft]
    rw [start0_get (by omega), if_pos (by omega), start0_left n k (by omega)]
theorem start0_D (l : List JobD) : Dst l 0 (start0 l.length) := by
  refine ⟨⟨by unfold start0; rw [List.length_replicate], fun j hj => by rw [start0_get hj]; omega⟩, Int.le_refl _, ?_, ?_⟩
  · rw [start0_end l _ _ (Nat.le_refl _)]; exact Int.le_refl _
  · rw [start0_end l _ _ (Nat.le_refl _)]; omega
theorem start0_mu (l : List JobD) : mu l 0 (start0 l.length) = l.length * 500 := by
  unfold mu
  rw [start0_end l _ _ (Nat.le_refl _), start0_left _ _ (Nat.le_refl _)]
  omega
def planL (l : List JobD) (ls : List Int) (m : Int) : List Int := (outF l ls m (l.length * 500 + 1) 0 (start0 l.length)).getD []
theorem planL_eq {l : List JobD} (hv : validS l = true) (ls : List Int) {m : Int} (hm : 1 ≤ m) : outF l ls m (l.length * 500 + 1) 0 (start0 l.length) = some (planL l ls m) := by
  obtain ⟨R, hR⟩ := out_some hv ls hm (l.length * 500 + 1) 0 (start0 l.length) (start0_D l) (by rw [start0_mu]; omega)
  have hp : planL l ls m = R := by rw [planL, hR, Option.getD_some]
  rw [hp]
  exact hR
theorem map_set_int (s : List Int) (b : Nat) (x : Int) : (s.map (Value.int .i64)).set b (.int .i64 x) = (s.set b x).map (Value.int .i64) := by rw [List.map_set]
theorem start0_snoc (k : Nat) : (start0 (k + 1)).map (Value.int .i64) = (start0 k).map (Value.int .i64) ++ [.int .i64 (-1)] := by
  unfold start0
  rw [List.replicate_succ', List.map_append]; rfl
end Go.Proofs.Ytaebofpgdonnbaa
