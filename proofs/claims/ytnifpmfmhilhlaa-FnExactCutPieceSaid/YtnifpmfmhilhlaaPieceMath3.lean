/- Plain laws of what is missing. -/
import Derived.Test.YtnifpmfmhilhlaaPieceMath2
set_option linter.unusedVariables false
set_option linter.unusedSimpArgs false
namespace Go.Proofs.Ytnifpmfmhilhlaa

def stockB (s : List Int) : Bool := (List.range s.length).all fun i => inB (s.getD i 0) 0 1000000000000
def stockR (l : List PieceD) (s : List Int) : Int := if validS l = true then (if stockB s = true then (if s.length = l.length then 0 else 6) else 2) else 1

def needV (l : List PieceD) (m : Int) (acc : List Int) (i : Nat) : Int := if i = 0 then m * (getP l 0).each else (getP l i).each * acc.getD (getP l i).parent.toNat 0
def missV (l : List PieceD) (s : List Int) (m : Int) (acc : List Int) (i : Nat) : Int := max 0 (needV l m acc i - s.getD i 0)
def missL (l : List PieceD) (s : List Int) (m : Int) : Nat → List Int
  | 0 => []
  | i + 1 => missL l s m i ++ [missV l s m (missL l s m i) i]
theorem missL_succ (l : List PieceD) (s : List Int) (m : Int) (i : Nat) : missL l s m (i + 1) = missL l s m i ++ [missV l s m (missL l s m i) i] := rfl
theorem missL_len (l : List PieceD) (s : List Int) (m : Int) (i : Nat) : (missL l s m i).length = i := by
  induction i with
  | zero => rfl
  | succ i ih => unfold missL; rw [List.length_append, ih]; rfl
theorem missL_get (l : List PieceD) (s : List Int) (m : Int) (i j : Nat) (h : j < i) : (missL l s m i).getD j 0 = missV l s m (missL l s m j) j := by
  induction i with
  | zero => omega
  | succ i ih =>
    rw [missL_succ]
    by_cases hj : j < i
    · rw [List.getD_eq_getElem?_getD, List.getElem?_append_left (by rw [missL_len]; exact hj), ← List.getD_eq_getElem?_getD]
      exact ih hj
    · obtain rfl : j = i := by omega
      rw [List.getD_eq_getElem?_getD, List.getElem?_append_right (by rw [missL_len]; exact Nat.le_refl _), missL_len]
      simp
theorem stock_at {s : List Int} (h : stockB s = true) (i : Nat) (hi : i < s.length) : 0 ≤ s.getD i 0 ∧ s.getD i 0 ≤ 1000000000000 := by
  unfold stockB at h
  exact inB_iff.1 ((all_range_iff _ _).1 h i hi)
/-- no number grows too great -/
theorem need_bd {l : List PieceD} {s : List Int} {m : Int} (hv : validS l = true) (hs : stockB s = true) (hsl : s.length = l.length) (h0 : 0 ≤ m) (h1 : m ≤ 1000000) :
    ∀ i, i < l.length → 0 ≤ needV l m (missL l s m i) i ∧ needV l m (missL l s m i) i ≤ m * TI l (i : Int) ∧ 0 ≤ missV l s m (missL l s m i) i ∧ missV l s m (missL l s m i) i ≤ m * TI l (i : Int) ∧ m * TI l (i : Int) ≤ 1000000000000 := by
  obtain ⟨_, _, hS, hT⟩ := valid_all hv
  intro i
  induction i using Nat.strongRecOn with
  | _ i ih =>
    intro hi
    have hti := TI_pos hS (i : Int) (by omega)
    have ht2 := (hT i hi).1
    have hst := stock_at hs i (by omega)
    have hm2 : m * TI l (i : Int) ≤ 1000000000000 := by
      have e1 := Int.mul_le_mul_of_nonneg_left ht2 h0
      have e2 : m * 1000000 ≤ 1000000 * 1000000 := by omega
      omega
    have key : 0 ≤ needV l m (missL l s m i) i ∧ needV l m (missL l s m i) i ≤ m * TI l (i : Int) := by
      unfold needV
      by_cases hz : i = 0
      · rw [if_pos hz]
        subst hz
        have hp := (hT 0 hi).2.2.2
        unfold parB at hp
        rw [if_pos rfl] at hp
        have hpe := eq_of_beq hp
        have e1 := TI_step hS 0 hi
        rw [hpe, TI_neg (show (-1 : Int) < 0 by omega), Int.mul_one] at e1
        have e2 := (hS 0 hi).1
        have e3 := Int.mul_nonneg h0 (show 0 ≤ (getP l 0).each by omega)
        rw [e1]
        exact ⟨e3, Int.le_refl _⟩
      · rw [if_neg hz]
        obtain ⟨p, hp, hpi⟩ := parent_of hv hi (by omega)
        have e1 := TI_step hS i hi
        rw [hp] at e1
        rw [hp, Int.toNat_natCast, missL_get l s m i p hpi]
        obtain ⟨_, _, a1, a2, _⟩ := ih p hpi (by omega)
        have e2 := (hS i hi).1
        have e3 := Int.mul_nonneg (show 0 ≤ (getP l i).each by omega) a1
        have e4 := Int.mul_le_mul_of_nonneg_left a2 (show 0 ≤ (getP l i).each by omega)
        refine ⟨e3, ?_⟩
        rw [e1, ← Int.mul_assoc, Int.mul_comm m, Int.mul_assoc]
        exact e4
    refine ⟨key.1, key.2, ?_, ?_, hm2⟩
    · unfold missV; omega
    · unfold missV
      have := Int.mul_nonneg h0 (show 0 ≤ TI l (i : Int) by omega)
      omega
def missR (l : List PieceD) (s : List Int) (m : Int) : List Int × Int :=
  if stockR l s = 0 then (if inB m 0 1000000 = true then (missL l s m l.length, 0) else ([], 2)) else ([], stockR l s)
theorem stockR_zero {l : List PieceD} {s : List Int} (h : stockR l s = 0) : validS l = true ∧ stockB s = true ∧ s.length = l.length := by
  unfold stockR at h
  cases hv : validS l
  · rw [hv] at h; simp at h
  · rw [hv, if_pos rfl] at h
    cases h2 : stockB s
    · rw [h2] at h; simp at h
    · rw [h2, if_pos rfl] at h
      by_cases h3 : s.length = l.length
      · exact ⟨rfl, rfl, h3⟩
      · rw [if_neg h3] at h; simp at h
theorem missR_len (l : List PieceD) (s : List Int) (m : Int) : (missR l s m).1.length ≤ l.length := by
  unfold missR
  split
  · split
    · simp only [missL_len]; exact Nat.le_refl _
    · simp
  · simp
end Go.Proofs.Ytnifpmfmhilhlaa
