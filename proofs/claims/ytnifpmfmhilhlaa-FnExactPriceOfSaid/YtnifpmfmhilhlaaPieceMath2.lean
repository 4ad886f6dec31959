/- Plain laws of paths and of what lies under a piece. -/
import Derived.Test.YtnifpmfmhilhlaaPieceMath
set_option linter.unusedVariables false
set_option linter.unusedSimpArgs false
namespace Go.Proofs.Ytnifpmfmhilhlaa

/-! ### Paths -/
def pathP (l : List PieceD) : Nat → Int → List Int
  | 0, _ => []
  | f + 1, k => if k < 0 then [] else k :: pathP l f (getP l k.toNat).parent
theorem pathP_neg {l : List PieceD} {f : Nat} {k : Int} (h : k < 0) : pathP l f k = [] := by
  cases f with
  | zero => rfl
  | succ f => unfold pathP; rw [if_pos h]
theorem pathP_step {l : List PieceD} {f : Nat} (k : Nat) : pathP l (f + 1) (k : Int) = (k : Int) :: pathP l f (getP l k).parent := by
  conv => lhs; unfold pathP
  rw [if_neg (by omega), Int.toNat_natCast]
theorem pathP_len (l : List PieceD) : ∀ (f : Nat) (k : Int), (pathP l f k).length ≤ f := by
  intro f
  induction f with
  | zero => intro k; simp [pathP]
  | succ f ih =>
    intro k
    unfold pathP
    split
    · simp
    · have := ih (getP l k.toNat).parent
      simp
      omega

/-! ### Under a piece -/
def und (l : List PieceD) (k : Nat) : Nat → Nat → Bool
  | 0, _ => false
  | f + 1, i => if i = k then true else if i < k then false else und l k f (getP l i).parent.toNat
/-- piece i is piece k, or belongs to it -/
def uB (l : List PieceD) (k i : Nat) : Bool := und l k (i + 1) i
theorem und_fuel {l : List PieceD} {m k : Nat} (h : St l m) : ∀ (f f' i : Nat), i < m → i < f → i < f' → und l k f i = und l k f' i := by
  intro f
  induction f with
  | zero => intro f' i _ h1; omega
  | succ f ih =>
    intro f' i hi h1 h2
    cases f' with
    | zero => omega
    | succ f' =>
      unfold und
      split
      · rfl
      · split
        · rfl
        · obtain ⟨_, _, h3, h4⟩ := h i hi
          exact ih f' _ (by omega) (by omega) (by omega)
theorem uB_self (l : List PieceD) (k : Nat) : uB l k k = true := by unfold uB und; rw [if_pos rfl]
theorem uB_low (l : List PieceD) {k i : Nat} (h : i < k) : uB l k i = false := by unfold uB und; rw [if_neg (by omega), if_pos h]
theorem uB_up {l : List PieceD} {m k i : Nat} (hS : St l m) (hi : i < m) (h : k < i) (h0 : 0 ≤ (getP l i).parent) : uB l k i = uB l k (getP l i).parent.toNat := by
  obtain ⟨_, _, h3, h4⟩ := hS i hi
  conv => lhs; unfold uB und
  rw [if_neg (by omega), if_neg (by omega)]
  exact und_fuel hS _ _ _ (by omega) (by omega) (by omega)
/-- the pieces under piece k, those below index m -/
def undL (l : List PieceD) (k m : Nat) : List Int := ((List.range m).filter fun i => decide (k < i) && uB l k i).map fun (i : Nat) => (i : Int)
theorem undL_succ (l : List PieceD) (k m : Nat) : undL l k (m + 1) = undL l k m ++ (if (decide (k < m) && uB l k m) = true then [(m : Int)] else []) := by
  unfold undL
  rw [List.range_succ, List.filter_append, List.map_append]
  congr 1
  cases h : (decide (k < m) && uB l k m) <;> simp [h]
theorem undL_yes {l : List PieceD} {k m : Nat} (h : k < m) (hu : uB l k m = true) : undL l k (m + 1) = undL l k m ++ [(m : Int)] := by rw [undL_succ, if_pos (by simp [h, hu])]
theorem undL_no {l : List PieceD} {k m : Nat} (hu : uB l k m = false) : undL l k (m + 1) = undL l k m := by rw [undL_succ, if_neg (by simp [hu]), List.append_nil]
theorem undL_start (l : List PieceD) (k m : Nat) (h : m ≤ k + 1) : undL l k m = [] := by
  unfold undL
  rw [List.filter_eq_nil_iff.2, List.map_nil]
  intro i hi
  have := List.mem_range.1 hi
  simp
  omega
theorem undL_len (l : List PieceD) (k m : Nat) : (undL l k m).length ≤ m := by
  unfold undL
  rw [List.length_map]
  have := List.length_filter_le (fun i => decide (k < i) && uB l k i) (List.range m)
  rw [List.length_range] at this
  exact this
theorem parent_of {l : List PieceD} (hv : validS l = true) {i : Nat} (hi : i < l.length) (h0 : 0 < i) : ∃ p : Nat, (getP l i).parent = (p : Int) ∧ p < i := by
  obtain ⟨_, _, _, h⟩ := valid_all hv
  have h1 := (h i hi).2.2.2
  unfold parB at h1
  rw [if_neg (by omega)] at h1
  have := inB_iff.1 h1
  exact ⟨(getP l i).parent.toNat, by omega, by omega⟩
end Go.Proofs.Ytnifpmfmhilhlaa
