/- Plain laws of the jobs before a job. -/
import Derived.Test.YtaebofpgdonnbaaJobMath3
set_option linter.unusedVariables false
set_option linter.unusedSimpArgs false
namespace Go.Proofs.Ytaebofpgdonnbaa

def jbN (l : List JobD) (i t : Nat) (g : Nat → Bool) : Nat → Bool := ((getJ l i).needs.take t).foldl (fun (g : Nat → Bool) (x : Int) (j : Nat) => if j = x.toNat then true else g j) g
def jbG (l : List JobD) (k : Nat) : Nat → Nat → Bool
  | 0 => fun _ => false
  | m + 1 => if (decide (k - m = k) || jbG l k m (k - m)) = true then jbN l (k - m) (getJ l (k - m)).needs.length (jbG l k m) else jbG l k m
theorem jbN_succ {l : List JobD} {i t : Nat} {g : Nat → Bool} {x : Nat} (h : (getJ l i).needs[t]? = some (x : Int)) : jbN l i (t + 1) g = fun j => if j = x then true else jbN l i t g j := by
  unfold jbN
  rw [foldl_take_succ _ _ _ t _ h]
  funext j
  rw [Int.toNat_natCast]
theorem jbN_high {l : List JobD} (hv : validS l = true) {i : Nat} (hi : i < l.length) (g : Nat → Bool) : ∀ t, t ≤ (getJ l i).needs.length → ∀ j, i ≤ j → jbN l i t g j = g j := by
  obtain ⟨_, hall⟩ := valid_all hv
  intro t
  induction t with
  | zero => intro _ j _; rfl
  | succ t ih =>
    intro ht j hj
    obtain ⟨x, hx⟩ := get_ex (getJ l i).needs t (by omega)
    have hn := (hall i hi).2.2.2.2.1 t x hx
    obtain ⟨q, rfl⟩ := Int.eq_ofNat_of_zero_le hn.1
    rw [jbN_succ hx]
    show (if j = q then _ else _) = _
    rw [if_neg (by omega)]
    exact ih (by omega) j hj
theorem jbG_high {l : List JobD} (hv : validS l = true) {k : Nat} (hk : k < l.length) : ∀ m, m ≤ k + 1 → ∀ j, k ≤ j → jbG l k m j = false := by
  intro m
  induction m with
  | zero => intro _ j _; rfl
  | succ m ih =>
    intro hm j hj
    unfold jbG
    split
    · rw [jbN_high hv (by omega) _ _ (Nat.le_refl _) j (by omega)]
      exact ih (by omega) j hj
    · exact ih (by omega) j hj
theorem jbG_yes {l : List JobD} {k m p : Nat} (h : p + m = k) (hc : (decide (p = k) || jbG l k m p) = true) : jbG l k (m + 1) = jbN l p (getJ l p).needs.length (jbG l k m) := by
  obtain rfl : p = k - m := by omega
  show (if _ then _ else _) = _
  rw [if_pos hc]
theorem jbG_no {l : List JobD} {k m p : Nat} (h : p + m = k) (hc : (decide (p = k) || jbG l k m p) = false) : jbG l k (m + 1) = jbG l k m := by
  obtain rfl : p = k - m := by omega
  show (if _ then _ else _) = _
  rw [if_neg (by rw [hc]; decide)]
def bL (g : Nat → Bool) : Nat → List Int
  | 0 => []
  | m + 1 => if g m = true then bL g m ++ [(m : Int)] else bL g m
theorem bL_len (g : Nat → Bool) (k : Nat) : (bL g k).length ≤ k := by
  induction k with
  | zero => exact Nat.le_refl _
  | succ k ih =>
    unfold bL
    split
    · simp; exact ih
    · omega
theorem bL_congr {g g' : Nat → Bool} : ∀ {k : Nat}, (∀ j, j < k → g j = g' j) → bL g k = bL g' k := by
  intro k
  induction k with
  | zero => intro _; rfl
  | succ k ih =>
    intro h
    unfold bL
    rw [h k (by omega), ih fun j hj => h j (by omega)]
theorem bL_past {g : Nat → Bool} {k : Nat} (h : ∀ j, k ≤ j → g j = false) : ∀ n, k ≤ n → bL g n = bL g k := by
  intro n
  induction n with
  | zero => intro hn; obtain rfl : k = 0 := by omega
            rfl
  | succ n ih =>
    intro hn
    by_cases hk : k ≤ n
    · rw [← ih hk]
      show (if _ then _ else _) = _
      rw [h n hk, if_neg (by decide)]
    · obtain rfl : k = n + 1 := by omega
      rfl
def fb (n : Nat) (g : Nat → Bool) : List Value := fl n fun j => .bool (g j)
theorem fb_get {n : Nat} {g : Nat → Bool} {i : Nat} (h : i < n) : (fb n g)[i]? = some (.bool (g i)) := fl_get h
theorem fb_set {n : Nat} {g g' : Nat → Bool} {i : Nat} {v : Bool} (h : ∀ j, j < n → g' j = if j = i then v else g j) : (fb n g).set i (.bool v) = fb n g' := by
  apply fl_set_eq
  intro j hj
  rw [h j hj]
  split <;> rfl
def befR (l : List JobD) (k : Int) : List Int × Int := if validS l = true then (if 0 ≤ k ∧ k ≤ (l.length : Int) - 1 then (bL (jbG l k.toNat (k.toNat + 1)) k.toNat, 0) else ([], 2)) else ([], 1)
theorem befR_len (l : List JobD) (k : Int) : (befR l k).1.length ≤ l.length := by
  unfold befR
  split
  · split
    · rename_i h
      have := bL_len (jbG l k.toNat (k.toNat + 1)) k.toNat
      show (bL _ _).length ≤ _
      omega
    · simp
  · simp
end Go.Proofs.Ytaebofpgdonnbaa
