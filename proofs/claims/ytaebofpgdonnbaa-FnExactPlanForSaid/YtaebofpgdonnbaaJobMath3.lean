/- Plain laws of the latest days. -/
import Derived.Test.YtaebofpgdonnbaaJobMath2
import Derived.Test.YtaebofpgdonnbaaFL
set_option linter.unusedVariables false
set_option linter.unusedSimpArgs false
namespace Go.Proofs.Ytaebofpgdonnbaa

def lateF (l : List JobD) (v : Int) (g : Nat → Int) (x : Int) : Nat → Int := fun j => if j = x.toNat then min (g j) (v - (getJ l j).days) else g j
def lateN (l : List JobD) (i t : Nat) (g : Nat → Int) : Nat → Int := ((getJ l i).needs.take t).foldl (lateF l (g i)) g
def lateG (l : List JobD) (e : Int) : Nat → Nat → Int
  | 0 => fun j => e - (getJ l j).days
  | m + 1 => lateN l (l.length - 1 - m) (getJ l (l.length - 1 - m)).needs.length (lateG l e m)
theorem lateN_zero (l : List JobD) (i : Nat) (g : Nat → Int) : lateN l i 0 g = g := rfl
theorem lateN_succ {l : List JobD} {i t : Nat} {g : Nat → Int} {x : Nat} (h : (getJ l i).needs[t]? = some (x : Int)) : lateN l i (t + 1) g = fun j => if j = x then min (lateN l i t g j) (g i - (getJ l j).days) else lateN l i t g j := by
  unfold lateN
  rw [foldl_take_succ _ _ _ t _ h]
  funext j
  unfold lateF
  rw [Int.toNat_natCast]
theorem lateN_facts {l : List JobD} (hv : validS l = true) {i : Nat} (hi : i < l.length) (g : Nat → Int) (b : Int) (hb0 : b ≤ 1740) (hg : ∀ j, j < l.length → b ≤ g j ∧ g j ≤ 1800) :
    ∀ t, t ≤ (getJ l i).needs.length → (∀ j, i ≤ j → lateN l i t g j = g j) ∧ (∀ j, j < l.length → b - 60 ≤ lateN l i t g j ∧ lateN l i t g j ≤ 1800) := by
  obtain ⟨_, hall⟩ := valid_all hv
  intro t
  induction t with
  | zero => intro _; exact ⟨fun j _ => rfl, fun j hj => by have := hg j hj; rw [lateN_zero]; omega⟩
  | succ t ih =>
    intro ht
    obtain ⟨h1, h2⟩ := ih (by omega)
    obtain ⟨x, hx⟩ := get_ex (getJ l i).needs t (by omega)
    have hn := (hall i hi).2.2.2.2.1 t x hx
    obtain ⟨q, rfl⟩ := Int.eq_ofNat_of_zero_le hn.1
    rw [lateN_succ hx]
    refine ⟨fun j hj => ?_, fun j hj => ?_⟩
    · show (if j = q then _ else _) = _
      rw [if_neg (by omega)]
      exact h1 j hj
    · have h3 := h2 j hj
      have h4 := hg i hi
      have h5 := hall j hj
      show b - 60 ≤ (if j = q then _ else _) ∧ (if j = q then _ else _) ≤ _
      split
      · omega
      · exact h3
theorem lateG_bd {l : List JobD} (hv : validS l = true) {e : Int} (he : 0 ≤ e ∧ e ≤ 1800) : ∀ m, m ≤ l.length → ∀ j, j < l.length → -60 * ((m : Int) + 1) ≤ lateG l e m j ∧ lateG l e m j ≤ 1800 := by
  obtain ⟨_, hall⟩ := valid_all hv
  intro m
  induction m with
  | zero =>
    intro _ j hj
    have := hall j hj
    show _ ≤ e - (getJ l j).days ∧ e - (getJ l j).days ≤ 1800
    omega
  | succ m ih =>
    intro hm j hj
    have h1 := (lateN_facts hv (i := l.length - 1 - m) (by omega) (lateG l e m) (-60 * ((m : Int) + 1)) (by omega) (ih (by omega)) _ (Nat.le_refl _)).2 j hj
    show _ ≤ lateN l (l.length - 1 - m) (getJ l (l.length - 1 - m)).needs.length (lateG l e m) j ∧ lateN l (l.length - 1 - m) (getJ l (l.length - 1 - m)).needs.length (lateG l e m) j ≤ _
    omega
/-- what is at hand in the walk: job i is taken in round m -/
theorem late_at {l : List JobD} (hv : validS l = true) {e : Int} (he : 0 ≤ e ∧ e ≤ 1800) {i m : Nat} (hi : m + i + 1 = l.length) :
    lateG l e (m + 1) = lateN l i (getJ l i).needs.length (lateG l e m) ∧ -1860 ≤ lateG l e m i ∧ lateG l e m i ≤ 1800 ∧
    ∀ t, t ≤ (getJ l i).needs.length → (∀ j, i ≤ j → lateN l i t (lateG l e m) j = lateG l e m j) ∧ (∀ j, j < l.length → -1920 ≤ lateN l i t (lateG l e m) j ∧ lateN l i t (lateG l e m) j ≤ 1800) := by
  have h30 := (valid_all hv).1
  have hd : l.length - 1 - m = i := by omega
  have hb := lateG_bd hv he m (by omega)
  have hbi := hb i (by omega)
  refine ⟨?_, by omega, by omega, ?_⟩
  · show lateN l (l.length - 1 - m) (getJ l (l.length - 1 - m)).needs.length (lateG l e m) = _
    rw [hd]
  · exact lateN_facts hv (i := i) (by omega) (lateG l e m) (-1860) (by omega) fun j hj => (by have := hb j hj; omega)
def fi (n : Nat) (g : Nat → Int) : List Value := fl n fun j => .int .i64 (g j)
theorem fi_get {n : Nat} {g : Nat → Int} {i : Nat} (h : i < n) : (fi n g)[i]? = some (.int .i64 (g i)) := fl_get h
theorem fi_set {n : Nat} {g g' : Nat → Int} {i : Nat} {v : Int} (h : ∀ j, j < n → g' j = if j = i then v else g j) : (fi n g).set i (.int .i64 v) = fi n g' := by
  apply fl_set_eq
  intro j hj
  rw [h j hj]
  split <;> rfl
theorem fi_congr {n : Nat} {g g' : Nat → Int} (h : ∀ i, i < n → g i = g' i) : fi n g = fi n g' := fl_congr fun i hi => by rw [h i hi]
theorem fi_map (n : Nat) (g : Nat → Int) : fi n g = ((List.range n).map g).map (Value.int .i64) := by rw [List.map_map]; rfl
def lateL (l : List JobD) : List Int := (List.range l.length).map (lateG l (daysM l l.length) l.length)
theorem lateL_len (l : List JobD) : (lateL l).length = l.length := by unfold lateL; rw [List.length_map, List.length_range]
/-- the other side keeps the ends of the jobs that have not been taken -/
def toE (l : List JobD) (b : Nat) (g : Nat → Int) : Nat → Int := fun j => if j < b then g j + (getJ l j).days else g j
end Go.Proofs.Ytaebofpgdonnbaa
