/- Plain laws of lists of pieces; nothing of the program. -/
import Derived.Test.YtaebofpgdonnbaaDoorScal
set_option linter.unusedVariables false
set_option linter.unusedSimpArgs false
namespace Go.Proofs.YtaebofpgdonnbaaDoor

instance : Inhabited PieceD := ⟨⟨ByteArray.empty, 0, 0, 0⟩⟩
def getP (l : List PieceD) (i : Nat) : PieceD := l[i]?.getD default
theorem getP_eq {l : List PieceD} {i : Nat} {d : PieceD} (h : l[i]? = some d) : getP l i = d := by rw [getP, h]; rfl

/-- the first m pieces are placed well -/
def St (l : List PieceD) (m : Nat) : Prop := ∀ j, j < m → 1 ≤ (getP l j).each ∧ (getP l j).each ≤ 100 ∧ -1 ≤ (getP l j).parent ∧ (getP l j).parent < (j : Int)
theorem St.mono {l : List PieceD} {m m' : Nat} (h : St l m) (hm : m' ≤ m) : St l m' := fun j hj => h j (by omega)

def prodT (l : List PieceD) : Nat → Nat → Int
  | 0, _ => 1
  | f + 1, k => (getP l k).each * (if (getP l k).parent < 0 then 1 else prodT l f (getP l k).parent.toNat)
theorem prodT_fuel {l : List PieceD} {m : Nat} (h : St l m) : ∀ (f f' k : Nat), k < m → k < f → k < f' → prodT l f k = prodT l f' k := by
  intro f
  induction f with
  | zero => intro f' k _ h1; omega
  | succ f ih =>
    intro f' k hk h1 h2
    cases f' with
    | zero => omega
    | succ f' =>
      simp only [prodT]
      congr 1
      split
      · rfl
      · obtain ⟨_, _, h3, h4⟩ := h k hk
        exact ih f' _ (by omega) (by omega) (by omega)
/-- how many times a machine has piece k; one for no piece -/
def TI (l : List PieceD) (k : Int) : Int := if k < 0 then 1 else prodT l (k.toNat + 1) k.toNat
theorem TI_neg {l : List PieceD} {k : Int} (h : k < 0) : TI l k = 1 := by unfold TI; rw [if_pos h]
theorem TI_step {l : List PieceD} {m : Nat} (h : St l m) (k : Nat) (hk : k < m) : TI l (k : Int) = (getP l k).each * TI l (getP l k).parent := by
  obtain ⟨_, _, h3, h4⟩ := h k hk
  unfold TI
  rw [if_neg (by omega), Int.toNat_natCast]
  show (getP l k).each * (if (getP l k).parent < 0 then 1 else prodT l k (getP l k).parent.toNat) = _
  congr 1
  split
  · rfl
  · exact prodT_fuel h _ _ _ (by omega) (by omega) (by omega)
theorem TI_pos {l : List PieceD} {m : Nat} (h : St l m) : ∀ (k : Int), k < (m : Int) → 1 ≤ TI l k := by
  have key : ∀ (n : Nat) (k : Int), k < (n : Int) → k < (m : Int) → 1 ≤ TI l k := by
    intro n
    induction n with
    | zero => intro k h1 _; rw [TI_neg (by omega)]; omega
    | succ n ih =>
      intro k h1 h2
      by_cases h0 : k < 0
      · rw [TI_neg h0]; omega
      · obtain ⟨q, rfl⟩ := Int.eq_ofNat_of_zero_le (show 0 ≤ k by omega)
        rw [TI_step h q (by omega)]
        obtain ⟨e1, _, e3, e4⟩ := h q (by omega)
        have := ih (getP l q).parent (by omega) (by omega)
        have := Int.mul_le_mul e1 this (by omega) (by omega)
        omega
  exact fun k hk => key m k hk hk

theorem mul_bd {a b m k : Int} (h1 : 1 ≤ a) (h2 : a ≤ m) (h3 : 1 ≤ b) (h4 : b ≤ k) : 1 ≤ a * b ∧ a * b ≤ m * k ∧ a ≤ a * b ∧ b ≤ a * b := by
  have e1 := Int.mul_le_mul h1 h3 (by omega) (by omega)
  have e2 := Int.mul_le_mul h2 h4 (by omega) (by omega)
  have e3 := Int.mul_le_mul_of_nonneg_left h3 (show 0 ≤ a by omega)
  have e4 := Int.mul_le_mul_of_nonneg_right h1 (show 0 ≤ b by omega)
  omega

/-- what is said of an answer r where the true total is T -/
def PT (T r : Int) : Prop := (T ≤ 1000000 → r = T) ∧ (1000000 < T → 1000000 < r)
theorem PT_iff {T r : Int} (h : PT T r) : (1000000 < r) ↔ 1000000 < T := by unfold PT at h; omega

/-- the program's loop -/
theorem totI_step {l : List PieceD} {m : Nat} (h : St l m) {T n : Int} {k : Nat} (hk : k < m) (hn1 : 1 ≤ n) (hn2 : n ≤ 1000000) (hT : n * TI l (k : Int) = T) :
    (n * (getP l k).each) * TI l (getP l k).parent = T ∧ 1 ≤ n * (getP l k).each ∧ n * (getP l k).each ≤ 100000000 := by
  obtain ⟨e1, e2, _, _⟩ := h k hk
  have := mul_bd hn1 hn2 e1 e2
  rw [Int.mul_assoc, ← TI_step h k hk]
  exact ⟨hT, by omega, by omega⟩
theorem totI_end {l : List PieceD} {T n k : Int} (hk : k < 0) (hT : n * TI l k = T) : PT T n := by
  rw [TI_neg hk] at hT
  unfold PT; omega
theorem totI_big {l : List PieceD} {m : Nat} (h : St l m) {T n k : Int} (hk : k < (m : Int)) (hn : 1000000 < n) (hT : n * TI l k = T) : PT T n := by
  have h1 := TI_pos h k hk
  have := Int.mul_le_mul_of_nonneg_left h1 (show 0 ≤ n by omega)
  unfold PT; omega

/-- the reference's loop -/
def JS (l : List PieceD) (T n k : Int) : Prop := 1 ≤ n ∧ n ≤ 1000000000001 ∧ ((n ≤ 1000000000000 ∧ n * TI l k = T) ∨ (n = 1000000000001 ∧ 1000000000000 < T))
theorem totS_step {l : List PieceD} {m : Nat} (h : St l m) {T n : Int} {k : Nat} (hk : k < m) (hJ : JS l T n (k : Int)) :
    JS l T (min 1000000000001 (n * (getP l k).each)) (getP l k).parent ∧ 0 ≤ n * (getP l k).each ∧ n * (getP l k).each ≤ 100000000000100 := by
  obtain ⟨e1, e2, e3, e4⟩ := h k hk
  obtain ⟨h1, h2, h3⟩ := hJ
  have hb := mul_bd h1 h2 e1 e2
  have hp := TI_pos h (getP l k).parent (by omega)
  refine ⟨?_, by omega, by omega⟩
  have hs := TI_step h k hk
  unfold JS
  generalize hq : n * (getP l k).each = q at *
  rcases h3 with ⟨h3, h4⟩ | ⟨h3, h4⟩
  · rw [hs, ← Int.mul_assoc, hq] at h4
    refine ⟨by omega, by omega, ?_⟩
    by_cases hq1 : q ≤ 1000000000000
    · left
      rw [Int.min_eq_right (by omega)]
      exact ⟨hq1, h4⟩
    · right
      rw [Int.min_eq_left (by omega)]
      have := Int.mul_le_mul_of_nonneg_left hp (show 0 ≤ q by omega)
      exact ⟨rfl, by omega⟩
  · refine ⟨by omega, by omega, .inr ⟨?_, h4⟩⟩
    omega
theorem totS_end {l : List PieceD} {T n k : Int} (hk : k < 0) (hJ : JS l T n k) : PT T n := by
  obtain ⟨h1, h2, h3⟩ := hJ
  rw [TI_neg hk] at h3
  unfold PT
  omega

/-! ### What is an inventory -/
def pieceB (d : PieceD) : Bool := nameB d.name && inB d.each 1 100 && inB d.price 0 1000000
def parB (k : Nat) (p : Int) : Bool := if k = 0 then p == -1 else inB p 0 ((k : Int) - 1)
def newB (l : List PieceD) (k : Nat) : Bool := (List.range k).all fun i => !((getP l i).name.toList == (getP l k).name.toList)
def okS (l : List PieceD) (k : Nat) : Bool := pieceB (getP l k) && (parB k (getP l k).parent && decide (TI l k ≤ 1000000)) && newB l k
def okI (l : List PieceD) (k : Nat) : Bool := pieceB (getP l k) && newB l k && parB k (getP l k).parent
def smT (l : List PieceD) (k : Nat) : Bool := decide (TI l k ≤ 1000000)
def validS (l : List PieceD) : Bool := inB l.length 1 40 && (List.range l.length).all (okS l)
def validI (l : List PieceD) : Bool := inB l.length 1 40 && (List.range l.length).all (okI l) && (List.range l.length).all (smT l)
theorem valid_eq (l : List PieceD) : validI l = validS l := by
  unfold validI validS
  rw [Bool.and_assoc]
  congr 1
  rw [Bool.eq_iff_iff, Bool.and_eq_true, all_range_iff, all_range_iff, all_range_iff]
  unfold okI okS smT
  constructor
  · intro ⟨h1, h2⟩ k hk
    have a := h1 k hk
    have b := h2 k hk
    simp only [Bool.and_eq_true] at *
    exact ⟨⟨a.1.1, a.2, b⟩, a.1.2⟩
  · intro h
    refine ⟨fun k hk => ?_, fun k hk => ?_⟩
    · have a := h k hk
      simp only [Bool.and_eq_true] at *
      exact ⟨⟨a.1.1, a.2⟩, a.1.2.1⟩
    · have a := h k hk
      simp only [Bool.and_eq_true] at *
      exact a.1.2.2
theorem parB_bd {k : Nat} {p : Int} (h : parB k p = true) : -1 ≤ p ∧ p < (k : Int) := by
  unfold parB at h
  split at h
  · have := eq_of_beq h; omega
  · have := inB_iff.1 h; omega
theorem St_of_okI {l : List PieceD} {m : Nat} (h : (List.range m).all (okI l) = true) : St l m := fun j hj => by
  have h1 := (all_range_iff _ _).1 h j hj
  unfold okI pieceB at h1
  simp only [Bool.and_eq_true] at h1
  have := inB_iff.1 h1.1.1.1.2
  have := parB_bd h1.2
  omega
theorem St_of_okS {l : List PieceD} {m : Nat} (h : (List.range m).all (okS l) = true) : St l m := fun j hj => by
  have h1 := (all_range_iff _ _).1 h j hj
  unfold okS pieceB at h1
  simp only [Bool.and_eq_true] at h1
  have := inB_iff.1 h1.1.1.1.2
  have := parB_bd h1.1.2.1
  omega
theorem St_succ {l : List PieceD} {m : Nat} (h : St l m) (h1 : pieceB (getP l m) = true) (h2 : parB m (getP l m).parent = true) : St l (m + 1) := fun j hj => by
  by_cases hjm : j < m
  · exact h j hjm
  · obtain rfl : j = m := by omega
    unfold pieceB at h1
    simp only [Bool.and_eq_true] at h1
    have := inB_iff.1 h1.1.2
    have := parB_bd h2
    omega
theorem valid_all {l : List PieceD} (h : validS l = true) : 1 ≤ l.length ∧ l.length ≤ 40 ∧ St l l.length ∧ ∀ k, k < l.length → TI l (k : Int) ≤ 1000000 ∧ 0 ≤ (getP l k).price ∧ (getP l k).price ≤ 1000000 ∧ parB k (getP l k).parent = true := by
  unfold validS at h
  rw [Bool.and_eq_true] at h
  have h0 := inB_iff.1 h.1
  refine ⟨by omega, by omega, St_of_okS h.2, fun k hk => ?_⟩
  have h1 := (all_range_iff _ _).1 h.2 k hk
  unfold okS pieceB at h1
  simp only [Bool.and_eq_true, decide_eq_true_eq] at h1
  have := inB_iff.1 h1.1.1.2
  exact ⟨h1.1.2.2, by omega, by omega, h1.1.2.1⟩
theorem validS_no {l : List PieceD} {k : Nat} (hk : k < l.length) (h : okS l k = false) : validS l = false := by unfold validS; rw [all_range_no _ _ k hk h, Bool.and_false]
theorem validI_no {l : List PieceD} {k : Nat} (hk : k < l.length) (h : okI l k = false) : validI l = false := by unfold validI; rw [all_range_no _ _ k hk h, Bool.and_false, Bool.false_and]
theorem validI_big {l : List PieceD} {k : Nat} (hk : k < l.length) (h : smT l k = false) : validI l = false := by unfold validI; rw [all_range_no (smT l) _ k hk h, Bool.and_false]
end Go.Proofs.YtaebofpgdonnbaaDoor
