/- Plain laws of the most machines. -/
import Derived.Test.YtnifpmfmhilhlaaPieceMath3
import Derived.Test.YtnifpmfmhilhlaaFL
set_option linter.unusedVariables false
set_option linter.unusedSimpArgs false
namespace Go.Proofs.Ytnifpmfmhilhlaa

/-- some piece below index m belongs to piece j -/
def parU (l : List PieceD) (m j : Nat) : Bool := (List.range m).any fun i => decide (0 < i) && (getP l i).parent == (j : Int)
theorem parU_succ (l : List PieceD) (m j : Nat) : parU l (m + 1) j = (parU l m j || (decide (0 < m) && (getP l m).parent == (j : Int))) := by
  unfold parU
  rw [List.range_succ, List.any_append]
  simp
theorem parU_one (l : List PieceD) (j : Nat) : parU l 1 j = false := by
  unfold parU
  rw [show List.range 1 = [0] from rfl]
  simp
theorem parU_zero (l : List PieceD) (j : Nat) : parU l 0 j = false := rfl
def parV (l : List PieceD) (m j : Nat) : Value := .bool (parU l m j)
theorem parV_set {l : List PieceD} {n m p : Nat} (h0 : 0 < m) (hp : (getP l m).parent = (p : Int)) : (fl n (parV l m)).set p (.bool true) = fl n (parV l (m + 1)) := by
  apply fl_set_eq
  intro j hj
  unfold parV
  rw [parU_succ, hp, decide_eq_true h0, Bool.true_and]
  by_cases h : j = p
  · subst h; rw [if_pos rfl]; simp
  · rw [if_neg h]
    have : ((p : Int) == (j : Int)) = false := by rw [beq_eq_false_iff_ne]; omega
    rw [this, Bool.or_false]
theorem parV_start (l : List PieceD) (n : Nat) : fl n (fun _ => Value.bool false) = fl n (parV l 1) := fl_congr fun j _ => by unfold parV; rw [parU_one]

def enB (l : List PieceD) (s : List Int) (m : Int) (n k : Nat) : Bool := (List.range k).all fun i => parU l n i || (missL l s m n).getD i 0 == 0
theorem enB_succ (l : List PieceD) (s : List Int) (m : Int) (n k : Nat) : enB l s m n (k + 1) = (enB l s m n k && (parU l n k || (missL l s m n).getD k 0 == 0)) := by
  unfold enB
  rw [List.range_succ, List.all_append]
  simp
theorem enB_no {l : List PieceD} {s : List Int} {m : Int} {n k : Nat} (hk : k < n) (h : (parU l n k || (missL l s m n).getD k 0 == 0) = false) : enB l s m n n = false := all_range_no _ n k hk h

def bsr (P : Int → Bool) : Nat → Int → Int → Int
  | 0, lo, _ => lo
  | f + 1, lo, hi => if lo < hi then (if P ((lo + hi + 1) / 2) = true then bsr P f ((lo + hi + 1) / 2) hi else bsr P f lo ((lo + hi + 1) / 2 - 1)) else lo
theorem bsr_yes {P : Int → Bool} {f : Nat} {lo hi : Int} (h : lo < hi) (hp : P ((lo + hi + 1) / 2) = true) : bsr P (f + 1) lo hi = bsr P f ((lo + hi + 1) / 2) hi := by
  conv => lhs; unfold bsr
  rw [if_pos h, if_pos hp]
theorem bsr_no {P : Int → Bool} {f : Nat} {lo hi : Int} (h : lo < hi) (hp : P ((lo + hi + 1) / 2) = false) : bsr P (f + 1) lo hi = bsr P f lo ((lo + hi + 1) / 2 - 1) := by
  conv => lhs; unfold bsr
  rw [if_pos h, if_neg (by rw [hp]; simp)]
theorem bsr_end {P : Int → Bool} {f : Nat} {lo hi : Int} (h : ¬ lo < hi) : bsr P f lo hi = lo := by
  cases f with
  | zero => rfl
  | succ f => unfold bsr; rw [if_neg h]
def mostR (l : List PieceD) (s : List Int) : Int × Int := if stockR l s = 0 then (bsr (fun m => enB l s m l.length l.length) 1000001 0 1000000, 0) else (0, stockR l s)
end Go.Proofs.Ytnifpmfmhilhlaa
