/- Plain laws of prices, taken in 64 bits. -/
import Derived.Test.YtnifpmfmhilhlaaPieceMath2
set_option linter.unusedVariables false
set_option linter.unusedSimpArgs false
namespace Go.Proofs.Ytnifpmfmhilhlaa
open Go.RowKit

/-- the same in 64 bits -/
def Cg (a b : Int) : Prop := ∃ t : Int, a = b + 18446744073709551616 * t
theorem Cg.refl (a : Int) : Cg a a := ⟨0, by omega⟩
theorem Cg.add {a b c d : Int} (h : Cg a b) (k : Cg c d) : Cg (a + c) (b + d) := by
  obtain ⟨s, hs⟩ := h
  obtain ⟨t, ht⟩ := k
  exact ⟨s + t, by rw [Int.mul_add]; omega⟩
theorem Cg.mul (e : Int) {a b : Int} (h : Cg a b) : Cg (e * a) (e * b) := by
  obtain ⟨s, hs⟩ := h
  exact ⟨e * s, by rw [hs, Int.mul_add, Int.mul_left_comm]⟩
theorem Cg.trans {a b c : Int} (h : Cg a b) (k : Cg b c) : Cg a c := by
  obtain ⟨s, hs⟩ := h
  obtain ⟨t, ht⟩ := k
  exact ⟨s + t, by rw [Int.mul_add]; omega⟩
theorem Cg.wrap (a : Int) : Cg (IntKind.i64.wrap a) a := by
  rw [IntWalk.i64_left]
  unfold wrap64
  exact ⟨-((a + 9223372036854775808) / 18446744073709551616), by omega⟩
theorem Cg.wr (a : Int) : Cg (RowKit.wrap64 a) a := by rw [← IntWalk.i64_left]; exact Cg.wrap a
theorem Cg.eq {a b : Int} (h : Cg a b) (h1 : -9223372036854775808 ≤ a) (h2 : a ≤ 9223372036854775807) : a = RowKit.wrap64 b := by
  obtain ⟨t, ht⟩ := h
  unfold RowKit.wrap64
  omega

def sm (f : Nat → Int) : Nat → Int
  | 0 => 0
  | n + 1 => sm f n + f n
theorem sm_diff {f g : Nat → Int} {a : Nat} : ∀ b, a ≤ b → (∀ i, a ≤ i → i < b → f i = g i) → sm f b - sm f a = sm g b - sm g a := by
  intro b
  induction b with
  | zero =>
    intro h _
    have : a = 0 := by omega
    subst this
    rfl
  | succ b ih =>
    intro h hfg
    by_cases hab : a = b + 1
    · subst hab; omega
    · have h1 := ih (by omega) fun i h1 h2 => hfg i h1 (by omega)
      have h2 := hfg b (by omega) (by omega)
      show sm f b + f b - sm f a = sm g b + g b - sm g a
      omega
/-- the price of piece k with all that belongs to it; n pieces; fuel first -/
def PF (l : List PieceD) (n : Nat) : Nat → Nat → Int
  | 0, _ => 0
  | f + 1, k => (getP l k).price + (sm (fun i => if (getP l i).parent = (k : Int) then (getP l i).each * PF l n f i else 0) n - sm (fun i => if (getP l i).parent = (k : Int) then (getP l i).each * PF l n f i else 0) (k + 1))
theorem PF_fuel (l : List PieceD) (n : Nat) : ∀ (f f' k : Nat), k < n → n - k ≤ f → n - k ≤ f' → PF l n f k = PF l n f' k := by
  intro f
  induction f with
  | zero => intro f' k h1 h2; omega
  | succ f ih =>
    intro f' k h1 h2 h3
    cases f' with
    | zero => omega
    | succ f' =>
      show (getP l k).price + (_ - _) = (getP l k).price + (_ - _)
      congr 1
      refine sm_diff n (by omega) fun i hi1 hi2 => ?_
      rw [ih f' i hi2 (by omega) (by omega)]
def priceP (l : List PieceD) (n k : Nat) : Int := PF l n (n - k) k
/-- what piece i adds to the price of piece k -/
def addP (l : List PieceD) (n k i : Nat) : Int := if (getP l i).parent = (k : Int) then (getP l i).each * priceP l n i else 0
theorem priceP_eq {l : List PieceD} {n k : Nat} (hk : k < n) : priceP l n k = (getP l k).price + (sm (addP l n k) n - sm (addP l n k) (k + 1)) := by
  unfold priceP
  obtain ⟨f, hf⟩ : ∃ f, n - k = f + 1 := ⟨n - k - 1, by omega⟩
  rw [hf]
  show (getP l k).price + (_ - _) = (getP l k).price + (_ - _)
  congr 1
  refine sm_diff n (by omega) fun i hi1 hi2 => ?_
  unfold addP priceP
  rw [PF_fuel l n f (n - i) i hi2 (by omega) (by omega)]
end Go.Proofs.Ytnifpmfmhilhlaa
