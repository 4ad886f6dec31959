/- Contracts: the fraction with a text form, both sides. -/
import Derived.Test.YtphckllloiogjaaDoorFracText
import Derived.Test.YtphckllloiogjaaDoorCut
set_option linter.unusedVariables false
set_option linter.unusedSimpArgs false
namespace Go.Proofs.YtphckllloiogjaaDoor
open Go.RowKit

def rf1 (a : Int × Bool) : (Int × Int) × Bool := if a.2 = true ∧ plainB a.1 1 = true then ((a.1, 1), true) else ((0, 0), false)
def rf2 (a b : Int × Bool) : (Int × Int) × Bool := if a.2 = true ∧ b.2 = true ∧ 1 < b.1 ∧ plainB a.1 b.1 = true then ((a.1, b.1), true) else ((0, 0), false)
theorem rdecT_true {s t : ByteArray} {neg : Bool} {n : Int} (h : rdecT s t neg = (n, true)) : dec n = s ∧ -1000000000000000000 < n ∧ n < 1000000000000000000 := by
  unfold rdecT at h
  split at h
  · cases h
  · rename_i hc
    split at h
    · rename_i hd
      injection h with h1 _
      subst h1
      refine ⟨hd, ?_⟩
      have hb := numAt_bd (t := t) (k := t.size) (by
        cases ha : allDig t t.size
        · exact absurd (.inr (.inr ha)) hc
        · rfl) (by omega)
      unfold numM
      split <;> omega
    · cases h
theorem rdec_true {s : ByteArray} {n : Int} (h : rdec s = (n, true)) : dec n = s ∧ -1000000000000000000 < n ∧ n < 1000000000000000000 := by
  unfold rdec at h
  split at h
  · exact rdecT_true h
  · exact rdecT_true h
theorem rdec_false {s : ByteArray} {n : Int} (h : rdec s = (n, false)) : n = 0 := by
  have key : ∀ {t : ByteArray} {neg : Bool}, rdecT s t neg = (n, false) → n = 0 := fun {t neg} h => by
    unfold rdecT at h
    split at h
    · injection h with h1 _; exact h1.symm
    · split at h
      · cases h
      · injection h with h1 _; exact h1.symm
  unfold rdec at h
  split at h
  · exact key h
  · exact key h
theorem rdec_bd (s : ByteArray) : -1000000000000000000 < (rdec s).1 ∧ (rdec s).1 < 1000000000000000000 := by
  cases h : rdec s with
  | mk n o =>
    cases o
    · have h1 := rdec_false h
      show -1000000000000000000 < n ∧ n < 1000000000000000000
      omega
    · exact (rdec_true h).2
theorem rdec_nonempty {s : ByteArray} {n : Int} (h : rdec s = (n, true)) : ¬ s.size = 0 := fun h0 => by
  have : rdec s = (0, false) := by
    unfold rdec
    rw [if_neg (by omega)]
    exact rdecT_bad (.inl h0)
  rw [this] at h
  cases h
/-- a text with a byte that stands in no number -/
theorem rdec_slash {s : ByteArray} {j : Nat} (hj : j < s.size) (hb : byteAt s j = 47) : rdec s = (0, false) := by
  unfold rdec
  split
  · rename_i hc
    have hj0 : j ≠ 0 := fun h => by rw [h] at hb; omega
    obtain ⟨i, rfl⟩ : ∃ i, j = i + 1 := ⟨j - 1, by omega⟩
    refine rdecT_bad (.inr (.inr (allDig_no (k := i) (by rw [ByteArray.size_extract]; omega) ?_)))
    have : byteAt (s.extract 1 s.size) i = byteAt s (i + 1) := by
      unfold byteAt
      rw [ByteArray.data_extract, Array.toList_extract, List.extract_eq_take_drop, List.getElem?_take]
      rw [if_pos (by omega), List.getElem?_drop, Nat.add_comm]
    rw [this, hb]; rfl
  · exact rdecT_bad (.inr (.inr (allDig_no hj (by rw [hb]; rfl))))
theorem byteAt_behind {s : ByteArray} {m i : Nat} (h : m + i < s.size) : byteAt (s.extract m s.size) i = byteAt s (m + i) := by
  unfold byteAt
  rw [ByteArray.data_extract, Array.toList_extract, List.extract_eq_take_drop, List.getElem?_take]
  rw [if_pos (by omega), List.getElem?_drop]
theorem whole_cut {s : ByteArray} {m : Nat} (hm : m < s.size) (hb : byteAt s m = 47) : s.extract 0 m ++ ⟨#[47]⟩ ++ s.extract (m + 1) s.size = s := by
  have h1 := ext_one s m hm
  have h2 : s[m] = 47 := by
    have := byteAt_eq s m hm
    rw [hb] at this
    exact UInt8.toNat_inj.1 (by have h : (47 : UInt8).toNat = 47 := rfl; omega)
  have h3 : s.extract m (m + 1) = ⟨#[47]⟩ := by
    by_cases h : s.extract m (m + 1) = ⟨#[47]⟩
    · exact h
    · exact absurd (by rw [h1, one_toList, h2]) (str_ne h)
  rw [← h3, ByteArray.extract_append_extract, show min 0 m = 0 by omega, show max m (m + 1) = m + 1 by omega, ByteArray.extract_append_extract, show min 0 (m + 1) = 0 by omega, show max (m + 1) s.size = s.size by omega]
  exact ByteArray.extract_zero_size
theorem text_one {s : ByteArray} {n : Int} (h : rdec s = (n, true)) : ftx (n, 1) = s ↔ plainB n 1 = true := by
  constructor
  · intro e
    cases hp : plainB n 1
    · exfalso
      have : ftx (n, 1) = ⟨#[]⟩ := if_neg (by rw [hp]; simp)
      rw [this] at e
      exact rdec_nonempty h (by rw [← e]; rfl)
    · rfl
  · intro hp
    rw [ftx_one hp rfl]
    exact (rdec_true h).1
theorem text_two {s : ByteArray} {m : Nat} {a b : Int} (hm : m < s.size) (hb : byteAt s m = 47) (h1 : rdec (s.extract 0 m) = (a, true)) (h2 : rdec (s.extract (m + 1) s.size) = (b, true)) : ftx (a, b) = s ↔ 1 < b ∧ plainB a b = true := by
  have e1 := (rdec_true h1).1
  have e2 := (rdec_true h2).1
  constructor
  · intro e
    cases hp : plainB a b
    · exfalso
      have : ftx (a, b) = ⟨#[]⟩ := if_neg (by rw [hp]; simp)
      rw [this] at e
      have hz : s.size = 0 := by rw [← e]; rfl
      omega
    · have hb1 := (plainB_iff.1 hp).2.1.1
      by_cases hb2 : b = 1
      · exfalso
        rw [ftx_one hp hb2, e1] at e
        have := congrArg ByteArray.size e
        rw [ByteArray.size_extract] at this
        omega
      · exact ⟨by omega, rfl⟩
  · rintro ⟨hb1, hp⟩
    rw [ftx_two hp (by omega), e1, e2]
    exact whole_cut hm hb

end Go.Proofs.YtphckllloiogjaaDoor
