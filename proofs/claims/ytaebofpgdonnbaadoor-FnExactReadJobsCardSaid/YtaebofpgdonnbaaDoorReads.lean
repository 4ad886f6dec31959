/- Plain laws of numbers read and of texts split; words of a line. -/
import Derived.Test.YtaebofpgdonnbaaDoorLawStrs
import Derived.Test.YtaebofpgdonnbaaDoorParts
import Derived.Deep.DeepCutAuto
set_option linter.unusedVariables false
set_option linter.unusedSimpArgs false
namespace Go.Proofs.YtaebofpgdonnbaaDoor
open Go.RowKit

theorem rdecT_true {s t : ByteArray} {neg : Bool} {n : Int} (h : rdecT s t neg = (n, true)) : dec n = s ∧ -1000000000000000000 < n ∧ n < 1000000000000000000 := by
  unfold rdecT at h
  split at h
  · cases h
  · rename_i hc
    split at h
    · rename_i hd
      injection h with h1 _
      subst h1
      refine ⟨hd, ?_⟩
      have hb := numAt_bd (t := t) (k := t.size) (by
        cases ha : allDig t t.size
        · exact absurd (.inr (.inr ha)) hc
        · rfl) (by omega)
      unfold numM
      split <;> omega
    · cases h
theorem rdec_true {s : ByteArray} {n : Int} (h : rdec s = (n, true)) : dec n = s ∧ -1000000000000000000 < n ∧ n < 1000000000000000000 := by
  unfold rdec at h
  split at h
  · exact rdecT_true h
  · exact rdecT_true h
theorem rdec_false {s : ByteArray} {n : Int} (h : rdec s = (n, false)) : n = 0 := by
  have key : ∀ {t : ByteArray} {neg : Bool}, rdecT s t neg = (n, false) → n = 0 := fun {t neg} h => by
    unfold rdecT at h
    split at h
    · injection h with h1 _; exact h1.symm
    · split at h
      · cases h
      · injection h with h1 _; exact h1.symm
  unfold rdec at h
  split at h
  · exact key h
  · exact key h
theorem rdec_bd (s : ByteArray) : -1000000000000000000 < (rdec s).1 ∧ (rdec s).1 < 1000000000000000000 := by
  cases h : rdec s with
  | mk n o =>
    cases o
    · have h1 := rdec_false h
      show -1000000000000000000 < n ∧ n < 1000000000000000000
      omega
    · exact (rdec_true h).2
theorem rdec_nonempty {s : ByteArray} {n : Int} (h : rdec s = (n, true)) : ¬ s.size = 0 := fun h0 => by
  have : rdec s = (0, false) := by
    unfold rdec
    rw [if_neg (by omega)]
    exact rdecT_bad (.inl h0)
  rw [this] at h
  cases h

theorem extract_size (s : ByteArray) (a b : Nat) : (s.extract a b).size ≤ s.size := by rw [ByteArray.size_extract]; omega
theorem spl_size (s : ByteArray) (c : Int) : ∀ k, ∀ x ∈ (spl s c k).1, x.size ≤ s.size
  | 0, x, h => by cases h
  | k + 1, x, h => by
    simp only [spl] at h
    split at h
    · rw [List.mem_append] at h
      rcases h with h | h
      · exact spl_size s c k x h
      · simp at h; rw [h]; exact extract_size _ _ _
    · exact spl_size s c k x h
theorem splL_size (s : ByteArray) (c : Int) : ∀ x ∈ splL s c, x.size ≤ s.size := fun x h => by
  unfold splL at h
  rw [List.mem_append] at h
  rcases h with h | h
  · exact spl_size s c _ x h
  · simp at h; rw [h]; exact extract_size _ _ _
theorem splL_len (s : ByteArray) (c : Int) : 1 ≤ (splL s c).length ∧ (splL s c).length ≤ s.size + 1 := by
  unfold splL
  rw [List.length_append]
  have := (spl_bd s c s.size).1
  simp
  omega
/-- words that the call has made, in their block -/
theorem words_in {w : World} {B : Nat} {v : Value} {l : List ByteArray} {n : Nat} (h : w.ownsRow B 9 1 v l.length (l.map Value.string)) (hn : l.length = n + 1) :
    ∃ g cap, v = .slice (some ⟨g, 0, none⟩) (n + 1) cap ∧ B ≤ g ∧ g < w.heap.size ∧ ∀ i x, l[i]? = some x → w.cell? ⟨g, i, none⟩ = some (.string x) := by
  rw [hn] at h
  have hl := h.lt
  rcases h.2 with ⟨hv, h0⟩ | ⟨g, cap, cur, rfl, _⟩
  · omega
  · refine ⟨g, cap, rfl, (hl g rfl).1, (hl g rfl).2, fun i x hi => ?_⟩
    have hil : i < l.length := (List.getElem?_eq_some_iff.1 hi).1
    rw [h.cellAt i (by omega), List.getElem?_map, hi]
    rfl
end Go.Proofs.YtaebofpgdonnbaaDoor
