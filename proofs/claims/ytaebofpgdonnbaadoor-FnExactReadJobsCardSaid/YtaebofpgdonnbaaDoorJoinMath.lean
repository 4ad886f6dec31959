/- Plain laws: a text is its words again, joined. -/
import Derived.Test.YtaebofpgdonnbaaDoorReads
set_option linter.unusedVariables false
set_option linter.unusedSimpArgs false
namespace Go.Proofs.YtaebofpgdonnbaaDoor

/-- each text with a byte behind it -/
def catc (c : UInt8) : List ByteArray → ByteArray
  | [] => ByteArray.empty
  | a :: r => a ++ ⟨#[c]⟩ ++ catc c r
theorem catc_app (c : UInt8) : ∀ (l r : List ByteArray), catc c (l ++ r) = catc c l ++ catc c r
  | [], r => by simp [catc]
  | a :: l, r => by
    show a ++ ⟨#[c]⟩ ++ catc c (l ++ r) = a ++ ⟨#[c]⟩ ++ catc c l ++ catc c r
    rw [catc_app c l r, ← ByteArray.append_assoc]
theorem ext_snoc (s : ByteArray) (f k : Nat) (hf : f ≤ k) (hk : k < s.size) : s.extract f (k + 1) = s.extract f k ++ s.extract k (k + 1) := by
  apply ByteArray.ext
  rw [ByteArray.data_append, ByteArray.data_extract, ByteArray.data_extract, ByteArray.data_extract]
  apply Array.ext'
  rw [Array.toList_append, Array.toList_extract, Array.toList_extract, Array.toList_extract, List.extract_eq_take_drop, List.extract_eq_take_drop, List.extract_eq_take_drop]
  have h' : k < s.data.toList.length := by simpa using hk
  rw [show k + 1 - f = (k - f) + 1 by omega, show k + 1 - k = 1 by omega, List.take_add, List.drop_drop, show f + (k - f) = k by omega]
theorem ext_byte (s : ByteArray) (k : Nat) (c : UInt8) (hk : k < s.size) (h : byteAt s k = (c.toNat : Int)) : s.extract k (k + 1) = ⟨#[c]⟩ := by
  apply ByteArray.ext
  apply Array.ext'
  have := (ext_is (s := s) (b := c) hk).2 h
  rw [ByteArray.toList_eq, ByteArray.toList_eq] at this
  exact this
theorem spl_join (s : ByteArray) (c : UInt8) : ∀ k, k ≤ s.size → catc c (spl s (c.toNat : Int) k).1 ++ s.extract (spl s (c.toNat : Int) k).2 k = s.extract 0 k ∧ (spl s (c.toNat : Int) k).2 ≤ k
  | 0, _ => by
    refine ⟨?_, Nat.le_refl _⟩
    simp [spl, catc]
  | k + 1, hk => by
    obtain ⟨ih, hle⟩ := spl_join s c k (by omega)
    have hb := (spl_bd s (c.toNat : Int) (k + 1)).2
    refine ⟨?_, hb⟩
    simp only [spl]
    split
    · rename_i hc
      rw [catc_app, ext_snoc s 0 k (Nat.zero_le _) (by omega), ← ih, ext_byte s k c (by omega) hc]
      simp [catc, ByteArray.append_assoc]
    · rw [ext_snoc s _ k hle (by omega), ← ByteArray.append_assoc, ih, ← ext_snoc s 0 k (Nat.zero_le _) (by omega)]
/-- the words of a text, joined, are the text -/
theorem splL_join (s : ByteArray) (c : UInt8) : ∃ acc last, splL s (c.toNat : Int) = acc ++ [last] ∧ catc c acc ++ last = s := by
  refine ⟨_, _, rfl, ?_⟩
  have := (spl_join s c s.size (Nat.le_refl _)).1
  rw [this, ByteArray.extract_zero_size]
theorem byteAt_ext {s : ByteArray} {a b i : Nat} (h : i < (s.extract a b).size) : byteAt (s.extract a b) i = byteAt s (a + i) := by
  rw [ByteArray.size_extract] at h
  unfold byteAt
  rw [ByteArray.data_extract, Array.toList_extract, List.extract_eq_take_drop, List.getElem?_take, if_pos (by omega), List.getElem?_drop]
theorem spl_free (s : ByteArray) (c : Int) : ∀ k, k ≤ s.size → (∀ x ∈ (spl s c k).1, ∀ j, j < x.size → ¬ byteAt x j = c) ∧ (∀ j, (spl s c k).2 ≤ j → j < k → ¬ byteAt s j = c)
  | 0, _ => ⟨fun x h => (by simp [spl] at h), fun j _ h => absurd h (Nat.not_lt_zero j)⟩
  | k + 1, hk => by
    obtain ⟨h1, h2⟩ := spl_free s c k (by omega)
    simp only [spl]
    split
    · refine ⟨fun x hx => ?_, fun j h3 h4 => by omega⟩
      rw [List.mem_append] at hx
      rcases hx with hx | hx
      · exact h1 x hx
      · simp at hx
        subst hx
        intro j hj
        rw [byteAt_ext hj]
        rw [ByteArray.size_extract] at hj
        exact h2 _ (by omega) (by omega)
    · rename_i hc
      refine ⟨h1, fun j h3 h4 => ?_⟩
      by_cases hjk : j = k
      · rw [hjk]; exact hc
      · exact h2 j h3 (by omega)
/-- no word holds the byte -/
theorem splL_free (s : ByteArray) (c : Int) : ∀ x ∈ splL s c, ∀ j, j < x.size → ¬ byteAt x j = c := fun x hx j hj => by
  obtain ⟨h1, h2⟩ := spl_free s c s.size (Nat.le_refl _)
  unfold splL at hx
  rw [List.mem_append] at hx
  rcases hx with hx | hx
  · exact h1 x hx j hj
  · simp at hx
    subst hx
    rw [byteAt_ext hj]
    rw [ByteArray.size_extract] at hj
    exact h2 _ (by omega) (by omega)
/-- two lists that are alike up to the first place of an element -/
theorem first_eq {α : Type} {c : α} : ∀ {a b A B : List α}, c ∉ a → c ∉ b → a ++ c :: A = b ++ c :: B → a = b
  | [], [], _, _, _, _, _ => rfl
  | [], y :: b, _, _, _, hb, h => by
    simp at h
    exact absurd (by rw [h.1]; exact List.mem_cons_self) hb
  | x :: a, [], _, _, ha, _, h => by
    simp at h
    exact absurd (by rw [← h.1]; exact List.mem_cons_self) ha
  | x :: a, y :: b, A, B, ha, hb, h => by
    simp only [List.cons_append, List.cons.injEq] at h
    rw [h.1, first_eq (fun hm => ha (List.mem_cons_of_mem _ hm)) (fun hm => hb (List.mem_cons_of_mem _ hm)) h.2]
end Go.Proofs.YtaebofpgdonnbaaDoor
