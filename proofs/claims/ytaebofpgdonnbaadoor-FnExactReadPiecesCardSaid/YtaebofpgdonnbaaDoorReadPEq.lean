/- Plain law: the pieces that the program reads and those that the reference reads are the same. -/
import Derived.Test.YtaebofpgdonnbaaDoorReadPMath
set_option linter.unusedVariables false
set_option linter.unusedSimpArgs false
namespace Go.Proofs.YtaebofpgdonnbaaDoor

def tlOk (L : List ByteArray) : Bool := (L.getLast?.getD ByteArray.empty).size == 0
def readPI (s : ByteArray) : List PieceD × Bool :=
  if tlOk (splL s 10) = true then (match parseI (splL s 10).dropLast [] with
    | some l => if ¬ s.size = 0 ∧ ((ptextR l).toList == s.toList) = true then (l, true) else ([], false)
    | none => ([], false)) else ([], false)
def readPS (s : ByteArray) : List PieceD × Bool :=
  if tlOk (splL s 10) = true ∧ (splL s 10).length ≤ 41 then (match parseS (splL s 10).dropLast [] with
    | some l => if validS l = true then (l, true) else ([], false)
    | none => ([], false)) else ([], false)
theorem empty_of {s : ByteArray} (h : s.size = 0) : s = ByteArray.empty := by
  apply ByteArray.ext
  apply Array.ext'
  have : s.data.toList.length = 0 := by simpa using h
  rw [List.eq_nil_of_length_eq_zero this]
  rfl
theorem parseI_len : ∀ (lines : List ByteArray) (out l : List PieceD), parseI lines out = some l → l.length = out.length + lines.length
  | [], out, l, h => by simp [parseI] at h; simp [h]
  | ln :: r, out, l, h => by
    unfold parseI at h
    split at h
    · split at h
      · have := parseI_len r _ l h
        rw [this, List.length_append]
        simp
        omega
      · cases h
    · cases h
theorem textP_head (l : List PieceD) : ∀ k, ∃ T, textP l (k + 1) = lineP l 0 ++ T
  | 0 => ⟨ByteArray.empty, by simp [textP]⟩
  | k + 1 => by
    obtain ⟨T, hT⟩ := textP_head l k
    exact ⟨T ++ lineP l (k + 1), by show textP l (k + 1) ++ lineP l (k + 1) = _; rw [hT, ByteArray.append_assoc]⟩
theorem free_list {x : ByteArray} {c : UInt8} (h : ∀ j, j < x.size → ¬ byteAt x j = (c.toNat : Int)) : c ∉ x.data.toList := fun hm => by
  obtain ⟨j, hj, e⟩ := List.getElem_of_mem hm
  have hjs : j < x.size := by simpa using hj
  apply h j hjs
  unfold byteAt
  rw [List.getElem?_eq_getElem hj, e]
  rfl
theorem join4 {ln w0 w1 w2 w3 : ByteArray} (h : splL ln 32 = [w0, w1, w2, w3]) : ln = w0 ++ ⟨#[32]⟩ ++ w1 ++ ⟨#[32]⟩ ++ w2 ++ ⟨#[32]⟩ ++ w3 := by
  obtain ⟨acc, last, h1, h2⟩ := splL_join ln 32
  have h1' : splL ln 32 = acc ++ [last] := h1
  rw [h] at h1'
  have h3 : [w0, w1, w2] ++ [w3] = acc ++ [last] := h1'
  have h4 := List.append_inj' h3 rfl
  have h5 : w3 = last := by have := h4.2; simpa using this
  rw [← h2, ← h4.1, ← h5]
  simp [catc, ByteArray.append_assoc]
/-- the first piece's second word is '-' if the text is the text of what is read -/
theorem first_dash {l : List PieceD} {s ln : ByteArray} {r : List ByteArray} {w0 w1 w2 w3 : ByteArray} (hv : validS l = true) (hp : parseI (ln :: r) [] = some l) (hw : splL ln 32 = [w0, w1, w2, w3])
    (hs : s = catc 10 (ln :: r)) (ht : textP l l.length = s) : (w1.toList == (⟨#[45]⟩ : ByteArray).toList) = true := by
  have hl1 := (valid_all hv).1
  obtain ⟨T, hT⟩ := textP_head l (l.length - 1)
  rw [show l.length - 1 + 1 = l.length by omega, ht, hs] at hT
  have hg : getP l 0 = ⟨w0, -1, (rdec w2).1, (rdec w3).1⟩ := by
    unfold parseI at hp
    rw [hw] at hp
    simp only at hp
    split at hp
    · obtain ⟨t, he⟩ := parseI_pre r _ l hp
      rw [he]
      rfl
    · cases hp
  have hline : lineP l 0 = w0 ++ ⟨#[32]⟩ ++ (⟨#[45]⟩ ++ ⟨#[32]⟩ ++ (dec (rdec w2).1 ++ ⟨#[32]⟩ ++ dec (rdec w3).1 ++ ⟨#[10]⟩)) := by
    unfold lineP parT
    rw [hg]
    show w0 ++ ⟨#[32]⟩ ++ (if (0 : Int) ≤ -1 then _ else ⟨#[45]⟩) ++ ⟨#[32]⟩ ++ dec (rdec w2).1 ++ ⟨#[32]⟩ ++ dec (rdec w3).1 ++ ⟨#[10]⟩ = _
    rw [if_neg (by omega)]
    simp [ByteArray.append_assoc]
  have hcat : catc 10 (ln :: r) = w0 ++ ⟨#[32]⟩ ++ (w1 ++ ⟨#[32]⟩ ++ (w2 ++ ⟨#[32]⟩ ++ w3 ++ ⟨#[10]⟩ ++ catc 10 r)) := by
    show ln ++ ⟨#[10]⟩ ++ catc 10 r = _
    conv => lhs; rw [join4 hw]
    simp [ByteArray.append_assoc]
  rw [hline, hcat] at hT
  have e1 := congrArg (fun b : ByteArray => b.data.toList) hT
  simp only [ByteArray.data_append, Array.toList_append, List.append_assoc] at e1
  have e2 := List.append_cancel_left (List.append_cancel_left e1)
  have hfree := splL_free ln 32
  have hw1 : (32 : UInt8) ∉ w1.data.toList := free_list (c := 32) (hfree w1 (by rw [hw]; simp))
  have e3 : w1.data.toList = [45] := first_eq (c := (32 : UInt8)) hw1 (by decide) e2
  rw [beq_iff_eq, ByteArray.toList_eq, ByteArray.toList_eq]
  exact e3
theorem parseS_dash {l : List PieceD} {ln : ByteArray} {r : List ByteArray} {w0 w1 w2 w3 : ByteArray} (h : parseS (ln :: r) [] = some l) (hw : splL ln 32 = [w0, w1, w2, w3]) : (w1.toList == (⟨#[45]⟩ : ByteArray).toList) = true := by
  unfold parseS at h
  rw [hw] at h
  simp only at h
  split at h
  · rename_i hc
    rw [Bool.and_eq_true] at hc
    have h2 := hc.2
    unfold okS1 at h2
    cases hq : (w1.toList == (⟨#[45]⟩ : ByteArray).toList)
    · rw [hq] at h2
      simp at h2
    · rfl
  · cases h
theorem read_eq (s : ByteArray) : readPI s = readPS s := by
  by_cases htl : tlOk (splL s 10) = true
  rotate_left
  · unfold readPI readPS
    rw [if_neg htl, if_neg (fun h => htl h.1)]
  obtain ⟨acc, last, hL0, hj⟩ := splL_join s 10
  have hL : splL s 10 = acc ++ [last] := hL0
  have hlast : last = ByteArray.empty := by
    unfold tlOk at htl
    rw [hL] at htl
    simp at htl
    exact htl
  have hs : s = catc 10 acc := by rw [← hj, hlast, ByteArray.append_empty]
  have hdl : (splL s 10).dropLast = acc := by rw [hL]; simp
  have hlen : (splL s 10).length = acc.length + 1 := by rw [hL, List.length_append]; rfl
  unfold readPI readPS
  rw [if_pos htl, hdl, hlen]
  by_cases hA : ∃ l, parseS acc [] = some l ∧ validS l = true ∧ acc.length + 1 ≤ 41
  · obtain ⟨l, h1, h2, h3⟩ := hA
    have hI := parse_SI acc [] l h1 (dist_valid h2)
    have ht : textP l l.length = s := by
      have := parse_text h2 acc [] hI (fun _ ln r w0 w1 w2 w3 he hw => by
        rw [he] at h1
        exact parseS_dash h1 hw)
      rw [this, hs]
      simp [textP]
    have hz := (textP_size h2 l.length (Nat.le_refl _)).2
    have hl1 := (valid_all h2).1
    have hp : ptextR l = s := by unfold ptextR; rw [if_pos h2, ht]
    rw [if_pos ⟨htl, h3⟩, h1, hI]
    simp only
    rw [if_pos h2, if_pos ⟨by rw [← ht]; omega, by rw [hp]; exact beq_self_eq_true _⟩]
  · have hS : (if tlOk (splL s 10) = true ∧ acc.length + 1 ≤ 41 then (match parseS acc [] with
      | some l => if validS l = true then (l, true) else ([], false)
      | none => ([], false)) else ([], false)) = (([], false) : List PieceD × Bool) := by
      split
      · rename_i hc
        cases h1 : parseS acc [] with
        | none => rfl
        | some l =>
          simp only
          rw [if_neg (fun hv => hA ⟨l, h1, hv, hc.2⟩)]
      · rfl
    rw [hS]
    cases hI : parseI acc [] with
    | none => rfl
    | some l =>
      simp only
      rw [if_neg]
      intro ⟨hz, hq⟩
      have hv : validS l = true := by
        cases hv : validS l
        · exfalso
          have he : ptextR l = ByteArray.empty := by unfold ptextR; rw [hv]; rfl
          rw [he] at hq
          have e := eq_of_beq hq
          rw [ByteArray.toList_eq, ByteArray.toList_eq] at e
          apply hz
          have : s.data.toList.length = 0 := by rw [← e]; rfl
          simpa using this
        · rfl
      have ht : textP l l.length = s := by
        have he : ptextR l = textP l l.length := by unfold ptextR; rw [if_pos hv]
        rw [he] at hq
        have e := eq_of_beq hq
        rw [ByteArray.toList_eq, ByteArray.toList_eq] at e
        apply ByteArray.ext
        exact Array.ext' e
      apply hA
      refine ⟨l, parse_IS acc [] l hI (dist_valid hv) (fun k hk hkl => ?_) (fun _ ln r w0 w1 w2 w3 he hw => ?_), hv, ?_⟩
      · have := ((valid_all hv).2.2.2 k hkl).2.2.2
        unfold parB at this
        rw [if_neg (by omega)] at this
        exact (inB_iff.1 this).1
      · rw [he] at hI hs
        exact first_dash hv hI hw hs ht
      · have := parseI_len acc [] l hI
        have := (valid_all hv).2.1
        simp only [List.length_nil] at *
        omega
end Go.Proofs.YtaebofpgdonnbaaDoor
