/- Plain laws of the pieces with a text form: the program's reading and the reference's. -/
import Derived.Test.YtaebofpgdonnbaaDoorPieceText
import Derived.Test.YtaebofpgdonnbaaDoorJoinMath
import Derived.Test.YtaebofpgdonnbaaDoorPieces5
set_option linter.unusedVariables false
set_option linter.unusedSimpArgs false
namespace Go.Proofs.YtaebofpgdonnbaaDoor

def lastP (l : List PieceD) (s : ByteArray) : Nat → Int
  | 0 => -1
  | k + 1 => if ((getP l k).name.toList == s.toList) = true then (k : Int) else lastP l s k
theorem lastP_bd (l : List PieceD) (s : ByteArray) : ∀ n, -1 ≤ lastP l s n ∧ lastP l s n < (n : Int)
  | 0 => ⟨Int.le_refl _, by show (-1 : Int) < 0; omega⟩
  | n + 1 => by
    have := lastP_bd l s n
    simp only [lastP]
    split <;> omega
theorem lastP_none {l : List PieceD} {s : ByteArray} : ∀ n, lastP l s n < 0 → ∀ i, i < n → ((getP l i).name.toList == s.toList) = false
  | 0, _, i, hi => absurd hi (Nat.not_lt_zero i)
  | n + 1, h, i, hi => by
    simp only [lastP] at h
    split at h
    · omega
    · rename_i hn
      by_cases hin : i < n
      · exact lastP_none n h i hin
      · obtain rfl : i = n := by omega
        cases hq : ((getP l i).name.toList == s.toList)
        · rfl
        · exact absurd hq hn
theorem lastP_some {l : List PieceD} {s : ByteArray} : ∀ n, 0 ≤ lastP l s n → ((getP l (lastP l s n).toNat).name.toList == s.toList) = true
  | 0, h => absurd (show (0 : Int) ≤ -1 from h) (by omega)
  | n + 1, h => by
    simp only [lastP] at h ⊢
    split at h
    · rename_i hn
      rw [if_pos hn, Int.toNat_natCast]; exact hn
    · rename_i hn
      rw [if_neg hn]; exact lastP_some n h
def distP (l : List PieceD) (n : Nat) : Prop := ∀ i j, i < j → j < n → ((getP l i).name.toList == (getP l j).name.toList) = false
theorem named_last {l : List PieceD} (h : distP l l.length) (s : ByteArray) : namedM l s = lastP l s l.length := by
  by_cases h0 : lastP l s l.length < 0
  · rw [namedM_no (List.all_eq_true.2 fun i hi => by rw [lastP_none _ h0 i (List.mem_range.1 hi)]; rfl)]
    have := (lastP_bd l s l.length).1
    omega
  · have h1 := lastP_some l.length (l := l) (s := s) (by omega)
    have hb := (lastP_bd l s l.length).2
    obtain ⟨k, hk⟩ := Int.eq_ofNat_of_zero_le (by omega : 0 ≤ lastP l s l.length)
    rw [hk] at h1 hb ⊢
    rw [Int.toNat_natCast] at h1
    refine namedM_yes (by omega) (List.all_eq_true.2 fun i hi => ?_) h1
    have hik := List.mem_range.1 hi
    cases hq : ((getP l i).name.toList == s.toList)
    · rfl
    · exfalso
      have e1 := eq_of_beq hq
      have e2 := eq_of_beq h1
      have := h i k hik (by omega)
      rw [e1, ← e2, beq_self_eq_true] at this
      cases this
def parseI : List ByteArray → List PieceD → Option (List PieceD)
  | [], out => some out
  | ln :: r, out => match splL ln 32 with
    | [w0, w1, w2, w3] => if ((rdec w2).2 && (rdec w3).2) = true then parseI r (out ++ [⟨w0, namedM out w1, (rdec w2).1, (rdec w3).1⟩]) else none
    | _ => none
def okS1 (out : List PieceD) (w1 : ByteArray) : Bool := !(decide (out.length = 0) && !(w1.toList == (⟨#[45]⟩ : ByteArray).toList)) && !(decide (0 < out.length) && decide (lastP out w1 out.length < 0))
def parseS : List ByteArray → List PieceD → Option (List PieceD)
  | [], out => some out
  | ln :: r, out => match splL ln 32 with
    | [w0, w1, w2, w3] => if ((rdec w2).2 && (rdec w3).2 && okS1 out w1) = true then parseS r (out ++ [⟨w0, lastP out w1 out.length, (rdec w2).1, (rdec w3).1⟩]) else none
    | _ => none
theorem parseI_pre : ∀ (lines : List ByteArray) (out l : List PieceD), parseI lines out = some l → ∃ t, l = out ++ t
  | [], out, l, h => ⟨[], by simp [parseI] at h; simp [h]⟩
  | ln :: r, out, l, h => by
    unfold parseI at h
    split at h
    · split at h
      · obtain ⟨t, ht⟩ := parseI_pre r _ l h
        exact ⟨_ :: t, by rw [ht, List.append_assoc]; rfl⟩
      · cases h
    · cases h
theorem parseS_pre : ∀ (lines : List ByteArray) (out l : List PieceD), parseS lines out = some l → ∃ t, l = out ++ t
  | [], out, l, h => ⟨[], by simp [parseS] at h; simp [h]⟩
  | ln :: r, out, l, h => by
    unfold parseS at h
    split at h
    · split at h
      · obtain ⟨t, ht⟩ := parseS_pre r _ l h
        exact ⟨_ :: t, by rw [ht, List.append_assoc]; rfl⟩
      · cases h
    · cases h
theorem getP_app {out t : List PieceD} {i : Nat} (h : i < out.length) : getP (out ++ t) i = getP out i := by
  unfold getP
  rw [List.getElem?_append_left h]
theorem getP_at {out t : List PieceD} {d : PieceD} : getP (out ++ d :: t) out.length = d := getP_eq (by rw [List.getElem?_append_right (Nat.le_refl _), Nat.sub_self]; rfl)
theorem dist_pre {out t : List PieceD} (h : distP (out ++ t) (out ++ t).length) : distP out out.length := fun i j hij hj => by
  have := h i j hij (by rw [List.length_append]; omega)
  rwa [getP_app (by omega), getP_app hj] at this
theorem dist_valid {l : List PieceD} (h : validS l = true) : distP l l.length := fun i j hij hj => by
  unfold validS at h
  rw [Bool.and_eq_true] at h
  have h1 := (all_range_iff _ _).1 h.2 j hj
  unfold okS at h1
  simp only [Bool.and_eq_true] at h1
  have := List.all_eq_true.1 h1.2 i (List.mem_range.2 hij)
  simpa using this
/-- what the reference reads and finds valid, the program reads -/
theorem parse_SI : ∀ (lines : List ByteArray) (out l : List PieceD), parseS lines out = some l → distP l l.length → parseI lines out = some l
  | [], out, l, h, _ => by simpa [parseS, parseI] using h
  | ln :: r, out, l, h, hd => by
    have hpre := parseS_pre (ln :: r) out l h
    obtain ⟨t, ht⟩ := hpre
    have hdo : distP out out.length := dist_pre (t := t) (by rw [← ht]; exact hd)
    unfold parseS at h
    unfold parseI
    split at h
    · rename_i w0 w1 w2 w3 hw
      split at h
      · rename_i hc
        rw [Bool.and_eq_true] at hc
        rw [if_pos hc.1, named_last hdo]
        exact parse_SI r _ l h hd
      · cases h
    · cases h
/-- what the program reads and finds valid, the reference reads, if the first piece's second word is '-' -/
theorem parse_IS : ∀ (lines : List ByteArray) (out l : List PieceD), parseI lines out = some l → distP l l.length → (∀ k, 0 < k → k < l.length → 0 ≤ (getP l k).parent) →
    (out = [] → ∀ ln r w0 w1 w2 w3, lines = ln :: r → splL ln 32 = [w0, w1, w2, w3] → (w1.toList == (⟨#[45]⟩ : ByteArray).toList) = true) → parseS lines out = some l
  | [], out, l, h, _, _, _ => by simpa [parseS, parseI] using h
  | ln :: r, out, l, h, hd, hp, hf => by
    obtain ⟨t0, ht0⟩ := parseI_pre (ln :: r) out l h
    have hdo : distP out out.length := dist_pre (t := t0) (by rw [← ht0]; exact hd)
    unfold parseI at h
    unfold parseS
    split at h
    · rename_i w0 w1 w2 w3 hw
      split at h
      · rename_i hc
        rw [named_last hdo] at h
        obtain ⟨t, ht⟩ := parseI_pre r _ l h
        have hl : l = out ++ (⟨w0, lastP out w1 out.length, (rdec w2).1, (rdec w3).1⟩ :: t) := by rw [ht, List.append_assoc]; rfl
        have hok : okS1 out w1 = true := by
          unfold okS1
          by_cases h0 : out.length = 0
          · have hn : out = [] := List.eq_nil_of_length_eq_zero h0
            rw [hf hn ln r w0 w1 w2 w3 rfl hw, h0]
            simp
          · have := hp out.length (by omega) (by rw [hl, List.length_append]; simp)
            rw [hl, getP_at] at this
            have this : 0 ≤ lastP out w1 out.length := this
            rw [decide_eq_false h0, decide_eq_false (show ¬ lastP out w1 out.length < 0 by omega)]
            simp
        rw [if_pos (by rw [hc, hok]; rfl)]
        exact parse_IS r _ l h hd hp (fun he => by simp at he)
      · cases h
    · cases h
/-- the text of what has been read -/
theorem parse_text {l : List PieceD} (hv : validS l = true) : ∀ (lines : List ByteArray) (out : List PieceD), parseI lines out = some l →
    (out = [] → ∀ ln r w0 w1 w2 w3, lines = ln :: r → splL ln 32 = [w0, w1, w2, w3] → (w1.toList == (⟨#[45]⟩ : ByteArray).toList) = true) → textP l l.length = textP l out.length ++ catc 10 lines
  | [], out, h, _ => by
    simp [parseI] at h
    subst h
    simp [catc]
  | ln :: r, out, h, hf => by
    have hd := dist_valid hv
    unfold parseI at h
    split at h
    · rename_i w0 w1 w2 w3 hw
      split at h
      · rename_i hc
        rw [Bool.and_eq_true] at hc
        obtain ⟨t, ht⟩ := parseI_pre r _ l h
        have hl : l = out ++ (⟨w0, namedM out w1, (rdec w2).1, (rdec w3).1⟩ :: t) := by rw [ht, List.append_assoc]; rfl
        have hlen : out.length < l.length := by rw [hl, List.length_append]; simp
        have hg : getP l out.length = ⟨w0, namedM out w1, (rdec w2).1, (rdec w3).1⟩ := by rw [hl, getP_at]
        have ih := parse_text hv r _ h (fun he => by simp at he)
        have hdo : distP out out.length := dist_pre (t := ⟨w0, namedM out w1, (rdec w2).1, (rdec w3).1⟩ :: t) (by rw [← hl]; exact hd)
        rw [ih]
        have e2 : dec (rdec w2).1 = w2 := (rdec_true (n := (rdec w2).1) (by rw [← hc.1])).1
        have e3 : dec (rdec w3).1 = w3 := (rdec_true (n := (rdec w3).1) (by rw [← hc.2])).1
        have ej : ln = w0 ++ ⟨#[32]⟩ ++ w1 ++ ⟨#[32]⟩ ++ w2 ++ ⟨#[32]⟩ ++ w3 := by
          obtain ⟨acc, last, h1, h2⟩ := splL_join ln 32
          have h1' : splL ln 32 = acc ++ [last] := h1
          rw [hw] at h1'
          have ha : acc = [w0, w1, w2] ∧ last = w3 := by
            have h3 : [w0, w1, w2] ++ [w3] = acc ++ [last] := h1'
            have h4 := List.append_inj' h3 rfl
            exact ⟨h4.1.symm, by have := h4.2; simp at this; exact this.symm⟩
          rw [← h2, ha.1, ha.2]
          simp [catc, ByteArray.append_assoc]
        have hpar : parT l out.length = w1 := by
          have hpb := ((valid_all hv).2.2.2 out.length hlen).2.2.2
          rw [hg] at hpb
          unfold parT
          rw [hg]
          show (if 0 ≤ namedM out w1 then (getP l (namedM out w1).toNat).name else ⟨#[45]⟩) = w1
          have tl : ∀ a b : ByteArray, a.toList = b.toList → a = b := fun a b hab => by
            rw [ByteArray.toList_eq, ByteArray.toList_eq] at hab
            apply ByteArray.ext
            exact Array.ext' hab
          by_cases h0 : out.length = 0
          · have hn : out = [] := List.eq_nil_of_length_eq_zero h0
            have hw1 := hf hn ln r w0 w1 w2 w3 rfl hw
            have hneg : ¬ 0 ≤ namedM out w1 := by
              rw [named_last hdo, h0]
              show ¬ (0 : Int) ≤ -1
              omega
            rw [if_neg hneg]
            exact (tl _ _ (eq_of_beq hw1)).symm
          · have hpos : 0 ≤ namedM out w1 := by
              unfold parB at hpb
              rw [if_neg h0] at hpb
              exact (inB_iff.1 hpb).1
            rw [if_pos hpos]
            rw [named_last hdo] at hpos ⊢
            have hs := lastP_some out.length hpos
            have hb := (lastP_bd out w1 out.length).2
            rw [hl, getP_app (by omega)]
            exact tl _ _ (eq_of_beq hs)
        have hline : lineP l out.length = ln ++ ⟨#[10]⟩ := by
          unfold lineP
          rw [hpar, hg, ej]
          show w0 ++ ⟨#[32]⟩ ++ w1 ++ ⟨#[32]⟩ ++ dec (rdec w2).1 ++ ⟨#[32]⟩ ++ dec (rdec w3).1 ++ ⟨#[10]⟩ = _
          rw [e2, e3]
        rw [List.length_append]
        show textP l out.length ++ lineP l out.length ++ catc 10 r = textP l out.length ++ (ln ++ ⟨#[10]⟩ ++ catc 10 r)
        rw [hline, ByteArray.append_assoc]
      · cases h
    · cases h
end Go.Proofs.YtaebofpgdonnbaaDoor
