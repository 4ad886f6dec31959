/- Plain laws of the jobs with a text form: the program's reading and the reference's. -/
import Derived.Test.YtaebofpgdonnbaaDoorJobText
import Derived.Test.YtaebofpgdonnbaaDoorTextL0
set_option linter.unusedVariables false
set_option linter.unusedSimpArgs false
namespace Go.Proofs.YtaebofpgdonnbaaDoor

def lastJ (l : List JobD) (s : ByteArray) : Nat → Int
  | 0 => -1
  | k + 1 => if ((getJ l k).name.toList == s.toList) = true then (k : Int) else lastJ l s k
theorem lastJ_bd (l : List JobD) (s : ByteArray) : ∀ n, -1 ≤ lastJ l s n ∧ lastJ l s n < (n : Int)
  | 0 => ⟨Int.le_refl _, by show (-1 : Int) < 0; omega⟩
  | n + 1 => by
    have := lastJ_bd l s n
    simp only [lastJ]
    split <;> omega
theorem lastJ_some {l : List JobD} {s : ByteArray} : ∀ n, 0 ≤ lastJ l s n → ((getJ l (lastJ l s n).toNat).name.toList == s.toList) = true
  | 0, h => absurd (show (0 : Int) ≤ -1 from h) (by omega)
  | n + 1, h => by
    simp only [lastJ] at h ⊢
    split at h
    · rename_i hn
      rw [if_pos hn, Int.toNat_natCast]; exact hn
    · rename_i hn
      rw [if_neg hn]; exact lastJ_some n h
theorem getJ_app {out t : List JobD} {i : Nat} (h : i < out.length) : getJ (out ++ t) i = getJ out i := by
  unfold getJ
  rw [List.getElem?_append_left h]
theorem getJ_at {out t : List JobD} {d : JobD} : getJ (out ++ d :: t) out.length = d := getJ_eq (by rw [List.getElem?_append_right (Nat.le_refl _), Nat.sub_self]; rfl)
theorem lastJ_app {out t : List JobD} (s : ByteArray) : ∀ n, n ≤ out.length → lastJ (out ++ t) s n = lastJ out s n
  | 0, _ => rfl
  | n + 1, h => by
    simp only [lastJ]
    rw [getJ_app (by omega), lastJ_app s n (by omega)]
theorem lastJ_snoc {out : List JobD} {d : JobD} (s : ByteArray) : lastJ (out ++ [d]) s (out.length + 1) = if (d.name.toList == s.toList) = true then (out.length : Int) else lastJ out s out.length := by
  simp only [lastJ]
  rw [getJ_at, lastJ_app s out.length (Nat.le_refl _)]
/-- the job of a line's words behind others -/
def jobW (out : List JobD) (W : List ByteArray) : JobD := ⟨W.getD 0 ByteArray.empty, (rdec (W.getD 1 ByteArray.empty)).1, (rdec (W.getD 2 ByteArray.empty)).1, (W.drop 3).map fun x => lastJ out x out.length⟩
def okW (W : List ByteArray) : Bool := (rdec (W.getD 1 ByteArray.empty)).2 && (rdec (W.getD 2 ByteArray.empty)).2
def knownW (out : List JobD) (W : List ByteArray) : Bool := (W.drop 3).all fun x => decide (0 ≤ lastJ out x out.length)
def parseI : List ByteArray → List JobD → Option (List JobD)
  | [], out => some out
  | ln :: r, out => if 3 ≤ (splL ln 32).length ∧ knownW out (splL ln 32) = true ∧ okW (splL ln 32) = true then parseI r (out ++ [jobW out (splL ln 32)]) else none
def parseS : List ByteArray → List JobD → Option (List JobD)
  | [], out => some out
  | ln :: r, out => if 3 ≤ (splL ln 32).length ∧ okW (splL ln 32) = true then parseS r (out ++ [jobW out (splL ln 32)]) else none
theorem parseS_pre : ∀ (lines : List ByteArray) (out l : List JobD), parseS lines out = some l → ∃ t, l = out ++ t
  | [], out, l, h => ⟨[], by simp [parseS] at h; simp [h]⟩
  | ln :: r, out, l, h => by
    unfold parseS at h
    split at h
    · obtain ⟨t, ht⟩ := parseS_pre r _ l h
      exact ⟨_ :: t, by rw [ht, List.append_assoc]; rfl⟩
    · cases h
theorem parseS_len : ∀ (lines : List ByteArray) (out l : List JobD), parseS lines out = some l → l.length = out.length + lines.length
  | [], out, l, h => by simp [parseS] at h; simp [h]
  | ln :: r, out, l, h => by
    unfold parseS at h
    split at h
    · have := parseS_len r _ l h
      rw [this, List.length_append]
      simp
      omega
    · cases h
/-- what the program reads, the reference reads -/
theorem parse_IS : ∀ (lines : List ByteArray) (out l : List JobD), parseI lines out = some l → parseS lines out = some l
  | [], out, l, h => by simpa [parseS, parseI] using h
  | ln :: r, out, l, h => by
    unfold parseI at h
    unfold parseS
    split at h
    · rename_i hc
      rw [if_pos ⟨hc.1, hc.2.2⟩]
      exact parse_IS r _ l h
    · cases h
/-- the needs of a job of a good list are known -/
theorem known_valid {l : List JobD} (hv : validS l = true) {out t : List JobD} {W : List ByteArray} (hl : l = out ++ jobW out W :: t) : knownW out W = true := by
  unfold knownW
  rw [List.all_eq_true]
  intro x hx
  have hk : out.length < l.length := by rw [hl, List.length_append]; simp
  have hg : getJ l out.length = jobW out W := by rw [hl, getJ_at]
  have h1 := ((valid_all hv).2 out.length hk).2.2.2.2.1
  rw [hg] at h1
  obtain ⟨i, hi⟩ := List.getElem?_of_mem hx
  have := (h1 i (lastJ out x out.length) (by show ((W.drop 3).map _)[i]? = _; rw [List.getElem?_map, hi]; rfl)).1
  exact decide_eq_true this
/-- what the reference reads and finds valid, the program reads -/
theorem parse_SI {l : List JobD} (hv : validS l = true) : ∀ (lines : List ByteArray) (out : List JobD), parseS lines out = some l → parseI lines out = some l
  | [], out, h => by simpa [parseS, parseI] using h
  | ln :: r, out, h => by
    unfold parseS at h
    unfold parseI
    split at h
    · rename_i hc
      obtain ⟨t, ht⟩ := parseS_pre r _ l h
      rw [if_pos ⟨hc.1, known_valid hv (t := t) (by rw [ht, List.append_assoc]; rfl), hc.2⟩]
      exact parse_SI hv r _ h
    · cases h
/-- each text with a byte ahead of it -/
def pre (c : UInt8) : List ByteArray → ByteArray
  | [] => ByteArray.empty
  | a :: r => ⟨#[c]⟩ ++ a ++ pre c r
theorem pre_app (c : UInt8) : ∀ (l r : List ByteArray), pre c (l ++ r) = pre c l ++ pre c r
  | [], r => by simp [pre]
  | a :: l, r => by
    show ⟨#[c]⟩ ++ a ++ pre c (l ++ r) = ⟨#[c]⟩ ++ a ++ pre c l ++ pre c r
    rw [pre_app c l r, ← ByteArray.append_assoc]
theorem catc_pre (c : UInt8) : ∀ (acc : List ByteArray) (last a : ByteArray) (r : List ByteArray), acc ++ [last] = a :: r → catc c acc ++ last = a ++ pre c r
  | [], last, a, r, h => by
    simp at h
    obtain ⟨rfl, rfl⟩ := h
    simp [catc, pre]
  | b :: acc, last, a, r, h => by
    simp only [List.cons_append, List.cons.injEq] at h
    obtain ⟨rfl, h⟩ := h
    cases r with
    | nil => simp at h
    | cons a' r' =>
      have ih := catc_pre c acc last a' r' h
      show b ++ ⟨#[c]⟩ ++ catc c acc ++ last = b ++ (⟨#[c]⟩ ++ a' ++ pre c r')
      rw [ByteArray.append_assoc, ih]
      simp [ByteArray.append_assoc]
theorem line_pre {ln a : ByteArray} {r : List ByteArray} (h : splL ln 32 = a :: r) : ln = a ++ pre 32 r := by
  obtain ⟨acc, last, h1, h2⟩ := splL_join ln 32
  have h1' : splL ln 32 = acc ++ [last] := h1
  rw [h] at h1'
  rw [← h2]
  exact catc_pre 32 acc last a r h1'.symm
theorem tl_eq (a b : ByteArray) (hab : a.toList = b.toList) : a = b := by
  rw [ByteArray.toList_eq, ByteArray.toList_eq] at hab
  apply ByteArray.ext
  exact Array.ext' hab
theorem needJ_pre {l out t : List JobD} {W : List ByteArray} (hl : l = out ++ jobW out W :: t) (hk : knownW out W = true) (T : ByteArray) : ∀ i, i ≤ (W.drop 3).length → needJ l out.length T i = T ++ pre 32 ((W.drop 3).take i)
  | 0, _ => by simp [needJ, pre]
  | i + 1, hi => by
    have ih := needJ_pre hl hk T i (by omega)
    obtain ⟨x, hx⟩ := get_ex (W.drop 3) i (by omega)
    have hg : getJ l out.length = jobW out W := by rw [hl, getJ_at]
    have h0 : 0 ≤ lastJ out x out.length := of_decide_eq_true (List.all_eq_true.1 hk x (List.mem_of_getElem? hx))
    have hb := (lastJ_bd out x out.length).2
    have hd : (getJ l out.length).needs.getD i 0 = lastJ out x out.length := by
      rw [hg]
      exact getD_eq (by show ((W.drop 3).map _)[i]? = _; rw [List.getElem?_map, hx]; rfl)
    have hn : (getJ l (lastJ out x out.length).toNat).name = x := by
      rw [hl, getJ_app (by omega)]
      exact tl_eq _ _ (eq_of_beq (lastJ_some out.length h0))
    have e : (W.drop 3).take (i + 1) = (W.drop 3).take i ++ [x] := take_snoc' _ _ _ hx
    simp only [needJ]
    rw [hd, hn, ih, e, pre_app]
    simp [pre, ByteArray.append_assoc]
theorem list3p {L : List ByteArray} (h : 3 ≤ L.length) : ∃ a b c r, L = a :: b :: c :: r := by
  match L, h with
  | a :: b :: c :: r, _ => exact ⟨a, b, c, r, rfl⟩
/-- the text of what has been read -/
theorem parse_text {l : List JobD} : ∀ (lines : List ByteArray) (out : List JobD), parseI lines out = some l → textJ l l.length = textJ l out.length ++ catc 10 lines
  | [], out, h => by
    simp [parseI] at h
    subst h
    simp [catc]
  | ln :: r, out, h => by
    unfold parseI at h
    split at h
    · rename_i hc
      obtain ⟨hc1, hc2, hc3⟩ := hc
      obtain ⟨t, ht⟩ := parseS_pre r _ l (parse_IS r _ l h)
      have hl : l = out ++ (jobW out (splL ln 32) :: t) := by rw [ht, List.append_assoc]; rfl
      have ih := parse_text r _ h
      rw [ih]
      have hg : getJ l out.length = jobW out (splL ln 32) := by rw [hl, getJ_at]
      have hnl : (getJ l out.length).needs.length = ((splL ln 32).drop 3).length := by rw [hg]; show (List.map _ _).length = _; rw [List.length_map]
      have hneed := needJ_pre hl hc2 (textJ l out.length ++ headJ l out.length) _ (Nat.le_refl _)
      rw [List.take_length] at hneed
      rw [List.length_append]
      show needJ l out.length (textJ l out.length ++ headJ l out.length) (getJ l out.length).needs.length ++ ⟨#[10]⟩ ++ catc 10 r = textJ l out.length ++ (ln ++ ⟨#[10]⟩ ++ catc 10 r)
      rw [hnl, hneed]
      obtain ⟨a, b, c, q, hq⟩ := list3p hc1
      have hln := line_pre hq
      unfold okW at hc3
      rw [hq] at hc3 hg
      rw [Bool.and_eq_true] at hc3
      have e2 : dec (rdec b).1 = b := (rdec_true (n := (rdec b).1) (by have h1 : (rdec b).2 = true := hc3.1; rw [← h1])).1
      have e3 : dec (rdec c).1 = c := (rdec_true (n := (rdec c).1) (by have h1 : (rdec c).2 = true := hc3.2; rw [← h1])).1
      have hh : headJ l out.length = a ++ ⟨#[32]⟩ ++ b ++ ⟨#[32]⟩ ++ c := by
        unfold headJ
        rw [hg]
        show a ++ ⟨#[32]⟩ ++ dec (rdec b).1 ++ ⟨#[32]⟩ ++ dec (rdec c).1 = _
        rw [e2, e3]
      have hd : (splL ln 32).drop 3 = q := by rw [hq]; rfl
      rw [hh, hd]
      conv => rhs; rw [hln]
      simp [pre, ByteArray.append_assoc]
    · cases h

def readJI (s : ByteArray) : List JobD × Bool :=
  if tlOk (splL s 10) = true then (match parseI (splL s 10).dropLast [] with
    | some l => if validS l = true ∧ ((jtextR l).toList == s.toList) = true then (l, true) else ([], false)
    | none => ([], false)) else ([], false)
def readJS (s : ByteArray) : List JobD × Bool :=
  if tlOk (splL s 10) = true ∧ (splL s 10).length ≤ 31 then (match parseS (splL s 10).dropLast [] with
    | some l => if validS l = true then (l, true) else ([], false)
    | none => ([], false)) else ([], false)
theorem read_eq (s : ByteArray) : readJI s = readJS s := by
  by_cases htl : tlOk (splL s 10) = true
  rotate_left
  · unfold readJI readJS
    rw [if_neg htl, if_neg (fun h => htl h.1)]
  obtain ⟨acc, last, hL0, hj⟩ := splL_join s 10
  have hL : splL s 10 = acc ++ [last] := hL0
  have hlast : last = ByteArray.empty := by
    unfold tlOk at htl
    rw [hL] at htl
    simp at htl
    exact htl
  have hs : s = catc 10 acc := by rw [← hj, hlast, ByteArray.append_empty]
  have hdl : (splL s 10).dropLast = acc := by rw [hL]; simp
  have hlen : (splL s 10).length = acc.length + 1 := by rw [hL, List.length_append]; rfl
  unfold readJI readJS
  rw [if_pos htl, hdl, hlen]
  by_cases hA : ∃ l, parseS acc [] = some l ∧ validS l = true ∧ acc.length + 1 ≤ 31
  · obtain ⟨l, h1, h2, h3⟩ := hA
    have hI := parse_SI h2 acc [] h1
    have ht : textJ l l.length = s := by
      rw [parse_text acc [] hI, hs]
      simp [textJ]
    have hp : jtextR l = s := by unfold jtextR; rw [if_pos h2, ht]
    rw [if_pos ⟨htl, h3⟩, h1, hI]
    simp only
    rw [if_pos h2, if_pos ⟨h2, by rw [hp]; exact beq_self_eq_true _⟩]
  · have hS : (if tlOk (splL s 10) = true ∧ acc.length + 1 ≤ 31 then (match parseS acc [] with
      | some l => if validS l = true then (l, true) else ([], false)
      | none => ([], false)) else ([], false)) = (([], false) : List JobD × Bool) := by
      split
      · rename_i hc
        cases h1 : parseS acc [] with
        | none => rfl
        | some l =>
          simp only
          rw [if_neg (fun hv => hA ⟨l, h1, hv, hc.2⟩)]
      · rfl
    rw [hS]
    cases hI : parseI acc [] with
    | none => rfl
    | some l =>
      simp only
      rw [if_neg]
      intro ⟨hv, _⟩
      have hPS := parse_IS acc [] l hI
      have := parseS_len acc [] l hPS
      have := (valid_all hv).1
      exact hA ⟨l, hPS, hv, by simp only [List.length_nil] at *; omega⟩
theorem readJS_len (s : ByteArray) : (readJS s).1.length ≤ 30 := by
  unfold readJS
  split
  · split
    · split
      · rename_i hv
        exact (valid_all hv).1
      · exact Nat.zero_le _
    · exact Nat.zero_le _
  · exact Nat.zero_le _
theorem readJS_needs (s : ByteArray) : ∀ (i : Nat) (d : JobD), (readJS s).1[i]? = some d → d.needs.length ≤ 30 := by
  have key : ∀ l : List JobD, validS l = true → ∀ (i : Nat) (d : JobD), l[i]? = some d → d.needs.length ≤ 30 := fun l hv i d hd => by
    have hi := (List.getElem?_eq_some_iff.1 hd).1
    have h1 := ((valid_all hv).2 i hi).2.2.2.2.2
    rw [getJ_eq hd] at h1
    have := (valid_all hv).1
    omega
  have nokey : ∀ (i : Nat) (d : JobD), ([] : List JobD)[i]? = some d → d.needs.length ≤ 30 := fun i d hd => by simp at hd
  unfold readJS
  split
  · split
    · split
      · rename_i hv
        exact key _ hv
      · exact nokey
    · exact nokey
  · exact nokey
end Go.Proofs.YtaebofpgdonnbaaDoor
