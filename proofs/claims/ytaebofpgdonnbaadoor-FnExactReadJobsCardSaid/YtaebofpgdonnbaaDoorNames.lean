/- Contracts: what is a name. -/
import Derived.Test.YtaebofpgdonnbaaDoorCore
set_option linter.unusedVariables false
set_option linter.unusedSimpArgs false
namespace Go.Proofs.YtaebofpgdonnbaaDoor
open Go.RowKit

/-- a byte that may stand at place i of a name -/
def okC (i : Nat) (c : Int) : Bool := decide (97 ≤ c ∧ c ≤ 122 ∨ i ≠ 0 ∧ (c = 45 ∨ 48 ≤ c ∧ c ≤ 57))
def byteAt (s : ByteArray) (i : Nat) : Int := ((s.data.toList[i]?.getD 0).toNat : Int)
def nameB (s : ByteArray) : Bool := decide (0 < s.size ∧ s.size ≤ 12) && (List.range s.size).all fun i => okC i (byteAt s i)

theorem byteAt_eq (s : ByteArray) (k : Nat) (h : k < s.size) : (s[k].toNat : Int) = byteAt s k := by
  have h' : k < s.data.toList.length := by simpa using h
  unfold byteAt
  rw [List.getElem?_eq_getElem h']
  rfl
theorem byteAt_bd (s : ByteArray) (k : Nat) : 0 ≤ byteAt s k ∧ byteAt s k ≤ 255 := by
  unfold byteAt
  have := (s.data.toList[k]?.getD 0).toNat_lt
  omega
theorem all_range_succ (p : Nat → Bool) (k : Nat) (h : (List.range k).all p = true) (hp : p k = true) : (List.range (k + 1)).all p = true := by
  rw [List.range_succ, List.all_append, h]; simp [hp]
theorem nameB_no (s : ByteArray) (k : Nat) (hk : k < s.size) (h : okC k (byteAt s k) = false) : nameB s = false := by
  unfold nameB
  rw [Bool.and_eq_false_iff]
  right
  rw [List.all_eq_false]
  exact ⟨k, List.mem_range.2 hk, by simp [h]⟩
theorem nameB_size (s : ByteArray) (h : ¬ (0 < s.size ∧ s.size ≤ 12)) : nameB s = false := by
  unfold nameB
  rw [decide_eq_false h]; rfl

def digB (c : Int) : Bool := decide (48 ≤ c ∧ c ≤ 57)
def smallB (c : Int) : Bool := decide (97 ≤ c ∧ c ≤ 122)

theorem isDigit_c (c : Int) (w : World) : Calls Tryd.prog 101 #[.int .u8 c] w fun e w' => e = .returned (.bool (digB c)) ∧ w = w' := by
  go_enter Tryd.func101, Tryd.ntmps101
  go_wp2
  all_goals (go_ret; exact ⟨ret_bool (by simp [digB]; omega), rfl⟩)
theorem l01Small_c (c : Int) (w : World) : Calls Tryd.prog 105 #[.int .u8 c] w fun e w' => e = .returned (.bool (smallB c)) ∧ w = w' := by
  go_enter Tryd.func105, Tryd.ntmps105
  go_wp2
  all_goals (go_ret; exact ⟨ret_bool (by simp [smallB]; omega), rfl⟩)
theorem l01Digit_c (c : Int) (w : World) : Calls Tryd.prog 99 #[.int .u8 c] w fun e w' => e = .returned (.bool (digB c)) ∧ w = w' := by
  go_enter Tryd.func99, Tryd.ntmps99
  go_wp2
  all_goals (go_ret; exact ⟨ret_bool (by simp [digB]; omega), rfl⟩)

set_option maxHeartbeats 1000000 in
theorem IsName_c (s : ByteArray) (w : World) (hs : s.size ≤ maxLen) : Calls Tryd.prog 96 #[.string s] w fun e w' => e = .returned (.bool (nameB s)) ∧ w = w' := by
  unfold maxLen at hs
  by_cases hz : 0 < s.size ∧ s.size ≤ 12
  · obtain ⟨h0, h12⟩ := hz
    have q0 : ((s.size : Int) == 0) = false := by rw [beq_eq_false_iff_ne]; omega
    go_enter Tryd.func96, Tryd.ntmps96
    go_wp2_with fail
    go_loop [15] (fun i => ∃ k : Nat, k ≤ s.size ∧ i = .int .i64 k ∧ (List.range k).all (fun i => okC i (byteAt s i)) = true) (fun i => s.size - (intOf i).toNat)
    case atStart => exact ⟨0, Nat.zero_le _, rfl, by simp⟩
    case round =>
      obtain ⟨k, hk, rfl, ha⟩ := hrel
      have HA := Lib.hid ha; clear ha
      by_cases hlt : k < s.size
      · have hbd := byteAt_bd s k
        have hc := byteAt_eq s k hlt
        by_cases t1 : 97 ≤ byteAt s k ∧ byteAt s k ≤ 122
        · have HO := Lib.hid (show okC k (byteAt s k) = true by simp [okC]; omega)
          obtain ⟨t1a, t1b⟩ := t1
          go_wp2_with (go_at_call 101; refine (isDigit_c _ _).mono ?_; rintro e w' ⟨rfl, rfl⟩)
          (first | (refine ⟨⟨(by first | trivial | rfl), ?_⟩, ?_⟩; rotate_left; (first | (simp [intOf]; done) | (simp [intOf]; omega)); (repeat apply Exists.intro); refine ⟨?_, rfl⟩; exact ⟨k + 1, by omega, by go_num, all_range_succ _ _ HA.out HO.out⟩) | exact ⟨⟨k + 1, by omega, by go_num, all_range_succ _ _ HA.out HO.out⟩, by first | (simp [intOf]; done) | (simp [intOf]; omega)⟩)
        · rcases (show (byteAt s k < 97 ∧ decide (97 ≤ byteAt s k) = false) ∨ (122 < byteAt s k ∧ decide (byteAt s k ≤ 122) = false) by simp; omega) with ⟨t1', t5⟩ | ⟨t1', t5⟩
          all_goals
            by_cases t2 : k = 0
            · have HO := Lib.hid (nameB_no s k hlt (by simp [okC]; omega))
              have q2 : ((k : Int) == 0) = true := by rw [beq_iff_eq]; omega
              have T2 := Lib.hid t2; clear t2 t1
              go_wp2_with (go_at_call 101; refine (isDigit_c _ _).mono ?_; rintro e w' ⟨rfl, rfl⟩)
              go_ret
              exact ⟨ret_bool HO.out.symm, rfl⟩
            · have q2 : ((k : Int) == 0) = false := by rw [beq_eq_false_iff_ne]; omega
              by_cases t3 : byteAt s k = 45
              · have HO := Lib.hid (show okC k (byteAt s k) = true by simp [okC]; omega)
                have q3 : (byteAt s k != 45) = false := by simp [t3]
                have q4 : (byteAt s k == 45) = true := by simp [t3]
                have T3 := Lib.hid t3; clear t3 t1 t2
                go_wp2_with (go_at_call 101; refine (isDigit_c _ _).mono ?_; rintro e w' ⟨rfl, rfl⟩)
                (first | (refine ⟨⟨(by first | trivial | rfl), ?_⟩, ?_⟩; rotate_left; (first | (simp [intOf]; done) | (simp [intOf]; omega)); (repeat apply Exists.intro); refine ⟨?_, rfl⟩; exact ⟨k + 1, by omega, by go_num, all_range_succ _ _ HA.out HO.out⟩) | exact ⟨⟨k + 1, by omega, by go_num, all_range_succ _ _ HA.out HO.out⟩, by first | (simp [intOf]; done) | (simp [intOf]; omega)⟩)
              · have q3 : (byteAt s k != 45) = true := by simp [t3]
                have q4 : (byteAt s k == 45) = false := by simp [t3]
                cases t4 : digB (byteAt s k)
                · have HO := Lib.hid (nameB_no s k hlt (by simp [okC]; simp [digB] at t4; omega))
                  clear t1 t2 t3
                  go_wp2_with (go_at_call 101; refine (isDigit_c _ _).mono ?_; rintro e w' ⟨rfl, rfl⟩)
                  go_ret
                  exact ⟨ret_bool HO.out.symm, rfl⟩
                · have HO := Lib.hid (show okC k (byteAt s k) = true by simp [okC]; simp [digB] at t4; omega)
                  clear t1 t2 t3
                  go_wp2_with (go_at_call 101; refine (isDigit_c _ _).mono ?_; rintro e w' ⟨rfl, rfl⟩)
                  (first | (refine ⟨⟨(by first | trivial | rfl), ?_⟩, ?_⟩; rotate_left; (first | (simp [intOf]; done) | (simp [intOf]; omega)); (repeat apply Exists.intro); refine ⟨?_, rfl⟩; exact ⟨k + 1, by omega, by go_num, all_range_succ _ _ HA.out HO.out⟩) | exact ⟨⟨k + 1, by omega, by go_num, all_range_succ _ _ HA.out HO.out⟩, by first | (simp [intOf]; done) | (simp [intOf]; omega)⟩)
      · have hfin : nameB s = true := by
          have h1 := HA.out
          have hk' : k = s.size := by omega
          rw [hk'] at h1
          unfold nameB
          rw [h1, decide_eq_true ⟨h0, h12⟩]; rfl
        have HF := Lib.hid hfin; clear hfin
        go_wp2_with fail
        go_ret
        exact ⟨ret_bool HF.out.symm, rfl⟩
  · have HF := Lib.hid (nameB_size s hz)
    by_cases h0 : s.size = 0
    · have q0 : ((s.size : Int) == 0) = true := by simp [h0]
      have H0 := Lib.hid h0; clear h0 hz
      go_enter Tryd.func96, Tryd.ntmps96
      go_wp2_with fail
      all_goals (go_ret; exact ⟨ret_bool HF.out.symm, rfl⟩)
    · have q0 : ((s.size : Int) == 0) = false := by rw [beq_eq_false_iff_ne]; omega
      have q1 : (12 : Int) < (s.size : Int) := by omega
      clear h0 hz
      go_enter Tryd.func96, Tryd.ntmps96
      go_wp2_with fail
      all_goals (go_ret; exact ⟨ret_bool HF.out.symm, rfl⟩)

theorem size_toList (s : ByteArray) : s.toList.isEmpty = decide (s.size = 0) := by
  rw [ByteArray.toList_eq]
  cases h : s.data.toList with
  | nil =>
    have : s.size = 0 := by
      have h1 := congrArg List.length h
      simpa using h1
    simp [this]
  | cons a l =>
    have : ¬ s.size = 0 := by
      have h1 := congrArg List.length h
      simp at h1
      have : s.size = s.data.size := rfl
      omega
    simp [this]

set_option maxHeartbeats 1000000 in
theorem IsNameS_c (s : ByteArray) (w : World) (hs : s.size ≤ maxLen) : Calls Tryd.prog 84 #[.string s] w fun e w' => e = .returned (.bool (nameB s)) ∧ w = w' := by
  unfold maxLen at hs
  have hem := size_toList s
  by_cases hz : 0 < s.size ∧ s.size ≤ 12
  · obtain ⟨h0, h12⟩ := hz
    have q0 : s.toList.isEmpty = false := by rw [hem, decide_eq_false (by omega)]
    have q1 : (!s.toList.isEmpty) = true := by rw [q0]; rfl
    have q2 : ¬ s.toList = [] := by intro h; rw [h] at q0; simp at q0
    clear hem
    have hc0 := byteAt_eq s 0 h0
    have hbd0 := byteAt_bd s 0
    cases t0 : smallB (byteAt s 0)
    · have HF := Lib.hid (nameB_no s 0 h0 (by simp [okC]; simp [smallB] at t0; omega))
      go_enter Tryd.func84, Tryd.ntmps84
      go_wp2_with (go_at_call 105; refine (l01Small_c _ _).mono ?_; rintro e w' ⟨rfl, rfl⟩)
      go_ret
      exact ⟨ret_bool HF.out.symm, rfl⟩
    · have t0' : 97 ≤ byteAt s 0 ∧ byteAt s 0 ≤ 122 := by simpa [smallB] using t0
      have HT0 := Lib.hid t0'; clear t0'
      go_enter Tryd.func84, Tryd.ntmps84
      go_wp2_with (go_at_call 105; refine (l01Small_c _ _).mono ?_; rintro e w' ⟨rfl, rfl⟩)
      go_loop [3] (fun i => ∃ k : Nat, k ≤ s.size ∧ i = .int .i64 k ∧ (List.range k).all (fun i => okC i (byteAt s i)) = true) (fun i => s.size - (intOf i).toNat)
      case atStart => exact ⟨0, Nat.zero_le _, rfl, by simp⟩
      case round =>
        clear t0 hc0 hbd0
        obtain ⟨k, hk, rfl, ha⟩ := hrel
        have HA := Lib.hid ha; clear ha
        by_cases hlt : k < s.size
        · have hbd := byteAt_bd s k
          have hc := byteAt_eq s k hlt
          cases t1 : smallB (byteAt s k)
          · have hk0 : k ≠ 0 := by
              intro h
              have := HT0.out
              rw [h] at t1
              simp [smallB] at t1
              omega
            have HK := Lib.hid hk0; clear hk0
            cases t2 : digB (byteAt s k)
            · by_cases t3 : byteAt s k = 45
              · have HO := Lib.hid (show okC k (byteAt s k) = true by have := HK.out; simp [okC]; omega)
                have q3 : (byteAt s k != 45) = false := by simp [t3]
                clear t3
                go_wp2_with (first | (go_at_call 105; refine (l01Small_c _ _).mono ?_; rintro e w' ⟨rfl, rfl⟩) | (go_at_call 99; refine (l01Digit_c _ _).mono ?_; rintro e w' ⟨rfl, rfl⟩))
                (first | (refine ⟨⟨(by first | trivial | rfl), ?_⟩, ?_⟩; rotate_left; (first | (simp [intOf]; done) | (simp [intOf]; omega)); (repeat apply Exists.intro); refine ⟨?_, rfl⟩; exact ⟨k + 1, by omega, by go_num, all_range_succ _ _ HA.out HO.out⟩) | exact ⟨⟨k + 1, by omega, by go_num, all_range_succ _ _ HA.out HO.out⟩, by first | (simp [intOf]; done) | (simp [intOf]; omega)⟩)
              · have HO := Lib.hid (nameB_no s k hlt (by simp [okC]; simp [digB] at t2; simp [smallB] at t1; omega))
                have q3 : (byteAt s k != 45) = true := by simp [t3]
                clear t3
                go_wp2_with (first | (go_at_call 105; refine (l01Small_c _ _).mono ?_; rintro e w' ⟨rfl, rfl⟩) | (go_at_call 99; refine (l01Digit_c _ _).mono ?_; rintro e w' ⟨rfl, rfl⟩))
                go_ret
                exact ⟨ret_bool HO.out.symm, rfl⟩
            · have HO := Lib.hid (show okC k (byteAt s k) = true by have := HK.out; simp [okC]; simp [digB] at t2; omega)
              go_wp2_with (first | (go_at_call 105; refine (l01Small_c _ _).mono ?_; rintro e w' ⟨rfl, rfl⟩) | (go_at_call 99; refine (l01Digit_c _ _).mono ?_; rintro e w' ⟨rfl, rfl⟩))
              (first | (refine ⟨⟨(by first | trivial | rfl), ?_⟩, ?_⟩; rotate_left; (first | (simp [intOf]; done) | (simp [intOf]; omega)); (repeat apply Exists.intro); refine ⟨?_, rfl⟩; exact ⟨k + 1, by omega, by go_num, all_range_succ _ _ HA.out HO.out⟩) | exact ⟨⟨k + 1, by omega, by go_num, all_range_succ _ _ HA.out HO.out⟩, by first | (simp [intOf]; done) | (simp [intOf]; omega)⟩)
          · have HO := Lib.hid (show okC k (byteAt s k) = true by simp [okC]; simp [smallB] at t1; omega)
            go_wp2_with (first | (go_at_call 105; refine (l01Small_c _ _).mono ?_; rintro e w' ⟨rfl, rfl⟩) | (go_at_call 99; refine (l01Digit_c _ _).mono ?_; rintro e w' ⟨rfl, rfl⟩))
            (first | (refine ⟨⟨(by first | trivial | rfl), ?_⟩, ?_⟩; rotate_left; (first | (simp [intOf]; done) | (simp [intOf]; omega)); (repeat apply Exists.intro); refine ⟨?_, rfl⟩; exact ⟨k + 1, by omega, by go_num, all_range_succ _ _ HA.out HO.out⟩) | exact ⟨⟨k + 1, by omega, by go_num, all_range_succ _ _ HA.out HO.out⟩, by first | (simp [intOf]; done) | (simp [intOf]; omega)⟩)
        · have hfin : nameB s = true := by
            have h1 := HA.out
            have hk' : k = s.size := by omega
            rw [hk'] at h1
            unfold nameB
            rw [h1, decide_eq_true ⟨h0, h12⟩]; rfl
          have HF := Lib.hid hfin; clear hfin
          go_wp2_with fail
          go_ret
          exact ⟨ret_bool HF.out.symm, rfl⟩
  · have HF := Lib.hid (nameB_size s hz)
    by_cases h0 : s.size = 0
    · have q0 : s.toList.isEmpty = true := by rw [hem]; simp [h0]
      have q2 : s.toList = [] := by simpa using q0
      have H0 := Lib.hid h0; clear h0 hz hem
      go_enter Tryd.func84, Tryd.ntmps84
      go_wp2_with fail
      all_goals (go_ret; exact ⟨ret_bool HF.out.symm, rfl⟩)
    · have q0 : s.toList.isEmpty = false := by rw [hem]; simp [h0]
      have q2 : ¬ s.toList = [] := by intro h; rw [h] at q0; simp at q0
      have q1 : (12 : Int) < (s.size : Int) := by omega
      clear h0 hz hem
      go_enter Tryd.func84, Tryd.ntmps84
      go_wp2_with fail
      all_goals (go_ret; exact ⟨ret_bool HF.out.symm, rfl⟩)

end Go.Proofs.YtaebofpgdonnbaaDoor
