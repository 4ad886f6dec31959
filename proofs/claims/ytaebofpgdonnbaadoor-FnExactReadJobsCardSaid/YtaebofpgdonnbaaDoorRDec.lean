/- Contracts: the number with a decimal form, both sides. -/
import Derived.Test.YtaebofpgdonnbaaDoorNames
import Derived.Test.YtaebofpgdonnbaaDoorDec
import Derived.Deep.DeepCutAuto
set_option linter.unusedVariables false
set_option linter.unusedSimpArgs false
namespace Go.Proofs.YtaebofpgdonnbaaDoor
open Go.RowKit

def numAt (t : ByteArray) : Nat → Int
  | 0 => 0
  | k + 1 => 10 * numAt t k + (byteAt t k - 48)
def allDig (t : ByteArray) (k : Nat) : Bool := (List.range k).all fun i => digB (byteAt t i)
def numM (t : ByteArray) (neg : Bool) : Int := if neg then - numAt t t.size else numAt t t.size
def rdecT (s t : ByteArray) (neg : Bool) : Int × Bool :=
  if t.size = 0 ∨ 18 < t.size ∨ allDig t t.size = false then (0, false) else if dec (numM t neg) = s then (numM t neg, true) else (0, false)
def rdec (s : ByteArray) : Int × Bool := if 0 < s.size ∧ byteAt s 0 = 45 then rdecT s (s.extract 1 s.size) true else rdecT s s false
theorem digB_iff {c : Int} : digB c = true ↔ 48 ≤ c ∧ c ≤ 57 := by simp [digB]
theorem allDig_succ {t : ByteArray} {k : Nat} (h : allDig t k = true) (hd : digB (byteAt t k) = true) : allDig t (k + 1) = true := all_range_succ _ _ h hd
theorem allDig_no {t : ByteArray} {k : Nat} (hk : k < t.size) (hd : digB (byteAt t k) = false) : allDig t t.size = false := by
  unfold allDig
  rw [List.all_eq_false]
  exact ⟨k, List.mem_range.2 hk, by simp [hd]⟩
theorem allDig_at {t : ByteArray} {k j : Nat} (h : allDig t k = true) (hj : j < k) : digB (byteAt t j) = true := by
  unfold allDig at h
  rw [List.all_eq_true] at h
  exact h j (List.mem_range.2 hj)
theorem numAt_pow (t : ByteArray) : ∀ k : Nat, allDig t k = true → 0 ≤ numAt t k ∧ numAt t k < 10 ^ k
  | 0, _ => by simp [numAt]
  | k + 1, h => by
    have ih := numAt_pow t k (by
      unfold allDig at h ⊢
      rw [List.all_eq_true] at h ⊢
      intro x hx
      exact h x (List.mem_range.2 (by have := List.mem_range.1 hx; omega)))
    have hd := digB_iff.1 (allDig_at h (Nat.lt_succ_self k))
    have hp : (10 : Int) ^ (k + 1) = 10 ^ k * 10 := Int.pow_succ 10 k
    rw [hp]
    simp only [numAt]
    omega
theorem numAt_bd {t : ByteArray} {k : Nat} (h : allDig t k = true) (hk : k ≤ 18) : 0 ≤ numAt t k ∧ numAt t k < 1000000000000000000 := by
  obtain ⟨h1, h2⟩ := numAt_pow t k h
  have hp : (10 : Int) ^ k ≤ 10 ^ 18 := by
    have := Nat.pow_le_pow_right (show 0 < 10 by decide) hk
    exact_mod_cast this
  have h3 : (10 : Int) ^ 18 = 1000000000000000000 := by decide
  omega
theorem rdecT_bad {s t : ByteArray} {neg : Bool} (h : t.size = 0 ∨ 18 < t.size ∨ allDig t t.size = false) : rdecT s t neg = (0, false) := if_pos h
theorem rdecT_good {s t : ByteArray} {neg : Bool} (h1 : ¬ t.size = 0) (h2 : t.size ≤ 18) (h3 : allDig t t.size = true) : rdecT s t neg = if dec (numM t neg) = s then (numM t neg, true) else (0, false) :=
  if_neg (by simp [h1, h3]; omega)
theorem rdec_neg {s : ByteArray} (h0 : 0 < s.size) (h : byteAt s 0 = 45) : rdec s = rdecT s (s.extract 1 s.size) true := if_pos ⟨h0, h⟩
theorem rdec_pos {s : ByteArray} (h : ¬ byteAt s 0 = 45) : rdec s = rdecT s s false := if_neg (fun hc => h hc.2)
theorem str_ne {a b : ByteArray} (h : ¬ a = b) : ¬ a.toList = b.toList := fun hc => h (by
  rw [ByteArray.toList_eq, ByteArray.toList_eq] at hc
  obtain ⟨⟨x⟩⟩ := a
  obtain ⟨⟨y⟩⟩ := b
  simpa using hc)
theorem ret2 {a : Int} {p : Bool} {r : Int × Bool} (h : r = (a, p)) : Ending.returned (.tuple #[.int .i64 a, .bool p]) = .returned (.tuple #[.int .i64 r.1, .bool r.2]) := by rw [h]

set_option maxHeartbeats 1000000 in
theorem ReadDecimal_c (s : ByteArray) (w : World) (hs : s.size ≤ maxLen) (ht : Tab w) :
    Calls Tryd.prog 69 #[.string s] w fun e w' => e = .returned (.tuple #[.int .i64 (rdec s).1, .bool (rdec s).2]) ∧ Below w.heap.size w w' := by
  unfold maxLen at hs
  have HT := Lib.hid ht; clear ht
  by_cases h0 : 0 < s.size
  rotate_left
  · obtain rfl : s = ByteArray.empty := by
      obtain ⟨⟨x⟩⟩ := s
      cases x with
      | nil => rfl
      | cons a l => exact absurd (show 0 < (⟨⟨a :: l⟩⟩ : ByteArray).size from Nat.succ_pos _) h0
    have HR := Lib.hid (show rdec ByteArray.empty = (0, false) from rfl)
    clear h0 hs
    go_enter Tryd.func69, Tryd.ntmps69
    go_wp2_with fail
    refine bodyPost_ret (v := .tuple #[.int .i64 0, .bool false]) (by simp only [results, Tryd.results69]; go_simp; try rfl) rfl ⟨ret2 HR.out, Below.refl _ _⟩
  have hem := size_toList s
  have qe0 : s.toList.isEmpty = false := by rw [hem, decide_eq_false (by omega)]
  have qe1 : (!s.toList.isEmpty) = true := by rw [qe0]; rfl
  have qe2 : ¬ s.toList = [] := by intro h; rw [h] at qe0; simp at qe0
  clear hem
  have hc0 := byteAt_eq s 0 h0
  by_cases hn : byteAt s 0 = 45
  · have q3 : (byteAt s 0 == 45) = true := by simp [hn]
    have HR0 := Lib.hid (rdec_neg h0 hn)
    clear hn
    go_enter Tryd.func69, Tryd.ntmps69
    go_upto_region 4 with fail
    obtain ⟨t, ht⟩ : ∃ t, s.extract 1 s.size = t := ⟨_, rfl⟩
    rw [ht] at HR0 ⊢
    have hts : t.size + 1 = s.size := by rw [← ht, ByteArray.size_extract]; omega
    clear ht
    clear q3 hc0 qe0 qe1 qe2
    by_cases z0 : t.size = 0
    · have HR := Lib.hid (HR0.out.trans (rdecT_bad (.inl z0)))
      have q0 : ((t.size : Int) == 0) = true := by rw [beq_iff_eq]; omega
      go_wp2_with fail
      refine bodyPost_ret (v := .tuple #[.int .i64 0, .bool false]) (by simp only [results, Tryd.results69]; go_simp; try rfl) rfl ⟨ret2 HR.out, Below.refl _ _⟩
    have q0 : ((t.size : Int) == 0) = false := by rw [beq_eq_false_iff_ne]; omega
    by_cases z1 : 18 < t.size
    · have HR := Lib.hid (HR0.out.trans (rdecT_bad (.inr (.inl z1))))
      go_wp2_with fail
      refine bodyPost_ret (v := .tuple #[.int .i64 0, .bool false]) (by simp only [results, Tryd.results69]; go_simp; try rfl) rfl ⟨ret2 HR.out, Below.refl _ _⟩
    have z2 : t.size ≤ 18 := by omega
    go_wp2_with fail
    go_loop [28, 5] (fun i n => ∃ k : Nat, k ≤ t.size ∧ i = .int .i64 k ∧ n = .int .i64 (numAt t k) ∧ allDig t k = true) (fun i _ => t.size - (intOf i).toNat)
    case atStart => exact ⟨0, Nat.zero_le _, rfl, rfl, rfl⟩
    case round =>
      obtain ⟨k, hk, rfl, rfl, ha⟩ := hrel
      have hnb := numAt_bd ha (by omega)
      have HA := Lib.hid ha; clear ha
      by_cases hlt : k < t.size
      · have hbd := byteAt_bd t k
        have hc := byteAt_eq t k hlt
        cases hd : digB (byteAt t k)
        · have HR := Lib.hid (HR0.out.trans (rdecT_bad (.inr (.inr (allDig_no hlt hd)))))
          go_wp2_with (go_at_call 101; refine (isDigit_c _ _).mono ?_; rintro e w' ⟨rfl, rfl⟩)
          refine bodyPost_ret (v := .tuple #[.int .i64 0, .bool false]) (by simp only [results, Tryd.results69]; go_simp; try rfl) rfl ⟨ret2 HR.out, Below.refl _ _⟩
        · have HD := Lib.hid (allDig_succ HA.out hd)
          have hdb := digB_iff.1 hd
          have hnb2 := numAt_bd HD.out (by omega)
          have hnx : numAt t (k + 1) = 10 * numAt t k + (byteAt t k - 48) := rfl
          have e1 : IntKind.u8.wrap (byteAt t k - 48) = byteAt t k - 48 := by simp [IntKind.wrap, IntKind.bits, IntKind.signed]; omega
          have e2 : IntKind.i64.wrap (byteAt t k - 48) = byteAt t k - 48 := IntWalk.i64_in _ (by omega)
          have e3 : IntKind.i64.wrap (10 * numAt t k) = 10 * numAt t k := IntWalk.i64_in _ (by omega)
          have e4 : IntKind.i64.wrap (10 * numAt t k + (byteAt t k - 48)) = numAt t (k + 1) := by rw [hnx]; exact IntWalk.i64_in _ (by omega)
          clear hnx hnb2 hdb
          go_wp2_with (go_at_call 101; refine (isDigit_c _ _).mono ?_; rintro e w' ⟨rfl, rfl⟩)
          (first | (refine ⟨⟨(by first | trivial | rfl), ?_⟩, ?_⟩; rotate_left; (first | (simp [intOf]; done) | (simp [intOf]; omega)); (repeat apply Exists.intro); refine ⟨?_, rfl⟩; exact ⟨k + 1, by omega, by go_num, rfl, HD.out⟩) | exact ⟨⟨k + 1, by omega, by go_num, rfl, HD.out⟩, by first | (simp [intOf]; done) | (simp [intOf]; omega)⟩)
      · obtain rfl : k = t.size := by omega
        have HR1 := Lib.hid (HR0.out.trans (rdecT_good z0 z2 HA.out))
        have HM := Lib.hid (show numM t true = - numAt t t.size from rfl)
        have hmb : -9223372036854775808 ≤ - numAt t t.size ∧ - numAt t t.size ≤ 9223372036854775807 := by omega
        generalize hx : numAt t t.size = x at *
        have HX := Lib.hid hx; clear hx
        have e5 : IntKind.i64.wrap (-x) = -x := IntWalk.i64_in _ (by omega)
        rw [HM.out] at HR1
        go_wp2_with fail
        refine (Decimal_c (-x) w hmb HT.out).mono ?_
        rintro e w1 ⟨rfl, hb1⟩
        generalize dec (-x) = D at *
        by_cases hD : D = s
        · have HR := Lib.hid (HR1.out.trans (if_pos hD))
          have HDs := Lib.hid hD; clear hD
          have q7 : (D.toList == s.toList) = true := by rw [HDs.out]; exact beq_self_eq_true _
          have q8 : (D.toList != s.toList) = false := by rw [HDs.out]; exact bne_self_eq_false _
          have q9 : D.toList = s.toList := by rw [HDs.out]
          go_wp2_with fail
          refine bodyPost_ret (v := .tuple #[.int .i64 (-x), .bool true]) (by simp only [results, Tryd.results69]; go_simp; try rfl) rfl ⟨ret2 HR.out, hb1⟩
        · have HR := Lib.hid (HR1.out.trans (if_neg hD))
          have q9 := str_ne hD
          have q7 : (D.toList == s.toList) = false := by rw [beq_eq_false_iff_ne]; exact q9
          have q8 : (D.toList != s.toList) = true := by rw [bne_iff_ne]; exact q9
          clear hD
          go_wp2_with fail
          refine bodyPost_ret (v := .tuple #[.int .i64 0, .bool false]) (by simp only [results, Tryd.results69]; go_simp; try rfl) rfl ⟨ret2 HR.out, hb1⟩
  · have q3 : (byteAt s 0 == 45) = false := by simp [hn]
    have HR0 := Lib.hid (rdec_pos hn)
    clear hn
    go_enter Tryd.func69, Tryd.ntmps69
    go_upto_region 4 with fail
    clear q3 hc0 qe0 qe1 qe2
    by_cases z0 : s.size = 0
    · omega
    have q0 : ((s.size : Int) == 0) = false := by rw [beq_eq_false_iff_ne]; omega
    by_cases z1 : 18 < s.size
    · have HR := Lib.hid (HR0.out.trans (rdecT_bad (.inr (.inl z1))))
      go_wp2_with fail
      refine bodyPost_ret (v := .tuple #[.int .i64 0, .bool false]) (by simp only [results, Tryd.results69]; go_simp; try rfl) rfl ⟨ret2 HR.out, Below.refl _ _⟩
    have z2 : s.size ≤ 18 := by omega
    go_wp2_with fail
    go_loop [28, 5] (fun i n => ∃ k : Nat, k ≤ s.size ∧ i = .int .i64 k ∧ n = .int .i64 (numAt s k) ∧ allDig s k = true) (fun i _ => s.size - (intOf i).toNat)
    case atStart => exact ⟨0, Nat.zero_le _, rfl, rfl, rfl⟩
    case round =>
      obtain ⟨k, hk, rfl, rfl, ha⟩ := hrel
      have hnb := numAt_bd ha (by omega)
      have HA := Lib.hid ha; clear ha
      by_cases hlt : k < s.size
      · have hbd := byteAt_bd s k
        have hc := byteAt_eq s k hlt
        cases hd : digB (byteAt s k)
        · have HR := Lib.hid (HR0.out.trans (rdecT_bad (.inr (.inr (allDig_no hlt hd)))))
          go_wp2_with (go_at_call 101; refine (isDigit_c _ _).mono ?_; rintro e w' ⟨rfl, rfl⟩)
          refine bodyPost_ret (v := .tuple #[.int .i64 0, .bool false]) (by simp only [results, Tryd.results69]; go_simp; try rfl) rfl ⟨ret2 HR.out, Below.refl _ _⟩
        · have HD := Lib.hid (allDig_succ HA.out hd)
          have hdb := digB_iff.1 hd
          have hnb2 := numAt_bd HD.out (by omega)
          have hnx : numAt s (k + 1) = 10 * numAt s k + (byteAt s k - 48) := rfl
          have e1 : IntKind.u8.wrap (byteAt s k - 48) = byteAt s k - 48 := by simp [IntKind.wrap, IntKind.bits, IntKind.signed]; omega
          have e2 : IntKind.i64.wrap (byteAt s k - 48) = byteAt s k - 48 := IntWalk.i64_in _ (by omega)
          have e3 : IntKind.i64.wrap (10 * numAt s k) = 10 * numAt s k := IntWalk.i64_in _ (by omega)
          have e4 : IntKind.i64.wrap (10 * numAt s k + (byteAt s k - 48)) = numAt s (k + 1) := by rw [hnx]; exact IntWalk.i64_in _ (by omega)
          clear hnx hnb2 hdb
          go_wp2_with (go_at_call 101; refine (isDigit_c _ _).mono ?_; rintro e w' ⟨rfl, rfl⟩)
          (first | (refine ⟨⟨(by first | trivial | rfl), ?_⟩, ?_⟩; rotate_left; (first | (simp [intOf]; done) | (simp [intOf]; omega)); (repeat apply Exists.intro); refine ⟨?_, rfl⟩; exact ⟨k + 1, by omega, by go_num, rfl, HD.out⟩) | exact ⟨⟨k + 1, by omega, by go_num, rfl, HD.out⟩, by first | (simp [intOf]; done) | (simp [intOf]; omega)⟩)
      · obtain rfl : k = s.size := by omega
        have HR1 := Lib.hid (HR0.out.trans (rdecT_good z0 z2 HA.out))
        have HM := Lib.hid (show numM s false = numAt s s.size from rfl)
        have hmb : -9223372036854775808 ≤ numAt s s.size ∧ numAt s s.size ≤ 9223372036854775807 := by omega
        generalize hx : numAt s s.size = x at *
        have HX := Lib.hid hx; clear hx
        have e5 : IntKind.i64.wrap (-x) = -x := IntWalk.i64_in _ (by omega)
        rw [HM.out] at HR1
        go_wp2_with fail
        refine (Decimal_c (x) w hmb HT.out).mono ?_
        rintro e w1 ⟨rfl, hb1⟩
        generalize dec (x) = D at *
        by_cases hD : D = s
        · have HR := Lib.hid (HR1.out.trans (if_pos hD))
          have HDs := Lib.hid hD; clear hD
          have q7 : (D.toList == s.toList) = true := by rw [HDs.out]; exact beq_self_eq_true _
          have q8 : (D.toList != s.toList) = false := by rw [HDs.out]; exact bne_self_eq_false _
          have q9 : D.toList = s.toList := by rw [HDs.out]
          go_wp2_with fail
          refine bodyPost_ret (v := .tuple #[.int .i64 x, .bool true]) (by simp only [results, Tryd.results69]; go_simp; try rfl) rfl ⟨ret2 HR.out, hb1⟩
        · have HR := Lib.hid (HR1.out.trans (if_neg hD))
          have q9 := str_ne hD
          have q7 : (D.toList == s.toList) = false := by rw [beq_eq_false_iff_ne]; exact q9
          have q8 : (D.toList != s.toList) = true := by rw [bne_iff_ne]; exact q9
          clear hD
          go_wp2_with fail
          refine bodyPost_ret (v := .tuple #[.int .i64 0, .bool false]) (by simp only [results, Tryd.results69]; go_simp; try rfl) rfl ⟨ret2 HR.out, hb1⟩

set_option maxHeartbeats 1000000 in
theorem l01Number_c (s : ByteArray) (w : World) (hs : s.size ≤ maxLen) :
    Calls Tryd.prog 66 #[.string s] w fun e w' => e = .returned (.tuple #[.int .i64 (rdec s).1, .bool (rdec s).2]) ∧ Below w.heap.size w w' := by
  unfold maxLen at hs
  by_cases h0 : 0 < s.size
  rotate_left
  · obtain rfl : s = ByteArray.empty := by
      obtain ⟨⟨x⟩⟩ := s
      cases x with
      | nil => rfl
      | cons a l => exact absurd (show 0 < (⟨⟨a :: l⟩⟩ : ByteArray).size from Nat.succ_pos _) h0
    have HR := Lib.hid (show rdec ByteArray.empty = (0, false) from rfl)
    clear h0 hs
    go_enter Tryd.func66, Tryd.ntmps66
    go_wp2_with fail
    refine bodyPost_ret (v := .tuple #[.int .i64 0, .bool false]) (by simp only [results, Tryd.results66]; go_simp; try rfl) rfl ⟨ret2 HR.out, Below.refl _ _⟩
  have hem := size_toList s
  have qe0 : s.toList.isEmpty = false := by rw [hem, decide_eq_false (by omega)]
  have qe1 : (!s.toList.isEmpty) = true := by rw [qe0]; rfl
  have qe2 : ¬ s.toList = [] := by intro h; rw [h] at qe0; simp at qe0
  clear hem
  have hc0 := byteAt_eq s 0 h0
  by_cases hn : byteAt s 0 = 45
  · have q3 : (byteAt s 0 == 45) = true := by simp [hn]
    have HR0 := Lib.hid (rdec_neg h0 hn)
    clear hn
    go_enter Tryd.func66, Tryd.ntmps66
    go_upto_region 4 with fail
    obtain ⟨t, ht⟩ : ∃ t, s.extract 1 s.size = t := ⟨_, rfl⟩
    rw [ht] at HR0 ⊢
    have hts : t.size + 1 = s.size := by rw [← ht, ByteArray.size_extract]; omega
    clear ht
    clear q3 hc0 qe0 qe1 qe2
    by_cases z0 : t.size = 0
    · have HR := Lib.hid (HR0.out.trans (rdecT_bad (.inl z0)))
      have q0 : ((t.size : Int) == 0) = true := by rw [beq_iff_eq]; omega
      go_wp2_with fail
      refine bodyPost_ret (v := .tuple #[.int .i64 0, .bool false]) (by simp only [results, Tryd.results66]; go_simp; try rfl) rfl ⟨ret2 HR.out, Below.refl _ _⟩
    have q0 : ((t.size : Int) == 0) = false := by rw [beq_eq_false_iff_ne]; omega
    by_cases z1 : 18 < t.size
    · have HR := Lib.hid (HR0.out.trans (rdecT_bad (.inr (.inl z1))))
      go_wp2_with fail
      refine bodyPost_ret (v := .tuple #[.int .i64 0, .bool false]) (by simp only [results, Tryd.results66]; go_simp; try rfl) rfl ⟨ret2 HR.out, Below.refl _ _⟩
    have z2 : t.size ≤ 18 := by omega
    go_wp2_with fail
    go_loop [6, 5] (fun i n => ∃ k : Nat, k ≤ t.size ∧ i = .int .i64 k ∧ n = .int .i64 (numAt t k) ∧ allDig t k = true) (fun i _ => t.size - (intOf i).toNat)
    case atStart => exact ⟨0, Nat.zero_le _, rfl, rfl, rfl⟩
    case round =>
      obtain ⟨k, hk, rfl, rfl, ha⟩ := hrel
      have hnb := numAt_bd ha (by omega)
      have HA := Lib.hid ha; clear ha
      by_cases hlt : k < t.size
      · have hbd := byteAt_bd t k
        have hc := byteAt_eq t k hlt
        cases hd : digB (byteAt t k)
        · have HR := Lib.hid (HR0.out.trans (rdecT_bad (.inr (.inr (allDig_no hlt hd)))))
          go_wp2_with (go_at_call 99; refine (l01Digit_c _ _).mono ?_; rintro e w' ⟨rfl, rfl⟩)
          refine bodyPost_ret (v := .tuple #[.int .i64 0, .bool false]) (by simp only [results, Tryd.results66]; go_simp; try rfl) rfl ⟨ret2 HR.out, Below.refl _ _⟩
        · have HD := Lib.hid (allDig_succ HA.out hd)
          have hdb := digB_iff.1 hd
          have hnb2 := numAt_bd HD.out (by omega)
          have hnx : numAt t (k + 1) = 10 * numAt t k + (byteAt t k - 48) := rfl
          have e1 : IntKind.u8.wrap (byteAt t k - 48) = byteAt t k - 48 := by simp [IntKind.wrap, IntKind.bits, IntKind.signed]; omega
          have e2 : IntKind.i64.wrap (byteAt t k - 48) = byteAt t k - 48 := IntWalk.i64_in _ (by omega)
          have e3 : IntKind.i64.wrap (10 * numAt t k) = 10 * numAt t k := IntWalk.i64_in _ (by omega)
          have e4 : IntKind.i64.wrap (10 * numAt t k + (byteAt t k - 48)) = numAt t (k + 1) := by rw [hnx]; exact IntWalk.i64_in _ (by omega)
          clear hnx hnb2 hdb
          go_wp2_with (go_at_call 99; refine (l01Digit_c _ _).mono ?_; rintro e w' ⟨rfl, rfl⟩)
          (first | (refine ⟨⟨(by first | trivial | rfl), ?_⟩, ?_⟩; rotate_left; (first | (simp [intOf]; done) | (simp [intOf]; omega)); (repeat apply Exists.intro); refine ⟨?_, rfl⟩; exact ⟨k + 1, by omega, by go_num, rfl, HD.out⟩) | exact ⟨⟨k + 1, by omega, by go_num, rfl, HD.out⟩, by first | (simp [intOf]; done) | (simp [intOf]; omega)⟩)
      · obtain rfl : k = t.size := by omega
        have HR1 := Lib.hid (HR0.out.trans (rdecT_good z0 z2 HA.out))
        have HM := Lib.hid (show numM t true = - numAt t t.size from rfl)
        have hmb : -9223372036854775808 ≤ - numAt t t.size ∧ - numAt t t.size ≤ 9223372036854775807 := by omega
        generalize hx : numAt t t.size = x at *
        have HX := Lib.hid hx; clear hx
        have e5 : IntKind.i64.wrap (-x) = -x := IntWalk.i64_in _ (by omega)
        rw [HM.out] at HR1
        go_wp2_with fail
        refine (l01Dec_c (-x) w hmb).mono ?_
        rintro e w1 ⟨rfl, hb1⟩
        generalize dec (-x) = D at *
        by_cases hD : D = s
        · have HR := Lib.hid (HR1.out.trans (if_pos hD))
          have HDs := Lib.hid hD; clear hD
          have q7 : (D.toList == s.toList) = true := by rw [HDs.out]; exact beq_self_eq_true _
          have q8 : (D.toList != s.toList) = false := by rw [HDs.out]; exact bne_self_eq_false _
          have q9 : D.toList = s.toList := by rw [HDs.out]
          go_wp2_with fail
          refine bodyPost_ret (v := .tuple #[.int .i64 (-x), .bool true]) (by simp only [results, Tryd.results66]; go_simp; try rfl) rfl ⟨ret2 HR.out, hb1⟩
        · have HR := Lib.hid (HR1.out.trans (if_neg hD))
          have q9 := str_ne hD
          have q7 : (D.toList == s.toList) = false := by rw [beq_eq_false_iff_ne]; exact q9
          have q8 : (D.toList != s.toList) = true := by rw [bne_iff_ne]; exact q9
          clear hD
          go_wp2_with fail
          refine bodyPost_ret (v := .tuple #[.int .i64 0, .bool false]) (by simp only [results, Tryd.results66]; go_simp; try rfl) rfl ⟨ret2 HR.out, hb1⟩
  · have q3 : (byteAt s 0 == 45) = false := by simp [hn]
    have HR0 := Lib.hid (rdec_pos hn)
    clear hn
    go_enter Tryd.func66, Tryd.ntmps66
    go_upto_region 4 with fail
    clear q3 hc0 qe0 qe1 qe2
    by_cases z0 : s.size = 0
    · omega
    have q0 : ((s.size : Int) == 0) = false := by rw [beq_eq_false_iff_ne]; omega
    by_cases z1 : 18 < s.size
    · have HR := Lib.hid (HR0.out.trans (rdecT_bad (.inr (.inl z1))))
      go_wp2_with fail
      refine bodyPost_ret (v := .tuple #[.int .i64 0, .bool false]) (by simp only [results, Tryd.results66]; go_simp; try rfl) rfl ⟨ret2 HR.out, Below.refl _ _⟩
    have z2 : s.size ≤ 18 := by omega
    go_wp2_with fail
    go_loop [6, 5] (fun i n => ∃ k : Nat, k ≤ s.size ∧ i = .int .i64 k ∧ n = .int .i64 (numAt s k) ∧ allDig s k = true) (fun i _ => s.size - (intOf i).toNat)
    case atStart => exact ⟨0, Nat.zero_le _, rfl, rfl, rfl⟩
    case round =>
      obtain ⟨k, hk, rfl, rfl, ha⟩ := hrel
      have hnb := numAt_bd ha (by omega)
      have HA := Lib.hid ha; clear ha
      by_cases hlt : k < s.size
      · have hbd := byteAt_bd s k
        have hc := byteAt_eq s k hlt
        cases hd : digB (byteAt s k)
        · have HR := Lib.hid (HR0.out.trans (rdecT_bad (.inr (.inr (allDig_no hlt hd)))))
          go_wp2_with (go_at_call 99; refine (l01Digit_c _ _).mono ?_; rintro e w' ⟨rfl, rfl⟩)
          refine bodyPost_ret (v := .tuple #[.int .i64 0, .bool false]) (by simp only [results, Tryd.results66]; go_simp; try rfl) rfl ⟨ret2 HR.out, Below.refl _ _⟩
        · have HD := Lib.hid (allDig_succ HA.out hd)
          have hdb := digB_iff.1 hd
          have hnb2 := numAt_bd HD.out (by omega)
          have hnx : numAt s (k + 1) = 10 * numAt s k + (byteAt s k - 48) := rfl
          have e1 : IntKind.u8.wrap (byteAt s k - 48) = byteAt s k - 48 := by simp [IntKind.wrap, IntKind.bits, IntKind.signed]; omega
          have e2 : IntKind.i64.wrap (byteAt s k - 48) = byteAt s k - 48 := IntWalk.i64_in _ (by omega)
          have e3 : IntKind.i64.wrap (10 * numAt s k) = 10 * numAt s k := IntWalk.i64_in _ (by omega)
          have e4 : IntKind.i64.wrap (10 * numAt s k + (byteAt s k - 48)) = numAt s (k + 1) := by rw [hnx]; exact IntWalk.i64_in _ (by omega)
          clear hnx hnb2 hdb
          go_wp2_with (go_at_call 99; refine (l01Digit_c _ _).mono ?_; rintro e w' ⟨rfl, rfl⟩)
          (first | (refine ⟨⟨(by first | trivial | rfl), ?_⟩, ?_⟩; rotate_left; (first | (simp [intOf]; done) | (simp [intOf]; omega)); (repeat apply Exists.intro); refine ⟨?_, rfl⟩; exact ⟨k + 1, by omega, by go_num, rfl, HD.out⟩) | exact ⟨⟨k + 1, by omega, by go_num, rfl, HD.out⟩, by first | (simp [intOf]; done) | (simp [intOf]; omega)⟩)
      · obtain rfl : k = s.size := by omega
        have HR1 := Lib.hid (HR0.out.trans (rdecT_good z0 z2 HA.out))
        have HM := Lib.hid (show numM s false = numAt s s.size from rfl)
        have hmb : -9223372036854775808 ≤ numAt s s.size ∧ numAt s s.size ≤ 9223372036854775807 := by omega
        generalize hx : numAt s s.size = x at *
        have HX := Lib.hid hx; clear hx
        have e5 : IntKind.i64.wrap (-x) = -x := IntWalk.i64_in _ (by omega)
        rw [HM.out] at HR1
        go_wp2_with fail
        refine (l01Dec_c (x) w hmb).mono ?_
        rintro e w1 ⟨rfl, hb1⟩
        generalize dec (x) = D at *
        by_cases hD : D = s
        · have HR := Lib.hid (HR1.out.trans (if_pos hD))
          have HDs := Lib.hid hD; clear hD
          have q7 : (D.toList == s.toList) = true := by rw [HDs.out]; exact beq_self_eq_true _
          have q8 : (D.toList != s.toList) = false := by rw [HDs.out]; exact bne_self_eq_false _
          have q9 : D.toList = s.toList := by rw [HDs.out]
          go_wp2_with fail
          refine bodyPost_ret (v := .tuple #[.int .i64 x, .bool true]) (by simp only [results, Tryd.results66]; go_simp; try rfl) rfl ⟨ret2 HR.out, hb1⟩
        · have HR := Lib.hid (HR1.out.trans (if_neg hD))
          have q9 := str_ne hD
          have q7 : (D.toList == s.toList) = false := by rw [beq_eq_false_iff_ne]; exact q9
          have q8 : (D.toList != s.toList) = true := by rw [bne_iff_ne]; exact q9
          clear hD
          go_wp2_with fail
          refine bodyPost_ret (v := .tuple #[.int .i64 0, .bool false]) (by simp only [results, Tryd.results66]; go_simp; try rfl) rfl ⟨ret2 HR.out, hb1⟩

end Go.Proofs.YtaebofpgdonnbaaDoor
