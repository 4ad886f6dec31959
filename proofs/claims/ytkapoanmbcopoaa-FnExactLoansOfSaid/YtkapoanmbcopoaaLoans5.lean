/- Contracts: how many are lent, which loan has a day, who borrowed, from when on an exhibit is free. -/
import Derived.Test.YtkapoanmbcopoaaLoans4
set_option linter.unusedVariables false
set_option linter.unusedSimpArgs false
namespace Go.Proofs.Ytkapoanmbcopoaa
open Go.RowKit

theorem foldl_take_succ {α β : Type} (f : β → α → β) (z : β) (l : List α) (k : Nat) (d : α) (h : l[k]? = some d) : (l.take (k + 1)).foldl f z = f ((l.take k).foldl f z) d := by
  rw [take_snoc' l k d h, List.foldl_append]; rfl

theorem l23OkB_c (A : Option Addr) (n c : Nat) (l : List LoanD) (w : World) (hn : l.length = n) (hm : n ≤ 1048576) (hcap : n ≤ c) (hr : Rd w w.heap.size 4 lcell A l) (ok : ∀ d ∈ l, okL d) :
    Calls Try.prog 46 #[.slice A n c] w fun e w' => e = .returned (.bool (validS l)) ∧ Below w.heap.size w w' := to_below (l23Ok_c A n c l _ w hn hm hr (sizesOk_of ok))

theorem ValidLoansS_c (A : Option Addr) (n c : Nat) (l : List LoanD) (w : World) (hn : l.length = n) (hm : n ≤ 1048576) (hcap : n ≤ c) (hr : Rd w w.heap.size 4 lcell A l) (ok : ∀ d ∈ l, okL d) :
    Calls Try.prog 22 #[.slice A n c] w fun e w' => e = .returned (.bool (validS l)) ∧ Below w.heap.size w w' := by
  go_enter Try.func22, Try.ntmps22
  go_wp2_with fail
  refine (l23OkB_c A n c l _ hn hm hcap hr ok).mono ?_
  rintro e w1 ⟨rfl, hb1⟩
  go_wp2_with fail
  go_ret
  exact ⟨rfl, hb1⟩

/-! ### How many are lent -/
def lentF (day a : Int) (d : LoanD) : Int := if inB day d.fr d.to = true then a + 1 else a
def lentM (l : List LoanD) (day : Int) : Int := l.foldl (lentF day) 0
theorem lentM_bd (l : List LoanD) (day : Int) : 0 ≤ lentM l day ∧ lentM l day ≤ l.length := by
  have key : ∀ (l : List LoanD) (a : Int), a ≤ l.foldl (lentF day) a ∧ l.foldl (lentF day) a ≤ a + l.length := by
    intro l
    induction l with
    | nil => intro a; simp
    | cons d l ih =>
      intro a
      have := ih (lentF day a d)
      have h1 : a ≤ lentF day a d ∧ lentF day a d ≤ a + 1 := by unfold lentF; split <;> omega
      simp only [List.foldl_cons, List.length_cons]
      omega
  have := key l 0
  unfold lentM
  omega

set_option maxHeartbeats 1000000 in
theorem lentAt_c (A : Option Addr) (n c : Nat) (l : List LoanD) (day : Int) (w : World) (hn : l.length = n) (hm : n ≤ 1048576) (hr : Rd w w.heap.size 4 lcell A l) :
    Calls Try.prog 51 #[.slice A n c, .int .i64 day] w fun e w' => e = .returned (.int .i64 (lentM l day)) ∧ Below w.heap.size w w' := by
  have HN := Lib.hid hn; clear hn
  go_enter Try.func51, Try.ntmps51
  go_wp2_with fail
  go_loopw [5, 10] (fun q i wr => ∃ (k : Nat) (a : Int), k ≤ n ∧ i = .int .i64 k ∧ q = .int .i64 a ∧ a = lentM (l.take k) day ∧ Below w.heap.size w wr) (fun _ i _ => n - (intOf i).toNat)
  case atStart => exact ⟨0, 0, Nat.zero_le _, rfl, rfl, rfl, Below.refl _ _⟩
  case round =>
    obtain ⟨k, a, hk, rfl, rfl, ha, hb⟩ := hrel
    have HA := Lib.hid ha; clear ha
    have hbs := hb.size
    have ab : 0 ≤ a ∧ a ≤ 1048576 := by have h1 := lentM_bd (l.take k) day; have h2 : (l.take k).length ≤ k := List.length_take_le _ _; have := HA.out; omega
    obtain ⟨ab1, ab2⟩ := ab
    by_cases hlt : k < n
    · obtain ⟨b1, off, rfl, hbl, hc⟩ := (hr.below hb).loan (by rw [HN.out]; omega)
      obtain ⟨d, hd⟩ := get_ex l k (by rw [HN.out]; omega)
      obtain ⟨g0, g1, g2, g3⟩ := hc k d hd
      have hf1 := far (show b1 < wr.heap.size by omega)
      have HD := Lib.hid hd; clear hd hc
      have p1 : (0 : Int) ≤ (k : Int) := by omega
      have p2 : (k : Int) < (n : Int) := by omega
      cases h1 : inB day d.fr d.to
      · have HS := Lib.hid (show a = lentM (l.take (k + 1)) day by unfold lentM; rw [foldl_take_succ _ _ l k d HD.out]; unfold lentF; rw [h1]; exact HA.out)
        go_wp2_with (go_at_call 55; refine (between_c _ _ _ _).mono ?_; rintro e w' ⟨rfl, rfl⟩)
        (first | (refine ⟨?_, ?_⟩; rotate_left; (simp [intOf]; omega); (repeat apply Exists.intro); refine ⟨?_, rfl⟩; exact ⟨k + 1, _, by omega, by go_num, rfl, HS.out, by (repeat' (first | (with_reducible exact Below.refl _ _) | (with_reducible assumption) | (with_reducible refine below_drewN ?_ _) | (with_reducible refine Below.drew ?_) | (with_reducible refine Below.alloc ?_ ?_ _) | (with_reducible refine Below.setCell ?_ ?_ _) | (with_reducible refine via (by with_reducible assumption) ?_ ?_) | go_size))⟩) | exact ⟨⟨k + 1, _, by omega, by go_num, rfl, HS.out, by (repeat' (first | (with_reducible exact Below.refl _ _) | (with_reducible assumption) | (with_reducible refine below_drewN ?_ _) | (with_reducible refine Below.drew ?_) | (with_reducible refine Below.alloc ?_ ?_ _) | (with_reducible refine Below.setCell ?_ ?_ _) | (with_reducible refine via (by with_reducible assumption) ?_ ?_) | go_size))⟩, by simp [intOf]; omega⟩)
      · have HS := Lib.hid (show a + 1 = lentM (l.take (k + 1)) day by unfold lentM; rw [foldl_take_succ _ _ l k d HD.out]; unfold lentF; rw [h1, if_pos rfl]; have := HA.out; unfold lentM lentF at this; omega)
        go_wp2_with (go_at_call 55; refine (between_c _ _ _ _).mono ?_; rintro e w' ⟨rfl, rfl⟩)
        (first | (refine ⟨?_, ?_⟩; rotate_left; (simp [intOf]; omega); (repeat apply Exists.intro); refine ⟨?_, rfl⟩; exact ⟨k + 1, _, by omega, by go_num, rfl, HS.out, by (repeat' (first | (with_reducible exact Below.refl _ _) | (with_reducible assumption) | (with_reducible refine below_drewN ?_ _) | (with_reducible refine Below.drew ?_) | (with_reducible refine Below.alloc ?_ ?_ _) | (with_reducible refine Below.setCell ?_ ?_ _) | (with_reducible refine via (by with_reducible assumption) ?_ ?_) | go_size))⟩) | exact ⟨⟨k + 1, _, by omega, by go_num, rfl, HS.out, by (repeat' (first | (with_reducible exact Below.refl _ _) | (with_reducible assumption) | (with_reducible refine below_drewN ?_ _) | (with_reducible refine Below.drew ?_) | (with_reducible refine Below.alloc ?_ ?_ _) | (with_reducible refine Below.setCell ?_ ?_ _) | (with_reducible refine via (by with_reducible assumption) ?_ ?_) | go_size))⟩, by simp [intOf]; omega⟩)
    · have hkn : l.take k = l := List.take_of_length_le (by rw [HN.out]; omega)
      have HF := Lib.hid (show a = lentM l day by rw [HA.out, hkn]); clear hkn
      go_wp2_with fail
      go_ret
      exact ⟨ret_int HF.out, hb⟩

set_option maxHeartbeats 1000000 in
theorem l23Lent_c (A : Option Addr) (n c : Nat) (l : List LoanD) (day : Int) (B : Nat) (w : World) (hn : l.length = n) (hm : n ≤ 1048576) (hr : Rd w B 4 lcell A l) :
    Calls Try.prog 50 #[.slice A n c, .int .i64 day] w fun e w' => e = .returned (.int .i64 (lentM l day)) ∧ ∃ m, w' = w.drewN m := by
  have HN := Lib.hid hn; clear hn
  go_enter Try.func50, Try.ntmps50
  go_wp2_with fail
  go_loopw [5, 6] (fun q i wr => ∃ (k : Nat) (a : Int), k ≤ n ∧ i = .int .i64 k ∧ q = .int .i64 a ∧ a = lentM (l.take k) day ∧ ∃ m, wr = w.drewN m) (fun _ i _ => n - (intOf i).toNat)
  case atStart => exact ⟨0, 0, Nat.zero_le _, rfl, rfl, rfl, 0, rfl⟩
  case round =>
    obtain ⟨k, a, hk, rfl, rfl, ha, m, hw⟩ := hrel
    have HA := Lib.hid ha; clear ha
    have hrw : Rd wr B 4 lcell A l := by rw [hw]; exact hr
    have HW := Lib.hid hw; clear hw
    have ab : 0 ≤ a ∧ a ≤ 1048576 := by have h1 := lentM_bd (l.take k) day; have h2 : (l.take k).length ≤ k := List.length_take_le _ _; have := HA.out; omega
    obtain ⟨ab1, ab2⟩ := ab
    by_cases hlt : k < n
    · obtain ⟨b1, off, rfl, hbl, hc⟩ := hrw.loan (by rw [HN.out]; omega)
      obtain ⟨d, hd⟩ := get_ex l k (by rw [HN.out]; omega)
      obtain ⟨g0, g1, g2, g3⟩ := hc k d hd
      have HD := Lib.hid hd; clear hd hc
      have p1 : (0 : Int) ≤ (k : Int) := by omega
      have p2 : (k : Int) < (n : Int) := by omega
      cases h1 : inB day d.fr d.to
      · have HS := Lib.hid (show a = lentM (l.take (k + 1)) day by unfold lentM; rw [foldl_take_succ _ _ l k d HD.out]; unfold lentF; rw [h1]; exact HA.out)
        go_wp2_with fail
        go_quiet (((go_at_call 53; exact quiet_eq (retb (l00In_c _ _ _ _) h1))))
        go_wp2_with fail
        (first | (refine ⟨?_, ?_⟩; rotate_left; (simp [intOf]; omega); (repeat apply Exists.intro); refine ⟨?_, rfl⟩; exact ⟨k + 1, _, by omega, by go_num, rfl, HS.out, m + nq, by rw [HW.out, World.drewN_drewN]⟩) | exact ⟨⟨k + 1, _, by omega, by go_num, rfl, HS.out, m + nq, by rw [HW.out, World.drewN_drewN]⟩, by simp [intOf]; omega⟩)
      · have HS := Lib.hid (show a + 1 = lentM (l.take (k + 1)) day by unfold lentM; rw [foldl_take_succ _ _ l k d HD.out]; unfold lentF; rw [h1, if_pos rfl]; have := HA.out; unfold lentM lentF at this; omega)
        go_wp2_with fail
        go_quiet (((go_at_call 53; exact quiet_eq (retb (l00In_c _ _ _ _) h1))))
        go_wp2_with fail
        (first | (refine ⟨?_, ?_⟩; rotate_left; (simp [intOf]; omega); (repeat apply Exists.intro); refine ⟨?_, rfl⟩; exact ⟨k + 1, _, by omega, by go_num, rfl, HS.out, m + nq, by rw [HW.out, World.drewN_drewN]⟩) | exact ⟨⟨k + 1, _, by omega, by go_num, rfl, HS.out, m + nq, by rw [HW.out, World.drewN_drewN]⟩, by simp [intOf]; omega⟩)
    · have hkn : l.take k = l := List.take_of_length_le (by rw [HN.out]; omega)
      have HF := Lib.hid (show a = lentM l day by rw [HA.out, hkn]); clear hkn
      go_wp2_with fail
      go_ret
      exact ⟨ret_int HF.out, m, HW.out⟩

def lentR (l : List LoanD) (day : Int) : Int × Int := if validS l = true then (lentM l day, 0) else (0, 1)
theorem ret_two {a b : Int} {p : Int × Int} (h : (a, b) = p) : Ending.returned (.tuple #[.int .i64 a, .int .i64 b]) = .returned (.tuple #[.int .i64 p.1, .int .i64 p.2]) := by rw [← h]

theorem LentAtI_c (A : Option Addr) (n c : Nat) (l : List LoanD) (day : Int) (w : World) (hn : l.length = n) (hm : n ≤ 1048576) (hcap : n ≤ c) (hr : Rd w w.heap.size 4 lcell A l) (ok : ∀ d ∈ l, okL d) :
    Calls Try.prog 25 #[.slice A n c, .int .i64 day] w fun e w' => e = .returned (.tuple #[.int .i64 (lentR l day).1, .int .i64 (lentR l day).2]) ∧ Below w.heap.size w w' := by
  have HN := Lib.hid hn; clear hn
  cases hv : validS l
  all_goals
    have HR := Lib.hid (show lentR l day = _ by unfold lentR; rw [hv])
    go_enter Try.func25, Try.ntmps25
    go_wp2_with fail
    refine (retb (ValidLoansI_c A n c l _ HN.out hm hcap hr ok) hv).mono ?_
    rintro e w1 ⟨rfl, hb1⟩
    have hz1 := hb1.size
  · go_wp2_with fail
    go_ret2
    exact ⟨ret_two HR.out.symm, hb1⟩
  · go_wp2_with fail
    refine (lentAt_c A n c l day _ HN.out hm ((hr.below hb1).mono hz1)).mono ?_
    rintro e w2 ⟨rfl, hb2⟩
    go_wp2_with fail
    go_ret2
    exact ⟨ret_two HR.out.symm, by (repeat' (first | (with_reducible exact Below.refl _ _) | (with_reducible assumption) | (with_reducible refine below_drewN ?_ _) | (with_reducible refine Below.drew ?_) | (with_reducible refine Below.alloc ?_ ?_ _) | (with_reducible refine Below.setCell ?_ ?_ _) | (with_reducible refine via (by with_reducible assumption) ?_ ?_) | go_size))⟩

theorem LentAtS_c (A : Option Addr) (n c : Nat) (l : List LoanD) (day : Int) (w : World) (hn : l.length = n) (hm : n ≤ 1048576) (hcap : n ≤ c) (hr : Rd w w.heap.size 4 lcell A l) (ok : ∀ d ∈ l, okL d) :
    Calls Try.prog 24 #[.slice A n c, .int .i64 day] w fun e w' => e = .returned (.tuple #[.int .i64 (lentR l day).1, .int .i64 (lentR l day).2]) ∧ Below w.heap.size w w' := by
  have HN := Lib.hid hn; clear hn
  cases hv : validS l
  all_goals
    have HR := Lib.hid (show lentR l day = _ by unfold lentR; rw [hv])
    go_enter Try.func24, Try.ntmps24
    go_wp2_with fail
    refine (retb (l23OkB_c A n c l _ HN.out hm hcap hr ok) hv).mono ?_
    rintro e w1 ⟨rfl, hb1⟩
    have hz1 := hb1.size
  · go_wp2_with fail
    go_ret2
    exact ⟨ret_two HR.out.symm, hb1⟩
  · go_wp2_with fail
    refine (to_below (l23Lent_c A n c l day _ _ HN.out hm ((hr.below hb1).mono hz1))).mono ?_
    rintro e w2 ⟨rfl, hb2⟩
    go_wp2_with fail
    go_ret2
    exact ⟨ret_two HR.out.symm, by (repeat' (first | (with_reducible exact Below.refl _ _) | (with_reducible assumption) | (with_reducible refine below_drewN ?_ _) | (with_reducible refine Below.drew ?_) | (with_reducible refine Below.alloc ?_ ?_ _) | (with_reducible refine Below.setCell ?_ ?_ _) | (with_reducible refine via (by with_reducible assumption) ?_ ?_) | go_size))⟩

end Go.Proofs.Ytkapoanmbcopoaa
