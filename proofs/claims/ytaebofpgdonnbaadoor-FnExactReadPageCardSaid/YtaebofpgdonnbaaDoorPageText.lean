/- Contracts: the check digit in print, the line of a row, both sides. -/
import Derived.Test.YtaebofpgdonnbaaDoorPage2
import Derived.Test.YtaebofpgdonnbaaDoorParts
set_option linter.unusedVariables false
set_option linter.unusedSimpArgs false
namespace Go.Proofs.YtaebofpgdonnbaaDoor
open Go.RowKit

/-- the check digit in print -/
def sgn (n : Int) : ByteArray := if chk n < 10 then dec (chk n) else ⟨#[120]⟩

set_option maxHeartbeats 1000000 in
theorem checkText_c (n : Int) (w : World) (h : -1000000000000 ≤ n ∧ n ≤ 1000000000000) (hc : 0 ≤ chk n ∧ chk n ≤ 10) (ht : Tab w) :
    Calls Tryd.prog 92 #[.int .i64 n] w fun e w' => e = .returned (.string (sgn n)) ∧ Below w.heap.size w w' := by
  have HT := Lib.hid ht; clear ht
  have HK := Lib.hid (checkDigit_c n · h)
  by_cases hx : chk n < 10
  · have HS := Lib.hid (show sgn n = dec (chk n) from if_pos hx)
    generalize chk n = x at *
    go_enter Tryd.func92, Tryd.ntmps92
    go_wp2_with fail
    refine (HK.out _).mono ?_
    rintro e w1 ⟨rfl, rfl⟩
    go_wp2_with fail
    refine (Decimal_c x w (by omega) HT.out).mono ?_
    rintro e w2 ⟨rfl, hb2⟩
    go_wp2_with fail
    go_ret
    exact ⟨by rw [HS.out]; rfl, hb2⟩
  · have HS := Lib.hid (show sgn n = ⟨#[120]⟩ from if_neg hx)
    generalize chk n = x at *
    go_enter Tryd.func92, Tryd.ntmps92
    go_wp2_with fail
    refine (HK.out _).mono ?_
    rintro e w1 ⟨rfl, rfl⟩
    go_wp2_with fail
    go_ret
    exact ⟨by rw [HS.out]; rfl, Below.refl _ _⟩

set_option maxHeartbeats 1000000 in
theorem l18Sign_c (n : Int) (w : World) (hc : 0 ≤ chk n ∧ chk n ≤ 10) :
    Calls Tryd.prog 103 #[.int .i64 (chk n)] w fun e w' => e = .returned (.string (sgn n)) ∧ Below w.heap.size w w' := by
  by_cases hx : chk n < 10
  · have HS := Lib.hid (show sgn n = dec (chk n) from if_pos hx)
    generalize chk n = x at *
    have q1 : (x == 10) = false := by rw [beq_eq_false_iff_ne]; omega
    go_enter Tryd.func103, Tryd.ntmps103
    go_wp2_with fail
    refine (l01Dec_c x w (by omega)).mono ?_
    rintro e w2 ⟨rfl, hb2⟩
    go_wp2_with fail
    go_ret
    exact ⟨by rw [HS.out]; rfl, hb2⟩
  · have HS := Lib.hid (show sgn n = ⟨#[120]⟩ from if_neg hx)
    generalize chk n = x at *
    have q1 : (x == 10) = true := by rw [beq_iff_eq]; omega
    go_enter Tryd.func103, Tryd.ntmps103
    go_wp2_with fail
    go_ret
    exact ⟨by rw [HS.out]; rfl, Below.refl _ _⟩

theorem sgn_size (n : Int) : (sgn n).size ≤ 21 := by
  unfold sgn
  have := chk_range n
  split
  · exact dec_size _ (by omega)
  · show (1 : Nat) ≤ 21
    omega
/-- the line of a row -/
def rowT (a v : Int) : ByteArray := dec a ++ ⟨#[32]⟩ ++ dec v ++ ⟨#[32]⟩ ++ sgn v

set_option maxHeartbeats 1000000 in
theorem l18Row_c (a v : Int) (w : World) (ha : -9223372036854775808 ≤ a ∧ a ≤ 9223372036854775807) (hv : -1000000000000 ≤ v ∧ v ≤ 1000000000000) :
    Calls Tryd.prog 88 #[.int .i64 a, .int .i64 v] w fun e w' => e = .returned (.string (rowT a v)) ∧ Below w.heap.size w w' := by
  have z1 := dec_size a ha
  have z2 := dec_size v (by omega)
  have z3 := sgn_size v
  have HA := Lib.hid (l01Dec_c a · ha)
  have HV := Lib.hid (l01Dec_c v · (by omega))
  have HK := Lib.hid (l18Check_c v · hv)
  have HG := Lib.hid (l18Sign_c v · (chk_range v))
  have HT := Lib.hid (show rowT a v = dec a ++ ⟨#[32]⟩ ++ dec v ++ ⟨#[32]⟩ ++ sgn v from rfl)
  generalize rowT a v = T at *
  generalize dec a = DA at *
  generalize dec v = DV at *
  generalize sgn v = DS at *
  generalize chk v = x at *
  have s0 : (⟨#[32]⟩ : ByteArray).size = 1 := rfl
  go_enter Tryd.func88, Tryd.ntmps88
  go_wp2_with fail
  refine (HA.out w).mono ?_
  rintro e w1 ⟨rfl, hb1⟩
  go_wp2_with fail
  refine (HV.out w1).mono ?_
  rintro e w2 ⟨rfl, hb2⟩
  go_wp2_with fail
  refine (HK.out w2).mono ?_
  rintro e w3 ⟨rfl, rfl⟩
  go_wp2_with fail
  refine (HG.out w2).mono ?_
  rintro e w4 ⟨rfl, hb4⟩
  go_wp2_with fail
  go_ret
  exact ⟨by rw [HT.out]; rfl, (hb1.trans (hb2.mono hb1.size)).trans (hb4.mono (hb1.trans (hb2.mono hb1.size)).size)⟩

end Go.Proofs.YtaebofpgdonnbaaDoor
