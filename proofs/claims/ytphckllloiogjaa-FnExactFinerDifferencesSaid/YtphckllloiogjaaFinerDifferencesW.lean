/- The walk of FnExactFinerDifferences. -/
import Derived.Test.YtphckllloiogjaaFin6
import Derived.Test.YtphckllloiogjaaMarkFrac
import Derived.Test.YtphckllloiogjaaLawCalls
set_option linter.unusedVariables false
set_option linter.unusedSimpArgs false
namespace Go.Proofs.Ytphckllloiogjaa
open Go.RowKit

set_option maxHeartbeats 4000000 in
theorem fnExactFinerDifferences_walk (w : World) (A0 : Option Addr) (n0 c0 : Nat) (l0 : List Int) (hn0 : l0.length = n0) (hx0 : n0 ≤ maxLen) (hr0 : Rd w w.heap.size 1 icell A0 l0) (ok0 : ∀ x ∈ l0, (Lit.int .i64 x).wf = true) (a1 : Int) (wf1 : (Lit.int .i64 a1).wf = true) :
    Calls Try.prog 12 #[.slice A0 n0 c0, .int .i64 a1] w fun e w' => e = .returned (.bool true) ∧ Below w.heap.size w w' := by
  have H0 := Lib.hid hn0; clear hn0
  have hx0' := hx0; unfold maxLen at hx0'
  by_cases hm0 : n0 ≤ 1048576
  rotate_left
  · have hp0 : (1048576 : Int) < ((n0 : Nat) : Int) := by omega
    go_enter Try.func12, Try.ntmps12
    go_wp2_with fail
    go_ret
    exact ⟨rfl, Below.refl _ _⟩
  have hp0 : ¬ (1048576 : Int) < ((n0 : Nat) : Int) := by omega
  go_enter Try.func12, Try.ntmps12
  have b0 : Below w.heap.size w w := Below.refl _ _
  have z0 : w.heap.size ≤ w.heap.size := Nat.le_refl _
  have hA0 : A0 = none → n0 = 0 := fun h => by rw [← H0.out]; exact hr0.none_len h
  go_wp2_with fail
  refine (toInt64S_c A0 n0 c0 l0 w H0.out hm0 ((hr0.below b0).mono b0.size)).mono ?_
  rintro e w1 ⟨rfl, hq1, hb1⟩
  have z1 := hb1.size
  have b1 : Below w.heap.size w w1 := b0.trans (hb1.mono b0.size)
  have y1 := b1.size
  have X0a := Lib.hid hq1; clear hq1
  have lt_X0a : w.heap.size < w1.heap.size := (X0a.out.lt w.heap.size rfl).2
  have hRl : (finD l0 a1).1.length ≤ 1048576 := Nat.le_trans (finD_len l0 a1) (by omega)
  go_wp2_with fail
  refine (FinerDifferencesS_c _ n0 n0 l0 a1 w1 H0.out hm0 (fun h => by cases h) (rd_own X0a.out) ).mono ?_
  rintro e w2 ⟨RSv, rfl, hq2, hb2⟩
  have RSk := hq2.lt
  obtain ⟨RSA, RSc, rfl, _⟩ := own_form hq2
  replace RSk := Lib.hid RSk
  have z2 := hb2.size
  have b2 : Below w.heap.size w w2 := b1.trans (hb2.mono b1.size)
  have y2 := b2.size
  have X0a_2 := Lib.hid (own_call X0a.out hb2); clear X0a
  have RS := Lib.hid hq2; clear hq2
  clear X0a_2
  go_wp2_with fail
  refine (toInt64S_c A0 n0 c0 l0 w2 H0.out hm0 ((hr0.below b2).mono b2.size)).mono ?_
  rintro e w3 ⟨rfl, hq3, hb3⟩
  have z3 := hb3.size
  have b3 : Below w.heap.size w w3 := b2.trans (hb3.mono b2.size)
  have y3 := b3.size
  have RS_3 := Lib.hid (own_call RS.out hb3); clear RS
  have X0b := Lib.hid hq3; clear hq3
  have lt_X0b : w2.heap.size < w3.heap.size := (X0b.out.lt w2.heap.size rfl).2
  go_wp2_with fail
  refine (FinerDifferencesI_c _ n0 n0 l0 a1 w3 H0.out hm0 (fun h => by cases h) (rd_own X0b.out) ).mono ?_
  rintro e w4 ⟨RIv, rfl, hq4, hb4⟩
  have RIk := hq4.lt
  obtain ⟨RIA, RIc, rfl, _⟩ := own_form hq4
  replace RIk := Lib.hid RIk
  have z4 := hb4.size
  have b4 : Below w.heap.size w w4 := b3.trans (hb4.mono b3.size)
  have y4 := b4.size
  have RS_4 := Lib.hid (own_call RS_3.out hb4); clear RS_3
  have X0b_4 := Lib.hid (own_call X0b.out hb4); clear X0b
  have RI := Lib.hid hq4; clear hq4
  generalize hR : finD l0 a1 = R at *
  have HR := Lib.hid hR; clear hR
  go_wp2_with fail
  refine (eqFractionS_c _ _ R.1.length _ _ R.1 w4.heap.size w4 rfl (by unfold maxLen; omega) (Nat.le_refl _) (Rd.of_own fcell_len (by decide) (n := R.1.length) RI.out) (Rd.of_own fcell_len (by decide) (n := R.1.length) RS_4.out)).mono ?_
  rintro e w5 ⟨rfl, hb5⟩
  have z5 := hb5.size
  have b5 : Below w.heap.size w w5 := b4.trans (hb5.mono b4.size)
  have y5 := b5.size
  have RS_5 := Lib.hid (own_call RS_4.out hb5); clear RS_4
  have X0b_5 := Lib.hid (own_call X0b_4.out hb5); clear X0b_4
  have RI_5 := Lib.hid (own_call RI.out hb5); clear RI
  go_wp2_with fail
  refine (toInt64S_c A0 n0 c0 l0 w5 H0.out hm0 ((hr0.below b5).mono b5.size)).mono ?_
  rintro e w6 ⟨rfl, hq6, hb6⟩
  have z6 := hb6.size
  have b6 : Below w.heap.size w w6 := b5.trans (hb6.mono b5.size)
  have y6 := b6.size
  have RS_6 := Lib.hid (own_call RS_5.out hb6); clear RS_5
  have X0b_6 := Lib.hid (own_call X0b_5.out hb6); clear X0b_5
  have RI_6 := Lib.hid (own_call RI_5.out hb6); clear RI_5
  have X0c := Lib.hid hq6; clear hq6
  have lt_X0c : w5.heap.size < w6.heap.size := (X0c.out.lt w5.heap.size rfl).2
  go_wp2_with fail
  refine (to_below (eqInt64S_c _ _ n0 _ _ l0 w6.heap.size w6 H0.out hx0 (rd_own X0b_6.out) (rd_own X0c.out))).mono ?_
  rintro e w7 ⟨rfl, hb7⟩
  have z7 := hb7.size
  have b7 : Below w.heap.size w w7 := b6.trans (hb7.mono b6.size)
  have y7 := b7.size
  have RS_7 := Lib.hid (own_call RS_6.out hb7); clear RS_6
  have X0b_7 := Lib.hid (own_call X0b_6.out hb7); clear X0b_6
  have RI_7 := Lib.hid (own_call RI_6.out hb7); clear RI_6
  have X0c_7 := Lib.hid (own_call X0c.out hb7); clear X0c
  clear X0c_7
  go_wp2_with fail
  refine (markInt64S_c _ n0 n0 (1) _ _ w7 (by omega) (by omega) X0b_7.out).mono ?_
  rintro e w8 ⟨rfl, _, hg8⟩
  have z8 := hg8.size
  have b8 : Below w.heap.size w w8 := below_of_grown b7 hg8 b7.size (fun q hq => by simp only [Value.ownBlock, Option.some.injEq] at hq; omega)
  have y8 := b8.size
  have RS_8 := Lib.hid (own_ne RS_7.out hg8 (fun q hq hc => by have h1 := RSk.out q hq; simp only [Value.ownBlock, Option.some.injEq] at hc; omega)); clear RS_7
  have RI_8 := Lib.hid (own_ne RI_7.out hg8 (fun q hq hc => by have h1 := RIk.out q hq; simp only [Value.ownBlock, Option.some.injEq] at hc; omega)); clear RI_7
  clear X0b_7
  go_wp2_with fail
  refine (eqFractionS_c _ _ R.1.length _ _ R.1 w8.heap.size w8 rfl (by unfold maxLen; omega) (Nat.le_refl _) (Rd.of_own fcell_len (by decide) (n := R.1.length) RI_8.out) (Rd.of_own fcell_len (by decide) (n := R.1.length) RS_8.out)).mono ?_
  rintro e w9 ⟨rfl, hb9⟩
  have z9 := hb9.size
  have b9 : Below w.heap.size w w9 := b8.trans (hb9.mono b8.size)
  have y9 := b9.size
  have RS_9 := Lib.hid (own_call RS_8.out hb9); clear RS_8
  have RI_9 := Lib.hid (own_call RI_8.out hb9); clear RI_8
  go_wp2_with fail
  refine (markFractionS_c _ R.1.length _ 1 _ _ w9 (by omega) (by omega) RI_9.out).mono ?_
  rintro e w10 ⟨rfl, hm10, hg10⟩
  have z10 := hg10.size
  have b10 : Below w.heap.size w w10 := below_of_grown b9 hg10 b9.size (fun q hq => by have h1 := RIk.out q hq; omega)
  have y10 := b10.size
  have RS_10 := Lib.hid (own_ne RS_9.out hg10 (fun q hq hc => by have h1 := RSk.out q hq; have h2 := RIk.out q hc.symm; omega)); clear RS_9
  clear RI_9
  have RM := Lib.hid hm10; clear hm10
  go_wp2_with fail
  refine (heldFractionS_c _ R.1.length _ 1 w10 (by omega) (by omega) (Rd.of_own fcell_len (by decide) (n := R.1.length) RM.out)).mono ?_
  rintro e w11 ⟨rfl, hb11⟩
  have z11 := hb11.size
  have b11 : Below w.heap.size w w11 := b10.trans (hb11.mono b10.size)
  have y11 := b11.size
  have RS_11 := Lib.hid (own_call RS_10.out hb11); clear RS_10
  have RM_11 := Lib.hid (own_call RM.out hb11); clear RM
  go_wp2_with fail
  refine (toInt64S_c A0 n0 c0 l0 w11 H0.out hm0 ((hr0.below b11).mono b11.size)).mono ?_
  rintro e w12 ⟨rfl, hq12, hb12⟩
  have z12 := hb12.size
  have b12 : Below w.heap.size w w12 := b11.trans (hb12.mono b11.size)
  have y12 := b12.size
  have RS_12 := Lib.hid (own_call RS_11.out hb12); clear RS_11
  have RM_12 := Lib.hid (own_call RM_11.out hb12); clear RM_11
  have X0d := Lib.hid hq12; clear hq12
  have lt_X0d : w11.heap.size < w12.heap.size := (X0d.out.lt w11.heap.size rfl).2
  go_wp2_with fail
  refine (FinerDifferencesI_c _ n0 n0 l0 a1 w12 H0.out hm0 (fun h => by cases h) (rd_own X0d.out) ).mono ?_
  rw [HR.out]
  rintro e w13 ⟨RJv, rfl, hq13, hb13⟩
  have RJk := hq13.lt
  obtain ⟨RJA, RJc, rfl, _⟩ := own_form hq13
  replace RJk := Lib.hid RJk
  have z13 := hb13.size
  have b13 : Below w.heap.size w w13 := b12.trans (hb13.mono b12.size)
  have y13 := b13.size
  have RS_13 := Lib.hid (own_call RS_12.out hb13); clear RS_12
  have RM_13 := Lib.hid (own_call RM_12.out hb13); clear RM_12
  have X0d_13 := Lib.hid (own_call X0d.out hb13); clear X0d
  have RJ := Lib.hid hq13; clear hq13
  clear X0d_13
  go_wp2_with fail
  refine (eqFractionS_c _ _ R.1.length _ _ R.1 w13.heap.size w13 rfl (by unfold maxLen; omega) (Nat.le_refl _) (Rd.of_own fcell_len (by decide) (n := R.1.length) RJ.out) (Rd.of_own fcell_len (by decide) (n := R.1.length) RS_13.out)).mono ?_
  rintro e w14 ⟨rfl, hb14⟩
  have z14 := hb14.size
  have b14 : Below w.heap.size w w14 := b13.trans (hb14.mono b13.size)
  have y14 := b14.size
  have RS_14 := Lib.hid (own_call RS_13.out hb14); clear RS_13
  have RM_14 := Lib.hid (own_call RM_13.out hb14); clear RM_13
  have RJ_14 := Lib.hid (own_call RJ.out hb14); clear RJ
  go_wp2_with fail
  refine (heldFractionS_c _ R.1.length _ 1 w14 (by omega) (by omega) (Rd.of_own fcell_len (by decide) (n := R.1.length) RM_14.out)).mono ?_
  rintro e w15 ⟨rfl, hb15⟩
  have z15 := hb15.size
  have b15 : Below w.heap.size w w15 := b14.trans (hb15.mono b14.size)
  have y15 := b15.size
  have RS_15 := Lib.hid (own_call RS_14.out hb15); clear RS_14
  have RM_15 := Lib.hid (own_call RM_14.out hb15); clear RM_14
  have RJ_15 := Lib.hid (own_call RJ_14.out hb15); clear RJ_14
  go_wp2_with fail
  go_ret
  exact ⟨rfl, b15⟩

end Go.Proofs.Ytphckllloiogjaa
