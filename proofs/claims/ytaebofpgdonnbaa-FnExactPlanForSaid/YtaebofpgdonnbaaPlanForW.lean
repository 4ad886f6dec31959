/- The walk of FnExactPlanFor. -/
import Derived.Test.YtaebofpgdonnbaaJobs16
import Derived.Test.YtaebofpgdonnbaaMarkJob
import Derived.Test.YtaebofpgdonnbaaLawCalls
set_option linter.unusedVariables false
set_option linter.unusedSimpArgs false
namespace Go.Proofs.Ytaebofpgdonnbaa
open Go.RowKit

set_option maxHeartbeats 4000000 in
theorem fnExactPlanFor_walk (w : World) (A0 : Option Addr) (n0 c0 : Nat) (lc0 : List JobC) (hn0 : lc0.length = n0) (hx0 : n0 ≤ maxLen) (hc0 : Rd w w.heap.size 4 jcell A0 lc0) (ok0c : ∀ x ∈ lc0, okJ w w.heap.size x) (a1 : Int) (wf1 : (Lit.int .i64 a1).wf = true) :
    Calls Try.prog 3 #[.slice A0 n0 c0, .int .i64 a1] w fun e w' => e = .returned (.bool true) ∧ Below w.heap.size w w' := by
  obtain ⟨l0, hl0, hr0, ok0⟩ := jobs_of hc0 ok0c; rw [hn0] at hl0; clear hn0; have hn0 := hl0; clear hl0 hc0 ok0c
  have H0 := Lib.hid hn0; clear hn0
  have hx0' := hx0; unfold maxLen at hx0'
  go_enter Try.func3, Try.ntmps3
  have b0 : Below w.heap.size w w := Below.refl _ _
  have z0 : w.heap.size ≤ w.heap.size := Nat.le_refl _
  go_wp2_with fail
  refine (szJobS_c A0 n0 c0 l0 1048576 w H0.out hx0 (by omega) (by omega) ((hr0.below b0).mono b0.size) ok0).mono ?_
  rintro e w1 ⟨r0, rfl, rl0, ru0, rn0, hb1⟩
  have z1 := hb1.size
  have b1 : Below w.heap.size w w1 := b0.trans (hb1.mono b0.size)
  have y1 := b1.size
  replace rn0 := Lib.hid rn0
  by_cases rs0 : r0 < 0
  · go_wp2_with fail
    go_ret
    exact ⟨rfl, b1⟩
  have hm0 : n0 ≤ 1048576 := by have := (rn0.out (by omega)).1; omega
  have HK0 := Lib.hid (rn0.out (by omega)).2
  have hA0 : A0 = none → n0 = 0 := fun h => by rw [← H0.out]; exact hr0.none_len h
  go_wp2_with fail
  refine (toJobS_c A0 n0 c0 l0 w1 H0.out hm0 ((hr0.below b1).mono b1.size) HK0.out).mono ?_
  rintro e w2 ⟨rfl, hq2, hb2⟩
  have z2 := hb2.size
  have b2 : Below w.heap.size w w2 := b1.trans (hb2.mono b1.size)
  have y2 := b2.size
  have lt_X0a : w1.heap.size < w2.heap.size := hq2.2.1
  have X0a := Lib.hid hq2; clear hq2
  have hRl : (pforR l0 a1).1.length ≤ 1048576 := pforR_len l0 a1
  go_wp2_with fail
  refine (PlanForS_c _ n0 n0 l0 a1 w2 H0.out hm0 (JOwn.rd X0a.out) ok0 HK0.out ).mono ?_
  rintro e w3 ⟨RSv, rfl, hq3, hb3⟩
  have RSk := hq3.lt
  obtain ⟨RSA, RSc, rfl, _⟩ := own_form hq3
  replace RSk := Lib.hid RSk
  have z3 := hb3.size
  have b3 : Below w.heap.size w w3 := b2.trans (hb3.mono b2.size)
  have y3 := b3.size
  have X0a_3 := Lib.hid (JOwn.call X0a.out hb3); clear X0a
  have RS := Lib.hid hq3; clear hq3
  clear X0a_3
  go_wp2_with fail
  refine (toJobS_c A0 n0 c0 l0 w3 H0.out hm0 ((hr0.below b3).mono b3.size) HK0.out).mono ?_
  rintro e w4 ⟨rfl, hq4, hb4⟩
  have z4 := hb4.size
  have b4 : Below w.heap.size w w4 := b3.trans (hb4.mono b3.size)
  have y4 := b4.size
  have RS_4 := Lib.hid (own_call RS.out hb4); clear RS
  have lt_X0b : w3.heap.size < w4.heap.size := hq4.2.1
  have X0b := Lib.hid hq4; clear hq4
  go_wp2_with fail
  refine (PlanForI_c _ n0 n0 l0 a1 w4 H0.out hm0 (JOwn.rd X0b.out) ok0 HK0.out ).mono ?_
  rintro e w5 ⟨RIv, rfl, hq5, hb5⟩
  have RIk := hq5.lt
  obtain ⟨RIA, RIc, rfl, _⟩ := own_form hq5
  replace RIk := Lib.hid RIk
  have z5 := hb5.size
  have b5 : Below w.heap.size w w5 := b4.trans (hb5.mono b4.size)
  have y5 := b5.size
  have RS_5 := Lib.hid (own_call RS_4.out hb5); clear RS_4
  have X0b_5 := Lib.hid (JOwn.call X0b.out hb5); clear X0b
  have RI := Lib.hid hq5; clear hq5
  generalize hR : pforR l0 a1 = R at *
  have HR := Lib.hid hR; clear hR
  go_wp2_with fail
  refine (to_below (eqInt64S_c _ _ R.1.length _ _ R.1 w5.heap.size w5 rfl (by unfold maxLen; omega) (rd_own RI.out) (rd_own RS_5.out))).mono ?_
  rintro e w6 ⟨rfl, hb6⟩
  have z6 := hb6.size
  have b6 : Below w.heap.size w w6 := b5.trans (hb6.mono b5.size)
  have y6 := b6.size
  have RS_6 := Lib.hid (own_call RS_5.out hb6); clear RS_5
  have X0b_6 := Lib.hid (JOwn.call X0b_5.out hb6); clear X0b_5
  have RI_6 := Lib.hid (own_call RI.out hb6); clear RI
  go_wp2_with fail
  refine (toJobS_c A0 n0 c0 l0 w6 H0.out hm0 ((hr0.below b6).mono b6.size) HK0.out).mono ?_
  rintro e w7 ⟨rfl, hq7, hb7⟩
  have z7 := hb7.size
  have b7 : Below w.heap.size w w7 := b6.trans (hb7.mono b6.size)
  have y7 := b7.size
  have RS_7 := Lib.hid (own_call RS_6.out hb7); clear RS_6
  have X0b_7 := Lib.hid (JOwn.call X0b_6.out hb7); clear X0b_6
  have RI_7 := Lib.hid (own_call RI_6.out hb7); clear RI_6
  have lt_X0c : w6.heap.size < w7.heap.size := hq7.2.1
  have X0c := Lib.hid hq7; clear hq7
  go_wp2_with fail
  refine (eqJobS_c _ _ n0 _ _ l0 w7 H0.out hx0 (JOwn.rd X0b_7.out) (JOwn.rd X0c.out) ok0).mono ?_
  rintro e w8 ⟨rfl, hb8⟩
  have z8 := hb8.size
  have b8 : Below w.heap.size w w8 := b7.trans (hb8.mono b7.size)
  have y8 := b8.size
  have RS_8 := Lib.hid (own_call RS_7.out hb8); clear RS_7
  have X0b_8 := Lib.hid (JOwn.call X0b_7.out hb8); clear X0b_7
  have RI_8 := Lib.hid (own_call RI_7.out hb8); clear RI_7
  have X0c_8 := Lib.hid (JOwn.call X0c.out hb8); clear X0c
  clear X0c_8
  go_wp2_with fail
  refine (markJobS_c w3.heap.size w4.heap.size _ n0 l0 (1) w8 hm0 (by omega) HK0.out X0b_8.out).mono ?_
  rintro e w9 ⟨mk9, rfl, ml9, mu9, ho9⟩
  have z9 := ho9.size
  have b9 : Below w.heap.size w w9 := Outer.below b8 ho9 (by omega) b8.size
  have y9 := b9.size
  clear X0b_8
  have RS_9 := Lib.hid (Outer.own RS_8.out ho9 (fun q hq => by have h1 := RSk.out q hq; omega)); clear RS_8
  have RI_9 := Lib.hid (Outer.own RI_8.out ho9 (fun q hq => by have h1 := RIk.out q hq; omega)); clear RI_8
  go_wp2_with fail
  refine (to_below (eqInt64S_c _ _ R.1.length _ _ R.1 w9.heap.size w9 rfl (by unfold maxLen; omega) (rd_own RI_9.out) (rd_own RS_9.out))).mono ?_
  rintro e w10 ⟨rfl, hb10⟩
  have z10 := hb10.size
  have b10 : Below w.heap.size w w10 := b9.trans (hb10.mono b9.size)
  have y10 := b10.size
  have RS_10 := Lib.hid (own_call RS_9.out hb10); clear RS_9
  have RI_10 := Lib.hid (own_call RI_9.out hb10); clear RI_9
  go_wp2_with fail
  refine (markInt64S_c _ R.1.length _ 1 _ _ w10 hRl (by omega) RI_10.out).mono ?_
  rintro e w11 ⟨rfl, hm11, hg11⟩
  have z11 := hg11.size
  have b11 : Below w.heap.size w w11 := below_of_grown b10 hg11 b10.size (fun q hq => by have h1 := RIk.out q hq; omega)
  have y11 := b11.size
  have RS_11 := Lib.hid (own_ne RS_10.out hg11 (fun q hq hc => by have h1 := RSk.out q hq; have h2 := RIk.out q hc.symm; omega)); clear RS_10
  clear RI_10
  have RM := Lib.hid hm11; clear hm11
  go_wp2_with fail
  refine (heldInt64S_c _ R.1.length _ 1 w11.heap.size w11 hRl (by omega) (rd_own RM.out)).mono ?_
  rintro e w' ⟨rfl, rfl⟩
  go_wp2_with fail
  refine (toJobS_c A0 n0 c0 l0 w11 H0.out hm0 ((hr0.below b11).mono b11.size) HK0.out).mono ?_
  rintro e w12 ⟨rfl, hq12, hb12⟩
  have z12 := hb12.size
  have b12 : Below w.heap.size w w12 := b11.trans (hb12.mono b11.size)
  have y12 := b12.size
  have RS_12 := Lib.hid (own_call RS_11.out hb12); clear RS_11
  have RM_12 := Lib.hid (own_call RM.out hb12); clear RM
  have lt_X0d : w11.heap.size < w12.heap.size := hq12.2.1
  have X0d := Lib.hid hq12; clear hq12
  go_wp2_with fail
  refine (PlanForI_c _ n0 n0 l0 a1 w12 H0.out hm0 (JOwn.rd X0d.out) ok0 HK0.out ).mono ?_
  rw [HR.out]
  rintro e w13 ⟨RJv, rfl, hq13, hb13⟩
  have RJk := hq13.lt
  obtain ⟨RJA, RJc, rfl, _⟩ := own_form hq13
  replace RJk := Lib.hid RJk
  have z13 := hb13.size
  have b13 : Below w.heap.size w w13 := b12.trans (hb13.mono b12.size)
  have y13 := b13.size
  have RS_13 := Lib.hid (own_call RS_12.out hb13); clear RS_12
  have RM_13 := Lib.hid (own_call RM_12.out hb13); clear RM_12
  have X0d_13 := Lib.hid (JOwn.call X0d.out hb13); clear X0d
  have RJ := Lib.hid hq13; clear hq13
  clear X0d_13
  go_wp2_with fail
  refine (to_below (eqInt64S_c _ _ R.1.length _ _ R.1 w13.heap.size w13 rfl (by unfold maxLen; omega) (rd_own RJ.out) (rd_own RS_13.out))).mono ?_
  rintro e w14 ⟨rfl, hb14⟩
  have z14 := hb14.size
  have b14 : Below w.heap.size w w14 := b13.trans (hb14.mono b13.size)
  have y14 := b14.size
  have RS_14 := Lib.hid (own_call RS_13.out hb14); clear RS_13
  have RM_14 := Lib.hid (own_call RM_13.out hb14); clear RM_13
  have RJ_14 := Lib.hid (own_call RJ.out hb14); clear RJ
  go_wp2_with fail
  refine (heldInt64S_c _ R.1.length _ 1 w14.heap.size w14 hRl (by omega) (rd_own RM_14.out)).mono ?_
  rintro e w' ⟨rfl, rfl⟩
  go_wp2_with fail
  go_ret
  exact ⟨rfl, b14⟩

end Go.Proofs.Ytaebofpgdonnbaa
