/- The walk of FnExactPlanFault. -/
import Derived.Test.YtpdmfnfmlcjobaaJobs9
import Derived.Test.YtpdmfnfmlcjobaaLawCalls
set_option linter.unusedVariables false
set_option linter.unusedSimpArgs false
namespace Go.Proofs.Ytpdmfnfmlcjobaa
open Go.RowKit

set_option maxHeartbeats 4000000 in
theorem fnExactPlanFault_walk (w : World) (A0 : Option Addr) (n0 c0 : Nat) (lc0 : List JobC) (hn0 : lc0.length = n0) (hx0 : n0 ≤ maxLen) (hc0 : Rd w w.heap.size 4 jcell A0 lc0) (ok0c : ∀ x ∈ lc0, okJ w w.heap.size x) (A1 : Option Addr) (n1 c1 : Nat) (l1 : List Int) (hn1 : l1.length = n1) (hx1 : n1 ≤ maxLen) (hr1 : Rd w w.heap.size 1 icell A1 l1) (ok1 : ∀ x ∈ l1, (Lit.int .i64 x).wf = true) (a2 : Int) (wf2 : (Lit.int .i64 a2).wf = true) :
    Calls Try.prog 9 #[.slice A0 n0 c0, .slice A1 n1 c1, .int .i64 a2] w fun e w' => e = .returned (.bool true) ∧ Below w.heap.size w w' := by
  obtain ⟨l0, hl0, hr0, ok0⟩ := jobs_of hc0 ok0c; rw [hn0] at hl0; clear hn0; have hn0 := hl0; clear hl0 hc0 ok0c
  have H0 := Lib.hid hn0; clear hn0
  have hx0' := hx0; unfold maxLen at hx0'
  have H1 := Lib.hid hn1; clear hn1
  have hx1' := hx1; unfold maxLen at hx1'
  by_cases hm1 : n1 ≤ 1048576
  rotate_left
  · have hp1 : (1048576 : Int) < ((n1 : Nat) : Int) := by omega
    go_enter Try.func9, Try.ntmps9
    go_wp2_with fail
    go_ret
    exact ⟨rfl, Below.refl _ _⟩
  have hp1 : ¬ (1048576 : Int) < ((n1 : Nat) : Int) := by omega
  go_enter Try.func9, Try.ntmps9
  have b0 : Below w.heap.size w w := Below.refl _ _
  have z0 : w.heap.size ≤ w.heap.size := Nat.le_refl _
  go_wp2_with fail
  refine (szJobS_c A0 n0 c0 l0 1048576 w H0.out hx0 (by omega) (by omega) ((hr0.below b0).mono b0.size) ok0).mono ?_
  rintro e w1 ⟨r0, rfl, rl0, ru0, rn0, hb1⟩
  have z1 := hb1.size
  have b1 : Below w.heap.size w w1 := b0.trans (hb1.mono b0.size)
  have y1 := b1.size
  replace rn0 := Lib.hid rn0
  by_cases rs0 : r0 < 0
  · go_wp2_with fail
    go_ret
    exact ⟨rfl, b1⟩
  have hm0 : n0 ≤ 1048576 := by have := (rn0.out (by omega)).1; omega
  have HK0 := Lib.hid (rn0.out (by omega)).2
  have hA0 : A0 = none → n0 = 0 := fun h => by rw [← H0.out]; exact hr0.none_len h
  have hA1 : A1 = none → n1 = 0 := fun h => by rw [← H1.out]; exact hr1.none_len h
  go_wp2_with fail
  refine (toJobS_c A0 n0 c0 l0 w1 H0.out hm0 ((hr0.below b1).mono b1.size) HK0.out).mono ?_
  rintro e w2 ⟨rfl, hq2, hb2⟩
  have z2 := hb2.size
  have b2 : Below w.heap.size w w2 := b1.trans (hb2.mono b1.size)
  have y2 := b2.size
  have lt_X0a : w1.heap.size < w2.heap.size := hq2.2.1
  have X0a := Lib.hid hq2; clear hq2
  go_wp2_with fail
  refine (toInt64S_c A1 n1 c1 l1 w2 H1.out hm1 ((hr1.below b2).mono b2.size)).mono ?_
  rintro e w3 ⟨rfl, hq3, hb3⟩
  have z3 := hb3.size
  have b3 : Below w.heap.size w w3 := b2.trans (hb3.mono b2.size)
  have y3 := b3.size
  have X0a_3 := Lib.hid (JOwn.call X0a.out hb3); clear X0a
  have X1a := Lib.hid hq3; clear hq3
  have lt_X1a : w2.heap.size < w3.heap.size := (X1a.out.lt w2.heap.size rfl).2
  go_wp2_with fail
  refine (PlanFaultS_c _ n0 n0 l0 _ n1 n1 l1 a2 w3 H0.out hm0 (JOwn.rd X0a_3.out) ok0 HK0.out H1.out hm1 (rd_own X1a.out) ).mono ?_
  rintro e w4 ⟨rfl, hb4⟩
  have z4 := hb4.size
  have b4 : Below w.heap.size w w4 := b3.trans (hb4.mono b3.size)
  have y4 := b4.size
  have X0a_4 := Lib.hid (JOwn.call X0a_3.out hb4); clear X0a_3
  have X1a_4 := Lib.hid (own_call X1a.out hb4); clear X1a
  go_wp2_with fail
  refine (toJobS_c A0 n0 c0 l0 w4 H0.out hm0 ((hr0.below b4).mono b4.size) HK0.out).mono ?_
  rintro e w5 ⟨rfl, hq5, hb5⟩
  have z5 := hb5.size
  have b5 : Below w.heap.size w w5 := b4.trans (hb5.mono b4.size)
  have y5 := b5.size
  have X0a_5 := Lib.hid (JOwn.call X0a_4.out hb5); clear X0a_4
  have X1a_5 := Lib.hid (own_call X1a_4.out hb5); clear X1a_4
  have lt_X0b : w4.heap.size < w5.heap.size := hq5.2.1
  have X0b := Lib.hid hq5; clear hq5
  go_wp2_with fail
  refine (toInt64S_c A1 n1 c1 l1 w5 H1.out hm1 ((hr1.below b5).mono b5.size)).mono ?_
  rintro e w6 ⟨rfl, hq6, hb6⟩
  have z6 := hb6.size
  have b6 : Below w.heap.size w w6 := b5.trans (hb6.mono b5.size)
  have y6 := b6.size
  have X0a_6 := Lib.hid (JOwn.call X0a_5.out hb6); clear X0a_5
  have X1a_6 := Lib.hid (own_call X1a_5.out hb6); clear X1a_5
  have X0b_6 := Lib.hid (JOwn.call X0b.out hb6); clear X0b
  have X1b := Lib.hid hq6; clear hq6
  have lt_X1b : w5.heap.size < w6.heap.size := (X1b.out.lt w5.heap.size rfl).2
  go_wp2_with fail
  refine (PlanFaultI_c _ n0 n0 l0 _ n1 n1 l1 a2 w6 H0.out hm0 (JOwn.rd X0b_6.out) ok0 HK0.out H1.out hm1 (rd_own X1b.out) ).mono ?_
  rintro e w7 ⟨rfl, hb7⟩
  have z7 := hb7.size
  have b7 : Below w.heap.size w w7 := b6.trans (hb7.mono b6.size)
  have y7 := b7.size
  have X0a_7 := Lib.hid (JOwn.call X0a_6.out hb7); clear X0a_6
  have X1a_7 := Lib.hid (own_call X1a_6.out hb7); clear X1a_6
  have X0b_7 := Lib.hid (JOwn.call X0b_6.out hb7); clear X0b_6
  have X1b_7 := Lib.hid (own_call X1b.out hb7); clear X1b
  go_wp2_with fail
  refine (toJobS_c A0 n0 c0 l0 w7 H0.out hm0 ((hr0.below b7).mono b7.size) HK0.out).mono ?_
  rintro e w8 ⟨rfl, hq8, hb8⟩
  have z8 := hb8.size
  have b8 : Below w.heap.size w w8 := b7.trans (hb8.mono b7.size)
  have y8 := b8.size
  have X0a_8 := Lib.hid (JOwn.call X0a_7.out hb8); clear X0a_7
  have X1a_8 := Lib.hid (own_call X1a_7.out hb8); clear X1a_7
  have X0b_8 := Lib.hid (JOwn.call X0b_7.out hb8); clear X0b_7
  have X1b_8 := Lib.hid (own_call X1b_7.out hb8); clear X1b_7
  have lt_X0c : w7.heap.size < w8.heap.size := hq8.2.1
  have X0c := Lib.hid hq8; clear hq8
  go_wp2_with fail
  refine (eqJobS_c _ _ n0 _ _ l0 w8 H0.out hx0 (JOwn.rd X0b_8.out) (JOwn.rd X0c.out) ok0).mono ?_
  rintro e w9 ⟨rfl, hb9⟩
  have z9 := hb9.size
  have b9 : Below w.heap.size w w9 := b8.trans (hb9.mono b8.size)
  have y9 := b9.size
  have X0a_9 := Lib.hid (JOwn.call X0a_8.out hb9); clear X0a_8
  have X1a_9 := Lib.hid (own_call X1a_8.out hb9); clear X1a_8
  have X0b_9 := Lib.hid (JOwn.call X0b_8.out hb9); clear X0b_8
  have X1b_9 := Lib.hid (own_call X1b_8.out hb9); clear X1b_8
  have X0c_9 := Lib.hid (JOwn.call X0c.out hb9); clear X0c
  go_wp2_with fail
  refine (toInt64S_c A1 n1 c1 l1 w9 H1.out hm1 ((hr1.below b9).mono b9.size)).mono ?_
  rintro e w10 ⟨rfl, hq10, hb10⟩
  have z10 := hb10.size
  have b10 : Below w.heap.size w w10 := b9.trans (hb10.mono b9.size)
  have y10 := b10.size
  have X0a_10 := Lib.hid (JOwn.call X0a_9.out hb10); clear X0a_9
  have X1a_10 := Lib.hid (own_call X1a_9.out hb10); clear X1a_9
  have X0b_10 := Lib.hid (JOwn.call X0b_9.out hb10); clear X0b_9
  have X1b_10 := Lib.hid (own_call X1b_9.out hb10); clear X1b_9
  have X0c_10 := Lib.hid (JOwn.call X0c_9.out hb10); clear X0c_9
  have X1c := Lib.hid hq10; clear hq10
  have lt_X1c : w9.heap.size < w10.heap.size := (X1c.out.lt w9.heap.size rfl).2
  go_wp2_with fail
  refine (to_below (eqInt64S_c _ _ n1 _ _ l1 w10.heap.size w10 H1.out hx1 (rd_own X1b_10.out) (rd_own X1c.out))).mono ?_
  rintro e w11 ⟨rfl, hb11⟩
  have z11 := hb11.size
  have b11 : Below w.heap.size w w11 := b10.trans (hb11.mono b10.size)
  have y11 := b11.size
  have X0a_11 := Lib.hid (JOwn.call X0a_10.out hb11); clear X0a_10
  have X1a_11 := Lib.hid (own_call X1a_10.out hb11); clear X1a_10
  have X0b_11 := Lib.hid (JOwn.call X0b_10.out hb11); clear X0b_10
  have X1b_11 := Lib.hid (own_call X1b_10.out hb11); clear X1b_10
  have X0c_11 := Lib.hid (JOwn.call X0c_10.out hb11); clear X0c_10
  have X1c_11 := Lib.hid (own_call X1c.out hb11); clear X1c
  go_wp2_with fail
  go_ret
  exact ⟨rfl, b11⟩

end Go.Proofs.Ytpdmfnfmlcjobaa
