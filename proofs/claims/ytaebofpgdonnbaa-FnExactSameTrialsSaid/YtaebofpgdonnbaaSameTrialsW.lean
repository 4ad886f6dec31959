/- The walk of FnExactSameTrials. -/
import Derived.Test.YtaebofpgdonnbaaTrials4
import Derived.Test.YtaebofpgdonnbaaLawCalls
set_option linter.unusedVariables false
set_option linter.unusedSimpArgs false
namespace Go.Proofs.Ytaebofpgdonnbaa
open Go.RowKit

theorem tcall {w w' : World} {A : Option Addr} {l : List TrD} {p : Prop} (h : p ∧ TRd w w.heap.size A l) (hb : Below w.heap.size w w') : p ∧ TRd w' w'.heap.size A l := ⟨h.1, (h.2.below hb).mono hb.size⟩

set_option maxHeartbeats 4000000 in
theorem fnExactSameTrials_walk (w : World) (A0 : Option Addr) (n0 c0 : Nat) (lc0 : List TrialC) (hn0 : lc0.length = n0) (hx0 : n0 ≤ maxLen) (hc0 : Rd w w.heap.size 7 tcell A0 lc0) (ok0c : ∀ x ∈ lc0, okT w w.heap.size x) (A1 : Option Addr) (n1 c1 : Nat) (lc1 : List TrialC) (hn1 : lc1.length = n1) (hx1 : n1 ≤ maxLen) (hc1 : Rd w w.heap.size 7 tcell A1 lc1) (ok1c : ∀ x ∈ lc1, okT w w.heap.size x) :
    Calls Try.prog 4 #[.slice A0 n0 c0, .slice A1 n1 c1] w fun e w' => e = .returned (.bool true) ∧ Below w.heap.size w w' := by
  obtain ⟨l0, hl0, hr0, ok0⟩ := trials_of hc0 ok0c; rw [hn0] at hl0; clear hn0; have hn0 := hl0; clear hl0 hc0 ok0c
  have H0 := Lib.hid hn0; clear hn0
  have hx0' := hx0; unfold maxLen at hx0'
  obtain ⟨l1, hl1, hr1, ok1⟩ := trials_of hc1 ok1c; rw [hn1] at hl1; clear hn1; have hn1 := hl1; clear hl1 hc1 ok1c
  have H1 := Lib.hid hn1; clear hn1
  have hx1' := hx1; unfold maxLen at hx1'
  go_enter Try.func4, Try.ntmps4
  have b0 : Below w.heap.size w w := Below.refl _ _
  have z0 : w.heap.size ≤ w.heap.size := Nat.le_refl _
  go_wp2_with fail
  refine (szTrialS_c A0 n0 c0 l0 1048576 w H0.out hx0 (by omega) (by omega) ((hr0.below b0).mono b0.size) ok0).mono ?_
  rintro e w1 ⟨r0, rfl, rl0, ru0, rn0, hb1⟩
  have z1 := hb1.size
  have b1 : Below w.heap.size w w1 := b0.trans (hb1.mono b0.size)
  have y1 := b1.size
  replace rn0 := Lib.hid rn0
  by_cases rs0 : r0 < 0
  · go_wp2_with fail
    go_ret
    exact ⟨rfl, b1⟩
  have hm0 : n0 ≤ 1048576 := by have := (rn0.out (by omega)).1; omega
  have HK0 := Lib.hid (rn0.out (by omega)).2
  go_wp2_with fail
  refine (szTrialS_c A1 n1 c1 l1 r0 w1 H1.out hx1 (by omega) (by omega) ((hr1.below b1).mono b1.size) ok1).mono ?_
  rintro e w2 ⟨r1, rfl, rl1, ru1, rn1, hb2⟩
  have z2 := hb2.size
  have b2 : Below w.heap.size w w2 := b1.trans (hb2.mono b1.size)
  have y2 := b2.size
  replace rn1 := Lib.hid rn1
  by_cases rs1 : r1 < 0
  · go_wp2_with fail
    go_ret
    exact ⟨rfl, b2⟩
  have hm1 : n1 ≤ 1048576 := by have := (rn1.out (by omega)).1; omega
  have HK1 := Lib.hid (rn1.out (by omega)).2
  have hA0 : A0 = none → n0 = 0 := fun h => by rw [← H0.out]; exact hr0.none_len h
  have hA1 : A1 = none → n1 = 0 := fun h => by rw [← H1.out]; exact hr1.none_len h
  go_wp2_with fail
  refine (toTrialS_c A0 n0 c0 l0 w2 H0.out hm0 ((hr0.below b2).mono b2.size) HK0.out).mono ?_
  rintro e w3 ⟨rfl, hq3, hb3⟩
  have z3 := hb3.size
  have b3 : Below w.heap.size w w3 := b2.trans (hb3.mono b2.size)
  have y3 := b3.size
  have lt_X0a : w2.heap.size < w3.heap.size := hq3.1
  have X0a := Lib.hid hq3; clear hq3
  go_wp2_with fail
  refine (toTrialS_c A1 n1 c1 l1 w3 H1.out hm1 ((hr1.below b3).mono b3.size) HK1.out).mono ?_
  rintro e w4 ⟨rfl, hq4, hb4⟩
  have z4 := hb4.size
  have b4 : Below w.heap.size w w4 := b3.trans (hb4.mono b3.size)
  have y4 := b4.size
  have X0a_4 := Lib.hid (tcall X0a.out hb4); clear X0a
  have lt_X1a : w3.heap.size < w4.heap.size := hq4.1
  have X1a := Lib.hid hq4; clear hq4
  go_wp2_with fail
  refine (SameTrialsS_c _ n0 n0 l0 _ n1 n1 l1 w4 H0.out hm0 (And.right X0a_4.out) ok0 H1.out hm1 (And.right X1a.out) ok1).mono ?_
  rintro e w5 ⟨rfl, hb5⟩
  have z5 := hb5.size
  have b5 : Below w.heap.size w w5 := b4.trans (hb5.mono b4.size)
  have y5 := b5.size
  have X0a_5 := Lib.hid (tcall X0a_4.out hb5); clear X0a_4
  have X1a_5 := Lib.hid (tcall X1a.out hb5); clear X1a
  go_wp2_with fail
  refine (toTrialS_c A0 n0 c0 l0 w5 H0.out hm0 ((hr0.below b5).mono b5.size) HK0.out).mono ?_
  rintro e w6 ⟨rfl, hq6, hb6⟩
  have z6 := hb6.size
  have b6 : Below w.heap.size w w6 := b5.trans (hb6.mono b5.size)
  have y6 := b6.size
  have X0a_6 := Lib.hid (tcall X0a_5.out hb6); clear X0a_5
  have X1a_6 := Lib.hid (tcall X1a_5.out hb6); clear X1a_5
  have lt_X0b : w5.heap.size < w6.heap.size := hq6.1
  have X0b := Lib.hid hq6; clear hq6
  go_wp2_with fail
  refine (toTrialS_c A1 n1 c1 l1 w6 H1.out hm1 ((hr1.below b6).mono b6.size) HK1.out).mono ?_
  rintro e w7 ⟨rfl, hq7, hb7⟩
  have z7 := hb7.size
  have b7 : Below w.heap.size w w7 := b6.trans (hb7.mono b6.size)
  have y7 := b7.size
  have X0a_7 := Lib.hid (tcall X0a_6.out hb7); clear X0a_6
  have X1a_7 := Lib.hid (tcall X1a_6.out hb7); clear X1a_6
  have X0b_7 := Lib.hid (tcall X0b.out hb7); clear X0b
  have lt_X1b : w6.heap.size < w7.heap.size := hq7.1
  have X1b := Lib.hid hq7; clear hq7
  go_wp2_with fail
  refine (SameTrialsI_c _ n0 n0 l0 _ n1 n1 l1 w7 H0.out hm0 (And.right X0b_7.out) ok0 H1.out hm1 (And.right X1b.out) ok1).mono ?_
  rintro e w8 ⟨rfl, hb8⟩
  have z8 := hb8.size
  have b8 : Below w.heap.size w w8 := b7.trans (hb8.mono b7.size)
  have y8 := b8.size
  have X0a_8 := Lib.hid (tcall X0a_7.out hb8); clear X0a_7
  have X1a_8 := Lib.hid (tcall X1a_7.out hb8); clear X1a_7
  have X0b_8 := Lib.hid (tcall X0b_7.out hb8); clear X0b_7
  have X1b_8 := Lib.hid (tcall X1b.out hb8); clear X1b
  go_wp2_with fail
  refine (toTrialS_c A0 n0 c0 l0 w8 H0.out hm0 ((hr0.below b8).mono b8.size) HK0.out).mono ?_
  rintro e w9 ⟨rfl, hq9, hb9⟩
  have z9 := hb9.size
  have b9 : Below w.heap.size w w9 := b8.trans (hb9.mono b8.size)
  have y9 := b9.size
  have X0a_9 := Lib.hid (tcall X0a_8.out hb9); clear X0a_8
  have X1a_9 := Lib.hid (tcall X1a_8.out hb9); clear X1a_8
  have X0b_9 := Lib.hid (tcall X0b_8.out hb9); clear X0b_8
  have X1b_9 := Lib.hid (tcall X1b_8.out hb9); clear X1b_8
  have lt_X0c : w8.heap.size < w9.heap.size := hq9.1
  have X0c := Lib.hid hq9; clear hq9
  go_wp2_with fail
  refine (eqTrialS_c _ _ n0 _ _ l0 w9 H0.out hx0 (And.right X0b_9.out) (And.right X0c.out) ok0).mono ?_
  rintro e w10 ⟨rfl, hb10⟩
  have z10 := hb10.size
  have b10 : Below w.heap.size w w10 := b9.trans (hb10.mono b9.size)
  have y10 := b10.size
  have X0a_10 := Lib.hid (tcall X0a_9.out hb10); clear X0a_9
  have X1a_10 := Lib.hid (tcall X1a_9.out hb10); clear X1a_9
  have X0b_10 := Lib.hid (tcall X0b_9.out hb10); clear X0b_9
  have X1b_10 := Lib.hid (tcall X1b_9.out hb10); clear X1b_9
  have X0c_10 := Lib.hid (tcall X0c.out hb10); clear X0c
  go_wp2_with fail
  refine (toTrialS_c A1 n1 c1 l1 w10 H1.out hm1 ((hr1.below b10).mono b10.size) HK1.out).mono ?_
  rintro e w11 ⟨rfl, hq11, hb11⟩
  have z11 := hb11.size
  have b11 : Below w.heap.size w w11 := b10.trans (hb11.mono b10.size)
  have y11 := b11.size
  have X0a_11 := Lib.hid (tcall X0a_10.out hb11); clear X0a_10
  have X1a_11 := Lib.hid (tcall X1a_10.out hb11); clear X1a_10
  have X0b_11 := Lib.hid (tcall X0b_10.out hb11); clear X0b_10
  have X1b_11 := Lib.hid (tcall X1b_10.out hb11); clear X1b_10
  have X0c_11 := Lib.hid (tcall X0c_10.out hb11); clear X0c_10
  have lt_X1c : w10.heap.size < w11.heap.size := hq11.1
  have X1c := Lib.hid hq11; clear hq11
  go_wp2_with fail
  refine (eqTrialS_c _ _ n1 _ _ l1 w11 H1.out hx1 (And.right X1b_11.out) (And.right X1c.out) ok1).mono ?_
  rintro e w12 ⟨rfl, hb12⟩
  have z12 := hb12.size
  have b12 : Below w.heap.size w w12 := b11.trans (hb12.mono b11.size)
  have y12 := b12.size
  have X0a_12 := Lib.hid (tcall X0a_11.out hb12); clear X0a_11
  have X1a_12 := Lib.hid (tcall X1a_11.out hb12); clear X1a_11
  have X0b_12 := Lib.hid (tcall X0b_11.out hb12); clear X0b_11
  have X1b_12 := Lib.hid (tcall X1b_11.out hb12); clear X1b_11
  have X0c_12 := Lib.hid (tcall X0c_11.out hb12); clear X0c_11
  have X1c_12 := Lib.hid (tcall X1c.out hb12); clear X1c
  go_wp2_with fail
  go_ret
  exact ⟨rfl, b12⟩

end Go.Proofs.Ytaebofpgdonnbaa
