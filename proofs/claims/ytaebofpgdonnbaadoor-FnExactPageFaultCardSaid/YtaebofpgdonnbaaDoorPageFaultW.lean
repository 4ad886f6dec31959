/- The walk of FnExactPageFault. -/
import Derived.Test.YtaebofpgdonnbaaDoorPageRead5
import Derived.Test.YtaebofpgdonnbaaDoorLawCalls
set_option linter.unusedVariables false
set_option linter.unusedSimpArgs false
namespace Go.Proofs.YtaebofpgdonnbaaDoor
open Go.RowKit

set_option maxHeartbeats 4000000 in
theorem fnExactPageFault_walk (w : World) (ht : Tab w) (A0 : Option Addr) (n0 c0 : Nat) (l0 : List ByteArray) (hn0 : l0.length = n0) (hx0 : n0 ≤ maxLen) (hr0 : Rd w w.heap.size 1 scell A0 l0) (ok0 : ∀ x ∈ l0, x.size ≤ maxLen) :
    Calls Tryd.prog 3 #[.slice A0 n0 c0] w fun e w' => e = .returned (.bool true) ∧ Below w.heap.size w w' := by
  have HT := Lib.hid ht; clear ht
  have H0 := Lib.hid hn0; clear hn0
  have hx0' := hx0; unfold maxLen at hx0'
  go_enter Tryd.func3, Tryd.ntmps3
  have b0 : Below w.heap.size w w := Below.refl _ _
  have z0 : w.heap.size ≤ w.heap.size := Nat.le_refl _
  go_wp2_with fail
  refine (szStringS_c A0 n0 c0 l0 1048576 w H0.out hx0 (by omega) (by omega) ((hr0.below b0).mono b0.size) ok0).mono ?_
  rintro e w1 ⟨r0, rfl, rl0, ru0, rn0, hb1⟩
  have z1 := hb1.size
  have b1 : Below w.heap.size w w1 := b0.trans (hb1.mono b0.size)
  have y1 := b1.size
  by_cases rs0 : r0 < 0
  · go_wp2_with fail
    go_ret
    exact ⟨rfl, b1⟩
  have hm0 : n0 ≤ 1048576 := by have := (rn0 (by omega)).1; rw [H0.out] at this; omega
  have HSZ0 := Lib.hid (show ∀ x ∈ l0, x.size ≤ 1048576 from fun x hx => by have := (rn0 (by omega)).2 x hx; omega)
  clear rn0
  have hA0 : A0 = none → n0 = 0 := fun h => by rw [← H0.out]; exact hr0.none_len h
  go_wp2_with fail
  refine (toStringS_c A0 n0 c0 l0 w1 H0.out hm0 ((hr0.below b1).mono b1.size)).mono ?_
  rintro e w2 ⟨rfl, hq2, hb2⟩
  have z2 := hb2.size
  have b2 : Below w.heap.size w w2 := b1.trans (hb2.mono b1.size)
  have y2 := b2.size
  have X0a := Lib.hid hq2; clear hq2
  have lt_X0a : w1.heap.size < w2.heap.size := (X0a.out.lt w1.heap.size rfl).2
  go_wp2_with fail
  refine (PageFaultS_c _ n0 n0 l0 w2 H0.out hm0 (rd_ownS X0a.out) HSZ0.out).mono ?_
  rintro e w3 ⟨rfl, hb3⟩
  have z3 := hb3.size
  have b3 : Below w.heap.size w w3 := b2.trans (hb3.mono b2.size)
  have y3 := b3.size
  have X0a_3 := Lib.hid (own_call X0a.out hb3); clear X0a
  go_wp2_with fail
  refine (toStringS_c A0 n0 c0 l0 w3 H0.out hm0 ((hr0.below b3).mono b3.size)).mono ?_
  rintro e w4 ⟨rfl, hq4, hb4⟩
  have z4 := hb4.size
  have b4 : Below w.heap.size w w4 := b3.trans (hb4.mono b3.size)
  have y4 := b4.size
  have X0a_4 := Lib.hid (own_call X0a_3.out hb4); clear X0a_3
  have X0b := Lib.hid hq4; clear hq4
  have lt_X0b : w3.heap.size < w4.heap.size := (X0b.out.lt w3.heap.size rfl).2
  go_wp2_with fail
  refine (PageFaultI_c _ n0 n0 l0 w4 H0.out hm0 (rd_ownS X0b.out) HSZ0.out (HT.out.below b4)).mono ?_
  rintro e w5 ⟨rfl, hb5⟩
  have z5 := hb5.size
  have b5 : Below w.heap.size w w5 := b4.trans (hb5.mono b4.size)
  have y5 := b5.size
  have X0a_5 := Lib.hid (own_call X0a_4.out hb5); clear X0a_4
  have X0b_5 := Lib.hid (own_call X0b.out hb5); clear X0b
  go_wp2_with fail
  refine (toStringS_c A0 n0 c0 l0 w5 H0.out hm0 ((hr0.below b5).mono b5.size)).mono ?_
  rintro e w6 ⟨rfl, hq6, hb6⟩
  have z6 := hb6.size
  have b6 : Below w.heap.size w w6 := b5.trans (hb6.mono b5.size)
  have y6 := b6.size
  have X0a_6 := Lib.hid (own_call X0a_5.out hb6); clear X0a_5
  have X0b_6 := Lib.hid (own_call X0b_5.out hb6); clear X0b_5
  have X0c := Lib.hid hq6; clear hq6
  have lt_X0c : w5.heap.size < w6.heap.size := (X0c.out.lt w5.heap.size rfl).2
  go_wp2_with fail
  refine (to_below (eqStringS_c _ _ n0 _ _ l0 w6.heap.size w6 H0.out hx0 (rd_ownS X0b_6.out) (rd_ownS X0c.out))).mono ?_
  rintro e w7 ⟨rfl, hb7⟩
  have z7 := hb7.size
  have b7 : Below w.heap.size w w7 := b6.trans (hb7.mono b6.size)
  have y7 := b7.size
  have X0a_7 := Lib.hid (own_call X0a_6.out hb7); clear X0a_6
  have X0b_7 := Lib.hid (own_call X0b_6.out hb7); clear X0b_6
  have X0c_7 := Lib.hid (own_call X0c.out hb7); clear X0c
  go_wp2_with fail
  go_ret
  exact ⟨rfl, b7⟩

end Go.Proofs.YtaebofpgdonnbaaDoor
