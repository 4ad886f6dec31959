/- The walk of FnExactValueBetween. -/
import Derived.Test.YtphckllloiogjaaFin3
import Derived.Test.YtphckllloiogjaaLawCalls
set_option linter.unusedVariables false
set_option linter.unusedSimpArgs false
namespace Go.Proofs.Ytphckllloiogjaa
open Go.RowKit

set_option maxHeartbeats 4000000 in
theorem fnExactValueBetween_walk (w : World) (A0 : Option Addr) (n0 c0 : Nat) (l0 : List Int) (hn0 : l0.length = n0) (hx0 : n0 ≤ maxLen) (hr0 : Rd w w.heap.size 1 icell A0 l0) (ok0 : ∀ x ∈ l0, (Lit.int .i64 x).wf = true) (a1 : Int) (wf1 : (Lit.int .i64 a1).wf = true) (a2 : Int) (wf2 : (Lit.int .i64 a2).wf = true) :
    Calls Try.prog 10 #[.slice A0 n0 c0, .int .i64 a1, .int .i64 a2] w fun e w' => e = .returned (.bool true) ∧ Below w.heap.size w w' := by
  have H0 := Lib.hid hn0; clear hn0
  have hx0' := hx0; unfold maxLen at hx0'
  by_cases hm0 : n0 ≤ 1048576
  rotate_left
  · have hp0 : (1048576 : Int) < ((n0 : Nat) : Int) := by omega
    go_enter Try.func10, Try.ntmps10
    go_wp2_with fail
    go_ret
    exact ⟨rfl, Below.refl _ _⟩
  have hp0 : ¬ (1048576 : Int) < ((n0 : Nat) : Int) := by omega
  go_enter Try.func10, Try.ntmps10
  have b0 : Below w.heap.size w w := Below.refl _ _
  have z0 : w.heap.size ≤ w.heap.size := Nat.le_refl _
  have hA0 : A0 = none → n0 = 0 := fun h => by rw [← H0.out]; exact hr0.none_len h
  go_wp2_with fail
  refine (toInt64S_c A0 n0 c0 l0 w H0.out hm0 ((hr0.below b0).mono b0.size)).mono ?_
  rintro e w1 ⟨rfl, hq1, hb1⟩
  have z1 := hb1.size
  have b1 : Below w.heap.size w w1 := b0.trans (hb1.mono b0.size)
  have y1 := b1.size
  have X0a := Lib.hid hq1; clear hq1
  have lt_X0a : w.heap.size < w1.heap.size := (X0a.out.lt w.heap.size rfl).2
  go_wp2_with fail
  refine (ValueBetweenS_c _ n0 n0 l0 a1 a2 w1 H0.out hm0 (fun h => by cases h) (rd_own X0a.out)  ).mono ?_
  rintro e w2 ⟨rfl, hb2⟩
  have z2 := hb2.size
  have b2 : Below w.heap.size w w2 := b1.trans (hb2.mono b1.size)
  have y2 := b2.size
  have X0a_2 := Lib.hid (own_call X0a.out hb2); clear X0a
  clear X0a_2
  simp only [fr]
  go_wp2_with fail
  refine gen_calls fun W2 hW => ?_
  have hbW : Below w2.heap.size w2 W2 := by rw [hW.out]; (repeat' (first | (with_reducible exact Below.refl _ _) | (with_reducible assumption) | (with_reducible refine below_drewN ?_ _) | (with_reducible refine Below.drew ?_) | (with_reducible refine Below.alloc ?_ ?_ _) | (with_reducible refine Below.setCell ?_ ?_ _) | (with_reducible refine via (by with_reducible assumption) ?_ ?_) | go_size))
  have F0 := Lib.hid (show FrAt W2 w2.heap.size (betw l0 a1 a2).1 by rw [hW.out]; unfold FrAt; simp [go_sem])
  have ltF0 : w2.heap.size < W2.heap.size := by rw [hW.out]; simp [go_sem]
  have zW := hbW.size
  have bW : Below w.heap.size w W2 := b2.trans (hbW.mono b2.size)
  clear hW
  refine (toInt64S_c A0 n0 c0 l0 W2 H0.out hm0 ((hr0.below bW).mono bW.size)).mono ?_
  rintro e w3 ⟨rfl, hq3, hb3⟩
  have z3 := hb3.size
  have b3 : Below w.heap.size w w3 := bW.trans (hb3.mono bW.size)
  have y3 := b3.size
  have X0b := Lib.hid hq3; clear hq3
  have F0_3 := Lib.hid (FrAt.below F0.out hb3 ltF0); clear F0
  have lt_X0b : W2.heap.size < w3.heap.size := (X0b.out.lt W2.heap.size rfl).2
  go_wp2_with fail
  refine (ValueBetweenI_c _ n0 n0 l0 a1 a2 w3 H0.out hm0 (fun h => by cases h) (rd_own X0b.out)  ).mono ?_
  rintro e w4 ⟨rfl, hb4⟩
  have z4 := hb4.size
  have b4 : Below w.heap.size w w4 := b3.trans (hb4.mono b3.size)
  have y4 := b4.size
  have X0b_4 := Lib.hid (own_call X0b.out hb4); clear X0b
  have hF4 := FrAt.below F0_3.out hb4 (by omega)
  clear F0_3
  obtain ⟨fa, fb, fc, fd⟩ := hF4
  have ff := far (show w2.heap.size < w4.heap.size by omega)
  simp only [fr]
  go_wp2_with fail
  refine (eqFraction_c (betw l0 a1 a2).1 _).mono ?_
  rintro e wf ⟨rfl, hbf⟩
  have hbf4 : Below w4.heap.size w4 wf := by (repeat' (first | (with_reducible exact Below.refl _ _) | (with_reducible assumption) | (with_reducible refine below_drewN ?_ _) | (with_reducible refine Below.drew ?_) | (with_reducible refine Below.alloc ?_ ?_ _) | (with_reducible refine Below.setCell ?_ ?_ _) | (with_reducible refine via (by with_reducible assumption) ?_ ?_) | go_size))
  clear hbf fa fb fc fd
  have zf := hbf4.size
  have bf : Below w.heap.size w wf := b4.trans (hbf4.mono b4.size)
  have X0b_f := Lib.hid (own_call X0b_4.out hbf4); clear X0b_4
  go_wp2_with fail
  refine (toInt64S_c A0 n0 c0 l0 wf H0.out hm0 ((hr0.below bf).mono bf.size)).mono ?_
  rintro e w5 ⟨rfl, hq5, hb5⟩
  have z5 := hb5.size
  have b5 : Below w.heap.size w w5 := bf.trans (hb5.mono bf.size)
  have y5 := b5.size
  have X0b_5 := Lib.hid (own_call X0b_f.out hb5); clear X0b_f
  have X0c := Lib.hid hq5; clear hq5
  have lt_X0c : wf.heap.size < w5.heap.size := (X0c.out.lt wf.heap.size rfl).2
  go_wp2_with fail
  refine (to_below (eqInt64S_c _ _ n0 _ _ l0 w5.heap.size w5 H0.out hx0 (rd_own X0b_5.out) (rd_own X0c.out))).mono ?_
  rintro e w6 ⟨rfl, hb6⟩
  have z6 := hb6.size
  have b6 : Below w.heap.size w w6 := b5.trans (hb6.mono b5.size)
  have y6 := b6.size
  have X0b_6 := Lib.hid (own_call X0b_5.out hb6); clear X0b_5
  have X0c_6 := Lib.hid (own_call X0c.out hb6); clear X0c
  go_wp2_with fail
  go_ret
  exact ⟨rfl, b6⟩

end Go.Proofs.Ytphckllloiogjaa
