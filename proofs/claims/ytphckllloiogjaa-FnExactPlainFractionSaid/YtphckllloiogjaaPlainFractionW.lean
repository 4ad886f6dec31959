/- The walk of FnExactPlainFraction. -/
import Derived.Test.YtphckllloiogjaaFracFn
import Derived.Test.YtphckllloiogjaaOpen
namespace Go.Proofs.Ytphckllloiogjaa
open Go.RowKit

theorem fnExactPlainFraction_walk (a : Int) (_ : (Lit.int .i64 a).wf = true) (b : Int) (_ : (Lit.int .i64 b).wf = true) (w : World) :
    Calls Try.prog 3 #[.int .i64 a, .int .i64 b] w fun e w' => e = .returned (.bool true) ∧ Below w.heap.size w w' := by
  go_enter Try.func3, Try.ntmps3
  go_wp2_with fail
  refine (PlainFractionS_c _ _ _).mono ?_
  rintro e w1 ⟨rfl, hb1⟩
  obtain ⟨hc1, hf1⟩ := bcell hb1; have hz1 := hb1.size; try simp only [World.size_alloc, size_drewN, World.size_setCell] at hz1 hc1 hf1
  simp only [fr]
  go_wp2_with fail
  refine (PlainFractionI_c _ _ _).mono ?_
  rintro e w2 ⟨rfl, hb2⟩
  obtain ⟨hc2, hf2⟩ := bcell hb2; have hz2 := hb2.size; try simp only [World.size_alloc, size_drewN, World.size_setCell] at hz2 hc2 hf2; have hl2_0 : w1.heap.size < w2.heap.size := by omega
  simp only [fr]
  go_wp2_with fail
  refine (eqFraction_c _ _).mono ?_
  rintro e w3 ⟨rfl, hb3⟩
  obtain ⟨hc3, hf3⟩ := bcell hb3; have hz3 := hb3.size; try simp only [World.size_alloc, size_drewN, World.size_setCell] at hz3 hc3 hf3; have hl3_0 : w1.heap.size < w3.heap.size := by omega; have hl3_1 : w2.heap.size < w3.heap.size := by omega
  go_wp2_with fail
  go_ret
  refine ⟨rfl, ?_⟩
  (repeat' (first | (with_reducible exact Below.refl _ _) | (with_reducible assumption) | (with_reducible refine below_drewN ?_ _) | (with_reducible refine Below.drew ?_) | (with_reducible refine Below.alloc ?_ ?_ _) | (with_reducible refine Below.setCell ?_ ?_ _) | (with_reducible refine via (by with_reducible assumption) ?_ ?_) | go_size))

end Go.Proofs.Ytphckllloiogjaa
