/- The walk of FnExactFractionText. -/
import Derived.Test.YtphckllloiogjaaDoorFracText
import Derived.Test.YtphckllloiogjaaDoorOpen
set_option linter.unusedVariables false
set_option linter.unusedSimpArgs false
namespace Go.Proofs.YtphckllloiogjaaDoor
open Go.RowKit

set_option maxHeartbeats 1000000 in
theorem fnExactFractionText_walk (w : World) (ht : Tab w) (a b : Int) (wa : wf64 a) (wb : wf64 b) :
    Calls Tryd.prog 3 #[.agg #[.int .i64 a, .int .i64 b]] w fun e w' => e = .returned (.bool true) ∧ Below w.heap.size w w' := by
  have h1 := wf64_bd wa
  have h2 := wf64_bd wb
  have HT := Lib.hid ht; clear ht
  obtain ⟨S, hS⟩ : ∃ S, ftx (a, b) = S := ⟨_, rfl⟩
  have HS := Lib.hid hS; clear hS
  go_enter Tryd.func3, Tryd.ntmps3
  go_wp2_with fail
  refine (toFraction_c (a, b) _).mono ?_
  rintro e w1 ⟨rfl, hb1⟩
  obtain ⟨hc1, hf1⟩ := bcell hb1; have hz1 := hb1.size; (try simp only [World.size_alloc, size_drewN, World.size_setCell, World.size_drew] at hz1 hc1 hf1); have hl1_0 := far (show w.heap.size < w1.heap.size by omega)
  simp only [fr]
  go_wp2_with fail
  refine (FractionTextS_c a b w1 h1 h2).mono ?_
  rw [HS.out]
  rintro e w2 ⟨rfl, hb2⟩
  obtain ⟨hc2, hf2⟩ := bcell hb2; have hz2 := hb2.size; (try simp only [World.size_alloc, size_drewN, World.size_setCell, World.size_drew] at hz2 hc2 hf2); have hl2_0 := far (show w.heap.size < w2.heap.size by omega)
  go_wp2_with fail
  refine (toFraction_c (a, b) _).mono ?_
  rintro e w3 ⟨rfl, hb3⟩
  obtain ⟨hc3, hf3⟩ := bcell hb3; have hz3 := hb3.size; (try simp only [World.size_alloc, size_drewN, World.size_setCell, World.size_drew] at hz3 hc3 hf3); have hl3_0 := far (show w.heap.size < w3.heap.size by omega)
  have hbw : Below w.heap.size w w3 := by (repeat' (first | (with_reducible exact Below.refl _ _) | (with_reducible assumption) | (with_reducible refine below_drewN ?_ _) | (with_reducible refine Below.drew ?_) | (with_reducible refine Below.alloc ?_ ?_ _) | (with_reducible refine Below.setCell ?_ ?_ _) | (with_reducible refine via (by with_reducible assumption) ?_ ?_) | go_size))
  simp only [fr]
  go_wp2_with fail
  refine (FractionTextI_c a b w3 h1 h2 (HT.out.below hbw)).mono ?_
  rw [HS.out]
  rintro e w4 ⟨rfl, hb4⟩
  go_wp2_with fail
  go_ret
  refine ⟨rfl, ?_⟩
  (repeat' (first | (with_reducible exact Below.refl _ _) | (with_reducible assumption) | (with_reducible refine below_drewN ?_ _) | (with_reducible refine Below.drew ?_) | (with_reducible refine Below.alloc ?_ ?_ _) | (with_reducible refine Below.setCell ?_ ?_ _) | (with_reducible refine via (by with_reducible assumption) ?_ ?_) | go_size))

end Go.Proofs.YtphckllloiogjaaDoor
