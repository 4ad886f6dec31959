/- Contracts: the differences of a finer table; both sides. -/
import Derived.Test.YtphckllloiogjaaFinDiff
set_option linter.unusedVariables false
set_option linter.unusedSimpArgs false
namespace Go.Proofs.Ytphckllloiogjaa
open Go.RowKit

set_option maxHeartbeats 1000000 in
theorem l19Minus_c (X Y M : Int) (w : World) (hM : 1 ≤ M ∧ M ≤ 4611686018427387903) (hX : X.natAbs ≤ 4611686018427387903) (hY : Y.natAbs ≤ 4611686018427387903) :
    Calls Try.prog 72 #[fr (low X M), fr (low Y M), .int .i64 M] w fun e w' => e = .returned (fr (low (X - Y) M)) ∧ Below w.heap.size w w' := by
  have h1 := low_den_pos X M (by omega)
  have h2 := low_den_pos Y M (by omega)
  have b1 := low_back X M (by omega)
  have b2 := low_back Y M (by omega)
  have q1 := low_quo X M (by omega)
  have q2 := low_quo Y M (by omega)
  generalize low X M = x at *
  generalize low Y M = y at *
  obtain ⟨a, b⟩ := x
  obtain ⟨c, d⟩ := y
  simp only at *
  obtain ⟨u, hu⟩ : ∃ u, M / b = u := ⟨_, rfl⟩
  obtain ⟨v, hv⟩ : ∃ v, M / d = v := ⟨_, rfl⟩
  rw [hu] at b1 q1
  rw [hv] at b2 q2
  have n1 : ¬ b = 0 := by omega
  have n2 : ¬ d = 0 := by omega
  have n3 : (b == 0) = false := by simp [n1]
  have n4 : (d == 0) = false := by simp [n2]
  have n5 : 0 ≤ M := by omega
  have n6 : 0 ≤ b := by omega
  have n7 : 0 ≤ d := by omega
  have hbig : -4611686018427387903 ≤ X ∧ X ≤ 4611686018427387903 := by omega
  have hbig2 : -4611686018427387903 ≤ Y ∧ Y ≤ 4611686018427387903 := by omega
  have HV1 := Lib.hid (show wrap64 (wrap64 (a * u) - wrap64 (c * v)) = X - Y by rw [b1, b2, wrap_in X (by omega), wrap_in Y (by omega), wrap_in (X - Y) (by omega)])
  have HU := Lib.hid hu; have HV := Lib.hid hv
  clear b1 b2 hX hY
  simp only [fr]
  go_enter Try.func72, Try.ntmps72
  go_wp2_with fail
  (refine still_tail 16 (by kernel_rfl) (by kernel_rfl) ?_; simp only [List.take_succ_cons, List.take_zero, List.drop_succ_cons, List.drop_zero]; (repeat (refine wpStill_step (fun K hK => ?_); go_simp; (try go_bits); refine hK _ ?_; clear hK K)); refine wpStill_nil ?_)
  rw [HV1.out]
  go_wp2_with fail
  refine (l19Make_c (X - Y) M _ (by omega) (by omega)).mono ?_
  rintro e w1 ⟨rfl, hb1⟩
  obtain ⟨hc1, hf1⟩ := bcell hb1; have hz1 := hb1.size; (try simp only [World.size_alloc, size_drewN, World.size_setCell, World.size_drew] at hz1 hc1 hf1)
  simp only [fr]
  go_wp2_with fail
  (refine bodyPost_ret (v := fr (low (X - Y) M)) (by simp only [results, Try.results72, fr]; go_simp) rfl ⟨rfl, ?_⟩; (repeat' (first | (with_reducible exact Below.refl _ _) | (with_reducible assumption) | (with_reducible refine below_drewN ?_ _) | (with_reducible refine Below.drew ?_) | (with_reducible refine Below.alloc ?_ ?_ _) | (with_reducible refine Below.setCell ?_ ?_ _) | (with_reducible refine via (by with_reducible assumption) ?_ ?_) | go_size)))
end Go.Proofs.Ytphckllloiogjaa
