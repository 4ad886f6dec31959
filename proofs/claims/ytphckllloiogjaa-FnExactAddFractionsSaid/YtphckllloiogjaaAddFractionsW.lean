/- The walk of FnExactAddFractions. -/
import Derived.Test.YtphckllloiogjaaFracAdd2
import Derived.Test.YtphckllloiogjaaOpen
import Derived.Deep.DeepCutAuto
set_option linter.unusedVariables false
set_option linter.unusedSimpArgs false
namespace Go.Proofs.Ytphckllloiogjaa
open Go.RowKit

set_option maxHeartbeats 4000000 in
theorem fnExactAddFractions_walk (w : World) (a b : Int) (_ : (Lit.int .i64 a).wf = true) (h1 : (Lit.int .i64 b).wf = true) (c d : Int) (_ : (Lit.int .i64 c).wf = true) (h2 : (Lit.int .i64 d).wf = true) :
    Calls Try.prog 4 #[.agg #[.int .i64 a, .int .i64 b], .agg #[.int .i64 c, .int .i64 d]] w fun e w' => e = .returned (.bool true) ∧ Below w.heap.size w w' := by
  have h1 := wf64_bd h1
  have h2 := wf64_bd h2
  go_enter Try.func4, Try.ntmps4
  go_upto_region 1 with fail
  refine gen_world fun W hW => ?_
  have hbW : Below w.heap.size w W := by rw [hW.out]; (repeat' (first | (with_reducible exact Below.refl _ _) | (with_reducible assumption) | (with_reducible refine below_drewN ?_ _) | (with_reducible refine Below.drew ?_) | (with_reducible refine Below.alloc ?_ ?_ _) | (with_reducible refine Below.setCell ?_ ?_ _) | (with_reducible refine via (by with_reducible assumption) ?_ ?_) | go_size))
  have c0 : W.cell? ⟨w.heap.size, 0, none⟩ = some (.int .i64 a) := by rw [hW.out]; simp [go_sem]
  have c1 : W.cell? ⟨w.heap.size, 1, none⟩ = some (.int .i64 b) := by rw [hW.out]; simp [go_sem]
  have c2 : W.cell? ⟨w.heap.size + 1, 0, none⟩ = some (.int .i64 c) := by rw [hW.out]; simp [go_sem]
  have c3 : W.cell? ⟨w.heap.size + 1, 1, none⟩ = some (.int .i64 d) := by rw [hW.out]; simp [go_sem]
  have s0 : w.heap.size + 2 ≤ W.heap.size := by rw [hW.out]; simp [go_sem]
  have t0 := far (show w.heap.size < W.heap.size by omega)
  have t1 := far (show w.heap.size + 1 < W.heap.size by omega)
  clear hW
  go_cut [5, 6] (fun p q wx => ∃ B, W.heap.size ≤ B ∧ B < wx.heap.size ∧ p = .pointer (some ⟨B, 0, none⟩) ∧ q = .int .i64 (addFr (a, b) (c, d)).2 ∧ wx.cell? ⟨B, 0, none⟩ = some (.int .i64 (addFr (a, b) (c, d)).1.1) ∧ wx.cell? ⟨B, 1, none⟩ = some (.int .i64 (addFr (a, b) (c, d)).1.2) ∧ Below W.heap.size W wx)
  case first =>
    go_region_held3 (fun w' => (∀ b o, b < W.heap.size → w'.cell? ⟨b, o, none⟩ = W.cell? ⟨b, o, none⟩) ∧ Below W.heap.size W w') (exact old_of (by (repeat' (first | (with_reducible exact Below.refl _ _) | (with_reducible assumption) | (with_reducible refine below_drewN ?_ _) | (with_reducible refine Below.drew ?_) | (with_reducible refine Below.alloc ?_ ?_ _) | (with_reducible refine Below.setCell ?_ ?_ _) | (with_reducible refine via (by with_reducible assumption) ?_ ?_) | go_size)))) (first | ((go_at_call_of 17 (Value.agg #[.int .i64 a, .int .i64 b]); refine (toFraction_c (a, b) _).mono ?_; rintro e w' ⟨rfl, hb'⟩; obtain ⟨hc', hf'⟩ := bcell hb'; have hz' := hb'.size; (try simp only [World.size_alloc, size_drewN, World.size_setCell, World.size_drew] at hz' hc' hf'); (try have hq' := far (show W.heap.size < w'.heap.size by omega)); (try have hp' := far hz'); (try simp only [fr]); have hS' : Below W.heap.size W w' := (by (repeat' (first | (with_reducible exact Below.refl _ _) | (with_reducible assumption) | (with_reducible refine below_drewN ?_ _) | (with_reducible refine Below.drew ?_) | (with_reducible refine Below.alloc ?_ ?_ _) | (with_reducible refine Below.setCell ?_ ?_ _) | (with_reducible refine via (by with_reducible assumption) ?_ ?_) | go_size))); have hs' := hS'.size)) | ((go_at_call_of 17 (Value.agg #[.int .i64 c, .int .i64 d]); refine (toFraction_c (c, d) _).mono ?_; rintro e w' ⟨rfl, hb'⟩; obtain ⟨hc', hf'⟩ := bcell hb'; have hz' := hb'.size; (try simp only [World.size_alloc, size_drewN, World.size_setCell, World.size_drew] at hz' hc' hf'); (try have hq' := far (show W.heap.size < w'.heap.size by omega)); (try have hp' := far hz'); (try simp only [fr]); have hS' : Below W.heap.size W w' := (by (repeat' (first | (with_reducible exact Below.refl _ _) | (with_reducible assumption) | (with_reducible refine below_drewN ?_ _) | (with_reducible refine Below.drew ?_) | (with_reducible refine Below.alloc ?_ ?_ _) | (with_reducible refine Below.setCell ?_ ?_ _) | (with_reducible refine via (by with_reducible assumption) ?_ ?_) | go_size))); have hs' := hS'.size)) | ((go_at_call 16; refine (AddFractionsS_c (a, b) (c, d) _ (by omega) (by omega)).mono ?_; rintro e w' ⟨rfl, hb'⟩; obtain ⟨hc', hf'⟩ := bcell hb'; have hz' := hb'.size; (try simp only [World.size_alloc, size_drewN, World.size_setCell, World.size_drew] at hz' hc' hf'); (try have hq' := far (show W.heap.size < w'.heap.size by omega)); (try have hp' := far hz'); (try simp only [fr]); have hS' : Below W.heap.size W w' := (by (repeat' (first | (with_reducible exact Below.refl _ _) | (with_reducible assumption) | (with_reducible refine below_drewN ?_ _) | (with_reducible refine Below.drew ?_) | (with_reducible refine Below.alloc ?_ ?_ _) | (with_reducible refine Below.setCell ?_ ?_ _) | (with_reducible refine via (by with_reducible assumption) ?_ ?_) | go_size))); have hs' := hS'.size)))
    all_goals
      (go_wp2_with fail; refine Met.intro ?_; apply_assumption; (repeat apply Exists.intro); refine ⟨?_, rfl⟩)
      refine ⟨_, ?_, ?_, rfl, rfl, by simp [go_sem, *], by simp [go_sem, *], ?_⟩
      · omega
      · (try simp only [World.size_alloc, size_drewN, World.size_setCell, World.size_drew]); omega
      · (repeat' (first | (with_reducible exact Below.refl _ _) | (with_reducible assumption) | (with_reducible refine below_drewN ?_ _) | (with_reducible refine Below.drew ?_) | (with_reducible refine Below.alloc ?_ ?_ _) | (with_reducible refine Below.setCell ?_ ?_ _) | (with_reducible refine via (by with_reducible assumption) ?_ ?_) | go_size))
  case rest =>
    obtain ⟨B, hB, hB', rfl, rfl, e0, e1, hbx⟩ := hcut
    obtain ⟨hc1, hf1⟩ := bcell hbx
    have z1 := hbx.size
    have c0' : wc.cell? ⟨w.heap.size, 0, none⟩ = some (.int .i64 a) := by rw [hc1 _ _ t0.1]; exact c0
    have c1' : wc.cell? ⟨w.heap.size, 1, none⟩ = some (.int .i64 b) := by rw [hc1 _ _ t0.1]; exact c1
    have c2' : wc.cell? ⟨w.heap.size + 1, 0, none⟩ = some (.int .i64 c) := by rw [hc1 _ _ t1.1]; exact c2
    have c3' : wc.cell? ⟨w.heap.size + 1, 1, none⟩ = some (.int .i64 d) := by rw [hc1 _ _ t1.1]; exact c3
    have hbw : Below w.heap.size w wc := hbW.trans (hbx.mono hbW.size)
    clear c0 c1 c2 c3 hc1 hf1 t0 t1
    have t0 := far (show w.heap.size < wc.heap.size by omega)
    have t1 := far (show w.heap.size + 1 < wc.heap.size by omega)
    have t2 := far hB'
    clear hbx hbW
    obtain ⟨W, rfl⟩ : ∃ W' : World, W' = wc := ⟨_, rfl⟩
    go_upto_region 2 with fail
    go_cut [7, 8] (fun p q wx => ∃ B', W.heap.size ≤ B' ∧ B' < wx.heap.size ∧ p = .pointer (some ⟨B', 0, none⟩) ∧ q = .int .i64 (addFr (a, b) (c, d)).2 ∧ wx.cell? ⟨B', 0, none⟩ = some (.int .i64 (addFr (a, b) (c, d)).1.1) ∧ wx.cell? ⟨B', 1, none⟩ = some (.int .i64 (addFr (a, b) (c, d)).1.2) ∧ Below W.heap.size W wx)
    case first =>
      go_region_held3 (fun w' => (∀ b o, b < W.heap.size → w'.cell? ⟨b, o, none⟩ = W.cell? ⟨b, o, none⟩) ∧ Below W.heap.size W w') (exact old_of (by (repeat' (first | (with_reducible exact Below.refl _ _) | (with_reducible assumption) | (with_reducible refine below_drewN ?_ _) | (with_reducible refine Below.drew ?_) | (with_reducible refine Below.alloc ?_ ?_ _) | (with_reducible refine Below.setCell ?_ ?_ _) | (with_reducible refine via (by with_reducible assumption) ?_ ?_) | go_size)))) (first | ((go_at_call_of 17 (Value.agg #[.int .i64 a, .int .i64 b]); refine (toFraction_c (a, b) _).mono ?_; rintro e w' ⟨rfl, hb'⟩; obtain ⟨hc', hf'⟩ := bcell hb'; have hz' := hb'.size; (try simp only [World.size_alloc, size_drewN, World.size_setCell, World.size_drew] at hz' hc' hf'); (try have hq' := far (show W.heap.size < w'.heap.size by omega)); (try have hp' := far hz'); (try simp only [fr]); have hS' : Below W.heap.size W w' := (by (repeat' (first | (with_reducible exact Below.refl _ _) | (with_reducible assumption) | (with_reducible refine below_drewN ?_ _) | (with_reducible refine Below.drew ?_) | (with_reducible refine Below.alloc ?_ ?_ _) | (with_reducible refine Below.setCell ?_ ?_ _) | (with_reducible refine via (by with_reducible assumption) ?_ ?_) | go_size))); have hs' := hS'.size)) | ((go_at_call_of 17 (Value.agg #[.int .i64 c, .int .i64 d]); refine (toFraction_c (c, d) _).mono ?_; rintro e w' ⟨rfl, hb'⟩; obtain ⟨hc', hf'⟩ := bcell hb'; have hz' := hb'.size; (try simp only [World.size_alloc, size_drewN, World.size_setCell, World.size_drew] at hz' hc' hf'); (try have hq' := far (show W.heap.size < w'.heap.size by omega)); (try have hp' := far hz'); (try simp only [fr]); have hS' : Below W.heap.size W w' := (by (repeat' (first | (with_reducible exact Below.refl _ _) | (with_reducible assumption) | (with_reducible refine below_drewN ?_ _) | (with_reducible refine Below.drew ?_) | (with_reducible refine Below.alloc ?_ ?_ _) | (with_reducible refine Below.setCell ?_ ?_ _) | (with_reducible refine via (by with_reducible assumption) ?_ ?_) | go_size))); have hs' := hS'.size)) | ((go_at_call 18; refine (AddFractionsI_c (a, b) (c, d) _ (by omega) (by omega)).mono ?_; rintro e w' ⟨rfl, hb'⟩; obtain ⟨hc', hf'⟩ := bcell hb'; have hz' := hb'.size; (try simp only [World.size_alloc, size_drewN, World.size_setCell, World.size_drew] at hz' hc' hf'); (try have hq' := far (show W.heap.size < w'.heap.size by omega)); (try have hp' := far hz'); (try simp only [fr]); have hS' : Below W.heap.size W w' := (by (repeat' (first | (with_reducible exact Below.refl _ _) | (with_reducible assumption) | (with_reducible refine below_drewN ?_ _) | (with_reducible refine Below.drew ?_) | (with_reducible refine Below.alloc ?_ ?_ _) | (with_reducible refine Below.setCell ?_ ?_ _) | (with_reducible refine via (by with_reducible assumption) ?_ ?_) | go_size))); have hs' := hS'.size)))
      all_goals
        (go_wp2_with fail; refine Met.intro ?_; apply_assumption; (repeat apply Exists.intro); refine ⟨?_, rfl⟩)
        refine ⟨_, ?_, ?_, rfl, rfl, by simp [go_sem, *], by simp [go_sem, *], ?_⟩
        · omega
        · (try simp only [World.size_alloc, size_drewN, World.size_setCell, World.size_drew]); omega
        · (repeat' (first | (with_reducible exact Below.refl _ _) | (with_reducible assumption) | (with_reducible refine below_drewN ?_ _) | (with_reducible refine Below.drew ?_) | (with_reducible refine Below.alloc ?_ ?_ _) | (with_reducible refine Below.setCell ?_ ?_ _) | (with_reducible refine via (by with_reducible assumption) ?_ ?_) | go_size))
    case rest =>
      obtain ⟨w2, rfl⟩ : ∃ w' : World, w' = wc := ⟨_, rfl⟩
      obtain ⟨B', hB2, hB2', rfl, rfl, f0, f1, hbx⟩ := hcut
      have e0' : w2.cell? ⟨B, 0, none⟩ = some (.int .i64 (addFr (a, b) (c, d)).1.1) := by rw [(bcell hbx).1 _ _ hB']; exact e0
      have e1' : w2.cell? ⟨B, 1, none⟩ = some (.int .i64 (addFr (a, b) (c, d)).1.2) := by rw [(bcell hbx).1 _ _ hB']; exact e1
      clear e0 e1 c0' c1' c2' c3'
      have hbv : Below w.heap.size w w2 := hbw.trans (hbx.mono hbw.size)
      go_wp2_with fail
      refine (eqFraction_c (addFr (a, b) (c, d)).1 _).mono ?_
      rintro e w3 ⟨rfl, hb3⟩
      go_wp2_with fail
      go_ret
      exact ⟨rfl, hbv.trans (hb3.mono hbv.size)⟩

end Go.Proofs.Ytphckllloiogjaa
