/- AddFractions. -/
import Derived.Test.YtphckllloiogjaaFracAdd
set_option linter.unusedVariables false
set_option linter.unusedSimpArgs false
namespace Go.Proofs.Ytphckllloiogjaa
open Go.RowKit

theorem addFr_no1 (p q : Int × Int) (h : ¬ (plainB p.1 p.2 = true ∧ plainB q.1 q.2 = true)) : addFr p q = ((0, 0), 1) := by
  unfold addFr
  rw [if_neg (by simpa using h)]
theorem addFr_no2 (p q : Int × Int) (h1 : plainB p.1 p.2 = true) (h2 : plainB q.1 q.2 = true) (h : ¬ (tinyB p = true ∧ tinyB q = true)) : addFr p q = ((0, 0), 2) := by
  unfold addFr
  rw [if_pos (by simp [h1, h2]), if_neg (by simpa using h)]
theorem addFr_yes (p q : Int × Int) (h1 : plainB p.1 p.2 = true) (h2 : plainB q.1 q.2 = true) (h3 : tinyB p = true) (h4 : tinyB q = true) :
    addFr p q = if plainB (fsum p.1 p.2 q.1 q.2).1 (fsum p.1 p.2 q.1 q.2).2 then (fsum p.1 p.2 q.1 q.2, 0) else ((0, 0), 5) := by
  unfold addFr
  rw [if_pos (by simp [h1, h2]), if_pos (by simp [h3, h4])]
theorem tinyB_iff {a b : Int} : tinyB (a, b) = true ↔ (a.natAbs : Int) ≤ 1000000 ∧ b ≤ 1000000 := by simp [tinyB]

set_option maxHeartbeats 1000000 in
theorem AddFractionsI_c (p q : Int × Int) (w : World) (h1 : p.2 ≤ 9223372036854775807) (h2 : q.2 ≤ 9223372036854775807) :
    Calls Try.prog 18 #[fr p, fr q] w fun e w' => e = .returned (.tuple #[fr (addFr p q).1, .int .i64 (addFr p q).2]) ∧ Below w.heap.size w w' := by
  obtain ⟨a, b⟩ := p
  obtain ⟨c, d⟩ := q
  simp only at h1 h2
  by_cases hp : plainB a b = true ∧ plainB c d = true
  · obtain ⟨hp, hq⟩ := hp
    obtain ⟨b1, b2, _⟩ := plainB_iff.1 hp
    obtain ⟨b3, b4, _⟩ := plainB_iff.1 hq
    by_cases ht : ((a.natAbs : Int) ≤ 1000000 ∧ b ≤ 1000000) ∧ ((c.natAbs : Int) ≤ 1000000 ∧ d ≤ 1000000)
    · have t1 := tinyB_iff.2 ht.1
      have t2 := tinyB_iff.2 ht.2
      obtain ⟨⟨t3, t4⟩, t5, t6⟩ := ht
      have HY := Lib.hid (addFr_yes (a, b) (c, d) hp hq t1 t2)
      have s0 := sum_ok (a, b) (c, d) hp hq t1 t2
      have s1 := fsum_den (a, b) (c, d) (by simp; omega) (by simp; omega)
      have s2 : (fsum a b c d).2 ≤ 9223372036854775807 := by
        have : 0 < b * d := Int.mul_pos (by omega) (by omega)
        have h := low_den_le (a * d + c * b) (b * d) this
        have := mul_bd (A := 1000000) (B := 1000000) (a := b) (b := d) ⟨by omega, by omega⟩ ⟨by omega, by omega⟩
        unfold fsum
        omega
      simp only at s0 s1 HY
      have S := Lib.hid s0; clear s0
      simp only [fr]
      cases hs : plainB (fsum a b c d).1 (fsum a b c d).2
      all_goals
        simp only [hs] at HY
        go_enter Try.func18, Try.ntmps18
        go_wp2_with fail
        refine (isPlainFraction_c (a, b) _ h1).mono ?_
        rintro e w1 ⟨rfl, hb1⟩
        obtain ⟨hc1, hf1⟩ := bcell hb1; have hz1 := hb1.size; (try simp only [World.size_alloc, size_drewN, World.size_setCell] at hz1 hc1 hf1); have hl1_0 := far (show w.heap.size < w1.heap.size by omega); have hl1_1 := far (show w.heap.size + 1 < w1.heap.size by omega); have hl1_2 := far (show w.heap.size + 1 + 1 < w1.heap.size by omega)
        go_wp2_with fail
        refine (isPlainFraction_c (c, d) _ h2).mono ?_
        rintro e w2 ⟨rfl, hb2⟩
        obtain ⟨hc2, hf2⟩ := bcell hb2; have hz2 := hb2.size; (try simp only [World.size_alloc, size_drewN, World.size_setCell] at hz2 hc2 hf2); have hl2_0 := far (show w.heap.size < w2.heap.size by omega); have hl2_1 := far (show w.heap.size + 1 < w2.heap.size by omega); have hl2_2 := far (show w.heap.size + 1 + 1 < w2.heap.size by omega)
        go_wp2_with fail
        refine wp_loop_rounds 3 ?_
        rw [rounds_succ]
        go_wp2_with (go_at_call 51; refine (absolute_c _ _ (by omega)).mono ?_; rintro e w' ⟨rfl, rfl⟩)
        rw [rounds_succ]
        go_wp2_with (go_at_call 51; refine (absolute_c _ _ (by omega)).mono ?_; rintro e w' ⟨rfl, rfl⟩)
        rw [rounds_succ]
        go_wp2_with fail
        refine (sum_c (a, b) (c, d) _ (by simp; omega) (by simp; omega) h1 h2 (by have := S.out; simp at this ⊢; omega) (by have := S.out; simp at this ⊢; omega) (by have := S.out; simp at this ⊢; omega)).mono ?_
        rintro e w3 ⟨rfl, hb3⟩
        obtain ⟨hc3, hf3⟩ := bcell hb3; have hz3 := hb3.size; (try simp only [World.size_alloc, size_drewN, World.size_setCell] at hz3 hc3 hf3); have hl3_0 := far (show w.heap.size < w3.heap.size by omega); have hl3_1 := far (show w.heap.size + 1 < w3.heap.size by omega); have hl3_2 := far (show w.heap.size + 1 + 1 < w3.heap.size by omega)
        simp only [fr]
        go_wp2_with fail
        refine (isPlainFraction_c (fsum a b c d) _ s2).mono ?_
        rintro e w4 ⟨rfl, hb4⟩
        obtain ⟨hc4, hf4⟩ := bcell hb4; have hz4 := hb4.size; (try simp only [World.size_alloc, size_drewN, World.size_setCell] at hz4 hc4 hf4); have hl4_0 := far (show w.heap.size < w4.heap.size by omega); have hl4_1 := far (show w.heap.size + 1 < w4.heap.size by omega); have hl4_2 := far (show w.heap.size + 1 + 1 < w4.heap.size by omega); have hl4_3 := far (show w3.heap.size < w4.heap.size by omega)
        go_wp2_with fail
        refine bodyPost_ret (v := .tuple #[fr (addFr (a, b) (c, d)).1, .int .i64 (addFr (a, b) (c, d)).2]) (by rw [HY.out]; simp only [results, Try.results18, fr]; go_simp) rfl ⟨rfl, ?_⟩
        (repeat' (first | (with_reducible exact Below.refl _ _) | (with_reducible assumption) | (with_reducible refine below_drewN ?_ _) | (with_reducible refine Below.drew ?_) | (with_reducible refine Below.alloc ?_ ?_ _) | (with_reducible refine Below.setCell ?_ ?_ _) | (with_reducible refine via (by with_reducible assumption) ?_ ?_) | go_size))
    · rw [addFr_no2 _ _ hp hq (by rw [tinyB_iff, tinyB_iff]; exact ht)]
      simp only [fr]
      go_enter Try.func18, Try.ntmps18
      go_wp2_with fail
      refine (isPlainFraction_c (a, b) _ h1).mono ?_
      rintro e w1 ⟨rfl, hb1⟩
      obtain ⟨hc1, hf1⟩ := bcell hb1; have hz1 := hb1.size; (try simp only [World.size_alloc, size_drewN, World.size_setCell] at hz1 hc1 hf1); have hl1_0 := far (show w.heap.size < w1.heap.size by omega); have hl1_1 := far (show w.heap.size + 1 < w1.heap.size by omega); have hl1_2 := far (show w.heap.size + 1 + 1 < w1.heap.size by omega)
      go_wp2_with fail
      refine (isPlainFraction_c (c, d) _ h2).mono ?_
      rintro e w2 ⟨rfl, hb2⟩
      obtain ⟨hc2, hf2⟩ := bcell hb2; have hz2 := hb2.size; (try simp only [World.size_alloc, size_drewN, World.size_setCell] at hz2 hc2 hf2); have hl2_0 := far (show w.heap.size < w2.heap.size by omega); have hl2_1 := far (show w.heap.size + 1 < w2.heap.size by omega); have hl2_2 := far (show w.heap.size + 1 + 1 < w2.heap.size by omega)
      go_wp2_with fail
      refine wp_loop_rounds 3 ?_
      rw [rounds_succ]
      go_wp2_with (go_at_call 51; refine (absolute_c _ _ (by omega)).mono ?_; rintro e w' ⟨rfl, rfl⟩)
      all_goals (try rw [rounds_succ])
      all_goals (try go_wp2_with (go_at_call 51; refine (absolute_c _ _ (by omega)).mono ?_; rintro e w' ⟨rfl, rfl⟩))
      all_goals (refine bodyPost_ret (v := .tuple #[fr (0, 0), .int .i64 2]) (by simp only [results, Try.results18, fr]; go_simp) rfl ⟨rfl, ?_⟩; (repeat' (first | (with_reducible exact Below.refl _ _) | (with_reducible assumption) | (with_reducible refine below_drewN ?_ _) | (with_reducible refine Below.drew ?_) | (with_reducible refine Below.alloc ?_ ?_ _) | (with_reducible refine Below.setCell ?_ ?_ _) | (with_reducible refine via (by with_reducible assumption) ?_ ?_) | go_size)))
  · rw [addFr_no1 _ _ hp]
    simp only [fr]
    cases hp1 : plainB a b
    · go_enter Try.func18, Try.ntmps18
      go_wp2_with fail
      refine (isPlainFraction_c (a, b) _ h1).mono ?_
      rintro e w1 ⟨rfl, hb1⟩
      obtain ⟨hc1, hf1⟩ := bcell hb1; have hz1 := hb1.size; (try simp only [World.size_alloc, size_drewN, World.size_setCell] at hz1 hc1 hf1); have hl1_0 := far (show w.heap.size < w1.heap.size by omega); have hl1_1 := far (show w.heap.size + 1 < w1.heap.size by omega); have hl1_2 := far (show w.heap.size + 1 + 1 < w1.heap.size by omega)
      go_wp2_with fail
      (refine bodyPost_ret (v := .tuple #[fr (0, 0), .int .i64 1]) (by simp only [results, Try.results18, fr]; go_simp) rfl ⟨rfl, ?_⟩; (repeat' (first | (with_reducible exact Below.refl _ _) | (with_reducible assumption) | (with_reducible refine below_drewN ?_ _) | (with_reducible refine Below.drew ?_) | (with_reducible refine Below.alloc ?_ ?_ _) | (with_reducible refine Below.setCell ?_ ?_ _) | (with_reducible refine via (by with_reducible assumption) ?_ ?_) | go_size)))
    · have hq1 : plainB c d = false := by simpa [hp1] using hp
      go_enter Try.func18, Try.ntmps18
      go_wp2_with fail
      refine (isPlainFraction_c (a, b) _ h1).mono ?_
      rintro e w1 ⟨rfl, hb1⟩
      obtain ⟨hc1, hf1⟩ := bcell hb1; have hz1 := hb1.size; (try simp only [World.size_alloc, size_drewN, World.size_setCell] at hz1 hc1 hf1); have hl1_0 := far (show w.heap.size < w1.heap.size by omega); have hl1_1 := far (show w.heap.size + 1 < w1.heap.size by omega); have hl1_2 := far (show w.heap.size + 1 + 1 < w1.heap.size by omega)
      go_wp2_with fail
      refine (isPlainFraction_c (c, d) _ h2).mono ?_
      rintro e w2 ⟨rfl, hb2⟩
      obtain ⟨hc2, hf2⟩ := bcell hb2; have hz2 := hb2.size; (try simp only [World.size_alloc, size_drewN, World.size_setCell] at hz2 hc2 hf2); have hl2_0 := far (show w.heap.size < w2.heap.size by omega); have hl2_1 := far (show w.heap.size + 1 < w2.heap.size by omega); have hl2_2 := far (show w.heap.size + 1 + 1 < w2.heap.size by omega)
      go_wp2_with fail
      (refine bodyPost_ret (v := .tuple #[fr (0, 0), .int .i64 1]) (by simp only [results, Try.results18, fr]; go_simp) rfl ⟨rfl, ?_⟩; (repeat' (first | (with_reducible exact Below.refl _ _) | (with_reducible assumption) | (with_reducible refine below_drewN ?_ _) | (with_reducible refine Below.drew ?_) | (with_reducible refine Below.alloc ?_ ?_ _) | (with_reducible refine Below.setCell ?_ ?_ _) | (with_reducible refine via (by with_reducible assumption) ?_ ?_) | go_size)))

set_option maxHeartbeats 1000000 in
theorem AddFractionsS_c (p q : Int × Int) (w : World) (h1 : p.2 ≤ 9223372036854775807) (h2 : q.2 ≤ 9223372036854775807) :
    Calls Try.prog 16 #[fr p, fr q] w fun e w' => e = .returned (.tuple #[fr (addFr p q).1, .int .i64 (addFr p q).2]) ∧ Below w.heap.size w w' := by
  obtain ⟨a, b⟩ := p
  obtain ⟨c, d⟩ := q
  simp only at h1 h2
  by_cases hp : plainB a b = true ∧ plainB c d = true
  · obtain ⟨hp, hq⟩ := hp
    obtain ⟨b1, b2, _⟩ := plainB_iff.1 hp
    obtain ⟨b3, b4, _⟩ := plainB_iff.1 hq
    by_cases ht : ((a.natAbs : Int) ≤ 1000000 ∧ b ≤ 1000000) ∧ ((c.natAbs : Int) ≤ 1000000 ∧ d ≤ 1000000)
    · have t1 := tinyB_iff.2 ht.1
      have t2 := tinyB_iff.2 ht.2
      obtain ⟨⟨t3, t4⟩, t5, t6⟩ := ht
      have HY := Lib.hid (addFr_yes (a, b) (c, d) hp hq t1 t2)
      have s1 := fsum_den (a, b) (c, d) (by simp; omega) (by simp; omega)
      have m0 : 0 < b * d := Int.mul_pos (by omega) (by omega)
      have m1 := mul_bd (A := 1000000) (B := 1000000) (a := b) (b := d) ⟨by omega, by omega⟩ ⟨by omega, by omega⟩
      have m2 := mul_bd (A := 1000000) (B := 1000000) (a := a) (b := d) ⟨by omega, by omega⟩ ⟨by omega, by omega⟩
      have m3 := mul_bd (A := 1000000) (B := 1000000) (a := c) (b := b) ⟨by omega, by omega⟩ ⟨by omega, by omega⟩
      have s2 : (fsum a b c d).2 ≤ 9223372036854775807 := by
        have h := low_den_le (a * d + c * b) (b * d) m0
        unfold fsum
        omega
      simp only at s1 HY
      simp only [fr]
      cases hs : plainB (fsum a b c d).1 (fsum a b c d).2
      all_goals
        simp only [hs] at HY
        go_enter Try.func16, Try.ntmps16
        go_wp2_with fail
        refine (l19Ok_c (a, b) _ h1).mono ?_
        rintro e w1 ⟨rfl, hb1⟩
        obtain ⟨hc1, hf1⟩ := bcell hb1; have hz1 := hb1.size; (try simp only [World.size_alloc, size_drewN, World.size_setCell] at hz1 hc1 hf1); have hl1_0 := far (show w.heap.size < w1.heap.size by omega); have hl1_1 := far (show w.heap.size + 1 < w1.heap.size by omega); have hl1_2 := far (show w.heap.size + 1 + 1 < w1.heap.size by omega)
        go_wp2_with fail
        refine (l19Ok_c (c, d) _ h2).mono ?_
        rintro e w2 ⟨rfl, hb2⟩
        obtain ⟨hc2, hf2⟩ := bcell hb2; have hz2 := hb2.size; (try simp only [World.size_alloc, size_drewN, World.size_setCell] at hz2 hc2 hf2); have hl2_0 := far (show w.heap.size < w2.heap.size by omega); have hl2_1 := far (show w.heap.size + 1 < w2.heap.size by omega); have hl2_2 := far (show w.heap.size + 1 + 1 < w2.heap.size by omega)
        go_wp2_with (go_at_call 49; refine (l03Size_c _ _ (by omega)).mono ?_; rintro e w' ⟨rfl, rfl⟩)
        refine (l19Make_c _ _ _ (by omega) (by omega)).mono ?_
        rintro e w3 ⟨rfl, hb3⟩
        rw [show low (a * d + c * b) (b * d) = fsum a b c d from rfl]
        obtain ⟨hc3, hf3⟩ := bcell hb3; have hz3 := hb3.size; (try simp only [World.size_alloc, size_drewN, World.size_setCell] at hz3 hc3 hf3); have hl3_0 := far (show w.heap.size < w3.heap.size by omega); have hl3_1 := far (show w.heap.size + 1 < w3.heap.size by omega); have hl3_2 := far (show w.heap.size + 1 + 1 < w3.heap.size by omega)
        simp only [fr]
        go_wp2_with fail
        refine (l19Ok_c (fsum a b c d) _ s2).mono ?_
        rintro e w4 ⟨rfl, hb4⟩
        obtain ⟨hc4, hf4⟩ := bcell hb4; have hz4 := hb4.size; (try simp only [World.size_alloc, size_drewN, World.size_setCell] at hz4 hc4 hf4); have hl4_0 := far (show w.heap.size < w4.heap.size by omega); have hl4_1 := far (show w.heap.size + 1 < w4.heap.size by omega); have hl4_2 := far (show w.heap.size + 1 + 1 < w4.heap.size by omega); have hl4_3 := far (show w3.heap.size < w4.heap.size by omega)
        go_wp2_with fail
        refine bodyPost_ret (v := .tuple #[fr (addFr (a, b) (c, d)).1, .int .i64 (addFr (a, b) (c, d)).2]) (by rw [HY.out]; simp only [results, Try.results16, fr]; go_simp) rfl ⟨rfl, ?_⟩
        (repeat' (first | (with_reducible exact Below.refl _ _) | (with_reducible assumption) | (with_reducible refine below_drewN ?_ _) | (with_reducible refine Below.drew ?_) | (with_reducible refine Below.alloc ?_ ?_ _) | (with_reducible refine Below.setCell ?_ ?_ _) | (with_reducible refine via (by with_reducible assumption) ?_ ?_) | go_size))
    · rw [addFr_no2 _ _ hp hq (by rw [tinyB_iff, tinyB_iff]; exact ht)]
      simp only [fr]
      go_enter Try.func16, Try.ntmps16
      go_wp2_with fail
      refine (l19Ok_c (a, b) _ h1).mono ?_
      rintro e w1 ⟨rfl, hb1⟩
      obtain ⟨hc1, hf1⟩ := bcell hb1; have hz1 := hb1.size; (try simp only [World.size_alloc, size_drewN, World.size_setCell] at hz1 hc1 hf1); have hl1_0 := far (show w.heap.size < w1.heap.size by omega); have hl1_1 := far (show w.heap.size + 1 < w1.heap.size by omega); have hl1_2 := far (show w.heap.size + 1 + 1 < w1.heap.size by omega)
      go_wp2_with fail
      refine (l19Ok_c (c, d) _ h2).mono ?_
      rintro e w2 ⟨rfl, hb2⟩
      obtain ⟨hc2, hf2⟩ := bcell hb2; have hz2 := hb2.size; (try simp only [World.size_alloc, size_drewN, World.size_setCell] at hz2 hc2 hf2); have hl2_0 := far (show w.heap.size < w2.heap.size by omega); have hl2_1 := far (show w.heap.size + 1 < w2.heap.size by omega); have hl2_2 := far (show w.heap.size + 1 + 1 < w2.heap.size by omega)
      go_wp2_with (go_at_call 49; refine (l03Size_c _ _ (by omega)).mono ?_; rintro e w' ⟨rfl, rfl⟩)
      all_goals (refine bodyPost_ret (v := .tuple #[fr (0, 0), .int .i64 2]) (by simp only [results, Try.results16, fr]; go_simp) rfl ⟨rfl, ?_⟩; (repeat' (first | (with_reducible exact Below.refl _ _) | (with_reducible assumption) | (with_reducible refine below_drewN ?_ _) | (with_reducible refine Below.drew ?_) | (with_reducible refine Below.alloc ?_ ?_ _) | (with_reducible refine Below.setCell ?_ ?_ _) | (with_reducible refine via (by with_reducible assumption) ?_ ?_) | go_size)))
  · rw [addFr_no1 _ _ hp]
    simp only [fr]
    cases hp1 : plainB a b
    · go_enter Try.func16, Try.ntmps16
      go_wp2_with fail
      refine (l19Ok_c (a, b) _ h1).mono ?_
      rintro e w1 ⟨rfl, hb1⟩
      obtain ⟨hc1, hf1⟩ := bcell hb1; have hz1 := hb1.size; (try simp only [World.size_alloc, size_drewN, World.size_setCell] at hz1 hc1 hf1); have hl1_0 := far (show w.heap.size < w1.heap.size by omega); have hl1_1 := far (show w.heap.size + 1 < w1.heap.size by omega); have hl1_2 := far (show w.heap.size + 1 + 1 < w1.heap.size by omega)
      go_wp2_with fail
      (refine bodyPost_ret (v := .tuple #[fr (0, 0), .int .i64 1]) (by simp only [results, Try.results16, fr]; go_simp) rfl ⟨rfl, ?_⟩; (repeat' (first | (with_reducible exact Below.refl _ _) | (with_reducible assumption) | (with_reducible refine below_drewN ?_ _) | (with_reducible refine Below.drew ?_) | (with_reducible refine Below.alloc ?_ ?_ _) | (with_reducible refine Below.setCell ?_ ?_ _) | (with_reducible refine via (by with_reducible assumption) ?_ ?_) | go_size)))
    · have hq1 : plainB c d = false := by simpa [hp1] using hp
      go_enter Try.func16, Try.ntmps16
      go_wp2_with fail
      refine (l19Ok_c (a, b) _ h1).mono ?_
      rintro e w1 ⟨rfl, hb1⟩
      obtain ⟨hc1, hf1⟩ := bcell hb1; have hz1 := hb1.size; (try simp only [World.size_alloc, size_drewN, World.size_setCell] at hz1 hc1 hf1); have hl1_0 := far (show w.heap.size < w1.heap.size by omega); have hl1_1 := far (show w.heap.size + 1 < w1.heap.size by omega); have hl1_2 := far (show w.heap.size + 1 + 1 < w1.heap.size by omega)
      go_wp2_with fail
      refine (l19Ok_c (c, d) _ h2).mono ?_
      rintro e w2 ⟨rfl, hb2⟩
      obtain ⟨hc2, hf2⟩ := bcell hb2; have hz2 := hb2.size; (try simp only [World.size_alloc, size_drewN, World.size_setCell] at hz2 hc2 hf2); have hl2_0 := far (show w.heap.size < w2.heap.size by omega); have hl2_1 := far (show w.heap.size + 1 < w2.heap.size by omega); have hl2_2 := far (show w.heap.size + 1 + 1 < w2.heap.size by omega)
      go_wp2_with fail
      (refine bodyPost_ret (v := .tuple #[fr (0, 0), .int .i64 1]) (by simp only [results, Try.results16, fr]; go_simp) rfl ⟨rfl, ?_⟩; (repeat' (first | (with_reducible exact Below.refl _ _) | (with_reducible assumption) | (with_reducible refine below_drewN ?_ _) | (with_reducible refine Below.drew ?_) | (with_reducible refine Below.alloc ?_ ?_ _) | (with_reducible refine Below.setCell ?_ ?_ _) | (with_reducible refine via (by with_reducible assumption) ?_ ?_) | go_size)))

end Go.Proofs.Ytphckllloiogjaa
