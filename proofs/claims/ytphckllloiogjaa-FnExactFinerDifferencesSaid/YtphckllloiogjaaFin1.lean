/- Contracts: sums over one denominator; the value of a polynomial at a fraction, both sides. -/
import Derived.Test.YtphckllloiogjaaFinMath
import Derived.Test.YtphckllloiogjaaFracAdd
import Derived.Test.YtphckllloiogjaaLawInts
import Derived.Deep.DeepCutAuto
set_option linter.unusedVariables false
set_option linter.unusedSimpArgs false
namespace Go.Proofs.Ytphckllloiogjaa
open Go.RowKit

theorem suml_c (X Y M : Int) (w : World) (hM : 1 ≤ M ∧ M ≤ 4611686018427387903) (hX : X.natAbs ≤ 4611686018427387903) (hY : Y.natAbs ≤ 4611686018427387903) :
    Calls Try.prog 52 #[fr (low X M), fr (low Y M)] w fun e w' => e = .returned (fr (low (X + Y) M)) ∧ Below w.heap.size w w' := by
  have h1 := low_den_pos X M (by omega)
  have h2 := low_den_pos Y M (by omega)
  have h3 := low_den_le X M (by omega)
  have h4 := low_den_le Y M (by omega)
  have p1 := part_le X M (low Y M).2 (by omega) h2 (low_dvd Y M)
  have p2 := part_le Y M (low X M).2 (by omega) h1 (low_dvd X M)
  rw [Int.gcd_comm] at p2
  rw [← fsum_low X Y M (by omega)]
  exact sum_c (low X M) (low Y M) w (by omega) (by omega) (by omega) (by omega) ⟨by omega, by omega⟩ ⟨by omega, by omega⟩ ⟨by omega, by omega⟩

/-- a fraction in two cells of the call's own -/
def FrAt (w : World) (b : Nat) (p : Int × Int) : Prop := w.cell? ⟨b, 0, none⟩ = some (.int .i64 p.1) ∧ w.cell? ⟨b, 1, none⟩ = some (.int .i64 p.2) ∧ w.frozen? ⟨b, 0, none⟩ = false ∧ w.frozen? ⟨b, 1, none⟩ = false
theorem FrAt.below {w w' : World} {B b : Nat} {p : Int × Int} (h : FrAt w b p) (hb : Below B w w') (hB : b < B) : FrAt w' b p := by
  obtain ⟨h0, h1, h2, h3⟩ := h
  obtain ⟨hc, hf⟩ := bcell hb
  exact ⟨by rw [hc _ _ hB]; exact h0, by rw [hc _ _ hB]; exact h1, by rw [hf _ _ hB]; exact h2, by rw [hf _ _ hB]; exact h3⟩

/-- what the state's numbers are bounded by -/
theorem pol_bd {ds : List Int} {num den : Int} (hs : ∀ k, (ds.getD k 0).natAbs ≤ 100000 * 2 ^ k) (hn : -120 ≤ num ∧ num ≤ 120) (hd : 1 ≤ den ∧ den ≤ 20) (k : Nat) (hk : k < 6) :
    (abv num den k).natAbs ≤ 1000000000000000000 ∧ (ds.getD k 0 * abv num den k).natAbs ≤ 4000000000000000000 ∧ (pnum ds num den k * fk den k).natAbs ≤ 1000000000000000000 := by
  have h1 := abv_bd (U := U1) (fun j => U1_ok hn hd j) k
  have h2 := tab1 k (by omega)
  have h3 := pnum_bd (U := U1) (fun j => U1_ok hn hd j) hd hs (k + 1)
  have h4 := tab1 (k + 1) (by omega)
  have h5 := pnum_bd (U := U1) (fun j => U1_ok hn hd j) hd hs k
  have h6 := (fk_bd hd k).2
  refine ⟨by omega, ?_, ?_⟩
  · rw [Int.natAbs_mul]
    have := Nat.mul_le_mul (hs k) h1
    have := h2.2.2 hk
    omega
  · rw [Int.natAbs_mul]
    have h7 := Nat.mul_le_mul h5 h6
    have h8 : Pbd U1 k * Fb k ≤ Pbd U1 (k + 1) := by rw [Pbd]; omega
    omega

set_option maxRecDepth 100000 in
set_option maxHeartbeats 4000000 in
theorem valueAt_c (A : Option Addr) (n c : Nat) (ds : List Int) (num den : Int) (w : World) (hn : ds.length = n) (hm : n ≤ 6) (hr : Rd w w.heap.size 1 icell A ds) (hs : ∀ k, (ds.getD k 0).natAbs ≤ 100000 * 2 ^ k) (hnum : -120 ≤ num ∧ num ≤ 120) (hden : 1 ≤ den ∧ den ≤ 20) :
    Calls Try.prog 70 #[.slice A n c, .int .i64 num, .int .i64 den] w fun e w' => e = .returned (fr (low (pnum ds num den n) (blw den n))) ∧ Below w.heap.size w w' := by
  have HN := Lib.hid hn; clear hn
  have HS := Lib.hid hs; clear hs
  go_enter Try.func70, Try.ntmps70
  go_wp2_with fail
  go_loopw [8, 9, 15] (fun x y i wr => ∃ (k : Nat) (a b : Int), k ≤ n ∧ i = .int .i64 k ∧ x = .int .i64 a ∧ y = .int .i64 b ∧ a = abv num den (k - 1) ∧ b = blw den k ∧ Below w.heap.size w wr ∧ w.heap.size + 1 < wr.heap.size ∧ FrAt wr (w.heap.size + 1) (low (pnum ds num den k) (blw den k)) ∧ FrAt wr w.heap.size (0, 0)) (fun _ _ i _ => n - (intOf i).toNat)
  case atStart =>
    refine ⟨0, 1, 1, Nat.zero_le _, rfl, rfl, rfl, rfl, rfl, by (repeat' (first | (with_reducible exact Below.refl _ _) | (with_reducible assumption) | (with_reducible refine below_drewN ?_ _) | (with_reducible refine Below.drew ?_) | (with_reducible refine Below.alloc ?_ ?_ _) | (with_reducible refine Below.setCell ?_ ?_ _) | (with_reducible refine via (by with_reducible assumption) ?_ ?_) | go_size)), by simp [go_sem], ?_, ?_⟩
    · rw [show low (pnum ds num den 0) (blw den 0) = (0, 1) from low_one 0]
      unfold FrAt; simp [go_sem]
    · unfold FrAt; simp [go_sem]
  case round =>
    obtain ⟨k, a, b, hk, rfl, rfl, rfl, ha, hbb, hb, hlt1, hf1, hf0⟩ := hrel
    have HF1 := Lib.hid hf1; clear hf1
    have HF0 := Lib.hid hf0; clear hf0
    have hbs := hb.size
    by_cases hlt : k < n
    · obtain ⟨bk, off, rfl, hbl, hc⟩ := (hr.below hb).ints' (by rw [HN.out]; omega)
      obtain ⟨d, ed⟩ := get_ex ds k (by rw [HN.out]; omega)
      have g1 := hc k d ed
      have hd0 : ds.getD k 0 = d := by rw [List.getD_eq_getElem?_getD, ed]; rfl
      obtain ⟨q1, q2, q3⟩ := pol_bd HS.out hnum hden k (by omega)
      rw [hd0] at q2
      have hM := blw_bd hden (k + 1) (by omega)
      have hM0 := blw_bd hden k (by omega)
      clear hc ed
      obtain ⟨a2, ha2⟩ : ∃ x, abv num den k = x := ⟨_, rfl⟩
      obtain ⟨M, hMM⟩ : ∃ x, blw den (k + 1) = x := ⟨_, rfl⟩
      obtain ⟨X, hX⟩ : ∃ x, pnum ds num den k * fk den k = x := ⟨_, rfl⟩
      have hP : pnum ds num den (k + 1) = X + d * a2 := by rw [pnum, hX, hd0, ha2]
      have hlow : low (pnum ds num den k) (blw den k) = low X M := by
        rw [← hX, ← hMM, blw, Int.mul_comm _ (fk den k), Int.mul_comm _ (fk den k), low_scale _ _ _ (by have := (fk_bd hden k).1; omega)]
      have hlow2 : low (pnum ds num den (k + 1)) (blw den (k + 1)) = low (X + d * a2) M := by rw [hP, hMM]
      rw [ha2] at q1 q2
      rw [hX] at q3
      rw [hMM] at hM
      have e3 : IntKind.i64.wrap (d * a2) = d * a2 := IntWalk.i64_in _ (by omega)
      have hcase : (k = 0 ∧ a = a2 ∧ b = M) ∨ ∃ j : Nat, k = j + 1 ∧ a * (num - (j : Int) * den) = a2 ∧ b * (den * ((j : Int) + 1)) = M := by
        rcases Nat.eq_zero_or_pos k with h | h
        · subst h
          exact .inl ⟨rfl, by rw [ha, ← ha2], by rw [hbb, ← hMM, blw]; simp [blw, fk]⟩
        · obtain ⟨j, rfl⟩ : ∃ j, k = j + 1 := ⟨k - 1, by omega⟩
          refine .inr ⟨j, rfl, ?_, ?_⟩
          · rw [ha, Nat.add_sub_cancel, ← ha2, abv]
          · rw [hbb, ← hMM]; conv => rhs; rw [blw, fk_succ]
      obtain ⟨p0, p1, p2, p3⟩ := HF1.out
      rw [hlow] at p0 p1
      obtain ⟨o0, o1, o2, o3⟩ := HF0.out
      have HL2 := Lib.hid hlow2; clear hlow2 hlow hP
      have HA := Lib.hid ha; have HB := Lib.hid hbb; have HX := Lib.hid hX; have HMM := Lib.hid hMM; have HA2 := Lib.hid ha2
      clear ha hbb hX hMM ha2 HF1 HF0
      have y1 := far (show bk < wr.heap.size by omega)
      have y2 := far (show w.heap.size < wr.heap.size by omega)
      have y3 := far (show w.heap.size + 1 < wr.heap.size by omega)
      rcases hcase with ⟨hk0, rfl, rfl⟩ | ⟨j, rfl, e1, e2⟩
      · have hk1 : (k : Int) ≤ 0 := by omega
        have HK := Lib.hid hk0; clear hk0
        go_upto_region 8 with fail
        go_region_with (first
          | (go_at_call 47; refine (lowest_c (d * a) b _ (by omega) (by omega)).mono ?_; rintro e w1 ⟨rfl, hb1⟩; obtain ⟨hc1, hfr1⟩ := bcell hb1; have hz1 := hb1.size; (try simp only [World.size_alloc, size_drewN, World.size_setCell, World.size_drew] at hz1 hc1 hfr1); have hq1 := far (show bk < w1.heap.size by omega); have hq2 := far (show w.heap.size + 1 < w1.heap.size by omega); have hq3 := far (show w.heap.size < w1.heap.size by omega); simp only [fr])
          | (go_at_call 52; refine (suml_c X (d * a) b _ (by omega) (by omega) (by omega)).mono ?_; rintro e w2 ⟨rfl, hb2⟩; obtain ⟨hc2, hfr2⟩ := bcell hb2; have hz2 := hb2.size; (try simp only [World.size_alloc, size_drewN, World.size_setCell, World.size_drew] at hz2 hc2 hfr2); have hq4 := far (show w.heap.size + 1 < w2.heap.size by omega); have hq5 := far (show w.heap.size < w2.heap.size by omega); simp only [fr]))
        all_goals
          go_wp2_with fail
          (first | (refine ⟨?_, ?_⟩; rotate_left; (first | (simp [intOf]; done) | (simp [intOf]; omega)); (repeat apply Exists.intro); refine ⟨?_, rfl⟩; exact ⟨k + 1, a, b, by omega, by go_num, rfl, rfl, HA2.out.symm, HMM.out.symm, by (repeat' (first | (with_reducible exact Below.refl _ _) | (with_reducible assumption) | (with_reducible refine below_drewN ?_ _) | (with_reducible refine Below.drew ?_) | (with_reducible refine Below.alloc ?_ ?_ _) | (with_reducible refine Below.setCell ?_ ?_ _) | (with_reducible refine via (by with_reducible assumption) ?_ ?_) | go_size)), by go_size, by rw [HL2.out]; unfold FrAt; simp [go_sem, *], by unfold FrAt; simp [go_sem, *]⟩) | exact ⟨⟨k + 1, a, b, by omega, by go_num, rfl, rfl, HA2.out.symm, HMM.out.symm, by (repeat' (first | (with_reducible exact Below.refl _ _) | (with_reducible assumption) | (with_reducible refine below_drewN ?_ _) | (with_reducible refine Below.drew ?_) | (with_reducible refine Below.alloc ?_ ?_ _) | (with_reducible refine Below.setCell ?_ ?_ _) | (with_reducible refine via (by with_reducible assumption) ?_ ?_) | go_size)), by go_size, by rw [HL2.out]; unfold FrAt; simp [go_sem, *], by unfold FrAt; simp [go_sem, *]⟩, by first | (simp [intOf]; done) | (simp [intOf]; omega)⟩)
      · have hj5 : j ≤ 5 := by omega
        have HW1 := Lib.hid (show wrap64 (a * wrap64 (num - wrap64 ((j : Int) * den))) = a2 by
          have h1 := Int.mul_le_mul_of_nonneg_left hden.2 (show 0 ≤ (j : Int) by omega)
          have h2 := Int.mul_nonneg (show 0 ≤ (j : Int) by omega) (show 0 ≤ den by omega)
          rw [wrap_in ((j : Int) * den) (by omega), wrap_in (num - (j : Int) * den) (by omega), e1, wrap_in a2 (by omega)])
        have HW2 := Lib.hid (show wrap64 (b * wrap64 (den * ((j : Int) + 1))) = M by
          have h1 := Int.mul_le_mul_of_nonneg_right hden.2 (show 0 ≤ (j : Int) + 1 by omega)
          have h2 := Int.mul_nonneg (show 0 ≤ den by omega) (show 0 ≤ (j : Int) + 1 by omega)
          rw [wrap_in (den * ((j : Int) + 1)) (by omega), e2, wrap_in M (by omega)])
        clear e1 e2
        go_upto_region 8 with fail
        rw [HW1.out, HW2.out]
        go_region_with (first
          | (go_at_call 47; refine (lowest_c (d * a2) M _ (by omega) (by omega)).mono ?_; rintro e w1 ⟨rfl, hb1⟩; obtain ⟨hc1, hfr1⟩ := bcell hb1; have hz1 := hb1.size; (try simp only [World.size_alloc, size_drewN, World.size_setCell, World.size_drew] at hz1 hc1 hfr1); have hq1 := far (show bk < w1.heap.size by omega); have hq2 := far (show w.heap.size + 1 < w1.heap.size by omega); have hq3 := far (show w.heap.size < w1.heap.size by omega); simp only [fr])
          | (go_at_call 52; refine (suml_c X (d * a2) M _ (by omega) (by omega) (by omega)).mono ?_; rintro e w2 ⟨rfl, hb2⟩; obtain ⟨hc2, hfr2⟩ := bcell hb2; have hz2 := hb2.size; (try simp only [World.size_alloc, size_drewN, World.size_setCell, World.size_drew] at hz2 hc2 hfr2); have hq4 := far (show w.heap.size + 1 < w2.heap.size by omega); have hq5 := far (show w.heap.size < w2.heap.size by omega); simp only [fr]))
        all_goals
          go_wp2_with fail
          (first | (refine ⟨?_, ?_⟩; rotate_left; (first | (simp [intOf]; done) | (simp [intOf]; omega)); (repeat apply Exists.intro); refine ⟨?_, rfl⟩; exact ⟨j + 1 + 1, a2, M, by omega, by go_num, rfl, rfl, HA2.out.symm, HMM.out.symm, by (repeat' (first | (with_reducible exact Below.refl _ _) | (with_reducible assumption) | (with_reducible refine below_drewN ?_ _) | (with_reducible refine Below.drew ?_) | (with_reducible refine Below.alloc ?_ ?_ _) | (with_reducible refine Below.setCell ?_ ?_ _) | (with_reducible refine via (by with_reducible assumption) ?_ ?_) | go_size)), by go_size, by rw [HL2.out]; unfold FrAt; simp [go_sem, *], by unfold FrAt; simp [go_sem, *]⟩) | exact ⟨⟨j + 1 + 1, a2, M, by omega, by go_num, rfl, rfl, HA2.out.symm, HMM.out.symm, by (repeat' (first | (with_reducible exact Below.refl _ _) | (with_reducible assumption) | (with_reducible refine below_drewN ?_ _) | (with_reducible refine Below.drew ?_) | (with_reducible refine Below.alloc ?_ ?_ _) | (with_reducible refine Below.setCell ?_ ?_ _) | (with_reducible refine via (by with_reducible assumption) ?_ ?_) | go_size)), by go_size, by rw [HL2.out]; unfold FrAt; simp [go_sem, *], by unfold FrAt; simp [go_sem, *]⟩, by first | (simp [intOf]; done) | (simp [intOf]; omega)⟩)
    · have hkn : k = n := by omega
      subst hkn
      obtain ⟨p0, p1, p2, p3⟩ := HF1.out
      obtain ⟨o0, o1, o2, o3⟩ := HF0.out
      have y2 := far (show w.heap.size < wr.heap.size by omega)
      have y3 := far (show w.heap.size + 1 < wr.heap.size by omega)
      go_wp2_with fail
      refine bodyPost_ret (v := fr (low (pnum ds num den k) (blw den k))) (by simp only [results, Try.results70, fr]; go_simp) rfl ⟨rfl, ?_⟩
      (repeat' (first | (with_reducible exact Below.refl _ _) | (with_reducible assumption) | (with_reducible refine below_drewN ?_ _) | (with_reducible refine Below.drew ?_) | (with_reducible refine Below.alloc ?_ ?_ _) | (with_reducible refine Below.setCell ?_ ?_ _) | (with_reducible refine via (by with_reducible assumption) ?_ ?_) | go_size))

end Go.Proofs.Ytphckllloiogjaa
