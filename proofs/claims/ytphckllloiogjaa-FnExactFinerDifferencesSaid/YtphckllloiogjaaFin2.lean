/- Contracts: the reference's value of a polynomial at a fraction. -/
import Derived.Test.YtphckllloiogjaaFin1
set_option linter.unusedVariables false
set_option linter.unusedSimpArgs false
namespace Go.Proofs.Ytphckllloiogjaa
open Go.RowKit

theorem at_bd {ds : List Int} {num den : Int} (hs : ∀ k, (ds.getD k 0).natAbs ≤ 100000 * 2 ^ k) (hn : -120 ≤ num ∧ num ≤ 120) (hd : 1 ≤ den ∧ den ≤ 20) (n k : Nat) (hn6 : n ≤ 6) (hk : k ≤ n) :
    (pnum ds num den k * rst den k (n - k)).natAbs ≤ 1000000000000000000 := by
  have h1 := pnum_bd (U := U1) (fun j => U1_ok hn hd j) hd hs k
  have h2 := (rst_bd hd (n - k) k).2
  have h3 := (tab2 n (by omega) k (by omega) hk).1
  rw [Int.natAbs_mul]
  exact Nat.le_trans (Nat.mul_le_mul h1 h2) h3
theorem tm_bd {ds : List Int} {num den : Int} (hs : ∀ k, (ds.getD k 0).natAbs ≤ 100000 * 2 ^ k) (hn : -120 ≤ num ∧ num ≤ 120) (hd : 1 ≤ den ∧ den ≤ 20) (n k : Nat) (hn6 : n ≤ 6) (hk : k < n) :
    (ds.getD k 0 * (abv num den k * rst den (k + 1) (n - (k + 1)))).natAbs ≤ 1000000000000000000 ∧ (abv num den k * rst den (k + 1) (n - (k + 1))).natAbs ≤ 1000000000000000000 := by
  have h1 := abv_bd (U := U1) (fun j => U1_ok hn hd j) k
  have h2 := (rst_bd hd (n - (k + 1)) (k + 1)).2
  have h3 := tab2 n (by omega) k (by omega) (by omega)
  rw [Int.natAbs_mul, Int.natAbs_mul]
  have h4 := Nat.mul_le_mul h1 h2
  refine ⟨?_, Nat.le_trans h4 (h3.2.2 hk)⟩
  have h5 := Nat.mul_le_mul (hs k) h4
  rw [← Nat.mul_assoc (100000 * 2 ^ k)] at h5
  exact Nat.le_trans h5 (h3.2.1 hk)
/-- the next term, by a division without rest -/
theorem tm_step {num den : Int} (hd : 1 ≤ den ∧ den ≤ 20) (n k : Nat) (hk : k + 1 < n) :
    Int.tdiv (abv num den k * rst den (k + 1) (n - (k + 1))) (((k : Int) + 1) * den) * (num - (k : Int) * den) = abv num den (k + 1) * rst den (k + 1 + 1) (n - (k + 1 + 1)) := by
  obtain ⟨m, hm⟩ : ∃ m, n - (k + 1) = m + 1 := ⟨n - (k + 1) - 1, by omega⟩
  rw [hm, show n - (k + 1 + 1) = m by omega, rst, fk_succ, abv]
  have h1 : ((k : Int) + 1) * den = den * ((k : Int) + 1) := Int.mul_comm _ _
  have h2 : den * ((k : Int) + 1) ≠ 0 := by
    have := Int.mul_pos (show 0 < den by omega) (show 0 < (k : Int) + 1 by omega)
    omega
  rw [h1]
  generalize den * ((k : Int) + 1) = q at *
  rw [show abv num den k * (q * rst den (k + 1 + 1) m) = abv num den k * rst den (k + 1 + 1) m * q by rw [Int.mul_comm q, Int.mul_assoc], Int.mul_tdiv_cancel _ h2, Int.mul_right_comm]
theorem sm_step (ds : List Int) (num den : Int) (n k : Nat) (hk : k < n) :
    pnum ds num den k * rst den k (n - k) + ds.getD k 0 * (abv num den k * rst den (k + 1) (n - (k + 1))) = pnum ds num den (k + 1) * rst den (k + 1) (n - (k + 1)) := by
  obtain ⟨m, hm⟩ : ∃ m, n - k = m + 1 := ⟨n - k - 1, by omega⟩
  rw [hm, show n - (k + 1) = m by omega, rst, pnum, Int.add_mul, Int.mul_assoc, Int.mul_assoc]

set_option maxRecDepth 100000 in
set_option maxHeartbeats 4000000 in
theorem l19At_c (A : Option Addr) (n c : Nat) (ds : List Int) (num den : Int) (w : World) (hn : ds.length = n) (h1 : 1 ≤ n) (hm : n ≤ 6) (hr : Rd w w.heap.size 1 icell A ds) (hs : ∀ k, (ds.getD k 0).natAbs ≤ 100000 * 2 ^ k) (hnum : -120 ≤ num ∧ num ≤ 120) (hden : 1 ≤ den ∧ den ≤ 20) :
    Calls Try.prog 68 #[.slice A n c, .int .i64 num, .int .i64 den] w fun e w' => e = .returned (fr (low (pnum ds num den n) (blw den n))) ∧ Below w.heap.size w w' := by
  have HN := Lib.hid hn; clear hn
  have HS := Lib.hid hs; clear hs
  go_enter Try.func68, Try.ntmps68
  go_wp2_with fail
  go_loopw [8, 9] (fun x i wr => ∃ (j : Nat) (b : Int), 1 ≤ j ∧ j ≤ n ∧ i = .int .i64 (j : Int) ∧ x = .int .i64 b ∧ b = blw den j ∧ wr = w.alloc (.cells #[.int .i64 0, .int .i64 0] 23)) (fun _ i _ => (n + 1) - (intOf i).toNat)
  case atStart => exact ⟨1, 1, Nat.le_refl _, h1, rfl, rfl, (blw_one den).symm, rfl⟩
  case round =>
    obtain ⟨j, b, hj1, hj, rfl, rfl, hb, rfl⟩ := hrel
    by_cases hlt : j < n
    · have hM := blw_bd hden (j + 1) (by omega)
      have hM0 := blw_bd hden j (by omega)
      obtain ⟨M, hMM⟩ : ∃ x, blw den (j + 1) = x := ⟨_, rfl⟩
      rw [hMM] at hM
      rw [← hb] at hM0
      have HW2 := Lib.hid (show wrap64 (b * wrap64 ((j : Int) * den)) = M by
        have h1 := Int.mul_le_mul_of_nonneg_left hden.2 (show 0 ≤ (j : Int) by omega)
        have h2 := Int.mul_nonneg (show 0 ≤ (j : Int) by omega) (show 0 ≤ den by omega)
        rw [wrap_in ((j : Int) * den) (by omega), hb, show (blw den j) * ((j : Int) * den) = M by rw [← hMM, blw, fk, if_neg (by omega), Int.mul_comm (j : Int)], wrap_in M (by omega)])
      have HMM := Lib.hid hMM; clear hMM hb
      have p1 : (j : Int) ≤ (n : Int) - 1 := by omega
      go_wp2_with fail
      exact ⟨⟨j + 1, M, by omega, by omega, by go_num, ret_val HW2.out, HMM.out.symm, trivial⟩, by simp [intOf]; omega⟩
    · have hjn : j = n := by omega
      subst hjn
      have HB := Lib.hid hb; clear hb
      have p1 : ¬ (j : Int) ≤ (j : Int) - 1 := by omega
      go_wp2_with fail
      go_loopw [10, 11, 12] (fun s t i wr => ∃ (k : Nat) (x y : Int), k ≤ j ∧ i = .int .i64 (k : Int) ∧ s = .int .i64 x ∧ t = .int .i64 y ∧ x = pnum ds num den k * rst den k (j - k) ∧ (k < j → y = abv num den k * rst den (k + 1) (j - (k + 1))) ∧ wr = w.alloc (.cells #[.int .i64 0, .int .i64 0] 23)) (fun _ _ i _ => (j + 1) - (intOf i).toNat)
      case atStart =>
        refine ⟨0, 0, b, Nat.zero_le _, rfl, rfl, rfl, by rw [pnum, Int.zero_mul], fun _ => ?_, rfl⟩
        have h2 := blw_rst den (j - 1) 1
        rw [blw_one, Int.one_mul, show 1 + (j - 1) = j by omega] at h2
        rw [abv, Int.one_mul, HB.out]; exact h2
      case round =>
        obtain ⟨k, x, y, hk, rfl, rfl, rfl, hx, hy, rfl⟩ := hrel
        by_cases hlt : k < j
        · obtain ⟨bk, off, rfl, hbl, hc⟩ := hr.ints' (by rw [HN.out]; omega)
          obtain ⟨d, ed⟩ := get_ex ds k (by rw [HN.out]; omega)
          have g1 := hc k d ed
          have hd0 : ds.getD k 0 = d := by rw [List.getD_eq_getElem?_getD, ed]; rfl
          clear hc ed
          have hy' := hy hlt
          obtain ⟨q1, q2⟩ := tm_bd HS.out hnum hden j k hm hlt
          have q3 := at_bd HS.out hnum hden j k hm hk
          have q4 := at_bd HS.out hnum hden j (k + 1) hm hlt
          have hsm := sm_step ds num den j k hlt
          rw [← hx, ← hy', hd0] at hsm
          rw [← hx] at q3
          rw [hd0, ← hy'] at q1
          rw [← hsm] at q4
          have HX1 := Lib.hid (show wrap64 (x + wrap64 (d * y)) = x + d * y by rw [wrap_in (d * y) (by omega), wrap_in (x + d * y) (by omega)])
          have HSM := Lib.hid hsm; clear hsm
          have y1 := far (show bk < w.heap.size by omega)
          have hdk := Int.mul_pos (show 0 < (k : Int) + 1 by omega) (show 0 < den by omega)
          have hk6 : (k : Int) + 1 ≤ 6 := by omega
          have hdk2 := Int.mul_le_mul hk6 hden.2 (show 0 ≤ den by omega) (by omega)
          have hkd := Int.mul_nonneg (show 0 ≤ (k : Int) by omega) (show 0 ≤ den by omega)
          have hkd2 := Int.mul_le_mul (show (k : Int) ≤ 6 by omega) hden.2 (show 0 ≤ den by omega) (by omega)
          have e1 : IntKind.i64.wrap (((k : Int) + 1) * den) = ((k : Int) + 1) * den := IntWalk.i64_in _ (by omega)
          have e2 : IntKind.i64.wrap ((k : Int) * den) = (k : Int) * den := IntWalk.i64_in _ (by omega)
          have n1 : ¬ ((k : Int) + 1) * den = 0 := by omega
          have p1 : (k : Int) ≤ (j : Int) - 1 := by omega
          have HT := Lib.hid (show k + 1 < j → wrap64 (wrap64 (y.tdiv (((k : Int) + 1) * den)) * (num - (k : Int) * den)) = abv num den (k + 1) * rst den (k + 1 + 1) (j - (k + 1 + 1)) from fun h => by
            have h1 := tm_step (num := num) hden j k h
            have h2 := (tm_bd HS.out hnum hden j (k + 1) hm h).2
            rw [← hy'] at h1 q2
            have h3 : (y.tdiv (((k : Int) + 1) * den)).natAbs ≤ y.natAbs := by rw [Int.natAbs_tdiv]; exact Nat.div_le_self _ _
            rw [wrap_in (y.tdiv (((k : Int) + 1) * den)) (by omega), h1, wrap_in _ (by omega)])
          have HY := Lib.hid hy; clear hy
          have HY' := Lib.hid hy'; clear hy'
          have HX := Lib.hid hx; clear hx
          go_wp2_with fail
          exact ⟨⟨k + 1, x + d * y, _, by omega, by go_num, rfl, rfl, HSM.out, fun h => HT.out h, trivial⟩, by simp [intOf]; omega⟩
        · have hkj : k = j := by omega
          subst hkj
          have q3 := at_bd HS.out hnum hden k k hm hk
          rw [Nat.sub_self, rst, Int.mul_one] at q3 hx
          have hM := blw_bd hden k (by omega)
          have HX := Lib.hid hx; clear hx hy
          have p1 : ¬ (k : Int) ≤ (k : Int) - 1 := by omega
          have q5 : x.natAbs ≤ 1000000000000000000 := by rw [HX.out]; exact q3
          have q6 : 1 ≤ b ∧ b ≤ 384000000 := by rw [HB.out]; exact hM
          go_wp2_with fail
          refine (l19Make_c x b _ (by omega) (by omega)).mono ?_
          rintro e w1 ⟨rfl, hb1⟩
          obtain ⟨hc1, hf1⟩ := bcell hb1; have hz1 := hb1.size; (try simp only [World.size_alloc, size_drewN, World.size_setCell, World.size_drew] at hz1 hc1 hf1); have hl1_0 := far (show w.heap.size < w1.heap.size by omega)
          simp only [fr]
          go_wp2_with fail
          refine bodyPost_ret (v := fr (low x b)) (by simp only [results, Try.results68, fr]; go_simp) rfl ⟨by rw [← HX.out, ← HB.out], ?_⟩
          (repeat' (first | (with_reducible exact Below.refl _ _) | (with_reducible assumption) | (with_reducible refine below_drewN ?_ _) | (with_reducible refine Below.drew ?_) | (with_reducible refine Below.alloc ?_ ?_ _) | (with_reducible refine Below.setCell ?_ ?_ _) | (with_reducible refine via (by with_reducible assumption) ?_ ?_) | go_size))

end Go.Proofs.Ytphckllloiogjaa
