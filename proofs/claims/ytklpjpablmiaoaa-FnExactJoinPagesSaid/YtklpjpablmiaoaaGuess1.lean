/- Contracts: guesses by neighbours, both sides. -/
import Derived.Test.YtklpjpablmiaoaaPage3
import Derived.Test.YtklpjpablmiaoaaGuessMath
import Derived.Lib.MinMax
set_option linter.unusedVariables false
set_option linter.unusedSimpArgs false
namespace Go.Proofs.Ytklpjpablmiaoaa
open Go.RowKit

theorem wrap_in1 (x : Int) (h : -9223372036854775808 ≤ x ∧ x ≤ 9223372036854775807) : wrap64 x = x := by
  rw [← IntWalk.i64_left]; exact IntWalk.i64_in _ (by omega)

set_option maxHeartbeats 1000000 in
theorem l17Choose_c (n k : Nat) (w : World) (hn : n ≤ 100000) (hk : k ≤ 8) : Calls Try.prog 69 #[.int .i64 n, .int .i64 k] w fun e w' => e = .returned (.int .i64 (cb n k)) ∧ w = w' := by
  by_cases hkn : n < k
  · have hz : cb n k = 0 := by unfold cb; rw [ch_big n k hkn]; rfl
    rw [hz]
    have q1 : (n : Int) < (k : Int) := by omega
    go_enter Try.func69, Try.ntmps69
    go_wp2
    go_ret
    exact ⟨rfl, rfl⟩
  · have q1 : ¬ (n : Int) < (k : Int) := by omega
    obtain ⟨m, hm⟩ : ∃ m, n - k = m := ⟨_, rfl⟩
    have hm' : (n : Int) - (k : Int) = (m : Int) := by omega
    have HM := Lib.hid hm'; clear hm'
    go_enter Try.func69, Try.ntmps69
    go_wp2
    go_loop [5, 6] (fun o i => ∃ j : Nat, j ≤ k ∧ i = .int .i64 ((j : Int) + 1) ∧ o = .int .i64 (ch (m + j) j : Int) ∧ ch (m + j) j ≤ 1000000000000) (fun _ i => (k + 1) - (intOf i).toNat)
    case atStart => exact ⟨0, Nat.zero_le _, rfl, by rw [ch_zero]; rfl, by rw [ch_zero]; omega⟩
    case round =>
      obtain ⟨j, hj, rfl, rfl, hle⟩ := hrel
      by_cases hlt : j < k
      · obtain ⟨v, hv⟩ : ∃ v, ch (m + j) j = v := ⟨_, rfl⟩
        have hup := ch_up_int (m + j) j
        obtain ⟨u, hu⟩ : ∃ u, ch (m + j + 1) (j + 1) = u := ⟨_, rfl⟩
        rw [hv, hu] at hup
        rw [hv] at hle ⊢
        have HU := Lib.hid (show (v : Int) * ((n : Int) - k + ((j : Int) + 1)) / ((j : Int) + 1) = u by rw [show (n : Int) - k + ((j : Int) + 1) = ((m + j : Nat) : Int) + 1 by have := HM.out; omega]; exact hup)
        have hb0 := Int.mul_nonneg (show 0 ≤ (v : Int) by omega) (show 0 ≤ (n : Int) - k + ((j : Int) + 1) by omega)
        have hb1 := Int.mul_le_mul (show (v : Int) ≤ 1000000000000 by omega) (show (n : Int) - k + ((j : Int) + 1) ≤ 100000 by omega) (by omega) (by omega)
        have HV := Lib.hid hv; clear hv
        have HUU := Lib.hid hu; clear hu hup
        have p1 : (j : Int) + 1 ≤ (k : Int) := by omega
        have HBig : Hid (1000000000000 < u → cb n k = 1000000000001) := fun h => cb_up_full n k (j + 1) (by omega) (by omega) (by rw [show n - k + (j + 1) = m + j + 1 by omega, HUU.out]; exact h)
        go_upto_region 8 with fail
        rw [HU.out]
        by_cases hu1 : 1000000000000 < u
        · have HB := Lib.hid (HBig.out hu1)
          have hu2 : (1000000000000 : Int) < (u : Int) := by omega
          go_wp2
          go_ret
          exact ⟨ret_int HB.out.symm, rfl⟩
        · have hu2 : ¬ (1000000000000 : Int) < (u : Int) := by omega
          go_wp2
          go_round
          case rel => exact ⟨j + 1, by omega, by go_num, by rw [← HUU.out]; rfl, by rw [show m + (j + 1) = m + j + 1 by omega, HUU.out]; omega⟩
          case measure => simp [intOf]; omega
      · have hjk : j = k := by omega
        subst hjk
        have hnm : m + j = n := by omega
        have HE := Lib.hid (show (ch (m + j) j : Int) = cb n j by rw [hnm] at hle ⊢; exact (cb_up_end n j hle).symm)
        have p1 : ¬ (j : Int) + 1 ≤ (j : Int) := by omega
        clear hnm hm
        go_wp2
        go_ret
        exact ⟨ret_int HE.out, rfl⟩


set_option maxHeartbeats 1000000 in
theorem binomial_c (n k : Nat) (w : World) (hn : n ≤ 8) (hk : k ≤ n) : Calls Try.prog 70 #[.int .i64 n, .int .i64 k] w fun e w' => e = .returned (.int .i64 (ch n k : Int)) ∧ w = w' := by
  obtain ⟨m, hm⟩ : ∃ m : Nat, min k (n - k) = m := ⟨_, rfl⟩
  have HS := Lib.hid (show ch n m = ch n k by rw [← hm]; exact ch_sym n (by omega) k (by omega) hk)
  have hm1 : min (k : Int) ((n : Int) - (k : Int)) = (m : Int) := by omega
  have hmn : m ≤ n := by omega
  have HM := Lib.hid hm1; clear hm1 hm
  have q1 : ¬ (n : Int) < (k : Int) := by omega
  go_enter Try.func70, Try.ntmps70
  go_upto_region 4 with fail
  rw [HM.out]
  go_wp2
  go_loop [5, 16] (fun o i => ∃ j : Nat, j ≤ m ∧ i = .int .i64 (j : Int) ∧ o = .int .i64 (ch n j : Int)) (fun _ i => m - (intOf i).toNat)
  case atStart => exact ⟨0, Nat.zero_le _, rfl, by rw [ch_zero]; rfl⟩
  case round =>
    obtain ⟨j, hj, rfl, rfl⟩ := hrel
    by_cases hlt : j < m
    · have hd := ch_div_int n j (by omega)
      have hb := ch_small (k := j) hn
      obtain ⟨v, hv⟩ : ∃ v, ch n j = v := ⟨_, rfl⟩
      obtain ⟨u, hu⟩ : ∃ u, ch n (j + 1) = u := ⟨_, rfl⟩
      rw [hv] at hb ⊢
      rw [hv, hu] at hd
      have hb0 := Int.mul_nonneg (show 0 ≤ (v : Int) by omega) (show 0 ≤ (n : Int) - (j : Int) by omega)
      have hb1 := Int.mul_le_mul (show (v : Int) ≤ 256 by omega) (show (n : Int) - (j : Int) ≤ 8 by omega) (by omega) (by omega)
      have HD := Lib.hid hd; clear hd
      have HU := Lib.hid hu; clear hu hv
      go_upto_region 9 with fail
      rw [HD.out]
      go_wp2
      go_round
      case rel => exact ⟨j + 1, by omega, by go_num, by rw [← HU.out]⟩
      case measure => simp [intOf]; omega
    · have hjm : j = m := by omega
      subst hjm
      go_wp2
      go_ret
      exact ⟨ret_int (by rw [HS.out]), rfl⟩

theorem l17Choose_s (n k : Nat) (w : World) (hn : n ≤ 8) (hk : k ≤ n) : Calls Try.prog 69 #[.int .i64 n, .int .i64 k] w fun e w' => e = .returned (.int .i64 (ch n k : Int)) ∧ w = w' := by
  rw [← cb_up_end n k (by have := ch_small (k := k) hn; omega)]
  exact l17Choose_c n k w (by omega) (by omega)

theorem gv_eq {x y t v : Int} {q J : Nat} (h : (q : Int) * v = t) (hy : y = 1 ∨ y = -1) (hx : x.natAbs ≤ 256000000000000 * J) (ht : t.natAbs ≤ 256000000000000) (hq : q ≤ 256) (hJ : J ≤ 8) : wrap64 (x + wrap64 (wrap64 (y * q) * v)) = x + y * t := by
  rcases hy with rfl | rfl
  · rw [Int.one_mul, Int.one_mul, wrap_in1 (q : Int) (by omega), h, wrap_in1 t (by omega), wrap_in1 (x + t) (by omega)]
  · rw [show (-1 : Int) * (q : Int) = -(q : Int) by omega, wrap_in1 (-(q : Int)) (by omega), Int.neg_mul, h, wrap_in1 (-t) (by omega), wrap_in1 (x + -t) (by omega)]; omega

theorem nb_facts {row j order n : Nat} (h : ¬ row < order) (hj : j < order) (hr : row < n) (hm : n ≤ 1048576) (ho : order ≤ 8) : ∃ p : Nat, row - (j + 1) = p ∧ p < n ∧ (j : Int) + 1 ≤ (order : Int) ∧ IntKind.i64.wrap (-((j : Int) + 1)) = -((j : Int) + 1) ∧ IntKind.i64.wrap ((row : Int) + -((j : Int) + 1)) = (p : Int) ∧ (0 : Int) ≤ (p : Int) ∧ (p : Int) < (n : Int) := by
  obtain ⟨p, hp⟩ : ∃ p, row = p + (j + 1) := ⟨row - (j + 1), by omega⟩
  have h1 : IntKind.i64.wrap (-((j : Int) + 1)) = -((j : Int) + 1) := IntWalk.i64_in _ (by omega)
  have h2 : (row : Int) + -((j : Int) + 1) = (p : Int) := by omega
  have h3 : IntKind.i64.wrap (p : Int) = (p : Int) := IntWalk.i64_in _ (by omega)
  exact ⟨p, by omega, by omega, by omega, h1, by rw [h2]; exact h3, by omega, by omega⟩

set_option maxHeartbeats 2000000 in
theorem guess_c (A : Option Addr) (n c : Nat) (l : List Int) (row order : Nat) (B : Nat) (w : World) (hn : l.length = n) (hm : n ≤ 1048576) (hr : Rd w B 1 icell A l) (hs : smallV l) (ho : 1 ≤ order ∧ order ≤ 8) (hlen : 2 * order + 1 ≤ n) (hrow : row < n) :
    Calls Try.prog 60 #[.slice A n c, .int .i64 row, .int .i64 order] w fun e w' => e = .returned (.int .i64 (gss l row order)) ∧ ∃ m, w' = w.drewN m := by
  have HN := Lib.hid hn; clear hn
  have HS := Lib.hid hs; clear hs
  by_cases hw : row < order
  · have q1 : (row : Int) < (order : Int) := by omega
    go_enter Try.func60, Try.ntmps60
    go_wp2
    go_loopw [8, 9, 10] (fun s g i wr => ∃ (j : Nat) (x y : Int), j ≤ order ∧ i = .int .i64 ((j : Int) + 1) ∧ s = .int .i64 x ∧ g = .int .i64 y ∧ x = gsum l row order j ∧ y = sgn (j + 1) ∧ ∃ m, wr = w.drewN m) (fun _ _ i _ => (order + 1) - (intOf i).toNat)
    case atStart => exact ⟨0, 0, 1, Nat.zero_le _, rfl, rfl, rfl, rfl, rfl, 0, rfl⟩
    case round =>
      obtain ⟨j, x, y, hj, rfl, rfl, rfl, hx, hy, mm, hww⟩ := hrel
      have hrk : Rd wr B 1 icell A l := by rw [hww]; exact hr
      have HW := Lib.hid hww; clear hww
      by_cases hlt : j < order
      · obtain ⟨b, off, rfl, _, hc⟩ := hrk.ints' (by rw [HN.out]; omega)
        obtain ⟨v, ev⟩ := get_ex l (row + (j + 1)) (by rw [HN.out]; omega)
        have g1 := hc _ v ev
        have hv0 : l.getD (nbr row order (j + 1)) 0 = v := by unfold nbr; rw [if_pos hw, List.getD_eq_getElem?_getD, ev]; rfl
        clear hc ev
        have hxb := gsum_bd (row := row) HS.out ho.2 j
        have hyb := sgn_bd (j + 1)
        rw [← hx] at hxb
        rw [← hy] at hyb
        obtain ⟨t, ht⟩ : ∃ t, gtm l row order (j + 1) = t := ⟨_, rfl⟩
        have htb := gtm_bd (row := row) (j := j + 1) HS.out ho.2
        rw [ht] at htb
        have hch := ch_small (k := j + 1) ho.2
        obtain ⟨q, hq⟩ : ∃ q, ch order (j + 1) = q := ⟨_, rfl⟩
        have hqv : (q : Int) * v = t := by rw [← ht, gtm, hq, hv0]
        rw [hq] at hch
        have HBI := Lib.hid (show ∀ W : World, Calls Try.prog 70 #[.int .i64 order, .int .i64 ((j : Int) + 1)] W fun e w' => e = .returned (.int .i64 (q : Int)) ∧ W = w' from fun W => by rw [← hq]; exact binomial_c order (j + 1) W ho.2 (Nat.succ_le_of_lt hlt))
        have HSUM := Lib.hid (show gsum l row order (j + 1) = x + y * t by rw [gsum, ← hx, ← hy, ht])
        have HY := Lib.hid (show -y = sgn (j + 1 + 1) by rw [sgn_succ, hy])
        have HX := Lib.hid hx; have HT := Lib.hid ht; have HQ := Lib.hid hq; have HQV := Lib.hid hqv; have HV0 := Lib.hid hv0
        have HVAL := Lib.hid (gv_eq hqv hyb hxb htb hch (Nat.le_trans (Nat.le_of_lt hlt) ho.2))
        clear hx hy ht hq hqv hv0
        have p1 : (j : Int) + 1 ≤ (order : Int) := by omega
        have p2 : (0 : Int) ≤ (row : Int) + ((j : Int) + 1) := by omega
        have p3 : (row : Int) + ((j : Int) + 1) < (n : Int) := by omega
        go_wp2_with fail
        go_quiet ((go_at_call 70; exact quiet_eq (HBI.out _)))
        go_wp2_with fail
        (first | (refine ⟨?_, ?_⟩; rotate_left; (first | (simp [intOf]; done) | (simp [intOf]; omega)); (repeat apply Exists.intro); refine ⟨?_, rfl⟩; exact ⟨j + 1, x + y * t, -y, by omega, by go_num, ret_val (by rw [HVAL.out]), rfl, HSUM.out.symm, HY.out, mm + nq, by rw [HW.out, World.drewN_drewN]⟩) | exact ⟨⟨j + 1, x + y * t, -y, by omega, by go_num, ret_val (by rw [HVAL.out]), rfl, HSUM.out.symm, HY.out, mm + nq, by rw [HW.out, World.drewN_drewN]⟩, by first | (simp [intOf]; done) | (simp [intOf]; omega)⟩)
      · have hjo : j = order := by omega
        subst hjo
        have HX := Lib.hid hx; clear hx
        have HY := Lib.hid hy; clear hy
        go_wp2
        go_ret
        exact ⟨ret_int HX.out, mm, HW.out⟩
  · have q1 : ¬ (row : Int) < (order : Int) := by omega
    go_enter Try.func60, Try.ntmps60
    go_wp2
    go_loopw [8, 9, 10] (fun s g i wr => ∃ (j : Nat) (x y : Int), j ≤ order ∧ i = .int .i64 ((j : Int) + 1) ∧ s = .int .i64 x ∧ g = .int .i64 y ∧ x = gsum l row order j ∧ y = sgn (j + 1) ∧ ∃ m, wr = w.drewN m) (fun _ _ i _ => (order + 1) - (intOf i).toNat)
    case atStart => exact ⟨0, 0, 1, Nat.zero_le _, rfl, rfl, rfl, rfl, rfl, 0, rfl⟩
    case round =>
      obtain ⟨j, x, y, hj, rfl, rfl, rfl, hx, hy, mm, hww⟩ := hrel
      have hrk : Rd wr B 1 icell A l := by rw [hww]; exact hr
      have HW := Lib.hid hww; clear hww
      by_cases hlt : j < order
      · obtain ⟨b, off, rfl, _, hc⟩ := hrk.ints' (by rw [HN.out]; omega)
        obtain ⟨p, hp, hpn, p1, e1, e2, p2, p3⟩ := nb_facts hw hlt hrow hm ho.2
        have HP := Lib.hid hp; clear hp
        obtain ⟨v, ev⟩ := get_ex l p (by rw [HN.out]; omega)
        have g1 := hc _ v ev
        have hv0 : l.getD (nbr row order (j + 1)) 0 = v := by unfold nbr; rw [if_neg hw, HP.out, List.getD_eq_getElem?_getD, ev]; rfl
        clear hc ev
        have hxb := gsum_bd (row := row) HS.out ho.2 j
        have hyb := sgn_bd (j + 1)
        rw [← hx] at hxb
        rw [← hy] at hyb
        obtain ⟨t, ht⟩ : ∃ t, gtm l row order (j + 1) = t := ⟨_, rfl⟩
        have htb := gtm_bd (row := row) (j := j + 1) HS.out ho.2
        rw [ht] at htb
        have hch := ch_small (k := j + 1) ho.2
        obtain ⟨q, hq⟩ : ∃ q, ch order (j + 1) = q := ⟨_, rfl⟩
        have hqv : (q : Int) * v = t := by rw [← ht, gtm, hq, hv0]
        rw [hq] at hch
        have HBI := Lib.hid (show ∀ W : World, Calls Try.prog 70 #[.int .i64 order, .int .i64 ((j : Int) + 1)] W fun e w' => e = .returned (.int .i64 (q : Int)) ∧ W = w' from fun W => by rw [← hq]; exact binomial_c order (j + 1) W ho.2 (Nat.succ_le_of_lt hlt))
        have HSUM := Lib.hid (show gsum l row order (j + 1) = x + y * t by rw [gsum, ← hx, ← hy, ht])
        have HY := Lib.hid (show -y = sgn (j + 1 + 1) by rw [sgn_succ, hy])
        have HX := Lib.hid hx; have HT := Lib.hid ht; have HQ := Lib.hid hq; have HQV := Lib.hid hqv; have HV0 := Lib.hid hv0
        have HVAL := Lib.hid (gv_eq hqv hyb hxb htb hch (Nat.le_trans (Nat.le_of_lt hlt) ho.2))
        clear hx hy ht hq hqv hv0
        go_wp2_with fail
        go_quiet ((go_at_call 70; exact quiet_eq (HBI.out _)))
        go_wp2_with fail
        (first | (refine ⟨?_, ?_⟩; rotate_left; (first | (simp [intOf]; done) | (simp [intOf]; omega)); (repeat apply Exists.intro); refine ⟨?_, rfl⟩; exact ⟨j + 1, x + y * t, -y, by omega, by go_num, ret_val (by rw [HVAL.out]), rfl, HSUM.out.symm, HY.out, mm + nq, by rw [HW.out, World.drewN_drewN]⟩) | exact ⟨⟨j + 1, x + y * t, -y, by omega, by go_num, ret_val (by rw [HVAL.out]), rfl, HSUM.out.symm, HY.out, mm + nq, by rw [HW.out, World.drewN_drewN]⟩, by first | (simp [intOf]; done) | (simp [intOf]; omega)⟩)
      · have hjo : j = order := by omega
        subst hjo
        have HX := Lib.hid hx; clear hx
        have HY := Lib.hid hy; clear hy
        go_wp2
        go_ret
        exact ⟨ret_int HX.out, mm, HW.out⟩
end Go.Proofs.Ytklpjpablmiaoaa
