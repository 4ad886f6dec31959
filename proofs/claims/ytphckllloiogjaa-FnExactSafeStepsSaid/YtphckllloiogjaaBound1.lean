/- Contracts: bounds of errors: the sum, both sides. -/
import Derived.Test.YtphckllloiogjaaKnown
import Derived.Test.YtphckllloiogjaaBoundMath
import Derived.Lib.MinMax
import Derived.Deep.DeepCutAuto
set_option linter.unusedVariables false
set_option linter.unusedSimpArgs false
namespace Go.Proofs.Ytphckllloiogjaa
open Go.RowKit

theorem wrap_in1 (x : Int) (h : -9223372036854775808 ≤ x ∧ x ≤ 9223372036854775807) : wrap64 x = x := by
  rw [← IntWalk.i64_left]; exact IntWalk.i64_in _ (by omega)

theorem isSlip_c (n : Int) (w : World) : Calls Try.prog 79 #[.int .i64 n] w fun e w' => e = .returned (.bool (slipB n)) ∧ w = w' := by
  go_enter Try.func79, Try.ntmps79
  go_wp2_with (go_at_call 61; refine (between_c _ _ _ _).mono ?_; rintro e w' ⟨rfl, rfl⟩)
  go_ret
  exact ⟨rfl, rfl⟩

set_option maxHeartbeats 400000 in
theorem areSlips_c (A : Option Addr) (n c : Nat) (l : List Int) (B : Nat) (w : World) (hn : l.length = n) (hm : n ≤ 1048576) (hr : Rd w B 1 icell A l) :
    Calls Try.prog 60 #[.slice A n c] w fun e w' => e = .returned (.bool (slipsB l)) ∧ w = w' := by
  go_enter Try.func60, Try.ntmps60
  go_wp2
  go_loop [7] (fun i => ∃ k : Nat, k ≤ n ∧ i = .int .i64 k ∧ (l.take k).all slipB = true) (fun i => n - (intOf i).toNat)
  case atStart => exact ⟨0, Nat.zero_le _, rfl, by simp⟩
  case round =>
    obtain ⟨k, hk, rfl, ha⟩ := hrel
    have HA := Lib.hid ha; clear ha
    by_cases hlt : k < n
    · obtain ⟨b, off, rfl, _, hc⟩ := hr.ints' (by omega)
      obtain ⟨x, ex⟩ := get_ex l k (by omega)
      have g1 : w.cell? ⟨b, off + k, none⟩ = some (.int .i64 x) := hc k x ex
      have EX := Lib.hid ex; clear ex hc
      cases hp : slipB x
      · go_wp2_with (go_at_call 79; refine (isSlip_c _ _).mono ?_; rintro e w' ⟨rfl, rfl⟩)
        go_ret
        exact ⟨ret_bool (by rw [slipsB, all_no _ _ _ _ EX.out hp]; rfl), rfl⟩
      · go_wp2_with (go_at_call 79; refine (isSlip_c _ _).mono ?_; rintro e w' ⟨rfl, rfl⟩)
        go_round
        case rel => exact ⟨k + 1, by omega, by go_num, all_take_succ _ _ _ _ EX.out HA.out hp⟩
        case measure => simp [intOf]; omega
    · have hfin : l.all slipB = true := by have := HA.out; rwa [List.take_of_length_le (by omega)] at this
      have HF := Lib.hid hfin; clear hfin
      go_wp2_with (go_at_call 61; refine (between_c _ _ _ _).mono ?_; rintro e w' ⟨rfl, rfl⟩)
      go_ret
      exact ⟨ret_bool (by rw [slipsB, HF.out, hn]; rfl), rfl⟩

set_option maxHeartbeats 400000 in
theorem l17Slips_c (A : Option Addr) (n c : Nat) (l : List Int) (B : Nat) (w : World) (hn : l.length = n) (hm : n ≤ 1048576) (hr : Rd w B 1 icell A l) :
    Calls Try.prog 57 #[.slice A n c] w fun e w' => e = .returned (.bool (slipsB l)) ∧ w = w' := by
  go_enter Try.func57, Try.ntmps57
  go_wp2
  go_loop [3] (fun i => ∃ k : Nat, k ≤ n ∧ i = .int .i64 k ∧ (l.take k).all slipB = true) (fun i => n - (intOf i).toNat)
  case atStart => exact ⟨0, Nat.zero_le _, rfl, by simp⟩
  case round =>
    obtain ⟨k, hk, rfl, ha⟩ := hrel
    have HA := Lib.hid ha; clear ha
    by_cases hlt : k < n
    · obtain ⟨b, off, rfl, _, hc⟩ := hr.ints' (by omega)
      obtain ⟨x, ex⟩ := get_ex l k (by omega)
      have g1 : w.cell? ⟨b, off + k, none⟩ = some (.int .i64 x) := hc k x ex
      have EX := Lib.hid ex; clear ex hc
      cases hp : inB x 0 1000000
      · go_wp2_with (go_at_call 58; refine (l00In_c _ _ _ _).mono ?_; rintro e w' ⟨rfl, rfl⟩)
        go_ret
        exact ⟨ret_bool (by rw [slipsB, all_no slipB _ _ _ EX.out hp]; rfl), rfl⟩
      · go_wp2_with (go_at_call 58; refine (l00In_c _ _ _ _).mono ?_; rintro e w' ⟨rfl, rfl⟩)
        go_round
        case rel => exact ⟨k + 1, by omega, by go_num, all_take_succ slipB _ _ _ EX.out HA.out hp⟩
        case measure => simp [intOf]; omega
    · have hfin : l.all slipB = true := by have := HA.out; rwa [List.take_of_length_le (by omega)] at this
      have HF := Lib.hid hfin; clear hfin
      go_wp2_with (go_at_call 58; refine (l00In_c _ _ _ _).mono ?_; rintro e w' ⟨rfl, rfl⟩)
      go_ret
      exact ⟨ret_bool (by rw [slipsB, HF.out, hn]; rfl), rfl⟩

set_option maxHeartbeats 2000000 in
theorem sumBound_c (A : Option Addr) (n c : Nat) (l : List Int) (st : Nat) (B : Nat) (w : World) (hn : l.length = n) (hst : st ≤ 100000) (hr : Rd w B 1 icell A l) (hs : slipsB l = true) :
    Calls Try.prog 62 #[.slice A n c, .int .i64 st] w fun e w' => e = .returned (.int .i64 (sumB l st)) ∧ w = w' := by
  obtain ⟨R, hR⟩ : ∃ R, sumB l st = R := ⟨_, rfl⟩
  have HR := Lib.hid hR; clear hR
  rw [HR.out]
  have h9 := (slips_len hs).2
  rw [hn] at h9
  have HS := Lib.hid hs; clear hs
  have HN := Lib.hid hn; clear hn
  go_enter Try.func62, Try.ntmps62
  go_wp2
  go_loop [5, 6, 11] (fun s h i => ∃ (k : Nat) (x y : Int), k ≤ n ∧ i = .int .i64 k ∧ s = .int .i64 x ∧ h = .int .i64 y ∧ 0 ≤ x ∧ x ≤ 1000000000000 ∧ y = cb st (k - 1) ∧ sumF st k x (l.drop k) = R) (fun _ _ i => n - (intOf i).toNat)
  case atStart => exact ⟨0, 0, 1, Nat.zero_le _, rfl, rfl, rfl, by omega, by omega, (cb_zero st).symm, HR.out⟩
  case round =>
    obtain ⟨k, x, y, hk, rfl, rfl, rfl, hx0, hx1, hy, hf⟩ := hrel
    have hyb := cb_bd st (k - 1)
    rw [← hy] at hyb
    obtain ⟨hy0, hy1⟩ := hyb
    have HY := Lib.hid hy; clear hy
    have HF := Lib.hid hf; clear hf
    by_cases hlt : k < n
    · obtain ⟨b, off, rfl, _, hc⟩ := hr.ints' (by rw [HN.out]; omega)
      obtain ⟨p, ep⟩ := get_ex l k (by rw [HN.out]; omega)
      have g1 : w.cell? ⟨b, off + k, none⟩ = some (.int .i64 p) := hc k p ep
      have hp := slips_at HS.out ep
      obtain ⟨hp0, hp1⟩ := hp
      have HSF := Lib.hid (sumF_at (n := st) (s := x) ep)
      clear ep hc
      obtain ⟨z, hz⟩ : ∃ z, cb st k = z := ⟨_, rfl⟩
      have hzb := cb_bd st k
      rw [hz] at hzb HSF
      obtain ⟨hz0, hz1⟩ := hzb
      have HZ := Lib.hid hz; clear hz
      have HC : Hid ((k = 0 → y = z) ∧ (¬ k = 0 → ¬ y ≤ 1000000000000 → y = z) ∧ (∀ j : Nat, k = j + 1 → y ≤ 1000000000000 → min (y * max ((st : Int) - ((j : Int) + 1) + 1) 0 / ((j : Int) + 1)) 1000000000001 = z)) := by
        have hy := HY.out
        have hz := HZ.out
        refine ⟨fun h => by subst h; rw [hy, ← hz], fun h0 hm => ?_, fun j hj hm => ?_⟩
        · obtain ⟨j, rfl⟩ : ∃ j, k = j + 1 := ⟨k - 1, by omega⟩
          rw [Nat.add_sub_cancel] at hy
          rw [← hz, cb_stay st j (by omega) (by rw [← hy]; exact hm), hy]
        · subst hj
          rw [Nat.add_sub_cancel] at hy
          rw [← hz, hy, cb_next st j (by rw [← hy]; exact hm)]
      have HE : Hid (sumF st (k + 1) (stp p z x) (l.drop (k + 1)) = R) := by rw [← HSF.out, HF.out]; rfl
      have HO : Hid (stp p z x = 1000000000001 → R = 1000000000001) := fun h => by rw [← HE.out, h]; exact sumF_top _ _ _
      have HP : Hid (0 < p → 1000000000000 / p < z → R = 1000000000001) := fun h1 h2 => HO.out (stp_over h1 h2 hx0)
      have HQ : Hid (0 < p → ¬ 1000000000000 / p < z → 1000000000000 < x + p * z → R = 1000000000001) := fun h1 h2 h3 => HO.out (by rw [stp_in h1 h2]; omega)
      have HW : Hid (0 < p → ¬ 1000000000000 / p < z → ¬ 1000000000000 < x + p * z → sumF st (k + 1) (x + p * z) (l.drop (k + 1)) = R) := fun h1 h2 h3 => by
        have := HE.out; rw [stp_in h1 h2, show min 1000000000001 (x + p * z) = x + p * z by omega] at this; exact this
      have HZR : Hid (¬ 0 < p → sumF st (k + 1) x (l.drop (k + 1)) = R) := fun h => by have := HE.out; rw [stp_zero h] at this; exact this
      have HMI : Hid (0 < p → ¬ 1000000000000 / p < z → 0 ≤ p * z ∧ p * z ≤ 1000000000000) := fun h1 h2 => mul_in h1 hz0 h2
      clear HE HO HF HSF HY
      have hyy : (k = 0 ∨ (¬ k = 0 ∧ ¬ y ≤ 1000000000000)) ∨ (¬ k = 0 ∧ y ≤ 1000000000000) := by omega
      have stage : ∀ (P : Prop), True := fun _ => trivial
      clear stage
      rcases hyy with hyy | ⟨hk0, hyM⟩
      · have hyz : y = z := by
          rcases hyy with h | ⟨h1, h2⟩
          · exact HC.out.1 h
          · exact HC.out.2.1 h1 h2
        subst hyz
        have hk00 : (k : Int) ≤ 0 ∨ (0 < (k : Int) ∧ ¬ y ≤ 1000000000000) := by omega
        clear hyy
        rcases hk00 with hk00 | ⟨hk0, hyM⟩
        all_goals
          go_upto_region 7 with fail
          by_cases hp : 0 < p
          · by_cases hq : 1000000000000 / p < y
            · have HR2 := Lib.hid (HP.out hp (by omega))
              have n1 : ¬ p = 0 := by omega
              go_wp2
              go_ret
              exact ⟨ret_int HR2.out.symm, rfl⟩
            · obtain ⟨m0, m1⟩ := HMI.out hp (by omega)
              have n1 : ¬ p = 0 := by omega
              by_cases hs : 1000000000000 < x + p * y
              · have HR2 := Lib.hid (HQ.out hp (by omega) hs)
                go_wp2
                go_ret
                exact ⟨ret_int HR2.out.symm, rfl⟩
              · have HR2 := Lib.hid (HW.out hp (by omega) (by omega))
                go_wp2
                go_round
                case rel => exact ⟨_, x + p * y, y, hlt, by go_num, rfl, rfl, by omega, by omega, HZ.out.symm, HR2.out⟩
                case measure => simp [intOf]; omega
          · have HR2 := Lib.hid (HZR.out (by omega))
            have hp00 : p = 0 := by omega
            subst hp00
            go_wp2
            go_round
            case rel => exact ⟨_, x, y, hlt, by go_num, by simp, rfl, by omega, by omega, HZ.out.symm, HR2.out⟩
            case measure => simp [intOf]; omega
      · obtain ⟨j, rfl⟩ : ∃ j, k = j + 1 := ⟨k - 1, by omega⟩
        have hnx := HC.out.2.2 j rfl hyM
        obtain ⟨m, hm⟩ : ∃ m, max ((st : Int) - ((j : Int) + 1) + 1) 0 = m := ⟨_, rfl⟩
        have hm0 : 0 ≤ m := by omega
        have hm1 : m ≤ 100000 := by omega
        rw [hm] at hnx
        have hym0 := Int.mul_nonneg hy0 hm0
        have hym1 := Int.mul_le_mul hyM hm1 hm0 (by omega)
        go_upto_region 7 with fail
        by_cases hp : 0 < p
        · by_cases hq : 1000000000000 / p < z
          · have HR2 := Lib.hid (HP.out hp (by omega))
            have n1 : ¬ p = 0 := by omega
            go_wp2
            go_ret
            exact ⟨ret_int HR2.out.symm, rfl⟩
          · obtain ⟨m0, m1⟩ := HMI.out hp (by omega)
            have n1 : ¬ p = 0 := by omega
            by_cases hs : 1000000000000 < x + p * z
            · have HR2 := Lib.hid (HQ.out hp (by omega) hs)
              go_wp2
              go_ret
              exact ⟨ret_int HR2.out.symm, rfl⟩
            · have HR2 := Lib.hid (HW.out hp (by omega) (by omega))
              go_wp2
              go_round
              case rel => exact ⟨_, x + p * z, z, hlt, by go_num, rfl, rfl, by omega, by omega, HZ.out.symm, HR2.out⟩
              case measure => simp [intOf]; omega
        · have HR2 := Lib.hid (HZR.out (by omega))
          have hp00 : p = 0 := by omega
          subst hp00
          go_wp2
          go_round
          case rel => exact ⟨_, x, z, hlt, by go_num, by simp, rfl, by omega, by omega, HZ.out.symm, HR2.out⟩
          case measure => simp [intOf]; omega
    · have h6 := HF.out
      rw [List.drop_of_length_le (by rw [HN.out]; omega), sumF] at h6
      have H6 := Lib.hid h6; clear h6
      go_wp2
      go_ret
      exact ⟨ret_int H6.out, rfl⟩

set_option maxHeartbeats 1000000 in
theorem l17Choose_c (n k : Nat) (w : World) (hn : n ≤ 100000) (hk : k ≤ 8) : Calls Try.prog 78 #[.int .i64 n, .int .i64 k] w fun e w' => e = .returned (.int .i64 (cb n k)) ∧ w = w' := by
  by_cases hkn : n < k
  · have hz : cb n k = 0 := by unfold cb; rw [ch_big n k hkn]; rfl
    rw [hz]
    have q1 : (n : Int) < (k : Int) := by omega
    go_enter Try.func78, Try.ntmps78
    go_wp2
    go_ret
    exact ⟨rfl, rfl⟩
  · have q1 : ¬ (n : Int) < (k : Int) := by omega
    obtain ⟨m, hm⟩ : ∃ m, n - k = m := ⟨_, rfl⟩
    have hm' : (n : Int) - (k : Int) = (m : Int) := by omega
    have HM := Lib.hid hm'; clear hm'
    go_enter Try.func78, Try.ntmps78
    go_wp2
    go_loop [5, 6] (fun o i => ∃ j : Nat, j ≤ k ∧ i = .int .i64 ((j : Int) + 1) ∧ o = .int .i64 (ch (m + j) j : Int) ∧ ch (m + j) j ≤ 1000000000000) (fun _ i => (k + 1) - (intOf i).toNat)
    case atStart => exact ⟨0, Nat.zero_le _, rfl, by rw [ch_zero]; rfl, by rw [ch_zero]; omega⟩
    case round =>
      obtain ⟨j, hj, rfl, rfl, hle⟩ := hrel
      by_cases hlt : j < k
      · obtain ⟨v, hv⟩ : ∃ v, ch (m + j) j = v := ⟨_, rfl⟩
        have hup := ch_up_int (m + j) j
        obtain ⟨u, hu⟩ : ∃ u, ch (m + j + 1) (j + 1) = u := ⟨_, rfl⟩
        rw [hv, hu] at hup
        rw [hv] at hle ⊢
        have HU := Lib.hid (show (v : Int) * ((n : Int) - k + ((j : Int) + 1)) / ((j : Int) + 1) = u by rw [show (n : Int) - k + ((j : Int) + 1) = ((m + j : Nat) : Int) + 1 by have := HM.out; omega]; exact hup)
        have hb0 := Int.mul_nonneg (show 0 ≤ (v : Int) by omega) (show 0 ≤ (n : Int) - k + ((j : Int) + 1) by omega)
        have hb1 := Int.mul_le_mul (show (v : Int) ≤ 1000000000000 by omega) (show (n : Int) - k + ((j : Int) + 1) ≤ 100000 by omega) (by omega) (by omega)
        have HV := Lib.hid hv; clear hv
        have HUU := Lib.hid hu; clear hu hup
        have p1 : (j : Int) + 1 ≤ (k : Int) := by omega
        have HBig : Hid (1000000000000 < u → cb n k = 1000000000001) := fun h => cb_up_full n k (j + 1) (by omega) (by omega) (by rw [show n - k + (j + 1) = m + j + 1 by omega, HUU.out]; exact h)
        go_upto_region 8 with fail
        rw [HU.out]
        by_cases hu1 : 1000000000000 < u
        · have HB := Lib.hid (HBig.out hu1)
          have hu2 : (1000000000000 : Int) < (u : Int) := by omega
          go_wp2
          go_ret
          exact ⟨ret_int HB.out.symm, rfl⟩
        · have hu2 : ¬ (1000000000000 : Int) < (u : Int) := by omega
          go_wp2
          go_round
          case rel => exact ⟨j + 1, by omega, by go_num, by rw [← HUU.out]; rfl, by rw [show m + (j + 1) = m + j + 1 by omega, HUU.out]; omega⟩
          case measure => simp [intOf]; omega
      · have hjk : j = k := by omega
        subst hjk
        have hnm : m + j = n := by omega
        have HE := Lib.hid (show (ch (m + j) j : Int) = cb n j by rw [hnm] at hle ⊢; exact (cb_up_end n j hle).symm)
        have p1 : ¬ (j : Int) + 1 ≤ (j : Int) := by omega
        clear hnm hm
        go_wp2
        go_ret
        exact ⟨ret_int HE.out, rfl⟩

set_option maxHeartbeats 1000000 in
theorem l17Sum_c (A : Option Addr) (n c : Nat) (l : List Int) (st : Nat) (B : Nat) (w : World) (hn : l.length = n) (hst : st ≤ 100000) (hr : Rd w B 1 icell A l) (hs : slipsB l = true) :
    Calls Try.prog 59 #[.slice A n c, .int .i64 st] w fun e w' => e = .returned (.int .i64 (sumB l st)) ∧ ∃ m, w' = w.drewN m := by
  obtain ⟨R, hR⟩ : ∃ R, sumB l st = R := ⟨_, rfl⟩
  have HR := Lib.hid hR; clear hR
  rw [HR.out]
  have h9 := (slips_len hs).2
  rw [hn] at h9
  have HS := Lib.hid hs; clear hs
  have HN := Lib.hid hn; clear hn
  go_enter Try.func59, Try.ntmps59
  go_wp2
  go_loopw [5, 6] (fun s i wr => ∃ (k : Nat) (x : Int), k ≤ n ∧ i = .int .i64 k ∧ s = .int .i64 x ∧ 0 ≤ x ∧ x ≤ 1000000000001 ∧ sumF st k x (l.drop k) = R ∧ ∃ m, wr = w.drewN m) (fun _ i _ => n - (intOf i).toNat)
  case atStart => exact ⟨0, 0, Nat.zero_le _, rfl, rfl, by omega, by omega, HR.out, 0, rfl⟩
  case round =>
    obtain ⟨k, x, hk, rfl, rfl, hx0, hx1, hf, mm, hw⟩ := hrel
    have HF := Lib.hid hf; clear hf
    have hrk : Rd wr B 1 icell A l := by rw [hw]; exact hr
    have HW := Lib.hid hw; clear hw
    by_cases hlt : k < n
    · obtain ⟨b, off, rfl, _, hc⟩ := hrk.ints' (by rw [HN.out]; omega)
      obtain ⟨p, ep⟩ := get_ex l k (by rw [HN.out]; omega)
      have g1 : wr.cell? ⟨b, off + k, none⟩ = some (.int .i64 p) := hc k p ep
      have hp := slips_at HS.out ep
      obtain ⟨hp0, hp1⟩ := hp
      have HSF := Lib.hid (sumF_at (n := st) (s := x) ep)
      clear ep hc
      obtain ⟨z, hz⟩ : ∃ z, cb st k = z := ⟨_, rfl⟩
      have hzb := cb_bd st k
      rw [hz] at hzb HSF
      obtain ⟨hz0, hz1⟩ := hzb
      have HZ := Lib.hid hz; clear hz
      by_cases hp : 0 < p
      · obtain ⟨q, hq⟩ : ∃ q : Int, 1000000000000 / p + 1 = q := ⟨_, rfl⟩
        obtain ⟨u, hu⟩ : ∃ u : Int, min z q = u := ⟨_, rfl⟩
        have hmc := mul_cap hp hp1 hz0
        have hq0 : 0 ≤ 1000000000000 / p := Int.ediv_nonneg (by omega) (by omega)
        have hq1 : 1000000000000 / p ≤ 1000000000000 := Int.ediv_le_self _ (by omega)
        have HS2 : Hid (sumF st (k + 1) (min 1000000000001 (x + p * u)) (l.drop (k + 1)) = R) := by
          have h1 := HSF.out
          rw [stp_pos hp, hq, hu] at h1
          rw [← h1]; exact HF.out
        rw [hq, hu] at hmc
        obtain ⟨m0, m1⟩ := hmc
        have HU := Lib.hid hu; clear hu
        have HQ := Lib.hid hq
        have n1 : ¬ p = 0 := by omega
        have n2 : (p == 0) = false := by simp [n1]
        clear HF HSF
        have c1 : ∀ W : World, Calls Try.prog 78 #[.int .i64 st, .int .i64 k] W fun e w' => e = .returned (.int .i64 z) ∧ W = w' := fun W => by rw [← HZ.out]; exact l17Choose_c st k W hst (by omega)
        have c2 : ∀ W : World, Calls Try.prog 77 #[.int .i64 z, .int .i64 q] W fun e w' => e = .returned (.int .i64 u) ∧ W = w' := fun W => by rw [← HU.out]; exact l00Min_c z q W
        have C1 := Lib.hid c1; clear c1
        have C2 := Lib.hid c2; clear c2
        have f1 : 0 ≤ min 1000000000001 (x + p * u) ∧ min 1000000000001 (x + p * u) ≤ 1000000000001 := by omega
        have F1 := Lib.hid f1; clear f1
        go_wp2_with fail
        go_quiet (first | ((go_at_call 78; exact quiet_eq (C1.out _))) | ((go_at_call_of 77 (.int .i64 z); exact quiet_eq (C2.out _))) | ((go_at_call 77; exact quiet_eq (l00Min_c _ _ _))))
        go_wp2_with fail
        (first | (refine ⟨?_, ?_⟩; rotate_left; (first | (simp [intOf]; done) | (simp [intOf]; omega)); (repeat apply Exists.intro); refine ⟨?_, rfl⟩; exact ⟨k + 1, min 1000000000001 (x + p * u), by omega, by go_num, ret_val (by rw [HU.out, wrap_in1 (p * u) (by omega), wrap_in1 (x + p * u) (by omega)]), F1.out.1, F1.out.2, HS2.out, mm + nq, by rw [HW.out, World.drewN_drewN]⟩) | exact ⟨⟨k + 1, min 1000000000001 (x + p * u), by omega, by go_num, ret_val (by rw [HU.out, wrap_in1 (p * u) (by omega), wrap_in1 (x + p * u) (by omega)]), F1.out.1, F1.out.2, HS2.out, mm + nq, by rw [HW.out, World.drewN_drewN]⟩, by first | (simp [intOf]; done) | (simp [intOf]; omega)⟩)
      · have HS2 : Hid (sumF st (k + 1) x (l.drop (k + 1)) = R) := by
          have h1 := HSF.out
          rw [stp_zero hp] at h1
          rw [← h1]; exact HF.out
        clear HF HSF
        go_wp2_with fail
        (first | (refine ⟨?_, ?_⟩; rotate_left; (first | (simp [intOf]; done) | (simp [intOf]; omega)); (repeat apply Exists.intro); refine ⟨?_, rfl⟩; exact ⟨k + 1, x, by omega, by go_num, rfl, by omega, by omega, HS2.out, mm, HW.out⟩) | exact ⟨⟨k + 1, x, by omega, by go_num, rfl, by omega, by omega, HS2.out, mm, HW.out⟩, by first | (simp [intOf]; done) | (simp [intOf]; omega)⟩)
    · have h6 := HF.out
      rw [List.drop_of_length_le (by rw [HN.out]; omega), sumF] at h6
      have H6 := Lib.hid h6; clear h6
      go_wp2
      go_ret
      exact ⟨ret_int H6.out, mm, HW.out⟩
end Go.Proofs.Ytphckllloiogjaa
