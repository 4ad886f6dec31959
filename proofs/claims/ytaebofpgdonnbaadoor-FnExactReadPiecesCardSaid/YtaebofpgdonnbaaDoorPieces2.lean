/- Contracts: totals; what is an inventory, the program's side. -/
import Derived.Test.YtaebofpgdonnbaaDoorPieces1
import Derived.Test.YtaebofpgdonnbaaDoorPieceMath
import Derived.Deep.DeepCutAuto
import Derived.Maps.OwnOps
import Derived.Maps.OwnSet
import Derived.Maps.Views
set_option linter.unusedVariables false
set_option linter.unusedSimpArgs false
namespace Go.Proofs.YtaebofpgdonnbaaDoor
open Go.RowKit

def RetT (T : Int) (w : World) (e : Ending) (w' : World) : Prop := ∃ r : Int, e = .returned (.int .i64 r) ∧ PT T r ∧ 1 ≤ r ∧ r ≤ 1000000000001 ∧ w = w'

set_option maxHeartbeats 1000000 in
theorem total_c (A : Option Addr) (n c : Nat) (l : List PieceD) (m : Nat) (k0 : Int) (B : Nat) (w : World) (hn : l.length = n) (hm : n ≤ 1048576) (hr : Rd w B 4 pcell A l) (hS : St l m) (hmn : m ≤ n) (hk1 : -1 ≤ k0) (hk2 : k0 < (m : Int)) :
    Calls Tryd.prog 97 #[.slice A n c, .int .i64 k0] w (RetT (TI l k0) w) := by
  have HN := Lib.hid hn; clear hn
  have HS := Lib.hid hS; clear hS
  obtain ⟨T, hT⟩ : ∃ T, TI l k0 = T := ⟨_, rfl⟩
  rw [hT]
  have HT := Lib.hid hT; clear hT
  go_enter Tryd.func97, Tryd.ntmps97
  go_wp2_with fail
  go_loop [1, 5] (fun i q => ∃ (k a : Int), -1 ≤ k ∧ k < (m : Int) ∧ i = .int .i64 k ∧ q = .int .i64 a ∧ 1 ≤ a ∧ a ≤ 100000000 ∧ a * TI l k = T) (fun i _ => (intOf i + 1).toNat)
  case atStart => exact ⟨k0, 1, hk1, hk2, rfl, rfl, by omega, by omega, by rw [HT.out, Int.one_mul]⟩
  case round =>
    obtain ⟨k, a, ka, kb, rfl, rfl, a1, a2, ha⟩ := hrel
    have HA := Lib.hid ha; clear ha
    by_cases hlt : k < 0
    · have q1 : decide (0 ≤ k) = false := by simp; omega
      have HP := Lib.hid (totI_end hlt HA.out)
      go_wp2_with fail
      go_ret
      exact ⟨a, rfl, HP.out, by omega, by omega, rfl⟩
    · have q1 : decide (0 ≤ k) = true := by simp; omega
      by_cases hbig : 1000000 < a
      · have q2 : decide (a ≤ 1000000) = false := by simp; omega
        have HP := Lib.hid (totI_big HS.out kb hbig HA.out)
        go_wp2_with fail
        go_ret
        exact ⟨a, rfl, HP.out, by omega, by omega, rfl⟩
      · have q2 : decide (a ≤ 1000000) = true := by simp; omega
        obtain ⟨j, rfl⟩ := Int.eq_ofNat_of_zero_le (show 0 ≤ k by omega)
        obtain ⟨b1, off, rfl, hbl, hc⟩ := hr.piece (by rw [HN.out]; omega)
        obtain ⟨d, hd⟩ := get_ex l j (by rw [HN.out]; omega)
        obtain ⟨g0, g1, g2, g3⟩ := hc j d hd
        obtain ⟨s1, s2, s3⟩ := totI_step HS.out (show j < m by omega) a1 (by omega) HA.out
        obtain ⟨t1, t2, t3, t4⟩ := HS.out j (by omega)
        rw [getP_eq hd] at s1 s2 s3 t1 t2 t3 t4
        have HS1 := Lib.hid s1; clear s1 hd hc
        have p2 : (j : Int) < (n : Int) := by omega
        have p3 : a * d.each ≤ 9223372036854775807 := by omega
        have p4 : 0 ≤ a * d.each := by omega
        go_wp2_with fail
        go_round
        case rel => exact ⟨d.parent, a * d.each, by omega, by omega, rfl, rfl, by omega, by omega, HS1.out⟩
        case measure => simp [intOf]; omega

set_option maxHeartbeats 1000000 in
theorem l21Total_c (A : Option Addr) (n c : Nat) (l : List PieceD) (m : Nat) (k0 : Int) (B : Nat) (w : World) (hn : l.length = n) (hm : n ≤ 1048576) (hr : Rd w B 4 pcell A l) (hS : St l m) (hmn : m ≤ n) (hk1 : -1 ≤ k0) (hk2 : k0 < (m : Int)) :
    Calls Tryd.prog 94 #[.slice A n c, .int .i64 k0] w (RetT (TI l k0) w) := by
  have HN := Lib.hid hn; clear hn
  have HS := Lib.hid hS; clear hS
  obtain ⟨T, hT⟩ : ∃ T, TI l k0 = T := ⟨_, rfl⟩
  rw [hT]
  have HJ := Lib.hid (show (1 ≤ T ∧ T ≤ 1000000000000) ∨ 1000000000000 < T by have := TI_pos HS.out k0 hk2; omega)
  have HT := Lib.hid hT; clear hT
  go_enter Tryd.func94, Tryd.ntmps94
  go_wp2_with fail
  go_loop [1, 5] (fun i q => ∃ (k a : Int), -1 ≤ k ∧ k < (m : Int) ∧ i = .int .i64 k ∧ q = .int .i64 a ∧ JS l T a k) (fun i _ => (intOf i + 1).toNat)
  case atStart => exact ⟨k0, 1, hk1, hk2, rfl, rfl, by omega, by omega, .inl ⟨by omega, by rw [HT.out, Int.one_mul]⟩⟩
  case round =>
    obtain ⟨k, a, ka, kb, rfl, rfl, ha⟩ := hrel
    have HA := Lib.hid ha
    obtain ⟨a1, a2, _⟩ := ha
    by_cases hlt : k < 0
    · have HP := Lib.hid (totS_end hlt HA.out)
      go_wp2_with fail
      go_ret
      exact ⟨a, rfl, HP.out, by omega, by omega, rfl⟩
    · obtain ⟨j, rfl⟩ := Int.eq_ofNat_of_zero_le (show 0 ≤ k by omega)
      obtain ⟨b1, off, rfl, hbl, hc⟩ := hr.piece (by rw [HN.out]; omega)
      obtain ⟨d, hd⟩ := get_ex l j (by rw [HN.out]; omega)
      obtain ⟨g0, g1, g2, g3⟩ := hc j d hd
      obtain ⟨s1, s2, s3⟩ := totS_step HS.out (show j < m by omega) HA.out
      obtain ⟨t1, t2, t3, t4⟩ := HS.out j (by omega)
      rw [getP_eq hd] at s1 s2 s3 t1 t2 t3 t4
      have HS1 := Lib.hid s1; clear s1 hd hc
      have p2 : (j : Int) < (n : Int) := by omega
      have p3 : a * d.each ≤ 9223372036854775807 := by omega
      go_wp2_with fail
      generalize a * d.each = q at *
      refine (l00Min_c 1000000000001 q _).mono ?_
      rintro e w' ⟨rfl, rfl⟩
      generalize min 1000000000001 q = r at *
      go_wp2_with fail
      go_round
      case rel => exact ⟨d.parent, r, by omega, by omega, rfl, rfl, HS1.out⟩
      case measure => simp [intOf]; omega

end Go.Proofs.YtaebofpgdonnbaaDoor
