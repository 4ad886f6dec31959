/- Contracts: the foot line, both sides. -/
import Derived.Test.YtaebofpgdonnbaaDoorPageText2
set_option linter.unusedVariables false
set_option linter.unusedSimpArgs false
namespace Go.Proofs.YtaebofpgdonnbaaDoor
open Go.RowKit

/-- the sum of the first check digits of a page, each times its place -/
def footP (l : List Int) : Nat → Int
  | 0 => 0
  | k + 1 => footP l k + ((k : Int) + 1) * chk (l[k]?.getD 0)
def footT (l : List Int) : ByteArray := ⟨#[115, 117, 109, 32]⟩ ++ dec (footP l l.length % 97)
theorem foot_term {k : Nat} {x : Int} (hk : k < 60) (hx : 0 ≤ x ∧ x ≤ 10) : 0 ≤ ((k : Int) + 1) * x ∧ ((k : Int) + 1) * x ≤ 600 := by
  have h1 : 0 ≤ ((k : Int) + 1) * x := Int.mul_nonneg (by omega) hx.1
  have h2 : ((k : Int) + 1) * x ≤ 60 * 10 := Int.mul_le_mul (by omega) hx.2 hx.1 (by omega)
  omega
theorem footP_bd (l : List Int) : ∀ k, k ≤ 60 → 0 ≤ footP l k ∧ footP l k ≤ 600 * k
  | 0, _ => by simp [footP]
  | k + 1, h => by
    have ih := footP_bd l k (by omega)
    have := foot_term (k := k) (by omega) (chk_range (l[k]?.getD 0))
    simp only [footP]
    omega

set_option maxHeartbeats 2000000 in
theorem footLine_c (s : ByteArray) (f t : Int) (A : Option Addr) (n c : Nat) (l : List Int) (w : World) (hn : l.length = n) (hm : n ≤ 60) (hr : Rd w w.heap.size 1 icell A l) (hv : ∀ x ∈ l, -1000000000000 ≤ x ∧ x ≤ 1000000000000) (ht : Tab w) :
    Calls Tryd.prog 57 #[pg s f t A n c] w fun e w' => e = .returned (.string (footT l)) ∧ Below w.heap.size w w' := by
  have HT := Lib.hid ht; clear ht
  have HN := Lib.hid hn; clear hn
  have HV := Lib.hid hv; clear hv
  have HR := Lib.hid hr; clear hr
  have HX := Lib.hid (show footT l = ⟨#[115, 117, 109, 32]⟩ ++ dec (footP l n % 97) by unfold footT; rw [HN.out])
  unfold pg
  go_enter Tryd.func57, Tryd.ntmps57
  go_wp2_with fail
  go_loop [3, 9] (fun q i => ∃ k : Nat, k ≤ n ∧ i = .int .i64 k ∧ q = .int .i64 (footP l k)) (fun _ i => n - (intOf i).toNat)
  case atStart => exact ⟨0, Nat.zero_le _, rfl, rfl⟩
  case round =>
    obtain ⟨k, hk, rfl, rfl⟩ := hrel
    have hfb := footP_bd l k (by omega)
    by_cases hlt : k < n
    · obtain ⟨b1, off, rfl, hbl, hc⟩ := HR.out.ints' (by rw [HN.out]; omega)
      obtain ⟨x, hx⟩ := get_ex l k (by rw [HN.out]; omega)
      have g0 := hc k x hx
      have hxb := HV.out x (List.mem_of_getElem? hx)
      have hcr := chk_range x
      have hft := foot_term (k := k) (by omega) hcr
      have HF := Lib.hid (show footP l (k + 1) = footP l k + ((k : Int) + 1) * chk x by simp only [footP]; rw [hx]; rfl)
      have hf1 := far hbl
      clear hc hx
      have p1 : (0 : Int) ≤ (k : Int) := by omega
      have p2 : (k : Int) < (n : Int) := by omega
      have HK := Lib.hid (checkDigit_c x · hxb)
      have e1 : IntKind.i64.wrap ((k : Int) + 1) = (k : Int) + 1 := IntWalk.i64_in _ (by omega)
      have e2 : IntKind.i64.wrap (((k : Int) + 1) * chk x) = ((k : Int) + 1) * chk x := IntWalk.i64_in _ (by omega)
      have e3 : IntKind.i64.wrap (footP l k + ((k : Int) + 1) * chk x) = footP l (k + 1) := by rw [HF.out]; exact IntWalk.i64_in _ (by omega)
      generalize chk x = y at *
      go_wp2_with (go_at_call 93; refine (HK.out _).mono ?_; rintro e w' ⟨rfl, rfl⟩)
      (first | (refine ⟨⟨(by first | trivial | rfl), ?_⟩, ?_⟩; rotate_left; (first | (simp [intOf]; done) | (simp [intOf]; omega)); (repeat apply Exists.intro); refine ⟨?_, rfl⟩; exact ⟨k + 1, by omega, by go_num, rfl⟩) | exact ⟨⟨k + 1, by omega, by go_num, rfl⟩, by first | (simp [intOf]; done) | (simp [intOf]; omega)⟩)
    · obtain rfl : k = n := by omega
      have z1 := dec_size (footP l k % 97) (by omega)
      have HD := Lib.hid (Decimal_c (footP l k % 97) · (by omega))
      have s0 : (⟨#[115, 117, 109, 32]⟩ : ByteArray).size = 4 := rfl
      generalize dec (footP l k % 97) = D at *
      go_wp2_with fail
      refine (HD.out _ (HT.out.below (by (repeat' (first | (with_reducible exact Below.refl _ _) | (with_reducible assumption) | (with_reducible refine below_drewN ?_ _) | (with_reducible refine Below.drew ?_) | (with_reducible refine Below.alloc ?_ ?_ _) | (with_reducible refine Below.setCell ?_ ?_ _) | (with_reducible refine via (by with_reducible assumption) ?_ ?_) | go_size))))).mono ?_
      rintro e w1 ⟨rfl, hb1⟩
      go_wp2_with fail
      go_ret
      refine ⟨by rw [HX.out]; rfl, ?_⟩
      (repeat' (first | (with_reducible exact Below.refl _ _) | (with_reducible assumption) | (with_reducible refine below_drewN ?_ _) | (with_reducible refine Below.drew ?_) | (with_reducible refine Below.alloc ?_ ?_ _) | (with_reducible refine Below.setCell ?_ ?_ _) | (with_reducible refine via (by with_reducible assumption) ?_ ?_) | go_size))

set_option maxHeartbeats 2000000 in
theorem l18Foot_c (b : Nat) (s : ByteArray) (f t : Int) (A : Option Addr) (n c : Nat) (l : List Int) (w : World) (hn : l.length = n) (hm : n ≤ 60) (hr : Rd w w.heap.size 1 icell A l) (hv : ∀ x ∈ l, -1000000000000 ≤ x ∧ x ≤ 1000000000000) (hp : PgAt w b s f t A n c) :
    Calls Tryd.prog 81 #[.pointer (some ⟨b, 0, none⟩)] w fun e w' => e = .returned (.int .i64 (footP l n % 97)) ∧ w = w' := by
  have HN := Lib.hid hn; clear hn
  have HV := Lib.hid hv; clear hv
  have HR := Lib.hid hr; clear hr
  obtain ⟨c0, c1, c2, c3⟩ := hp
  go_enter Tryd.func81, Tryd.ntmps81
  go_wp2_with fail
  go_loop [3, 4] (fun q i => ∃ k : Nat, k ≤ n ∧ i = .int .i64 k ∧ q = .int .i64 (footP l k)) (fun _ i => n - (intOf i).toNat)
  case atStart => exact ⟨0, Nat.zero_le _, rfl, rfl⟩
  case round =>
    obtain ⟨k, hk, rfl, rfl⟩ := hrel
    have hfb := footP_bd l k (by omega)
    by_cases hlt : k < n
    · obtain ⟨b1, off, rfl, hbl, hc⟩ := HR.out.ints' (by rw [HN.out]; omega)
      obtain ⟨x, hx⟩ := get_ex l k (by rw [HN.out]; omega)
      have g0 := hc k x hx
      have hxb := HV.out x (List.mem_of_getElem? hx)
      have hcr := chk_range x
      have hft := foot_term (k := k) (by omega) hcr
      have HF := Lib.hid (show footP l (k + 1) = footP l k + ((k : Int) + 1) * chk x by simp only [footP]; rw [hx]; rfl)
      clear hc hx
      have p1 : (0 : Int) ≤ (k : Int) := by omega
      have p2 : (k : Int) < (n : Int) := by omega
      have HK := Lib.hid (l18Check_c x · hxb)
      have e1 : IntKind.i64.wrap ((k : Int) + 1) = (k : Int) + 1 := IntWalk.i64_in _ (by omega)
      have e2 : IntKind.i64.wrap (((k : Int) + 1) * chk x) = ((k : Int) + 1) * chk x := IntWalk.i64_in _ (by omega)
      have e3 : IntKind.i64.wrap (footP l k + ((k : Int) + 1) * chk x) = footP l (k + 1) := by rw [HF.out]; exact IntWalk.i64_in _ (by omega)
      generalize chk x = y at *
      go_wp2_with (go_at_call 104; refine (HK.out _).mono ?_; rintro e w' ⟨rfl, rfl⟩)
      (first | (refine ⟨⟨(by first | trivial | rfl), ?_⟩, ?_⟩; rotate_left; (first | (simp [intOf]; done) | (simp [intOf]; omega)); (repeat apply Exists.intro); refine ⟨?_, rfl⟩; exact ⟨k + 1, by omega, by go_num, rfl⟩) | exact ⟨⟨k + 1, by omega, by go_num, rfl⟩, by first | (simp [intOf]; done) | (simp [intOf]; omega)⟩)
    · obtain rfl : k = n := by omega
      go_wp2_with fail
      go_ret
      exact ⟨rfl, rfl⟩

end Go.Proofs.YtaebofpgdonnbaaDoor
