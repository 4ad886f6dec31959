/- Contracts: fractions marked, held. -/
import Derived.Test.YtphckllloiogjaaFracs1
import Derived.Test.YtphckllloiogjaaLawCalls
set_option linter.unusedVariables false
set_option linter.unusedSimpArgs false
namespace Go.Proofs.Ytphckllloiogjaa
open Go.RowKit

def mkFraction (q : Int) : Int × Int := (q, q + 1)
def mkFractions (k0 : Int) (n : Nat) : List (Int × Int) := (List.range n).map fun (i : Nat) => mkFraction (k0 + 2 * (i : Int))
theorem mkFractions_len (k0 : Int) (n : Nat) : (mkFractions k0 n).length = n := by rw [mkFractions, List.length_map, List.length_range]
theorem mkFractions_succ (k0 : Int) (n : Nat) : mkFractions k0 (n + 1) = mkFractions k0 n ++ [mkFraction (k0 + 2 * (n : Int))] := by rw [mkFractions, List.range_succ, List.map_append]; rfl
theorem mkFractions_get (k0 : Int) (n i : Nat) (h : i < n) : (mkFractions k0 n)[i]? = some (mkFraction (k0 + 2 * (i : Int))) := by
  rw [mkFractions, List.getElem?_map, List.getElem?_range h]; rfl

set_option maxHeartbeats 1000000 in
theorem markFractionS_c (A : Option Addr) (n c : Nat) (k0 : Int) (xs0 : List Value) (base : Nat) (w : World) (hm : n ≤ 1048576) (hk0 : 0 ≤ k0 ∧ k0 ≤ 4611686018427387904)
    (hown : w.ownsRow base 23 2 (.slice A n c) n xs0) :
    Calls Try.prog 36 #[.slice A n c, .int .i64 k0] w fun e w' => e = .returned (.int .i64 (k0 + 2 * n)) ∧ w'.ownsRow base 23 2 (.slice A n c) n ((mkFractions k0 n).flatMap fcell) ∧ w.grownBy w' (Value.slice A n c).ownBlock := by
  go_enter Try.func36, Try.ntmps36
  go_wp2
  go_loopw [1, 5] (fun q i wr => ∃ k : Nat, k ≤ n ∧ i = .int .i64 k ∧ q = .int .i64 (k0 + 2 * k) ∧ w.grownBy wr (Value.slice A n c).ownBlock ∧ ∃ xs, wr.ownsRow base 23 2 (.slice A n c) n xs ∧ xs.take (k * 2) = (mkFractions k0 k).flatMap fcell) (fun _ i _ => n - (intOf i).toNat)
  case atStart => exact ⟨0, Nat.zero_le _, rfl, by simp, World.grownBy.refl w _, _, hown, by simp [mkFractions]⟩
  case round =>
    clear hown
    obtain ⟨k, hk, rfl, rfl, hg, xs, hx, ht⟩ := hrel
    have HX := Lib.hid hx; clear hx
    have HG := Lib.hid hg; clear hg
    have HT := Lib.hid ht; clear ht
    by_cases hlt : k < n
    · have hA : ∃ g, A = some ⟨g, 0, none⟩ := by
        rcases HX.out.2 with ⟨hv, h0⟩ | ⟨g, cap, cur, hv, _⟩
        · omega
        · exact ⟨g, by injection hv⟩
      obtain ⟨g, rfl⟩ := hA
      have hxl : xs.length = n * 2 := HX.out.1
      obtain ⟨z0, hz0'⟩ : ∃ x, xs[k * 2]? = some x := ⟨_, List.getElem?_eq_getElem (by omega)⟩
      have c0 : wr.cell? ⟨g, k * 2, none⟩ = some z0 := by rw [HX.out.cellAt _ (by omega)]; exact hz0'
      have f0 : wr.frozen? ⟨g, k * 2, none⟩ = false := HX.out.frozenAt _
      obtain ⟨z1, hz1'⟩ : ∃ x, xs[k * 2 + 1]? = some x := ⟨_, List.getElem?_eq_getElem (by omega)⟩
      have c1 : wr.cell? ⟨g, k * 2 + 1, none⟩ = some z1 := by rw [HX.out.cellAt _ (by omega)]; exact hz1'
      have f1 : wr.frozen? ⟨g, k * 2 + 1, none⟩ = false := HX.out.frozenAt _
      have HL := Lib.hid hxl; clear hxl hz0' hz1'
      go_wp2
      go_roundw
      case rel =>
        have s0 := HX.out.stored (k * 2) (.int .i64 (k0 + 2 * k))
        have s1 := s0.1.stored (k * 2 + 1) (.int .i64 (k0 + 2 * k + 1))
        have hxl := HL.out
        refine ⟨k + 1, by omega, by go_num, ret_val (by omega), (HG.out.trans s0.2).trans s1.2, _, s1.1, ?_⟩
        rw [take_set2 _ _ _ _ (by omega), HT.out, mkFractions_succ, List.flatMap_append]
        simp [fcell, mkFraction]
      case measure => simp [intOf]; omega
    · have hkn : k = n := by omega
      subst hkn
      have hfin : wr.ownsRow base 23 2 (.slice A k c) k ((mkFractions k0 k).flatMap fcell) := by
        have h1 := HX.out
        have h2 := HT.out
        rw [List.take_of_length_le (by rw [h1.1]; exact Nat.le_refl _)] at h2
        rwa [h2] at h1
      go_wp2
      go_ret
      exact ⟨rfl, hfin, HG.out⟩

set_option maxHeartbeats 1000000 in
theorem heldFractionS_c (A : Option Addr) (n c : Nat) (k0 : Int) (w : World) (hm : n ≤ 1048576) (hk0 : 1 ≤ k0 ∧ k0 ≤ 4611686018000000000)
    (hr : Rd w w.heap.size 2 fcell A (mkFractions k0 n)) :
    Calls Try.prog 41 #[.slice A n c, .int .i64 k0] w fun e w' => e = .returned (.int .i64 (k0 + 2 * n)) ∧ Below w.heap.size w w' := by
  obtain ⟨hk1, hk2⟩ := hk0
  go_enter Try.func41, Try.ntmps41
  go_wp2
  go_loopw [1, 5] (fun q i wr => ∃ k : Nat, k ≤ n ∧ i = .int .i64 k ∧ q = .int .i64 (k0 + 2 * k) ∧ Below w.heap.size w wr) (fun _ i _ => n - (intOf i).toNat)
  case atStart => exact ⟨0, Nat.zero_le _, rfl, by simp, Below.refl _ _⟩
  case round =>
    obtain ⟨k, hk, rfl, rfl, hb⟩ := hrel
    have hbs := hb.size
    by_cases hlt : k < n
    · obtain ⟨b, off, rfl, hbl, hc⟩ := (hr.below hb).frac (by rw [mkFractions_len]; omega)
      obtain ⟨g0, g1⟩ := hc k _ (mkFractions_get k0 n k hlt)
      simp only [mkFraction] at g0 g1
      have hbl' : b < wr.heap.size := by omega
      have p1 : (0 : Int) ≤ (k : Int) := by omega
      clear hc
      go_wp2_with fail
      go_roundw
      case rel => exact ⟨k + 1, by omega, by go_num, ret_val (by omega), by (repeat' (first | (with_reducible exact Below.refl _ _) | (with_reducible assumption) | (with_reducible refine below_drewN ?_ _) | (with_reducible refine Below.drew ?_) | (with_reducible refine Below.alloc ?_ ?_ _) | (with_reducible refine Below.setCell ?_ ?_ _) | (with_reducible refine via (by with_reducible assumption) ?_ ?_) | go_size))⟩
      case measure => simp [intOf]; omega
    · have hkn : k = n := by omega
      subst hkn
      go_wp2_with fail
      go_ret
      exact ⟨rfl, hb⟩
end Go.Proofs.Ytphckllloiogjaa
