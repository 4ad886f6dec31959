/- Contracts: Pieces marked, held. -/
import Derived.Test.YtaebofpgdonnbaaDoorPieces1
import Derived.Test.YtaebofpgdonnbaaDoorMark
set_option linter.unusedVariables false
set_option linter.unusedSimpArgs false
namespace Go.Proofs.YtaebofpgdonnbaaDoor
open Go.RowKit

def mkPiece (q : Int) : PieceD := ⟨(mtxt (q)), (q + 1), (q + 1 + 1), (q + 1 + 1 + 1)⟩
def mkPieces (k0 : Int) (n : Nat) : List PieceD := (List.range n).map fun (i : Nat) => mkPiece (k0 + 4 * (i : Int))
theorem mkPieces_len (k0 : Int) (n : Nat) : (mkPieces k0 n).length = n := by rw [mkPieces, List.length_map, List.length_range]
theorem mkPieces_succ (k0 : Int) (n : Nat) : mkPieces k0 (n + 1) = mkPieces k0 n ++ [mkPiece (k0 + 4 * (n : Int))] := by rw [mkPieces, List.range_succ, List.map_append]; rfl
theorem mkPieces_get (k0 : Int) (n i : Nat) (h : i < n) : (mkPieces k0 n)[i]? = some (mkPiece (k0 + 4 * (i : Int))) := by
  rw [mkPieces, List.getElem?_map, List.getElem?_range h]; rfl

set_option maxHeartbeats 2000000 in
theorem markPieceS_c (A : Option Addr) (n c : Nat) (k0 : Int) (xs0 : List Value) (base : Nat) (w : World) (hm : n ≤ 2097152) (hk0 : 1 ≤ k0 ∧ k0 ≤ 4611686018000000000)
    (hown : w.ownsRow base 79 4 (.slice A n c) n xs0) :
    Calls Tryd.prog 33 #[.slice A n c, .int .i64 k0] w fun e w' => e = .returned (.int .i64 (k0 + 4 * n)) ∧ w'.ownsRow base 79 4 (.slice A n c) n ((mkPieces k0 n).flatMap pcell) ∧ w.grownBy w' (Value.slice A n c).ownBlock := by
  obtain ⟨hk1, hk2⟩ := hk0
  go_enter Tryd.func33, Tryd.ntmps33
  go_wp2
  go_loopw [1, 5] (fun q i wr => ∃ k : Nat, k ≤ n ∧ i = .int .i64 k ∧ q = .int .i64 (k0 + 4 * k) ∧ w.grownBy wr (Value.slice A n c).ownBlock ∧ ∃ xs, wr.ownsRow base 79 4 (.slice A n c) n xs ∧ xs.take (k * 4) = (mkPieces k0 k).flatMap pcell) (fun _ i _ => n - (intOf i).toNat)
  case atStart => exact ⟨0, Nat.zero_le _, rfl, by simp, World.grownBy.refl w _, _, hown, by simp [mkPieces]⟩
  case round =>
    clear hown
    obtain ⟨k, hk, rfl, rfl, hg, xs, hx, ht⟩ := hrel
    have HX := Lib.hid hx; clear hx
    have HT := Lib.hid ht; clear ht
    have HG := Lib.hid hg; clear hg
    by_cases hlt : k < n
    · have hA : ∃ g, A = some ⟨g, 0, none⟩ := by
        rcases HX.out.2 with ⟨hv, h0⟩ | ⟨g, cap, cur, hv, _⟩
        · omega
        · exact ⟨g, by injection hv⟩
      obtain ⟨g, rfl⟩ := hA
      have hxl : xs.length = n * 4 := HX.out.1
      obtain ⟨q, hq⟩ : ∃ q : Int, q = k0 + 4 * (k : Int) := ⟨_, rfl⟩
      rw [← hq]
      have qb : 1 ≤ q ∧ q ≤ 4611686018200000000 := by omega
      obtain ⟨qb1, qb2⟩ := qb
      have HQ := Lib.hid hq; clear hq
      obtain ⟨z0, hz0⟩ : ∃ x, xs[k * 4]? = some x := ⟨_, List.getElem?_eq_getElem (by omega)⟩
      have HZ0 := Lib.hid hz0; clear hz0
      obtain ⟨z1, hz1⟩ : ∃ x, xs[k * 4 + 1]? = some x := ⟨_, List.getElem?_eq_getElem (by omega)⟩
      have HZ1 := Lib.hid hz1; clear hz1
      obtain ⟨z2, hz2⟩ : ∃ x, xs[k * 4 + 2]? = some x := ⟨_, List.getElem?_eq_getElem (by omega)⟩
      have HZ2 := Lib.hid hz2; clear hz2
      obtain ⟨z3, hz3⟩ : ∃ x, xs[k * 4 + 3]? = some x := ⟨_, List.getElem?_eq_getElem (by omega)⟩
      have HZ3 := Lib.hid hz3; clear hz3
      have HL := Lib.hid hxl; clear hxl
      go_wp2_with fail
      refine (markText_c (q) _ (by omega) (by omega)).mono ?_
      rintro e w1 ⟨rfl, hb1⟩
      have hx1 := own_call (HX.out) hb1
      have hg1 : w.grownBy w1 (Value.slice (some ⟨g, 0, none⟩) n c).ownBlock := (HG.out.trans (grown_of_below hb1))
      have c0 : w1.cell? ⟨g, k * 4, none⟩ = some z0 := by rw [hx1.cellAt _ (by have := HL.out; omega)]; exact HZ0.out
      have f0 : w1.frozen? ⟨g, k * 4, none⟩ = false := hx1.frozenAt _
      have c1 : w1.cell? ⟨g, k * 4 + 1, none⟩ = some z1 := by rw [hx1.cellAt _ (by have := HL.out; omega)]; exact HZ1.out
      have f1 : w1.frozen? ⟨g, k * 4 + 1, none⟩ = false := hx1.frozenAt _
      have c2 : w1.cell? ⟨g, k * 4 + 2, none⟩ = some z2 := by rw [hx1.cellAt _ (by have := HL.out; omega)]; exact HZ2.out
      have f2 : w1.frozen? ⟨g, k * 4 + 2, none⟩ = false := hx1.frozenAt _
      have c3 : w1.cell? ⟨g, k * 4 + 3, none⟩ = some z3 := by rw [hx1.cellAt _ (by have := HL.out; omega)]; exact HZ3.out
      have f3 : w1.frozen? ⟨g, k * 4 + 3, none⟩ = false := hx1.frozenAt _
      have HX1 := Lib.hid hx1; clear hx1
      have HG1 := Lib.hid hg1; clear hg1
      go_wp2_with fail
      go_roundw
      case rel =>
        have s0 := (HX1.out).stored (k * 4) (.string (mtxt (q)))
        have s1 := (s0.1).stored (k * 4 + 1) (.int .i64 (q + 1))
        have s2 := (s1.1).stored (k * 4 + 2) (.int .i64 (q + 1 + 1))
        have s3 := (s2.1).stored (k * 4 + 3) (.int .i64 (q + 1 + 1 + 1))
        refine ⟨k + 1, by omega, by go_num, ret_val (by have := HQ.out; omega), ((((HG1.out.trans s0.2).trans s1.2).trans s2.2).trans s3.2), _, s3.1, ?_⟩
        have hxl := HL.out
        rw [take_set4 _ _ _ _ _ _ (by omega), HT.out, mkPieces_succ, List.flatMap_append]
        have hq := HQ.out
        simp [mkPiece, pcell, ← hq]
      case measure => simp [intOf]; omega
    · have hkn : k = n := by omega
      subst hkn
      have hfin : wr.ownsRow base 79 4 (.slice A k c) k ((mkPieces k0 k).flatMap pcell) := by
        have h1 := HX.out
        have h2 := HT.out
        rw [List.take_of_length_le (by rw [h1.1]; exact Nat.le_refl _)] at h2
        rwa [h2] at h1
      go_wp2
      go_ret
      exact ⟨rfl, hfin, HG.out⟩

set_option maxHeartbeats 2000000 in
theorem heldPieceS_c (A : Option Addr) (n c : Nat) (k0 : Int) (w : World) (hm : n ≤ 2097152) (hk0 : 1 ≤ k0 ∧ k0 ≤ 4611686018000000000)
    (hr : Rd w w.heap.size 4 pcell A (mkPieces k0 n)) :
    Calls Tryd.prog 34 #[.slice A n c, .int .i64 k0] w fun e w' => e = .returned (.int .i64 (k0 + 4 * n)) ∧ Below w.heap.size w w' := by
  obtain ⟨hk1, hk2⟩ := hk0
  go_enter Tryd.func34, Tryd.ntmps34
  go_wp2
  go_loopw [1, 5] (fun q i wr => ∃ k : Nat, k ≤ n ∧ i = .int .i64 k ∧ q = .int .i64 (k0 + 4 * k) ∧ Below w.heap.size w wr) (fun _ i _ => n - (intOf i).toNat)
  case atStart => exact ⟨0, Nat.zero_le _, rfl, by simp, Below.refl _ _⟩
  case round =>
    obtain ⟨k, hk, rfl, rfl, hb⟩ := hrel
    have hbs := hb.size
    by_cases hlt : k < n
    · obtain ⟨b, off, rfl, hbl, hc⟩ := (hr.below hb).piece (by rw [mkPieces_len]; omega)
      obtain ⟨g0, g1, g2, g3⟩ := hc k _ (mkPieces_get k0 n k hlt)
      simp only [mkPiece] at g0 g1 g2 g3
      obtain ⟨q, hq⟩ : ∃ q : Int, q = k0 + 4 * (k : Int) := ⟨_, rfl⟩
      rw [← hq] at g0 g1 g2 g3
      rw [← hq]
      have qb : 1 ≤ q ∧ q ≤ 4611686018200000000 := by omega
      obtain ⟨qb1, qb2⟩ := qb
      have HQ := Lib.hid hq; clear hq hc
      have hbl' : b < wr.heap.size := by omega
      have p1 : (0 : Int) ≤ (k : Int) := by omega
      have p2 : (k : Int) < (n : Int) := by omega
      go_wp2_with fail
      (refine wp_region_quiet_below (by kernel_rfl) (by kernel_rfl) ?_; (repeat (go_big_quiet_step (first | ((go_at_call 47; exact rg_of (fun w' hb => markText_c (q) w' (by omega) (by omega))))))); refine wpQuiet_nil ?_; refine qg_end ?_; intro wq hbq)
      obtain ⟨v0, rfl⟩ : ∃ W : World, W = wq := ⟨_, rfl⟩
      have hbs0 := hbq.size
      rw [← hbq.cell (p := ⟨b, off + k * 4 + 1, none⟩) (by first | exact hbl' | (simp only; omega))] at g1
      rw [← hbq.cell (p := ⟨b, off + k * 4 + 2, none⟩) (by first | exact hbl' | (simp only; omega))] at g2
      rw [← hbq.cell (p := ⟨b, off + k * 4 + 3, none⟩) (by first | exact hbl' | (simp only; omega))] at g3
      have hbl0 : b < v0.heap.size := by omega
      have hbq0 := hbq; clear hbq
      go_wp2_with fail
      (first | (refine ⟨?_, ?_⟩; rotate_left; (first | (simp [intOf]; done) | (simp [intOf]; omega)); (repeat apply Exists.intro); refine ⟨?_, rfl⟩; exact ⟨k + 1, by omega, by go_num, ret_val (by have := HQ.out; omega), by (repeat' (first | (with_reducible exact Below.refl _ _) | (with_reducible assumption) | (with_reducible refine below_drewN ?_ _) | (with_reducible refine Below.drew ?_) | (with_reducible refine Below.alloc ?_ ?_ _) | (with_reducible refine Below.setCell ?_ ?_ _) | (with_reducible refine via (by with_reducible assumption) ?_ ?_) | go_size))⟩) | exact ⟨⟨k + 1, by omega, by go_num, ret_val (by have := HQ.out; omega), by (repeat' (first | (with_reducible exact Below.refl _ _) | (with_reducible assumption) | (with_reducible refine below_drewN ?_ _) | (with_reducible refine Below.drew ?_) | (with_reducible refine Below.alloc ?_ ?_ _) | (with_reducible refine Below.setCell ?_ ?_ _) | (with_reducible refine via (by with_reducible assumption) ?_ ?_) | go_size))⟩, by first | (simp [intOf]; done) | (simp [intOf]; omega)⟩)
    · have hkn : k = n := by omega
      subst hkn
      go_wp2
      go_ret
      exact ⟨rfl, hb⟩

end Go.Proofs.YtaebofpgdonnbaaDoor
