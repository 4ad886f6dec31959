/- Contracts: pages marked, held; pages kept. -/
import Derived.Test.YtaebofpgdonnbaaDoorPageFn
set_option linter.unusedVariables false
set_option linter.unusedSimpArgs false
namespace Go.Proofs.YtaebofpgdonnbaaDoor
open Go.RowKit

theorem PgAt.grown {w w' : World} {b : Nat} {s : ByteArray} {f t : Int} {A : Option Addr} {n c : Nat} {row : Option Nat} (h : PgAt w b s f t A n c) (hg : w.grownBy w' row) (hB : b < w.heap.size) (hne : some b ≠ row) : PgAt w' b s f t A n c := by
  obtain ⟨h0, h1, h2, h3⟩ := h
  have hc : ∀ o, w'.cell? ⟨b, o, none⟩ = w.cell? ⟨b, o, none⟩ := fun o => World.cell?_of_block (w := w) (hg.block b hB hne)
  exact ⟨by rw [hc]; exact h0, by rw [hc]; exact h1, by rw [hc]; exact h2, by rw [hc]; exact h3⟩
theorem grown_of_below0 {w w' : World} {row : Option Nat} (h : Below w.heap.size w w') : w.grownBy w' row := ⟨h.os, h.tape, h.output, h.size, fun q hq _ => h.block q hq⟩

set_option maxHeartbeats 400000 in
theorem markTablePage_c (s : ByteArray) (f t : Int) (A : Option Addr) (n c : Nat) (k0 : Int) (xs0 : List Value) (base : Nat) (w : World) (hm : n ≤ 1048576) (hk0 : 0 ≤ k0 ∧ k0 ≤ 4611686018427387904)
    (hown : w.ownsRow base 2 1 (.slice A n c) n xs0) :
    Calls Tryd.prog 19 #[pg s f t A n c, .int .i64 k0] w fun e w' => e = .returned (.int .i64 (k0 + n)) ∧ w'.ownsRow base 2 1 (.slice A n c) n ((marks k0 n).map (Value.int .i64)) ∧ w.grownBy w' (Value.slice A n c).ownBlock := by
  unfold pg
  go_enter Tryd.func19, Tryd.ntmps19
  go_wp2_with fail
  refine gen_calls fun W hW => ?_
  have hbW : Below w.heap.size w W := by rw [hW.out]; (repeat' (first | (with_reducible exact Below.refl _ _) | (with_reducible assumption) | (with_reducible refine below_drewN ?_ _) | (with_reducible refine Below.drew ?_) | (with_reducible refine Below.alloc ?_ ?_ _) | (with_reducible refine Below.setCell ?_ ?_ _) | (with_reducible refine via (by with_reducible assumption) ?_ ?_) | go_size))
  clear hW
  refine (markInt64S_c A n c k0 xs0 base W hm hk0 (own_call hown hbW)).mono ?_
  rintro e w1 ⟨rfl, hx, hg⟩
  have hfin := (grown_of_below0 hbW).trans hg
  have HX := Lib.hid hx; clear hx
  go_wp2_with fail
  go_ret
  exact ⟨rfl, HX.out, hfin⟩

set_option maxHeartbeats 400000 in
theorem heldTablePage_c (s : ByteArray) (f t : Int) (A : Option Addr) (n c : Nat) (k0 : Int) (w : World) (hm : n ≤ 1048576) (hk0 : 0 ≤ k0 ∧ k0 ≤ 4611686018427387904)
    (hr : Rd w w.heap.size 1 icell A (marks k0 n)) :
    Calls Tryd.prog 20 #[pg s f t A n c, .int .i64 k0] w fun e w' => e = .returned (.int .i64 (k0 + n)) ∧ Below w.heap.size w w' := by
  unfold pg
  go_enter Tryd.func20, Tryd.ntmps20
  go_wp2_with fail
  refine gen_calls fun W hW => ?_
  have hbW : Below w.heap.size w W := by rw [hW.out]; (repeat' (first | (with_reducible exact Below.refl _ _) | (with_reducible assumption) | (with_reducible refine below_drewN ?_ _) | (with_reducible refine Below.drew ?_) | (with_reducible refine Below.alloc ?_ ?_ _) | (with_reducible refine Below.setCell ?_ ?_ _) | (with_reducible refine via (by with_reducible assumption) ?_ ?_) | go_size))
  clear hW
  refine (heldInt64S_c A n c k0 w.heap.size W hm hk0 (hr.below hbW)).mono ?_
  rintro e w1 ⟨rfl, rfl⟩
  go_wp2_with fail
  go_ret
  exact ⟨rfl, hbW⟩
end Go.Proofs.YtaebofpgdonnbaaDoor
