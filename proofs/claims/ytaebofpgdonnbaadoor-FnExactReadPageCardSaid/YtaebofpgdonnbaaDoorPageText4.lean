/- Contracts: the head line of the program. -/
import Derived.Test.YtaebofpgdonnbaaDoorPageText3
set_option linter.unusedVariables false
set_option linter.unusedSimpArgs false
namespace Go.Proofs.YtaebofpgdonnbaaDoor
open Go.RowKit

def headT (s : ByteArray) (f t n : Int) : ByteArray := s ++ ⟨#[32]⟩ ++ dec f ++ ⟨#[32]⟩ ++ dec t ++ ⟨#[32]⟩ ++ dec n

set_option maxHeartbeats 2000000 in
theorem headLine_c (s : ByteArray) (f t : Int) (A : Option Addr) (n c : Nat) (m : Int) (w : World) (hs : s.size ≤ 1048576) (hf : -9223372036854775808 ≤ f ∧ f ≤ 9223372036854775807) (htt : -9223372036854775808 ≤ t ∧ t ≤ 9223372036854775807) (hm : -9223372036854775808 ≤ m ∧ m ≤ 9223372036854775807) (ht : Tab w) :
    Calls Tryd.prog 55 #[pg s f t A n c, .int .i64 m] w fun e w' => e = .returned (.string (headT s f t m)) ∧ Below w.heap.size w w' := by
  have HT := Lib.hid ht; clear ht
  have z1 := dec_size f hf
  have z2 := dec_size t htt
  have z3 := dec_size m hm
  have HA := Lib.hid (Decimal_c f · hf)
  have HV := Lib.hid (Decimal_c t · htt)
  have HG := Lib.hid (Decimal_c m · hm)
  have HX := Lib.hid (show headT s f t m = s ++ ⟨#[32]⟩ ++ dec f ++ ⟨#[32]⟩ ++ dec t ++ ⟨#[32]⟩ ++ dec m from rfl)
  generalize headT s f t m = T at *
  generalize dec f = DA at *
  generalize dec t = DV at *
  generalize dec m = DS at *
  have s0 : (⟨#[32]⟩ : ByteArray).size = 1 := rfl
  unfold pg
  go_enter Tryd.func55, Tryd.ntmps55
  go_upto_region 1 with fail
  refine gen_world fun W hW => ?_
  have hbW : Below w.heap.size w W := by rw [hW.out]; (repeat' (first | (with_reducible exact Below.refl _ _) | (with_reducible assumption) | (with_reducible refine below_drewN ?_ _) | (with_reducible refine Below.drew ?_) | (with_reducible refine Below.alloc ?_ ?_ _) | (with_reducible refine Below.setCell ?_ ?_ _) | (with_reducible refine via (by with_reducible assumption) ?_ ?_) | go_size))
  have c0 : W.cell? ⟨w.heap.size, 0, none⟩ = some (.string s) := by rw [hW.out]; simp [go_sem]
  have c1 : W.cell? ⟨w.heap.size, 1, none⟩ = some (.int .i64 f) := by rw [hW.out]; simp [go_sem]
  have c2 : W.cell? ⟨w.heap.size, 2, none⟩ = some (.int .i64 t) := by rw [hW.out]; simp [go_sem]
  have hfW := far (show w.heap.size < W.heap.size by rw [hW.out]; simp [go_sem])
  clear hW
  have hbs := hbW.size
  (refine wp_region_quiet_below (by kernel_rfl) (by kernel_rfl) ?_; (repeat (go_big_quiet_step (first | ((go_at_call_of 63 (Value.int .i64 f); exact rg_of (fun w' hb => HA.out w' (HT.out.below (hbW.trans (hb.mono hbs)))))) | ((go_at_call_of 63 (Value.int .i64 t); exact rg_of (fun w' hb => HV.out w' (HT.out.below (hbW.trans (hb.mono hbs)))))) | ((go_at_call_of 63 (Value.int .i64 m); exact rg_of (fun w' hb => HG.out w' (HT.out.below (hbW.trans (hb.mono hbs))))))))); refine wpQuiet_nil ?_; refine qg_end ?_; intro wq hbq)
  go_wp2_with fail
  go_ret
  refine ⟨by rw [HX.out]; rfl, ?_⟩
  (repeat' (first | (with_reducible exact Below.refl _ _) | (with_reducible assumption) | (with_reducible refine below_drewN ?_ _) | (with_reducible refine Below.drew ?_) | (with_reducible refine Below.alloc ?_ ?_ _) | (with_reducible refine Below.setCell ?_ ?_ _) | (with_reducible refine via (by with_reducible assumption) ?_ ?_) | go_size))

end Go.Proofs.YtaebofpgdonnbaaDoor
