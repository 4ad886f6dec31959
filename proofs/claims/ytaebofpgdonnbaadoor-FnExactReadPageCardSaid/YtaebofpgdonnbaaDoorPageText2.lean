/- Contracts: the line of a row, of the program. -/
import Derived.Test.YtaebofpgdonnbaaDoorPageText
import Derived.Test.YtaebofpgdonnbaaDoorInts
set_option linter.unusedVariables false
set_option linter.unusedSimpArgs false
namespace Go.Proofs.YtaebofpgdonnbaaDoor
open Go.RowKit

set_option maxHeartbeats 2000000 in
theorem rowLine_c (s : ByteArray) (f t : Int) (A : Option Addr) (n c : Nat) (l : List Int) (k : Nat) (v : Int) (w : World) (hf : -1000000 ≤ f ∧ f ≤ 1000000) (hkt : -1000000000 ≤ (k : Int) * t ∧ (k : Int) * t ≤ 1000000000)
    (hn : l.length = n) (hm : n ≤ 1048576) (hr : Rd w w.heap.size 1 icell A l) (hv : l[k]? = some v) (hvb : -1000000000000 ≤ v ∧ v ≤ 1000000000000) (ht : Tab w) :
    Calls Tryd.prog 56 #[pg s f t A n c, .int .i64 (k : Int)] w fun e w' => e = .returned (.string (rowT (f + (k : Int) * t) v)) ∧ Below w.heap.size w w' := by
  have HT := Lib.hid ht; clear ht
  have hkn : k < n := by rw [← hn]; exact (List.getElem?_eq_some_iff.1 hv).1
  have z1 := dec_size (f + (k : Int) * t) (by omega)
  have z2 := dec_size v (by omega)
  have z3 := sgn_size v
  have HA := Lib.hid (Decimal_c (f + (k : Int) * t) · (by omega))
  have HV := Lib.hid (Decimal_c v · (by omega))
  have HG := Lib.hid (checkText_c v · hvb (chk_range v))
  have HR := Lib.hid (argument_c s f t A n c (k : Int) · hf hkt)
  have HX := Lib.hid (show rowT (f + (k : Int) * t) v = dec (f + (k : Int) * t) ++ ⟨#[32]⟩ ++ dec v ++ ⟨#[32]⟩ ++ sgn v from rfl)
  obtain ⟨b1, off1, rfl, hbl1, hcc1⟩ := hr.ints' (by rw [hn]; omega)
  have hck := hcc1 k v hv
  clear hcc1 hv
  have HN := Lib.hid hn; clear hn
  generalize rowT (f + (k : Int) * t) v = T at *
  generalize dec (f + (k : Int) * t) = DA at *
  generalize dec v = DV at *
  generalize sgn v = DS at *
  generalize hyq : f + (k : Int) * t = y at *
  clear hyq
  have s0 : (⟨#[32]⟩ : ByteArray).size = 1 := rfl
  have p1 : (0 : Int) ≤ (k : Int) := by omega
  have p2 : (k : Int) < (n : Int) := by omega
  unfold pg at HR ⊢
  go_enter Tryd.func56, Tryd.ntmps56
  go_upto_region 1 with fail
  refine gen_world fun W hW => ?_
  have hbW : Below w.heap.size w W := by rw [hW.out]; (repeat' (first | (with_reducible exact Below.refl _ _) | (with_reducible assumption) | (with_reducible refine below_drewN ?_ _) | (with_reducible refine Below.drew ?_) | (with_reducible refine Below.alloc ?_ ?_ _) | (with_reducible refine Below.setCell ?_ ?_ _) | (with_reducible refine via (by with_reducible assumption) ?_ ?_) | go_size))
  have c0 : W.cell? ⟨w.heap.size, 0, none⟩ = some (.string s) := by rw [hW.out]; simp [go_sem]
  have c1 : W.cell? ⟨w.heap.size, 1, none⟩ = some (.int .i64 f) := by rw [hW.out]; simp [go_sem]
  have c2 : W.cell? ⟨w.heap.size, 2, none⟩ = some (.int .i64 t) := by rw [hW.out]; simp [go_sem]
  have c3 : W.cell? ⟨w.heap.size, 3, none⟩ = some (.slice (some ⟨b1, off1, none⟩) n c) := by rw [hW.out]; simp [go_sem]
  have ck : W.cell? ⟨b1, off1 + k, none⟩ = some (.int .i64 v) := by rw [hbW.cell (p := ⟨b1, off1 + k, none⟩) hbl1]; exact hck
  have hfW := far (show w.heap.size < W.heap.size by rw [hW.out]; simp [go_sem])
  have hfb := far (show b1 < W.heap.size by have := hbW.size; omega)
  clear hW hck
  have hbs := hbW.size
  (refine wp_region_quiet_below (by kernel_rfl) (by kernel_rfl) ?_; (repeat (go_big_quiet_step (first | ((go_at_call 91; exact rg_of (fun w' hb => HR.out w'))) | ((go_at_call_of 63 (Value.int .i64 y); exact rg_of (fun w' hb => HA.out w' (HT.out.below (hbW.trans (hb.mono hbs)))))) | ((go_at_call_of 63 (Value.int .i64 v); exact rg_of (fun w' hb => HV.out w' (HT.out.below (hbW.trans (hb.mono hbs)))))) | ((go_at_call 92; exact rg_of (fun w' hb => HG.out w' (HT.out.below (hbW.trans (hb.mono hbs))))))))); refine wpQuiet_nil ?_; refine qg_end ?_; intro wq hbq)
  go_wp2_with fail
  go_ret
  refine ⟨by rw [HX.out]; rfl, ?_⟩
  (repeat' (first | (with_reducible exact Below.refl _ _) | (with_reducible assumption) | (with_reducible refine below_drewN ?_ _) | (with_reducible refine Below.drew ?_) | (with_reducible refine Below.alloc ?_ ?_ _) | (with_reducible refine Below.setCell ?_ ?_ _) | (with_reducible refine via (by with_reducible assumption) ?_ ?_) | go_size))

end Go.Proofs.YtaebofpgdonnbaaDoor
