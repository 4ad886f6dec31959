/- The walk of FnExactBoundTable. -/
import Derived.Test.YtphckllloiogjaaBound2
import Derived.Test.YtphckllloiogjaaLawInts
set_option linter.unusedVariables false
set_option linter.unusedSimpArgs false
namespace Go.Proofs.Ytphckllloiogjaa
open Go.RowKit

set_option maxHeartbeats 2000000 in
theorem fnExactBoundTable_walk (w : World) (A : Option Addr) (n c : Nat) (l : List Int) (hn : l.length = n) (hmx : n ≤ maxLen) (hr : Rd w w.heap.size 1 icell A l) (_ : ∀ x ∈ l, (Lit.int .i64 x).wf = true) (count : Int) (_ : (Lit.int .i64 count).wf = true) :
    Calls Try.prog 7 #[.slice A n c, .int .i64 count] w fun e w' => e = .returned (.bool true) ∧ Below w.heap.size w w' := by
  unfold maxLen at hmx
  by_cases hm : n ≤ 1048576
  · have hA : A = none → n = 0 := fun h => by rw [← hn]; exact hr.none_len h
    have HN := Lib.hid hn; clear hn
    have hp0 : ¬ (1048576 : Int) < (n : Int) := by omega
    have hRl : (boundR l count).1.length ≤ 1048576 := by have := HN.out; exact (Nat.le_trans (boundR_len l count) (by omega))
    go_enter Try.func7, Try.ntmps7
    go_wp2_with fail
    refine (toInt64S_c A n c l w HN.out hm hr).mono ?_
    rintro e w1 ⟨rfl, hx1, hb1⟩
    have HX1 := Lib.hid hx1; clear hx1
    have hz1 := hb1.size
    go_wp2_with fail
    refine (BoundTableS_c _ n n l count w1 HN.out hm (fun h => by cases h) (rd_own HX1.out)).mono ?_
    rintro e w2 ⟨v2, rfl, hx2, hb2⟩
    have hbk2 := hx2.lt
    obtain ⟨A2, c2, rfl, _⟩ := own_form hx2
    have HX2 := Lib.hid hx2; clear hx2
    have HK2 := Lib.hid hbk2; clear hbk2
    have b2 : Below w.heap.size w w2 := by (repeat' (first | (with_reducible exact Below.refl _ _) | (with_reducible assumption) | (with_reducible refine below_drewN ?_ _) | (with_reducible refine Below.drew ?_) | (with_reducible refine Below.alloc ?_ ?_ _) | (with_reducible refine Below.setCell ?_ ?_ _) | (with_reducible refine via (by with_reducible assumption) ?_ ?_) | go_size))
    have hz2 := b2.size
    have hy2 := hb2.size
    go_wp2_with fail
    refine (toInt64S_c A n c l w2 HN.out hm ((hr.below b2).mono hz2)).mono ?_
    rintro e w3 ⟨rfl, hx3, hb3⟩
    have HX3 := Lib.hid hx3; clear hx3
    have hz3 : w2.heap.size < w3.heap.size := (HX3.out.lt w2.heap.size rfl).2
    go_wp2_with fail
    refine (BoundTableI_c _ n n l count w3 HN.out hm (fun h => by cases h) (rd_own HX3.out)).mono ?_
    rintro e w4 ⟨v4, rfl, hx4, hb4⟩
    have hbk4 := hx4.lt
    obtain ⟨A4, c4, rfl, _⟩ := own_form hx4
    have HX4 := Lib.hid hx4; clear hx4
    have HK4 := Lib.hid hbk4; clear hbk4
    have hz4 := hb4.size
    generalize hR : boundR l count = R at *
    have HR := Lib.hid hR; clear hR
    -- what the reference gave, and the copy of the argument, are there still
    have HX2' := Lib.hid (own_call (own_call HX2.out hb3) hb4)
    have HX3' := Lib.hid (own_call HX3.out hb4)
    clear HX2 HX3
    go_wp2_with fail
    refine (eqInt64S_c _ _ R.1.length _ _ R.1 w4.heap.size w4 rfl (by unfold maxLen; omega) (rd_own HX4.out) (rd_own HX2'.out)).mono ?_
    rintro e w' ⟨rfl, m5, rfl⟩
    go_wp2_with fail
    refine (toInt64S_c A n c l _ HN.out hm ((hr.below (by (repeat' (first | (with_reducible exact Below.refl _ _) | (with_reducible assumption) | (with_reducible refine below_drewN ?_ _) | (with_reducible refine Below.drew ?_) | (with_reducible refine Below.alloc ?_ ?_ _) | (with_reducible refine Below.setCell ?_ ?_ _) | (with_reducible refine via (by with_reducible assumption) ?_ ?_) | go_size)))).mono (by simp only [size_drewN]; omega))).mono ?_
    rintro e w6 ⟨rfl, hx6, hb6⟩
    have HX6 := Lib.hid hx6; clear hx6
    have hz6 := hb6.size
    simp only [size_drewN] at hz6
    have HX2a := Lib.hid (own_call (own_drewN HX2'.out m5) hb6)
    have HX3a := Lib.hid (own_call (own_drewN HX3'.out m5) hb6)
    have HX4a := Lib.hid (own_call (own_drewN HX4.out m5) hb6)
    clear HX2' HX3' HX4
    go_wp2_with fail
    refine (eqInt64S_c _ _ n _ _ l w6.heap.size w6 HN.out (by unfold maxLen; omega) (rd_own HX3a.out) (rd_own HX6.out)).mono ?_
    rintro e w' ⟨rfl, m7, rfl⟩
    go_wp2_with fail
    refine (markInt64S_c _ n n 1 _ _ _ hm (by omega) (own_drewN HX3a.out m7)).mono ?_
    rintro e w8 ⟨rfl, _, hg8⟩
    have hz8 := hg8.size
    simp only [size_drewN] at hz8
    have HX2b := Lib.hid (own_ne (own_drewN HX2a.out m7) hg8 (fun k hk => by have := HK2.out k hk; simp [Value.ownBlock]; omega))
    have HX4b := Lib.hid (own_ne (own_drewN HX4a.out m7) hg8 (fun k hk => by have := HK4.out k hk; simp [Value.ownBlock]; omega))
    have b8 : Below w.heap.size w w8 := Below.grown (by (repeat' (first | (with_reducible exact Below.refl _ _) | (with_reducible assumption) | (with_reducible refine below_drewN ?_ _) | (with_reducible refine Below.drew ?_) | (with_reducible refine Below.alloc ?_ ?_ _) | (with_reducible refine Below.setCell ?_ ?_ _) | (with_reducible refine via (by with_reducible assumption) ?_ ?_) | go_size))) hg8 (by simp only [size_drewN]; omega) (fun k hk => by simp [Value.ownBlock] at hk; omega)
    clear HX2a HX3a HX4a HX6 hg8
    go_wp2_with fail
    refine (eqInt64S_c _ _ R.1.length _ _ R.1 w8.heap.size w8 rfl (by unfold maxLen; omega) (rd_own HX4b.out) (rd_own HX2b.out)).mono ?_
    rintro e w' ⟨rfl, m9, rfl⟩
    go_wp2_with fail
    refine (markInt64S_c _ R.1.length _ 1 _ _ _ hRl (by omega) (own_drewN HX4b.out m9)).mono ?_
    rintro e w10 ⟨rfl, hx10, hg10⟩
    have HX10 := Lib.hid hx10; clear hx10
    have hz10 := hg10.size
    simp only [size_drewN] at hz10
    have HX2c := Lib.hid (own_ne (own_drewN HX2b.out m9) hg10 (fun k hk hc => by have := HK2.out k hk; have := HK4.out k hc.symm; omega))
    have b10 : Below w.heap.size w w10 := Below.grown (by (repeat' (first | (with_reducible exact Below.refl _ _) | (with_reducible assumption) | (with_reducible refine below_drewN ?_ _) | (with_reducible refine Below.drew ?_) | (with_reducible refine Below.alloc ?_ ?_ _) | (with_reducible refine Below.setCell ?_ ?_ _) | (with_reducible refine via (by with_reducible assumption) ?_ ?_) | go_size))) hg10 (by simp only [size_drewN]; omega) (fun k hk => by have := HK4.out k hk; omega)
    clear HX2b HX4b hg10
    go_wp2_with fail
    refine (heldInt64S_c _ R.1.length _ 1 w10.heap.size w10 hRl (by omega) (rd_own HX10.out)).mono ?_
    rintro e w' ⟨rfl, rfl⟩
    go_wp2_with fail
    refine (toInt64S_c A n c l _ HN.out hm ((hr.below b10).mono (by omega))).mono ?_
    rintro e w11 ⟨rfl, hx11, hb11⟩
    have HX11 := Lib.hid hx11; clear hx11
    have hz11 := hb11.size
    go_wp2_with fail
    refine (BoundTableI_c _ n n l count w11 HN.out hm (fun h => by cases h) (rd_own HX11.out)).mono ?_
    rw [HR.out]
    rintro e w12 ⟨v12, rfl, hx12, hb12⟩
    obtain ⟨A12, c12, rfl, _⟩ := own_form hx12
    have HX12 := Lib.hid hx12; clear hx12
    have hz12 := hb12.size
    have HX2d := Lib.hid (own_call (own_call HX2c.out hb11) hb12)
    have HX10d := Lib.hid (own_call (own_call HX10.out hb11) hb12)
    clear HX2c HX10 HX11
    go_wp2_with fail
    refine (eqInt64S_c _ _ R.1.length _ _ R.1 w12.heap.size w12 rfl (by unfold maxLen; omega) (rd_own HX12.out) (rd_own HX2d.out)).mono ?_
    rintro e w' ⟨rfl, m13, rfl⟩
    go_wp2_with fail
    refine (heldInt64S_c _ R.1.length _ 1 w12.heap.size (w12.drewN m13) hRl (by omega) ((rd_own HX10d.out).drewN m13)).mono ?_
    rintro e w' ⟨rfl, rfl⟩
    go_wp2_with fail
    go_ret
    refine ⟨rfl, ?_⟩
    (repeat' (first | (with_reducible exact Below.refl _ _) | (with_reducible assumption) | (with_reducible refine below_drewN ?_ _) | (with_reducible refine Below.drew ?_) | (with_reducible refine Below.alloc ?_ ?_ _) | (with_reducible refine Below.setCell ?_ ?_ _) | (with_reducible refine via (by with_reducible assumption) ?_ ?_) | go_size))
  · have hp0 : (1048576 : Int) < (n : Int) := by omega
    go_enter Try.func7, Try.ntmps7
    go_wp2_with fail
    go_ret
    exact ⟨rfl, Below.refl _ _⟩

end Go.Proofs.Ytphckllloiogjaa
