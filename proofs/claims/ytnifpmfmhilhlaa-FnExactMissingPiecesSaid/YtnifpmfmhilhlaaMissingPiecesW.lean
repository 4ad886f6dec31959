/- The walk of FnExactMissingPieces. -/
import Derived.Test.YtnifpmfmhilhlaaPieces8
import Derived.Test.YtnifpmfmhilhlaaMarkPiece
import Derived.Test.YtnifpmfmhilhlaaLawCalls
set_option linter.unusedVariables false
set_option linter.unusedSimpArgs false
namespace Go.Proofs.Ytnifpmfmhilhlaa
open Go.RowKit

set_option maxHeartbeats 4000000 in
theorem fnExactMissingPieces_walk (w : World) (A0 : Option Addr) (n0 c0 : Nat) (l0 : List PieceD) (hn0 : l0.length = n0) (hx0 : n0 ≤ maxLen) (hr0 : Rd w w.heap.size 4 pcell A0 l0) (ok0 : ∀ x ∈ l0, okP x) (A1 : Option Addr) (n1 c1 : Nat) (l1 : List Int) (hn1 : l1.length = n1) (hx1 : n1 ≤ maxLen) (hr1 : Rd w w.heap.size 1 icell A1 l1) (ok1 : ∀ x ∈ l1, (Lit.int .i64 x).wf = true) (a2 : Int) (wf2 : (Lit.int .i64 a2).wf = true) :
    Calls Try.prog 12 #[.slice A0 n0 c0, .slice A1 n1 c1, .int .i64 a2] w fun e w' => e = .returned (.bool true) ∧ Below w.heap.size w w' := by
  have H0 := Lib.hid hn0; clear hn0
  have hx0' := hx0; unfold maxLen at hx0'
  have H1 := Lib.hid hn1; clear hn1
  have hx1' := hx1; unfold maxLen at hx1'
  by_cases hm1 : n1 ≤ 1048576
  rotate_left
  · have hp1 : (1048576 : Int) < ((n1 : Nat) : Int) := by omega
    go_enter Try.func12, Try.ntmps12
    go_wp2_with fail
    go_ret
    exact ⟨rfl, Below.refl _ _⟩
  have hp1 : ¬ (1048576 : Int) < ((n1 : Nat) : Int) := by omega
  go_enter Try.func12, Try.ntmps12
  have b0 : Below w.heap.size w w := Below.refl _ _
  have z0 : w.heap.size ≤ w.heap.size := Nat.le_refl _
  go_wp2_with fail
  refine (szPieceS_c A0 n0 c0 l0 1048576 w H0.out hx0 (by omega) (by omega) ((hr0.below b0).mono b0.size) ok0).mono ?_
  rintro e w1 ⟨r0, rfl, rl0, ru0, rn0, hb1⟩
  have z1 := hb1.size
  have b1 : Below w.heap.size w w1 := b0.trans (hb1.mono b0.size)
  have y1 := b1.size
  by_cases rs0 : r0 < 0
  · go_wp2_with fail
    go_ret
    exact ⟨rfl, b1⟩
  have hm0 : n0 ≤ 1048576 := by omega
  have hA0 : A0 = none → n0 = 0 := fun h => by rw [← H0.out]; exact hr0.none_len h
  have hA1 : A1 = none → n1 = 0 := fun h => by rw [← H1.out]; exact hr1.none_len h
  go_wp2_with fail
  refine (toPieceS_c A0 n0 c0 l0 w1 H0.out hm0 ((hr0.below b1).mono b1.size)).mono ?_
  rintro e w2 ⟨rfl, hq2, hb2⟩
  have z2 := hb2.size
  have b2 : Below w.heap.size w w2 := b1.trans (hb2.mono b1.size)
  have y2 := b2.size
  have X0a := Lib.hid hq2; clear hq2
  have lt_X0a : w1.heap.size < w2.heap.size := (X0a.out.lt w1.heap.size rfl).2
  go_wp2_with fail
  refine (toInt64S_c A1 n1 c1 l1 w2 H1.out hm1 ((hr1.below b2).mono b2.size)).mono ?_
  rintro e w3 ⟨rfl, hq3, hb3⟩
  have z3 := hb3.size
  have b3 : Below w.heap.size w w3 := b2.trans (hb3.mono b2.size)
  have y3 := b3.size
  have X0a_3 := Lib.hid (own_call X0a.out hb3); clear X0a
  have X1a := Lib.hid hq3; clear hq3
  have lt_X1a : w2.heap.size < w3.heap.size := (X1a.out.lt w2.heap.size rfl).2
  have hRl : (missR l0 l1 a2).1.length ≤ 1048576 := Nat.le_trans (missR_len l0 l1 a2) (by rw [H0.out]; exact hm0)
  go_wp2_with fail
  refine (MissingPiecesS_c _ n0 n0 l0 _ n1 n1 l1 a2 w3 H0.out hm0 (Rd.of_own pcell_len (by decide) (n := n0) (c := n0) X0a_3.out) ok0 H1.out hm1 (rd_own X1a.out) ).mono ?_
  rintro e w4 ⟨RSv, rfl, hq4, hb4⟩
  have RSk := hq4.lt
  obtain ⟨RSA, RSc, rfl, _⟩ := own_form hq4
  replace RSk := Lib.hid RSk
  have z4 := hb4.size
  have b4 : Below w.heap.size w w4 := b3.trans (hb4.mono b3.size)
  have y4 := b4.size
  have X0a_4 := Lib.hid (own_call X0a_3.out hb4); clear X0a_3
  have X1a_4 := Lib.hid (own_call X1a.out hb4); clear X1a
  have RS := Lib.hid hq4; clear hq4
  clear X0a_4
  clear X1a_4
  go_wp2_with fail
  refine (toPieceS_c A0 n0 c0 l0 w4 H0.out hm0 ((hr0.below b4).mono b4.size)).mono ?_
  rintro e w5 ⟨rfl, hq5, hb5⟩
  have z5 := hb5.size
  have b5 : Below w.heap.size w w5 := b4.trans (hb5.mono b4.size)
  have y5 := b5.size
  have RS_5 := Lib.hid (own_call RS.out hb5); clear RS
  have X0b := Lib.hid hq5; clear hq5
  have lt_X0b : w4.heap.size < w5.heap.size := (X0b.out.lt w4.heap.size rfl).2
  go_wp2_with fail
  refine (toInt64S_c A1 n1 c1 l1 w5 H1.out hm1 ((hr1.below b5).mono b5.size)).mono ?_
  rintro e w6 ⟨rfl, hq6, hb6⟩
  have z6 := hb6.size
  have b6 : Below w.heap.size w w6 := b5.trans (hb6.mono b5.size)
  have y6 := b6.size
  have RS_6 := Lib.hid (own_call RS_5.out hb6); clear RS_5
  have X0b_6 := Lib.hid (own_call X0b.out hb6); clear X0b
  have X1b := Lib.hid hq6; clear hq6
  have lt_X1b : w5.heap.size < w6.heap.size := (X1b.out.lt w5.heap.size rfl).2
  go_wp2_with fail
  refine (MissingPiecesI_c _ n0 n0 l0 _ n1 n1 l1 a2 w6 H0.out hm0 (Rd.of_own pcell_len (by decide) (n := n0) (c := n0) X0b_6.out) ok0 H1.out hm1 (rd_own X1b.out) ).mono ?_
  rintro e w7 ⟨RIv, rfl, hq7, hb7⟩
  have RIk := hq7.lt
  obtain ⟨RIA, RIc, rfl, _⟩ := own_form hq7
  replace RIk := Lib.hid RIk
  have z7 := hb7.size
  have b7 : Below w.heap.size w w7 := b6.trans (hb7.mono b6.size)
  have y7 := b7.size
  have RS_7 := Lib.hid (own_call RS_6.out hb7); clear RS_6
  have X0b_7 := Lib.hid (own_call X0b_6.out hb7); clear X0b_6
  have X1b_7 := Lib.hid (own_call X1b.out hb7); clear X1b
  have RI := Lib.hid hq7; clear hq7
  generalize hR : missR l0 l1 a2 = R at *
  have HR := Lib.hid hR; clear hR
  go_wp2_with fail
  refine (to_below (eqInt64S_c _ _ R.1.length _ _ R.1 w7.heap.size w7 rfl (by unfold maxLen; omega) (rd_own RI.out) (rd_own RS_7.out))).mono ?_
  rintro e w8 ⟨rfl, hb8⟩
  have z8 := hb8.size
  have b8 : Below w.heap.size w w8 := b7.trans (hb8.mono b7.size)
  have y8 := b8.size
  have RS_8 := Lib.hid (own_call RS_7.out hb8); clear RS_7
  have X0b_8 := Lib.hid (own_call X0b_7.out hb8); clear X0b_7
  have X1b_8 := Lib.hid (own_call X1b_7.out hb8); clear X1b_7
  have RI_8 := Lib.hid (own_call RI.out hb8); clear RI
  go_wp2_with fail
  refine (toPieceS_c A0 n0 c0 l0 w8 H0.out hm0 ((hr0.below b8).mono b8.size)).mono ?_
  rintro e w9 ⟨rfl, hq9, hb9⟩
  have z9 := hb9.size
  have b9 : Below w.heap.size w w9 := b8.trans (hb9.mono b8.size)
  have y9 := b9.size
  have RS_9 := Lib.hid (own_call RS_8.out hb9); clear RS_8
  have X0b_9 := Lib.hid (own_call X0b_8.out hb9); clear X0b_8
  have X1b_9 := Lib.hid (own_call X1b_8.out hb9); clear X1b_8
  have RI_9 := Lib.hid (own_call RI_8.out hb9); clear RI_8
  have X0c := Lib.hid hq9; clear hq9
  have lt_X0c : w8.heap.size < w9.heap.size := (X0c.out.lt w8.heap.size rfl).2
  go_wp2_with fail
  refine (eqPieceS_c _ _ n0 _ _ l0 w9.heap.size w9 H0.out hx0 (Nat.le_refl _) (Rd.of_own pcell_len (by decide) (n := n0) (c := n0) X0b_9.out) (Rd.of_own pcell_len (by decide) (n := n0) (c := n0) X0c.out)).mono ?_
  rintro e w10 ⟨rfl, hb10⟩
  have z10 := hb10.size
  have b10 : Below w.heap.size w w10 := b9.trans (hb10.mono b9.size)
  have y10 := b10.size
  have RS_10 := Lib.hid (own_call RS_9.out hb10); clear RS_9
  have X0b_10 := Lib.hid (own_call X0b_9.out hb10); clear X0b_9
  have X1b_10 := Lib.hid (own_call X1b_9.out hb10); clear X1b_9
  have RI_10 := Lib.hid (own_call RI_9.out hb10); clear RI_9
  have X0c_10 := Lib.hid (own_call X0c.out hb10); clear X0c
  clear X0c_10
  go_wp2_with fail
  refine (toInt64S_c A1 n1 c1 l1 w10 H1.out hm1 ((hr1.below b10).mono b10.size)).mono ?_
  rintro e w11 ⟨rfl, hq11, hb11⟩
  have z11 := hb11.size
  have b11 : Below w.heap.size w w11 := b10.trans (hb11.mono b10.size)
  have y11 := b11.size
  have RS_11 := Lib.hid (own_call RS_10.out hb11); clear RS_10
  have X0b_11 := Lib.hid (own_call X0b_10.out hb11); clear X0b_10
  have X1b_11 := Lib.hid (own_call X1b_10.out hb11); clear X1b_10
  have RI_11 := Lib.hid (own_call RI_10.out hb11); clear RI_10
  have X1c := Lib.hid hq11; clear hq11
  have lt_X1c : w10.heap.size < w11.heap.size := (X1c.out.lt w10.heap.size rfl).2
  go_wp2_with fail
  refine (to_below (eqInt64S_c _ _ n1 _ _ l1 w11.heap.size w11 H1.out hx1 (rd_own X1b_11.out) (rd_own X1c.out))).mono ?_
  rintro e w12 ⟨rfl, hb12⟩
  have z12 := hb12.size
  have b12 : Below w.heap.size w w12 := b11.trans (hb12.mono b11.size)
  have y12 := b12.size
  have RS_12 := Lib.hid (own_call RS_11.out hb12); clear RS_11
  have X0b_12 := Lib.hid (own_call X0b_11.out hb12); clear X0b_11
  have X1b_12 := Lib.hid (own_call X1b_11.out hb12); clear X1b_11
  have RI_12 := Lib.hid (own_call RI_11.out hb12); clear RI_11
  have X1c_12 := Lib.hid (own_call X1c.out hb12); clear X1c
  clear X1c_12
  go_wp2_with fail
  refine (markPieceS_c _ n0 n0 (1) _ _ w12 (by omega) (by omega) X0b_12.out).mono ?_
  rintro e w13 ⟨rfl, _, hg13⟩
  have z13 := hg13.size
  have b13 : Below w.heap.size w w13 := below_of_grown b12 hg13 b12.size (fun q hq => by simp only [Value.ownBlock, Option.some.injEq] at hq; omega)
  have y13 := b13.size
  have RS_13 := Lib.hid (own_ne RS_12.out hg13 (fun q hq hc => by have h1 := RSk.out q hq; simp only [Value.ownBlock, Option.some.injEq] at hc; omega)); clear RS_12
  have X1b_13 := Lib.hid (own_ne X1b_12.out hg13 (fun q hq hc => by simp only [Value.ownBlock, Option.some.injEq] at hq; simp only [Value.ownBlock, Option.some.injEq] at hc; omega)); clear X1b_12
  have RI_13 := Lib.hid (own_ne RI_12.out hg13 (fun q hq hc => by have h1 := RIk.out q hq; simp only [Value.ownBlock, Option.some.injEq] at hc; omega)); clear RI_12
  clear X0b_12
  go_wp2_with fail
  refine (markInt64S_c _ n1 n1 (1 + 4 * (n0 : Int)) _ _ w13 (by omega) (by omega) X1b_13.out).mono ?_
  rintro e w14 ⟨rfl, _, hg14⟩
  have z14 := hg14.size
  have b14 : Below w.heap.size w w14 := below_of_grown b13 hg14 b13.size (fun q hq => by simp only [Value.ownBlock, Option.some.injEq] at hq; omega)
  have y14 := b14.size
  have RS_14 := Lib.hid (own_ne RS_13.out hg14 (fun q hq hc => by have h1 := RSk.out q hq; simp only [Value.ownBlock, Option.some.injEq] at hc; omega)); clear RS_13
  have RI_14 := Lib.hid (own_ne RI_13.out hg14 (fun q hq hc => by have h1 := RIk.out q hq; simp only [Value.ownBlock, Option.some.injEq] at hc; omega)); clear RI_13
  clear X1b_13
  go_wp2_with fail
  refine (to_below (eqInt64S_c _ _ R.1.length _ _ R.1 w14.heap.size w14 rfl (by unfold maxLen; omega) (rd_own RI_14.out) (rd_own RS_14.out))).mono ?_
  rintro e w15 ⟨rfl, hb15⟩
  have z15 := hb15.size
  have b15 : Below w.heap.size w w15 := b14.trans (hb15.mono b14.size)
  have y15 := b15.size
  have RS_15 := Lib.hid (own_call RS_14.out hb15); clear RS_14
  have RI_15 := Lib.hid (own_call RI_14.out hb15); clear RI_14
  go_wp2_with fail
  refine (markInt64S_c _ R.1.length _ 1 _ _ w15 hRl (by omega) RI_15.out).mono ?_
  rintro e w16 ⟨rfl, hm16, hg16⟩
  have z16 := hg16.size
  have b16 : Below w.heap.size w w16 := below_of_grown b15 hg16 b15.size (fun q hq => by have h1 := RIk.out q hq; omega)
  have y16 := b16.size
  have RS_16 := Lib.hid (own_ne RS_15.out hg16 (fun q hq hc => by have h1 := RSk.out q hq; have h2 := RIk.out q hc.symm; omega)); clear RS_15
  clear RI_15
  have RM := Lib.hid hm16; clear hm16
  go_wp2_with fail
  refine (heldInt64S_c _ R.1.length _ 1 w16.heap.size w16 hRl (by omega) (rd_own RM.out)).mono ?_
  rintro e w' ⟨rfl, rfl⟩
  go_wp2_with fail
  refine (toPieceS_c A0 n0 c0 l0 w16 H0.out hm0 ((hr0.below b16).mono b16.size)).mono ?_
  rintro e w17 ⟨rfl, hq17, hb17⟩
  have z17 := hb17.size
  have b17 : Below w.heap.size w w17 := b16.trans (hb17.mono b16.size)
  have y17 := b17.size
  have RS_17 := Lib.hid (own_call RS_16.out hb17); clear RS_16
  have RM_17 := Lib.hid (own_call RM.out hb17); clear RM
  have X0d := Lib.hid hq17; clear hq17
  have lt_X0d : w16.heap.size < w17.heap.size := (X0d.out.lt w16.heap.size rfl).2
  go_wp2_with fail
  refine (toInt64S_c A1 n1 c1 l1 w17 H1.out hm1 ((hr1.below b17).mono b17.size)).mono ?_
  rintro e w18 ⟨rfl, hq18, hb18⟩
  have z18 := hb18.size
  have b18 : Below w.heap.size w w18 := b17.trans (hb18.mono b17.size)
  have y18 := b18.size
  have RS_18 := Lib.hid (own_call RS_17.out hb18); clear RS_17
  have RM_18 := Lib.hid (own_call RM_17.out hb18); clear RM_17
  have X0d_18 := Lib.hid (own_call X0d.out hb18); clear X0d
  have X1d := Lib.hid hq18; clear hq18
  have lt_X1d : w17.heap.size < w18.heap.size := (X1d.out.lt w17.heap.size rfl).2
  go_wp2_with fail
  refine (MissingPiecesI_c _ n0 n0 l0 _ n1 n1 l1 a2 w18 H0.out hm0 (Rd.of_own pcell_len (by decide) (n := n0) (c := n0) X0d_18.out) ok0 H1.out hm1 (rd_own X1d.out) ).mono ?_
  rw [HR.out]
  rintro e w19 ⟨RJv, rfl, hq19, hb19⟩
  have RJk := hq19.lt
  obtain ⟨RJA, RJc, rfl, _⟩ := own_form hq19
  replace RJk := Lib.hid RJk
  have z19 := hb19.size
  have b19 : Below w.heap.size w w19 := b18.trans (hb19.mono b18.size)
  have y19 := b19.size
  have RS_19 := Lib.hid (own_call RS_18.out hb19); clear RS_18
  have RM_19 := Lib.hid (own_call RM_18.out hb19); clear RM_18
  have X0d_19 := Lib.hid (own_call X0d_18.out hb19); clear X0d_18
  have X1d_19 := Lib.hid (own_call X1d.out hb19); clear X1d
  have RJ := Lib.hid hq19; clear hq19
  clear X0d_19
  clear X1d_19
  go_wp2_with fail
  refine (to_below (eqInt64S_c _ _ R.1.length _ _ R.1 w19.heap.size w19 rfl (by unfold maxLen; omega) (rd_own RJ.out) (rd_own RS_19.out))).mono ?_
  rintro e w20 ⟨rfl, hb20⟩
  have z20 := hb20.size
  have b20 : Below w.heap.size w w20 := b19.trans (hb20.mono b19.size)
  have y20 := b20.size
  have RS_20 := Lib.hid (own_call RS_19.out hb20); clear RS_19
  have RM_20 := Lib.hid (own_call RM_19.out hb20); clear RM_19
  have RJ_20 := Lib.hid (own_call RJ.out hb20); clear RJ
  go_wp2_with fail
  refine (heldInt64S_c _ R.1.length _ 1 w20.heap.size w20 hRl (by omega) (rd_own RM_20.out)).mono ?_
  rintro e w' ⟨rfl, rfl⟩
  go_wp2_with fail
  go_ret
  exact ⟨rfl, b20⟩

end Go.Proofs.Ytnifpmfmhilhlaa
