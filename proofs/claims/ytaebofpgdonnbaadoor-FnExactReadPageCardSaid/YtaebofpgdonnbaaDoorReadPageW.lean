/- The walk of FnExactReadPage. -/
import Derived.Test.YtaebofpgdonnbaaDoorPageRead5
import Derived.Test.YtaebofpgdonnbaaDoorPageMark
import Derived.Test.YtaebofpgdonnbaaDoorLawCalls
import Derived.Deep.DeepCutAuto
set_option linter.unusedVariables false
set_option linter.unusedSimpArgs false
namespace Go.Proofs.YtaebofpgdonnbaaDoor
open Go.RowKit

set_option maxRecDepth 100000 in
set_option maxHeartbeats 8000000 in
theorem fnExactReadPage_walk (w : World) (ht : Tab w) (A0 : Option Addr) (n0 c0 : Nat) (l0 : List ByteArray) (hn0 : l0.length = n0) (hx0 : n0 ≤ maxLen) (hr0 : Rd w w.heap.size 1 scell A0 l0) (ok0 : ∀ x ∈ l0, x.size ≤ maxLen) :
    Calls Tryd.prog 4 #[.slice A0 n0 c0] w fun e w' => e = .returned (.bool true) ∧ Below w.heap.size w w' := by
  have HT := Lib.hid ht; clear ht
  go_enter Tryd.func4, Tryd.ntmps4
  have b0 : Below w.heap.size w w := Below.refl _ _
  go_wp2_with fail
  have H0 := Lib.hid hn0; clear hn0
  refine (szStringS_c A0 n0 c0 l0 1048576 w H0.out hx0 (by omega) (by omega) hr0 ok0).mono ?_
  rintro e w1 ⟨r0, rfl, rl0, ru0, rn0, hb1⟩
  have z1 := (hb1).size
  have b1 : Below w.heap.size w w1 := b0.trans ((hb1).mono b0.size)
  have y1 := b1.size
  by_cases rs0 : r0 < 0
  · go_wp2_with fail
    go_ret
    exact ⟨rfl, b1⟩
  have hm0 : n0 ≤ 1048576 := by have := (rn0 (by omega)).1; rw [H0.out] at this; omega
  have HSZ0 := Lib.hid (show ∀ x ∈ l0, x.size ≤ 1048576 from fun x hx => by have := (rn0 (by omega)).2 x hx; omega)
  clear rn0
  have hRl : (readPR l0).1.l.length ≤ 1048576 := readPR_len l0
  go_wp2_with fail
  refine (toStringS_c A0 n0 c0 l0 w1 H0.out hm0 ((hr0.below b1).mono b1.size)).mono ?_
  rintro e w2 ⟨rfl, S0_2, hb2⟩
  have S0hi := (S0_2.lt w1.heap.size rfl).2
  replace S0_2 := Lib.hid S0_2
  have z2 := (hb2).size
  have b2 : Below w.heap.size w w2 := b1.trans ((hb2).mono b1.size)
  have y2 := b2.size
  go_wp2_with fail
  refine (ReadPageS_c _ n0 n0 l0 w2 H0.out hm0 (rd_ownS S0_2.out) HSZ0.out).mono ?_
  rintro e w3 ⟨RSA, RSc, rfl, hq3, hb3⟩
  have RSk := hq3.lt
  simp only [pg]
  replace RSk := Lib.hid RSk
  have z3 := (hb3).size
  have b3 : Below w.heap.size w w3 := b2.trans ((hb3).mono b2.size)
  have y3 := b3.size
  have S0_3 := Lib.hid (own_call S0_2.out hb3); clear S0_2
  have RS_3 := Lib.hid hq3; clear hq3
  clear S0_3
  go_upto_region 6 with fail
  refine gen_world fun VWS hW => ?_
  have hbVWS : Below w3.heap.size w3 VWS := by rw [hW.out]; (repeat' (first | (with_reducible exact Below.refl _ _) | (with_reducible assumption) | (with_reducible refine below_drewN ?_ _) | (with_reducible refine Below.drew ?_) | (with_reducible refine Below.alloc ?_ ?_ _) | (with_reducible refine Below.setCell ?_ ?_ _) | (with_reducible refine via (by with_reducible assumption) ?_ ?_) | go_size))
  have WS_4 := Lib.hid (show PgAt VWS w3.heap.size (readPR l0).1.s (readPR l0).1.f (readPR l0).1.t RSA (readPR l0).1.l.length RSc by rw [hW.out]; unfold PgAt; simp [go_sem])
  have ltWS_4 : w3.heap.size < VWS.heap.size := by rw [hW.out]; simp [go_sem]
  have KWS := ltWS_4
  clear hW
  have z4 := (hbVWS).size
  have b4 : Below w.heap.size w VWS := b3.trans ((hbVWS).mono b3.size)
  have y4 := b4.size
  have RS_4 := Lib.hid (own_call RS_3.out hbVWS); clear RS_3
  go_wp2_with fail
  refine (toStringS_c A0 n0 c0 l0 VWS H0.out hm0 ((hr0.below b4).mono b4.size)).mono ?_
  rintro e w5 ⟨rfl, X0_5, hb5⟩
  have X0hi := (X0_5.lt VWS.heap.size rfl).2
  replace X0_5 := Lib.hid X0_5
  have z5 := (hb5).size
  have b5 : Below w.heap.size w w5 := b4.trans ((hb5).mono b4.size)
  have y5 := b5.size
  have WS_5 := Lib.hid (PgAt.below WS_4.out hb5 ltWS_4); clear WS_4
  have ltWS_5 : w3.heap.size < w5.heap.size := Nat.lt_of_lt_of_le ltWS_4 z5; clear ltWS_4
  have RS_5 := Lib.hid (own_call RS_4.out hb5); clear RS_4
  go_wp2_with fail
  refine (ReadPageI_c _ n0 n0 l0 w5 H0.out hm0 (rd_ownS X0_5.out) HSZ0.out (HT.out.below b5)).mono ?_
  rintro e w6 ⟨RIA, RIc, rfl, hq6, hb6⟩
  have RIk := hq6.lt
  simp only [pg]
  replace RIk := Lib.hid RIk
  have z6 := (hb6).size
  have b6 : Below w.heap.size w w6 := b5.trans ((hb6).mono b5.size)
  have y6 := b6.size
  have WS_6 := Lib.hid (PgAt.below WS_5.out hb6 ltWS_5); clear WS_5
  have ltWS_6 : w3.heap.size < w6.heap.size := Nat.lt_of_lt_of_le ltWS_5 z6; clear ltWS_5
  have RS_6 := Lib.hid (own_call RS_5.out hb6); clear RS_5
  have X0_6 := Lib.hid (own_call X0_5.out hb6); clear X0_5
  have RI_6 := Lib.hid hq6; clear hq6
  go_upto_region 8 with fail
  refine gen_world fun VWG hW => ?_
  have hbVWG : Below w6.heap.size w6 VWG := by rw [hW.out]; (repeat' (first | (with_reducible exact Below.refl _ _) | (with_reducible assumption) | (with_reducible refine below_drewN ?_ _) | (with_reducible refine Below.drew ?_) | (with_reducible refine Below.alloc ?_ ?_ _) | (with_reducible refine Below.setCell ?_ ?_ _) | (with_reducible refine via (by with_reducible assumption) ?_ ?_) | go_size))
  have WG_7 := Lib.hid (show PgAt VWG w6.heap.size (readPR l0).1.s (readPR l0).1.f (readPR l0).1.t RIA (readPR l0).1.l.length RIc by rw [hW.out]; unfold PgAt; simp [go_sem])
  have ltWG_7 : w6.heap.size < VWG.heap.size := by rw [hW.out]; simp [go_sem]
  have KWG := ltWG_7
  clear hW
  have z7 := (hbVWG).size
  have b7 : Below w.heap.size w VWG := b6.trans ((hbVWG).mono b6.size)
  have y7 := b7.size
  have WS_7 := Lib.hid (PgAt.below WS_6.out hbVWG ltWS_6); clear WS_6
  have ltWS_7 : w3.heap.size < VWG.heap.size := Nat.lt_of_lt_of_le ltWS_6 z7; clear ltWS_6
  have RS_7 := Lib.hid (own_call RS_6.out hbVWG); clear RS_6
  have X0_7 := Lib.hid (own_call X0_6.out hbVWG); clear X0_6
  have RI_7 := Lib.hid (own_call RI_6.out hbVWG); clear RI_6
  generalize hR : readPR l0 = R at *
  have HR := Lib.hid hR; clear hR
  obtain ⟨WSg0, WSg1, WSg2, WSg3⟩ := WS_7.out; have WSfar := far ltWS_7
  obtain ⟨WGg0, WGg1, WGg2, WGg3⟩ := WG_7.out; have WGfar := far ltWG_7
  go_wp2_with fail
  clear WGg0 WGg1 WGg2 WGg3 WGfar
  clear WSg0 WSg1 WSg2 WSg3 WSfar
  refine (eqTablePage_c R.1.s R.1.f R.1.t _ _ R.1.l.length _ _ R.1.l VWG rfl (by unfold maxLen; omega) (rd_own RI_7.out) (rd_own RS_7.out)).mono ?_
  rintro e w8 ⟨rfl, hb8⟩
  have z8 := (hb8).size
  have b8 : Below w.heap.size w w8 := b7.trans ((hb8).mono b7.size)
  have y8 := b8.size
  have WS_8 := Lib.hid (PgAt.below WS_7.out hb8 ltWS_7); clear WS_7
  have ltWS_8 : w3.heap.size < w8.heap.size := Nat.lt_of_lt_of_le ltWS_7 z8; clear ltWS_7
  have WG_8 := Lib.hid (PgAt.below WG_7.out hb8 ltWG_7); clear WG_7
  have ltWG_8 : w6.heap.size < w8.heap.size := Nat.lt_of_lt_of_le ltWG_7 z8; clear ltWG_7
  have RS_8 := Lib.hid (own_call RS_7.out hb8); clear RS_7
  have X0_8 := Lib.hid (own_call X0_7.out hb8); clear X0_7
  have RI_8 := Lib.hid (own_call RI_7.out hb8); clear RI_7
  go_wp2_with fail
  refine (toStringS_c A0 n0 c0 l0 w8 H0.out hm0 ((hr0.below b8).mono b8.size)).mono ?_
  rintro e w9 ⟨rfl, Z0_9, hb9⟩
  have Z0hi := (Z0_9.lt w8.heap.size rfl).2
  replace Z0_9 := Lib.hid Z0_9
  have z9 := (hb9).size
  have b9 : Below w.heap.size w w9 := b8.trans ((hb9).mono b8.size)
  have y9 := b9.size
  have WS_9 := Lib.hid (PgAt.below WS_8.out hb9 ltWS_8); clear WS_8
  have ltWS_9 : w3.heap.size < w9.heap.size := Nat.lt_of_lt_of_le ltWS_8 z9; clear ltWS_8
  have WG_9 := Lib.hid (PgAt.below WG_8.out hb9 ltWG_8); clear WG_8
  have ltWG_9 : w6.heap.size < w9.heap.size := Nat.lt_of_lt_of_le ltWG_8 z9; clear ltWG_8
  have RS_9 := Lib.hid (own_call RS_8.out hb9); clear RS_8
  have X0_9 := Lib.hid (own_call X0_8.out hb9); clear X0_8
  have RI_9 := Lib.hid (own_call RI_8.out hb9); clear RI_8
  go_wp2_with fail
  refine (to_below (eqStringS_c _ _ n0 _ _ l0 w9.heap.size w9 H0.out hx0 (rd_ownS X0_9.out) (rd_ownS Z0_9.out))).mono ?_
  rintro e w10 ⟨rfl, hb10⟩
  have z10 := (hb10).size
  have b10 : Below w.heap.size w w10 := b9.trans ((hb10).mono b9.size)
  have y10 := b10.size
  have WS_10 := Lib.hid (PgAt.below WS_9.out hb10 ltWS_9); clear WS_9
  have ltWS_10 : w3.heap.size < w10.heap.size := Nat.lt_of_lt_of_le ltWS_9 z10; clear ltWS_9
  have WG_10 := Lib.hid (PgAt.below WG_9.out hb10 ltWG_9); clear WG_9
  have ltWG_10 : w6.heap.size < w10.heap.size := Nat.lt_of_lt_of_le ltWG_9 z10; clear ltWG_9
  have RS_10 := Lib.hid (own_call RS_9.out hb10); clear RS_9
  have X0_10 := Lib.hid (own_call X0_9.out hb10); clear X0_9
  have RI_10 := Lib.hid (own_call RI_9.out hb10); clear RI_9
  have Z0_10 := Lib.hid (own_call Z0_9.out hb10); clear Z0_9
  clear Z0_10
  go_wp2_with fail
  refine (markStringS_c _ n0 n0 (1) _ _ w10 (by omega) (by omega) X0_10.out).mono ?_
  rintro e w11 ⟨rfl, _, hg11⟩
  have z11 := (hg11).size
  have b11 : Below w.heap.size w w11 := below_of_grown b10 hg11 b10.size (fun q hq => by simp only [Value.ownBlock, Option.some.injEq] at hq; omega)
  have y11 := b11.size
  have WS_11 := Lib.hid (PgAt.grown WS_10.out hg11 ltWS_10 (fun hc => by have hq := hc.symm; simp only [Value.ownBlock, Option.some.injEq] at hq; omega)); clear WS_10
  have ltWS_11 : w3.heap.size < w11.heap.size := Nat.lt_of_lt_of_le ltWS_10 z11; clear ltWS_10
  have WG_11 := Lib.hid (PgAt.grown WG_10.out hg11 ltWG_10 (fun hc => by have hq := hc.symm; simp only [Value.ownBlock, Option.some.injEq] at hq; omega)); clear WG_10
  have ltWG_11 : w6.heap.size < w11.heap.size := Nat.lt_of_lt_of_le ltWG_10 z11; clear ltWG_10
  have RS_11 := Lib.hid (own_ne RS_10.out hg11 (fun q hp hc => by have f_hp := RSk.out _ hp; have hq := hc.symm; simp only [Value.ownBlock, Option.some.injEq] at hq; omega)); clear RS_10
  have RI_11 := Lib.hid (own_ne RI_10.out hg11 (fun q hp hc => by have f_hp := RIk.out _ hp; have hq := hc.symm; simp only [Value.ownBlock, Option.some.injEq] at hq; omega)); clear RI_10
  clear X0_10
  obtain ⟨WSg0, WSg1, WSg2, WSg3⟩ := WS_11.out; have WSfar := far ltWS_11
  obtain ⟨WGg0, WGg1, WGg2, WGg3⟩ := WG_11.out; have WGfar := far ltWG_11
  go_wp2_with fail
  clear WGg0 WGg1 WGg2 WGg3 WGfar
  clear WSg0 WSg1 WSg2 WSg3 WSfar
  refine (eqTablePage_c R.1.s R.1.f R.1.t _ _ R.1.l.length _ _ R.1.l w11 rfl (by unfold maxLen; omega) (rd_own RI_11.out) (rd_own RS_11.out)).mono ?_
  rintro e w12 ⟨rfl, hb12⟩
  have z12 := (hb12).size
  have b12 : Below w.heap.size w w12 := b11.trans ((hb12).mono b11.size)
  have y12 := b12.size
  have WS_12 := Lib.hid (PgAt.below WS_11.out hb12 ltWS_11); clear WS_11
  have ltWS_12 : w3.heap.size < w12.heap.size := Nat.lt_of_lt_of_le ltWS_11 z12; clear ltWS_11
  have WG_12 := Lib.hid (PgAt.below WG_11.out hb12 ltWG_11); clear WG_11
  have ltWG_12 : w6.heap.size < w12.heap.size := Nat.lt_of_lt_of_le ltWG_11 z12; clear ltWG_11
  have RS_12 := Lib.hid (own_call RS_11.out hb12); clear RS_11
  have RI_12 := Lib.hid (own_call RI_11.out hb12); clear RI_11
  obtain ⟨WGg0, WGg1, WGg2, WGg3⟩ := WG_12.out; have WGfar := far ltWG_12
  go_wp2_with fail
  clear WGg0 WGg1 WGg2 WGg3 WGfar
  refine (markTablePage_c R.1.s R.1.f R.1.t _ R.1.l.length _ 1 _ _ w12 (by omega) (by omega) RI_12.out).mono ?_
  rintro e w13 ⟨rfl, hq13, hg13⟩
  have z13 := (hg13).size
  have b13 : Below w.heap.size w w13 := below_of_grown b12 hg13 b12.size (fun q hq => by have f_hq := RIk.out _ hq; omega)
  have y13 := b13.size
  have WS_13 := Lib.hid (PgAt.grown WS_12.out hg13 ltWS_12 (fun hc => by have hq := hc.symm; have f_hq := RIk.out _ hq; omega)); clear WS_12
  have ltWS_13 : w3.heap.size < w13.heap.size := Nat.lt_of_lt_of_le ltWS_12 z13; clear ltWS_12
  have WG_13 := Lib.hid (PgAt.grown WG_12.out hg13 ltWG_12 (fun hc => by have hq := hc.symm; have f_hq := RIk.out _ hq; omega)); clear WG_12
  have ltWG_13 : w6.heap.size < w13.heap.size := Nat.lt_of_lt_of_le ltWG_12 z13; clear ltWG_12
  have RS_13 := Lib.hid (own_ne RS_12.out hg13 (fun q hp hc => by have f_hp := RSk.out _ hp; have hq := hc.symm; have f_hq := RIk.out _ hq; omega)); clear RS_12
  clear RI_12
  have RM_13 := Lib.hid hq13; clear hq13
  obtain ⟨WGg0, WGg1, WGg2, WGg3⟩ := WG_13.out; have WGfar := far ltWG_13
  go_wp2_with fail
  clear WGg0 WGg1 WGg2 WGg3 WGfar
  refine (heldTablePage_c R.1.s R.1.f R.1.t _ R.1.l.length _ 1 w13 (by omega) (by omega) (rd_own RM_13.out)).mono ?_
  rintro e w14 ⟨rfl, hb14⟩
  have z14 := (hb14).size
  have b14 : Below w.heap.size w w14 := b13.trans ((hb14).mono b13.size)
  have y14 := b14.size
  have WS_14 := Lib.hid (PgAt.below WS_13.out hb14 ltWS_13); clear WS_13
  have ltWS_14 : w3.heap.size < w14.heap.size := Nat.lt_of_lt_of_le ltWS_13 z14; clear ltWS_13
  have WG_14 := Lib.hid (PgAt.below WG_13.out hb14 ltWG_13); clear WG_13
  have ltWG_14 : w6.heap.size < w14.heap.size := Nat.lt_of_lt_of_le ltWG_13 z14; clear ltWG_13
  have RS_14 := Lib.hid (own_call RS_13.out hb14); clear RS_13
  have RM_14 := Lib.hid (own_call RM_13.out hb14); clear RM_13
  go_wp2_with fail
  refine (toStringS_c A0 n0 c0 l0 w14 H0.out hm0 ((hr0.below b14).mono b14.size)).mono ?_
  rintro e w15 ⟨rfl, Y0_15, hb15⟩
  have Y0hi := (Y0_15.lt w14.heap.size rfl).2
  replace Y0_15 := Lib.hid Y0_15
  have z15 := (hb15).size
  have b15 : Below w.heap.size w w15 := b14.trans ((hb15).mono b14.size)
  have y15 := b15.size
  have WS_15 := Lib.hid (PgAt.below WS_14.out hb15 ltWS_14); clear WS_14
  have ltWS_15 : w3.heap.size < w15.heap.size := Nat.lt_of_lt_of_le ltWS_14 z15; clear ltWS_14
  have WG_15 := Lib.hid (PgAt.below WG_14.out hb15 ltWG_14); clear WG_14
  have ltWG_15 : w6.heap.size < w15.heap.size := Nat.lt_of_lt_of_le ltWG_14 z15; clear ltWG_14
  have RS_15 := Lib.hid (own_call RS_14.out hb15); clear RS_14
  have RM_15 := Lib.hid (own_call RM_14.out hb15); clear RM_14
  go_wp2_with fail
  refine (ReadPageI_c _ n0 n0 l0 w15 H0.out hm0 (rd_ownS Y0_15.out) HSZ0.out (HT.out.below b15)).mono ?_
  rw [HR.out]
  rintro e w16 ⟨RJA, RJc, rfl, hq16, hb16⟩
  have RJk := hq16.lt
  simp only [pg]
  replace RJk := Lib.hid RJk
  have z16 := (hb16).size
  have b16 : Below w.heap.size w w16 := b15.trans ((hb16).mono b15.size)
  have y16 := b16.size
  have WS_16 := Lib.hid (PgAt.below WS_15.out hb16 ltWS_15); clear WS_15
  have ltWS_16 : w3.heap.size < w16.heap.size := Nat.lt_of_lt_of_le ltWS_15 z16; clear ltWS_15
  have WG_16 := Lib.hid (PgAt.below WG_15.out hb16 ltWG_15); clear WG_15
  have ltWG_16 : w6.heap.size < w16.heap.size := Nat.lt_of_lt_of_le ltWG_15 z16; clear ltWG_15
  have RS_16 := Lib.hid (own_call RS_15.out hb16); clear RS_15
  have RM_16 := Lib.hid (own_call RM_15.out hb16); clear RM_15
  have Y0_16 := Lib.hid (own_call Y0_15.out hb16); clear Y0_15
  have RJ_16 := Lib.hid hq16; clear hq16
  clear Y0_16
  go_upto_region 25 with fail
  refine gen_world fun VWH hW => ?_
  have hbVWH : Below w16.heap.size w16 VWH := by rw [hW.out]; (repeat' (first | (with_reducible exact Below.refl _ _) | (with_reducible assumption) | (with_reducible refine below_drewN ?_ _) | (with_reducible refine Below.drew ?_) | (with_reducible refine Below.alloc ?_ ?_ _) | (with_reducible refine Below.setCell ?_ ?_ _) | (with_reducible refine via (by with_reducible assumption) ?_ ?_) | go_size))
  have WH_17 := Lib.hid (show PgAt VWH w16.heap.size R.1.s R.1.f R.1.t RJA R.1.l.length RJc by rw [hW.out]; unfold PgAt; simp [go_sem])
  have ltWH_17 : w16.heap.size < VWH.heap.size := by rw [hW.out]; simp [go_sem]
  have KWH := ltWH_17
  clear hW
  have z17 := (hbVWH).size
  have b17 : Below w.heap.size w VWH := b16.trans ((hbVWH).mono b16.size)
  have y17 := b17.size
  have WS_17 := Lib.hid (PgAt.below WS_16.out hbVWH ltWS_16); clear WS_16
  have ltWS_17 : w3.heap.size < VWH.heap.size := Nat.lt_of_lt_of_le ltWS_16 z17; clear ltWS_16
  have WG_17 := Lib.hid (PgAt.below WG_16.out hbVWH ltWG_16); clear WG_16
  have ltWG_17 : w6.heap.size < VWH.heap.size := Nat.lt_of_lt_of_le ltWG_16 z17; clear ltWG_16
  have RS_17 := Lib.hid (own_call RS_16.out hbVWH); clear RS_16
  have RM_17 := Lib.hid (own_call RM_16.out hbVWH); clear RM_16
  have RJ_17 := Lib.hid (own_call RJ_16.out hbVWH); clear RJ_16
  obtain ⟨WSg0, WSg1, WSg2, WSg3⟩ := WS_17.out; have WSfar := far ltWS_17
  obtain ⟨WHg0, WHg1, WHg2, WHg3⟩ := WH_17.out; have WHfar := far ltWH_17
  go_wp2_with fail
  clear WHg0 WHg1 WHg2 WHg3 WHfar
  clear WSg0 WSg1 WSg2 WSg3 WSfar
  refine (eqTablePage_c R.1.s R.1.f R.1.t _ _ R.1.l.length _ _ R.1.l VWH rfl (by unfold maxLen; omega) (rd_own RJ_17.out) (rd_own RS_17.out)).mono ?_
  rintro e w18 ⟨rfl, hb18⟩
  have z18 := (hb18).size
  have b18 : Below w.heap.size w w18 := b17.trans ((hb18).mono b17.size)
  have y18 := b18.size
  have WS_18 := Lib.hid (PgAt.below WS_17.out hb18 ltWS_17); clear WS_17
  have ltWS_18 : w3.heap.size < w18.heap.size := Nat.lt_of_lt_of_le ltWS_17 z18; clear ltWS_17
  have WG_18 := Lib.hid (PgAt.below WG_17.out hb18 ltWG_17); clear WG_17
  have ltWG_18 : w6.heap.size < w18.heap.size := Nat.lt_of_lt_of_le ltWG_17 z18; clear ltWG_17
  have WH_18 := Lib.hid (PgAt.below WH_17.out hb18 ltWH_17); clear WH_17
  have ltWH_18 : w16.heap.size < w18.heap.size := Nat.lt_of_lt_of_le ltWH_17 z18; clear ltWH_17
  have RS_18 := Lib.hid (own_call RS_17.out hb18); clear RS_17
  have RM_18 := Lib.hid (own_call RM_17.out hb18); clear RM_17
  have RJ_18 := Lib.hid (own_call RJ_17.out hb18); clear RJ_17
  obtain ⟨WGg0, WGg1, WGg2, WGg3⟩ := WG_18.out; have WGfar := far ltWG_18
  go_wp2_with fail
  clear WGg0 WGg1 WGg2 WGg3 WGfar
  refine (heldTablePage_c R.1.s R.1.f R.1.t _ R.1.l.length _ 1 w18 (by omega) (by omega) (rd_own RM_18.out)).mono ?_
  rintro e w19 ⟨rfl, hb19⟩
  have z19 := (hb19).size
  have b19 : Below w.heap.size w w19 := b18.trans ((hb19).mono b18.size)
  have y19 := b19.size
  have WS_19 := Lib.hid (PgAt.below WS_18.out hb19 ltWS_18); clear WS_18
  have ltWS_19 : w3.heap.size < w19.heap.size := Nat.lt_of_lt_of_le ltWS_18 z19; clear ltWS_18
  have WG_19 := Lib.hid (PgAt.below WG_18.out hb19 ltWG_18); clear WG_18
  have ltWG_19 : w6.heap.size < w19.heap.size := Nat.lt_of_lt_of_le ltWG_18 z19; clear ltWG_18
  have WH_19 := Lib.hid (PgAt.below WH_18.out hb19 ltWH_18); clear WH_18
  have ltWH_19 : w16.heap.size < w19.heap.size := Nat.lt_of_lt_of_le ltWH_18 z19; clear ltWH_18
  have RS_19 := Lib.hid (own_call RS_18.out hb19); clear RS_18
  have RM_19 := Lib.hid (own_call RM_18.out hb19); clear RM_18
  have RJ_19 := Lib.hid (own_call RJ_18.out hb19); clear RJ_18
  go_wp2_with fail
  go_ret
  exact ⟨rfl, b19⟩

end Go.Proofs.YtaebofpgdonnbaaDoor
