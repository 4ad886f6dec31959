/- The walk of FnExactPrintPage. -/
import Derived.Test.YtaebofpgdonnbaaDoorPageText6
import Derived.Test.YtaebofpgdonnbaaDoorLawStrs
import Derived.Test.YtaebofpgdonnbaaDoorPageMark
import Derived.Test.YtaebofpgdonnbaaDoorLawCalls
import Derived.Deep.DeepCutAuto
set_option linter.unusedVariables false
set_option linter.unusedSimpArgs false
namespace Go.Proofs.YtaebofpgdonnbaaDoor
open Go.RowKit

set_option maxRecDepth 100000 in
set_option maxHeartbeats 8000000 in
theorem fnExactPrintPage_walk (w : World) (ht : Tab w) (s0 : ByteArray) (f0 t0 : Int) (A0 : Option Addr) (n0 c0 : Nat) (l0 : List Int) (hs0 : s0.size ≤ maxLen) (wf0 : (Lit.int .i64 f0).wf = true) (wt0 : (Lit.int .i64 t0).wf = true) (hn0 : l0.length = n0) (hx0 : n0 ≤ maxLen) (hr0 : Rd w w.heap.size 1 icell A0 l0) (ok0 : ∀ x ∈ l0, (Lit.int .i64 x).wf = true) :
    Calls Tryd.prog 5 #[.agg #[.string s0, .int .i64 f0, .int .i64 t0, .slice A0 n0 c0]] w fun e w' => e = .returned (.bool true) ∧ Below w.heap.size w w' := by
  have HT := Lib.hid ht; clear ht
  go_enter Tryd.func5, Tryd.ntmps5
  have b0 : Below w.heap.size w w := Below.refl _ _
  go_wp2_with fail
  refine gen_calls fun W0 hW => ?_
  have hbW0 : Below w.heap.size w W0 := by rw [hW.out]; (repeat' (first | (with_reducible exact Below.refl _ _) | (with_reducible assumption) | (with_reducible refine below_drewN ?_ _) | (with_reducible refine Below.drew ?_) | (with_reducible refine Below.alloc ?_ ?_ _) | (with_reducible refine Below.setCell ?_ ?_ _) | (with_reducible refine via (by with_reducible assumption) ?_ ?_) | go_size))
  have P0_1 := Lib.hid (show PgAt W0 (w.heap.size) s0 f0 t0 A0 n0 c0 by rw [hW.out]; unfold PgAt; simp [go_sem])
  have ltP0_1 : w.heap.size < W0.heap.size := by rw [hW.out]; simp [go_sem]
  have KP0 := ltP0_1
  clear hW
  have z1 := (hbW0).size
  have b1 : Below w.heap.size w W0 := b0.trans ((hbW0).mono b0.size)
  have y1 := b1.size
  have H0 := Lib.hid hn0; clear hn0
  refine (szTablePage_c s0 f0 t0 A0 n0 c0 1048576 W0 hs0 hx0 (by omega)).mono ?_
  rintro e w2 ⟨r0, rfl, rl0, ru0, rn0, hb2⟩
  have z2 := (hb2).size
  have b2 : Below w.heap.size w w2 := b1.trans ((hb2).mono b1.size)
  have y2 := b2.size
  have P0_2 := Lib.hid (PgAt.below P0_1.out hb2 ltP0_1); clear P0_1
  have ltP0_2 : w.heap.size < w2.heap.size := Nat.lt_of_lt_of_le ltP0_1 z2; clear ltP0_1
  by_cases rs0 : r0 < 0
  · go_wp2_with fail
    go_ret
    exact ⟨rfl, b2⟩
  obtain ⟨hm0s, hm0⟩ := rn0 (by omega)
  have hRl : (printR s0 f0 t0 l0).1.length ≤ 1048576 := printR_len s0 f0 t0 l0
  obtain ⟨P0g0, P0g1, P0g2, P0g3⟩ := P0_2.out; have P0far := far ltP0_2
  go_wp2_with fail
  clear P0g0 P0g1 P0g2 P0g3 P0far
  refine (toTablePage_c s0 f0 t0 A0 n0 c0 l0 w2 H0.out hm0 ((hr0.below b2).mono b2.size)).mono ?_
  rintro e w3 ⟨S0g, S0lo, rfl, S0_3, hb3⟩
  have S0hi := (S0_3.lt S0g rfl).2
  replace S0_3 := Lib.hid S0_3
  simp only [pg]
  have z3 := (hb3).size
  have b3 : Below w.heap.size w w3 := b2.trans ((hb3).mono b2.size)
  have y3 := b3.size
  have P0_3 := Lib.hid (PgAt.below P0_2.out hb3 ltP0_2); clear P0_2
  have ltP0_3 : w.heap.size < w3.heap.size := Nat.lt_of_lt_of_le ltP0_2 z3; clear ltP0_2
  go_wp2_with fail
  refine (PrintPageS_c s0 f0 t0 (some ⟨S0g, 0, none⟩) n0 n0 l0 w3 (by omega) H0.out hm0 (rd_own S0_3.out)).mono ?_
  rintro e w4 ⟨RSv, rfl, hq4, hb4⟩
  have RSk := hq4.lt
  obtain ⟨RSA, RSc, rfl, _⟩ := own_form hq4
  replace RSk := Lib.hid RSk
  have z4 := (hb4).size
  have b4 : Below w.heap.size w w4 := b3.trans ((hb4).mono b3.size)
  have y4 := b4.size
  have P0_4 := Lib.hid (PgAt.below P0_3.out hb4 ltP0_3); clear P0_3
  have ltP0_4 : w.heap.size < w4.heap.size := Nat.lt_of_lt_of_le ltP0_3 z4; clear ltP0_3
  have S0_4 := Lib.hid (own_call S0_3.out hb4); clear S0_3
  have RS_4 := Lib.hid hq4; clear hq4
  clear S0_4
  obtain ⟨P0g0, P0g1, P0g2, P0g3⟩ := P0_4.out; have P0far := far ltP0_4
  go_wp2_with fail
  clear P0g0 P0g1 P0g2 P0g3 P0far
  refine (toTablePage_c s0 f0 t0 A0 n0 c0 l0 w4 H0.out hm0 ((hr0.below b4).mono b4.size)).mono ?_
  rintro e w5 ⟨X0g, X0lo, rfl, X0_5, hb5⟩
  have X0hi := (X0_5.lt X0g rfl).2
  replace X0_5 := Lib.hid X0_5
  simp only [pg]
  have z5 := (hb5).size
  have b5 : Below w.heap.size w w5 := b4.trans ((hb5).mono b4.size)
  have y5 := b5.size
  have P0_5 := Lib.hid (PgAt.below P0_4.out hb5 ltP0_4); clear P0_4
  have ltP0_5 : w.heap.size < w5.heap.size := Nat.lt_of_lt_of_le ltP0_4 z5; clear ltP0_4
  have RS_5 := Lib.hid (own_call RS_4.out hb5); clear RS_4
  go_upto_region 7 with fail
  refine gen_world fun V0 hW => ?_
  have hbV0 : Below w5.heap.size w5 V0 := by rw [hW.out]; (repeat' (first | (with_reducible exact Below.refl _ _) | (with_reducible assumption) | (with_reducible refine below_drewN ?_ _) | (with_reducible refine Below.drew ?_) | (with_reducible refine Below.alloc ?_ ?_ _) | (with_reducible refine Below.setCell ?_ ?_ _) | (with_reducible refine via (by with_reducible assumption) ?_ ?_) | go_size))
  have C0_6 := Lib.hid (show PgAt V0 w5.heap.size s0 f0 t0 (some ⟨X0g, 0, none⟩) n0 n0 by rw [hW.out]; unfold PgAt; simp [go_sem])
  have ltC0_6 : w5.heap.size < V0.heap.size := by rw [hW.out]; simp [go_sem]
  have KC0 := ltC0_6
  clear hW
  have z6 := (hbV0).size
  have b6 : Below w.heap.size w V0 := b5.trans ((hbV0).mono b5.size)
  have y6 := b6.size
  have P0_6 := Lib.hid (PgAt.below P0_5.out hbV0 ltP0_5); clear P0_5
  have ltP0_6 : w.heap.size < V0.heap.size := Nat.lt_of_lt_of_le ltP0_5 z6; clear ltP0_5
  have RS_6 := Lib.hid (own_call RS_5.out hbV0); clear RS_5
  have X0_6 := Lib.hid (own_call X0_5.out hbV0); clear X0_5
  obtain ⟨C0g0, C0g1, C0g2, C0g3⟩ := C0_6.out; have C0far := far ltC0_6
  go_wp2_with fail
  clear C0g0 C0g1 C0g2 C0g3 C0far
  refine (PrintPageI_c s0 f0 t0 (some ⟨X0g, 0, none⟩) n0 n0 l0 V0 (by omega) H0.out hm0 (rd_own X0_6.out) (HT.out.below b6)).mono ?_
  rintro e w7 ⟨RIv, rfl, hq7, hb7⟩
  have RIk := hq7.lt
  obtain ⟨RIA, RIc, rfl, _⟩ := own_form hq7
  replace RIk := Lib.hid RIk
  have z7 := (hb7).size
  have b7 : Below w.heap.size w w7 := b6.trans ((hb7).mono b6.size)
  have y7 := b7.size
  have P0_7 := Lib.hid (PgAt.below P0_6.out hb7 ltP0_6); clear P0_6
  have ltP0_7 : w.heap.size < w7.heap.size := Nat.lt_of_lt_of_le ltP0_6 z7; clear ltP0_6
  have C0_7 := Lib.hid (PgAt.below C0_6.out hb7 ltC0_6); clear C0_6
  have ltC0_7 : w5.heap.size < w7.heap.size := Nat.lt_of_lt_of_le ltC0_6 z7; clear ltC0_6
  have RS_7 := Lib.hid (own_call RS_6.out hb7); clear RS_6
  have X0_7 := Lib.hid (own_call X0_6.out hb7); clear X0_6
  have RI_7 := Lib.hid hq7; clear hq7
  generalize hR : printR s0 f0 t0 l0 = R at *
  have HR := Lib.hid hR; clear hR
  go_wp2_with fail
  refine (to_below (eqStringS_c _ _ R.1.length _ _ R.1 w7.heap.size w7 rfl (by unfold maxLen; omega) (rd_ownS RI_7.out) (rd_ownS RS_7.out))).mono ?_
  rintro e w8 ⟨rfl, hb8⟩
  have z8 := (hb8).size
  have b8 : Below w.heap.size w w8 := b7.trans ((hb8).mono b7.size)
  have y8 := b8.size
  have P0_8 := Lib.hid (PgAt.below P0_7.out hb8 ltP0_7); clear P0_7
  have ltP0_8 : w.heap.size < w8.heap.size := Nat.lt_of_lt_of_le ltP0_7 z8; clear ltP0_7
  have C0_8 := Lib.hid (PgAt.below C0_7.out hb8 ltC0_7); clear C0_7
  have ltC0_8 : w5.heap.size < w8.heap.size := Nat.lt_of_lt_of_le ltC0_7 z8; clear ltC0_7
  have RS_8 := Lib.hid (own_call RS_7.out hb8); clear RS_7
  have X0_8 := Lib.hid (own_call X0_7.out hb8); clear X0_7
  have RI_8 := Lib.hid (own_call RI_7.out hb8); clear RI_7
  go_upto_region 10 with fail
  obtain ⟨W, rfl⟩ : ∃ W' : World, W' = w8 := ⟨_, rfl⟩
  go_cut [45] (fun v wx => v = .bool false ∧ Below W.heap.size W wx)
  case first =>
    obtain ⟨P0g0, P0g1, P0g2, P0g3⟩ := P0_8.out; have P0far := far ltP0_8
    obtain ⟨C0g0, C0g1, C0g2, C0g3⟩ := C0_8.out; have C0far := far ltC0_8
    go_region_held3 (fun w' => (∀ b o, b < W.heap.size → w'.cell? ⟨b, o, none⟩ = W.cell? ⟨b, o, none⟩) ∧ Below W.heap.size W w') (exact old_of (by (repeat' (first | (with_reducible exact Below.refl _ _) | (with_reducible assumption) | (with_reducible refine below_drewN ?_ _) | (with_reducible refine Below.drew ?_) | (with_reducible refine Below.alloc ?_ ?_ _) | (with_reducible refine Below.setCell ?_ ?_ _) | (with_reducible refine via (by with_reducible assumption) ?_ ?_) | go_size)))) (first | (go_at_call 23; refine (toTablePage_c s0 f0 t0 A0 n0 c0 l0 _ H0.out hm0 (by exact ((hr0.below b8).mono b8.size))).mono ?_; rintro e wa ⟨ga, gal, rfl, hoa, hba⟩; have HOA := Lib.hid hoa; clear hoa; have hSa : Below W.heap.size W wa := (by (repeat' (first | (with_reducible exact Below.refl _ _) | (with_reducible assumption) | (with_reducible refine below_drewN ?_ _) | (with_reducible refine Below.drew ?_) | (with_reducible refine Below.alloc ?_ ?_ _) | (with_reducible refine Below.setCell ?_ ?_ _) | (with_reducible refine via (by with_reducible assumption) ?_ ?_) | go_size))); obtain ⟨hca, hfa⟩ := bcell hSa; have hsa := hSa.size; (try simp only [pg])) | (go_at_call 17; refine (eqTablePage_c s0 f0 t0 _ _ n0 _ _ l0 _ H0.out hx0 (by exact (rd_own (own_call X0_8.out hSa))) (by exact (rd_own HOA.out))).mono ?_; rintro e wd ⟨rfl, hbd⟩; have hSd : Below W.heap.size W wd := (by (repeat' (first | (with_reducible exact Below.refl _ _) | (with_reducible assumption) | (with_reducible refine below_drewN ?_ _) | (with_reducible refine Below.drew ?_) | (with_reducible refine Below.alloc ?_ ?_ _) | (with_reducible refine Below.setCell ?_ ?_ _) | (with_reducible refine via (by with_reducible assumption) ?_ ?_) | go_size))); obtain ⟨hcd, hfd⟩ := bcell hSd; have hsd := hSd.size))
    all_goals
      (go_wp2_with fail; refine Met.intro ?_; apply_assumption; (repeat apply Exists.intro); refine ⟨?_, rfl⟩)
      exact ⟨rfl, by (repeat' (first | (with_reducible exact Below.refl _ _) | (with_reducible assumption) | (with_reducible refine below_drewN ?_ _) | (with_reducible refine Below.drew ?_) | (with_reducible refine Below.alloc ?_ ?_ _) | (with_reducible refine Below.setCell ?_ ?_ _) | (with_reducible refine via (by with_reducible assumption) ?_ ?_) | go_size))⟩
  case rest =>
    obtain ⟨w9, rfl⟩ : ∃ w' : World, w' = wc := ⟨_, rfl⟩
    obtain ⟨rfl, hbc⟩ := hcut
    have z9 := (hbc).size
    have b9 : Below w.heap.size w w9 := b8.trans ((hbc).mono b8.size)
    have y9 := b9.size
    have P0_9 := Lib.hid (PgAt.below P0_8.out hbc ltP0_8); clear P0_8
    have ltP0_9 : w.heap.size < w9.heap.size := Nat.lt_of_lt_of_le ltP0_8 z9; clear ltP0_8
    have C0_9 := Lib.hid (PgAt.below C0_8.out hbc ltC0_8); clear C0_8
    have ltC0_9 : w5.heap.size < w9.heap.size := Nat.lt_of_lt_of_le ltC0_8 z9; clear ltC0_8
    have RS_9 := Lib.hid (own_call RS_8.out hbc); clear RS_8
    have X0_9 := Lib.hid (own_call X0_8.out hbc); clear X0_8
    have RI_9 := Lib.hid (own_call RI_8.out hbc); clear RI_8
    obtain ⟨C0g0, C0g1, C0g2, C0g3⟩ := C0_9.out; have C0far := far ltC0_9
    go_wp2_with fail
    clear C0g0 C0g1 C0g2 C0g3 C0far
    refine (markTablePage_c s0 f0 t0 _ n0 n0 (1) _ _ w9 (by omega) (by omega) X0_9.out).mono ?_
    rintro e w10 ⟨rfl, _, hg10⟩
    have z10 := (hg10).size
    have b10 : Below w.heap.size w w10 := below_of_grown b9 hg10 b9.size (fun q hq => by simp only [Value.ownBlock, Option.some.injEq] at hq; omega)
    have y10 := b10.size
    have P0_10 := Lib.hid (PgAt.grown P0_9.out hg10 ltP0_9 (fun hc => by have hq := hc.symm; simp only [Value.ownBlock, Option.some.injEq] at hq; omega)); clear P0_9
    have ltP0_10 : w.heap.size < w10.heap.size := Nat.lt_of_lt_of_le ltP0_9 z10; clear ltP0_9
    have C0_10 := Lib.hid (PgAt.grown C0_9.out hg10 ltC0_9 (fun hc => by have hq := hc.symm; simp only [Value.ownBlock, Option.some.injEq] at hq; omega)); clear C0_9
    have ltC0_10 : w5.heap.size < w10.heap.size := Nat.lt_of_lt_of_le ltC0_9 z10; clear ltC0_9
    have RS_10 := Lib.hid (own_ne RS_9.out hg10 (fun q hp hc => by have f_hp := RSk.out _ hp; have hq := hc.symm; simp only [Value.ownBlock, Option.some.injEq] at hq; omega)); clear RS_9
    have RI_10 := Lib.hid (own_ne RI_9.out hg10 (fun q hp hc => by have f_hp := RIk.out _ hp; have hq := hc.symm; simp only [Value.ownBlock, Option.some.injEq] at hq; omega)); clear RI_9
    clear X0_9
    clear C0_10 ltC0_10
    go_wp2_with fail
    refine (to_below (eqStringS_c _ _ R.1.length _ _ R.1 w10.heap.size w10 rfl (by unfold maxLen; omega) (rd_ownS RI_10.out) (rd_ownS RS_10.out))).mono ?_
    rintro e w11 ⟨rfl, hb11⟩
    have z11 := (hb11).size
    have b11 : Below w.heap.size w w11 := b10.trans ((hb11).mono b10.size)
    have y11 := b11.size
    have P0_11 := Lib.hid (PgAt.below P0_10.out hb11 ltP0_10); clear P0_10
    have ltP0_11 : w.heap.size < w11.heap.size := Nat.lt_of_lt_of_le ltP0_10 z11; clear ltP0_10
    have RS_11 := Lib.hid (own_call RS_10.out hb11); clear RS_10
    have RI_11 := Lib.hid (own_call RI_10.out hb11); clear RI_10
    go_wp2_with fail
    refine (markStringS_c _ R.1.length _ 1 _ _ w11 (by omega) (by omega) RI_11.out).mono ?_
    rintro e w12 ⟨rfl, hq12, hg12⟩
    have z12 := (hg12).size
    have b12 : Below w.heap.size w w12 := below_of_grown b11 hg12 b11.size (fun q hq => by have f_hq := RIk.out _ hq; omega)
    have y12 := b12.size
    have P0_12 := Lib.hid (PgAt.grown P0_11.out hg12 ltP0_11 (fun hc => by have hq := hc.symm; have f_hq := RIk.out _ hq; omega)); clear P0_11
    have ltP0_12 : w.heap.size < w12.heap.size := Nat.lt_of_lt_of_le ltP0_11 z12; clear ltP0_11
    have RS_12 := Lib.hid (own_ne RS_11.out hg12 (fun q hp hc => by have f_hp := RSk.out _ hp; have hq := hc.symm; have f_hq := RIk.out _ hq; omega)); clear RS_11
    clear RI_11
    have RM_12 := Lib.hid hq12; clear hq12
    go_wp2_with fail
    refine (heldStringS_c _ R.1.length _ 1 w12 (by omega) (by omega) (rd_ownS RM_12.out)).mono ?_
    rintro e w13 ⟨rfl, hb13⟩
    have z13 := (hb13).size
    have b13 : Below w.heap.size w w13 := b12.trans ((hb13).mono b12.size)
    have y13 := b13.size
    have P0_13 := Lib.hid (PgAt.below P0_12.out hb13 ltP0_12); clear P0_12
    have ltP0_13 : w.heap.size < w13.heap.size := Nat.lt_of_lt_of_le ltP0_12 z13; clear ltP0_12
    have RS_13 := Lib.hid (own_call RS_12.out hb13); clear RS_12
    have RM_13 := Lib.hid (own_call RM_12.out hb13); clear RM_12
    obtain ⟨P0g0, P0g1, P0g2, P0g3⟩ := P0_13.out; have P0far := far ltP0_13
    go_wp2_with fail
    clear P0g0 P0g1 P0g2 P0g3 P0far
    refine (toTablePage_c s0 f0 t0 A0 n0 c0 l0 w13 H0.out hm0 ((hr0.below b13).mono b13.size)).mono ?_
    rintro e w14 ⟨Y0g, Y0lo, rfl, Y0_14, hb14⟩
    have Y0hi := (Y0_14.lt Y0g rfl).2
    replace Y0_14 := Lib.hid Y0_14
    simp only [pg]
    have z14 := (hb14).size
    have b14 : Below w.heap.size w w14 := b13.trans ((hb14).mono b13.size)
    have y14 := b14.size
    have P0_14 := Lib.hid (PgAt.below P0_13.out hb14 ltP0_13); clear P0_13
    have ltP0_14 : w.heap.size < w14.heap.size := Nat.lt_of_lt_of_le ltP0_13 z14; clear ltP0_13
    have RS_14 := Lib.hid (own_call RS_13.out hb14); clear RS_13
    have RM_14 := Lib.hid (own_call RM_13.out hb14); clear RM_13
    go_wp2_with fail
    refine (PrintPageI_c s0 f0 t0 (some ⟨Y0g, 0, none⟩) n0 n0 l0 w14 (by omega) H0.out hm0 (rd_own Y0_14.out) (HT.out.below b14)).mono ?_
    rw [HR.out]
    rintro e w15 ⟨RJv, rfl, hq15, hb15⟩
    have RJk := hq15.lt
    obtain ⟨RJA, RJc, rfl, _⟩ := own_form hq15
    replace RJk := Lib.hid RJk
    have z15 := (hb15).size
    have b15 : Below w.heap.size w w15 := b14.trans ((hb15).mono b14.size)
    have y15 := b15.size
    have P0_15 := Lib.hid (PgAt.below P0_14.out hb15 ltP0_14); clear P0_14
    have ltP0_15 : w.heap.size < w15.heap.size := Nat.lt_of_lt_of_le ltP0_14 z15; clear ltP0_14
    have RS_15 := Lib.hid (own_call RS_14.out hb15); clear RS_14
    have RM_15 := Lib.hid (own_call RM_14.out hb15); clear RM_14
    have Y0_15 := Lib.hid (own_call Y0_14.out hb15); clear Y0_14
    have RJ_15 := Lib.hid hq15; clear hq15
    clear Y0_15
    go_wp2_with fail
    refine (to_below (eqStringS_c _ _ R.1.length _ _ R.1 w15.heap.size w15 rfl (by unfold maxLen; omega) (rd_ownS RJ_15.out) (rd_ownS RS_15.out))).mono ?_
    rintro e w16 ⟨rfl, hb16⟩
    have z16 := (hb16).size
    have b16 : Below w.heap.size w w16 := b15.trans ((hb16).mono b15.size)
    have y16 := b16.size
    have P0_16 := Lib.hid (PgAt.below P0_15.out hb16 ltP0_15); clear P0_15
    have ltP0_16 : w.heap.size < w16.heap.size := Nat.lt_of_lt_of_le ltP0_15 z16; clear ltP0_15
    have RS_16 := Lib.hid (own_call RS_15.out hb16); clear RS_15
    have RM_16 := Lib.hid (own_call RM_15.out hb16); clear RM_15
    have RJ_16 := Lib.hid (own_call RJ_15.out hb16); clear RJ_15
    go_wp2_with fail
    refine (heldStringS_c _ R.1.length _ 1 w16 (by omega) (by omega) (rd_ownS RM_16.out)).mono ?_
    rintro e w17 ⟨rfl, hb17⟩
    have z17 := (hb17).size
    have b17 : Below w.heap.size w w17 := b16.trans ((hb17).mono b16.size)
    have y17 := b17.size
    have P0_17 := Lib.hid (PgAt.below P0_16.out hb17 ltP0_16); clear P0_16
    have ltP0_17 : w.heap.size < w17.heap.size := Nat.lt_of_lt_of_le ltP0_16 z17; clear ltP0_16
    have RS_17 := Lib.hid (own_call RS_16.out hb17); clear RS_16
    have RM_17 := Lib.hid (own_call RM_16.out hb17); clear RM_16
    have RJ_17 := Lib.hid (own_call RJ_16.out hb17); clear RJ_16
    go_wp2_with fail
    go_ret
    exact ⟨rfl, b17⟩

end Go.Proofs.YtaebofpgdonnbaaDoor
