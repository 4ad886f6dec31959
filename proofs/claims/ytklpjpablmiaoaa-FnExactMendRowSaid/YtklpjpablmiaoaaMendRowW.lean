/- The walk of FnExactMendRow. -/
import Derived.Test.YtklpjpablmiaoaaMend1
import Derived.Test.YtklpjpablmiaoaaPageMark
import Derived.Test.YtklpjpablmiaoaaLawCalls
import Derived.Deep.DeepCutAuto
set_option linter.unusedVariables false
set_option linter.unusedSimpArgs false
namespace Go.Proofs.Ytklpjpablmiaoaa
open Go.RowKit

set_option maxRecDepth 100000 in
set_option maxHeartbeats 8000000 in
theorem fnExactMendRow_walk (w : World) (s0 : ByteArray) (f0 t0 : Int) (A0 : Option Addr) (n0 c0 : Nat) (l0 : List Int) (hs0 : s0.size ≤ maxLen) (wf0 : (Lit.int .i64 f0).wf = true) (wt0 : (Lit.int .i64 t0).wf = true) (hn0 : l0.length = n0) (hx0 : n0 ≤ maxLen) (hr0 : Rd w w.heap.size 1 icell A0 l0) (ok0 : ∀ x ∈ l0, (Lit.int .i64 x).wf = true) (a1 : Int) (wa1 : (Lit.int .i64 a1).wf = true) (a2 : Int) (wa2 : (Lit.int .i64 a2).wf = true) :
    Calls Try.prog 11 #[.agg #[.string s0, .int .i64 f0, .int .i64 t0, .slice A0 n0 c0], .int .i64 a1, .int .i64 a2] w fun e w' => e = .returned (.bool true) ∧ Below w.heap.size w w' := by
  go_enter Try.func11, Try.ntmps11
  have b0 : Below w.heap.size w w := Below.refl _ _
  go_wp2_with fail
  refine gen_calls fun W0 hW => ?_
  have hbW0 : Below w.heap.size w W0 := by rw [hW.out]; (repeat' (first | (with_reducible exact Below.refl _ _) | (with_reducible assumption) | (with_reducible refine below_drewN ?_ _) | (with_reducible refine Below.drew ?_) | (with_reducible refine Below.alloc ?_ ?_ _) | (with_reducible refine Below.setCell ?_ ?_ _) | (with_reducible refine via (by with_reducible assumption) ?_ ?_) | go_size))
  have P0_1 := Lib.hid (show PgAt W0 (w.heap.size) s0 f0 t0 A0 n0 c0 by rw [hW.out]; unfold PgAt; simp [go_sem])
  have ltP0_1 : w.heap.size < W0.heap.size := by rw [hW.out]; simp [go_sem]
  have KP0 := ltP0_1
  clear hW
  have z1 := (hbW0).size
  have b1 : Below w.heap.size w W0 := b0.trans ((hbW0).mono b0.size)
  have y1 := b1.size
  have H0 := Lib.hid hn0; clear hn0
  refine (szTablePage_c s0 f0 t0 A0 n0 c0 1048576 W0 hs0 hx0 (by omega)).mono ?_
  rintro e w2 ⟨r0, rfl, rl0, ru0, rn0, hb2⟩
  have z2 := (hb2).size
  have b2 : Below w.heap.size w w2 := b1.trans ((hb2).mono b1.size)
  have y2 := b2.size
  have P0_2 := Lib.hid (PgAt.below P0_1.out hb2 ltP0_1); clear P0_1
  have ltP0_2 : w.heap.size < w2.heap.size := Nat.lt_of_lt_of_le ltP0_1 z2; clear ltP0_1
  by_cases rs0 : r0 < 0
  · go_wp2_with fail
    go_ret
    exact ⟨rfl, b2⟩
  obtain ⟨hm0s, hm0⟩ := rn0 (by omega)
  have hRl : (mendR s0 f0 t0 l0 a1 a2).1.l.length ≤ 1048576 := by have := mendR_len s0 f0 t0 l0 a1 a2; have := H0.out; omega
  obtain ⟨P0g0, P0g1, P0g2, P0g3⟩ := P0_2.out; have P0far := far ltP0_2
  go_wp2_with fail
  clear P0g0 P0g1 P0g2 P0g3 P0far
  refine (toTablePage_c s0 f0 t0 A0 n0 c0 l0 w2 H0.out hm0 ((hr0.below b2).mono b2.size)).mono ?_
  rintro e w3 ⟨S0g, S0lo, rfl, S0_3, hb3⟩
  have S0hi := (S0_3.lt S0g rfl).2
  replace S0_3 := Lib.hid S0_3
  simp only [pg]
  have z3 := (hb3).size
  have b3 : Below w.heap.size w w3 := b2.trans ((hb3).mono b2.size)
  have y3 := b3.size
  have P0_3 := Lib.hid (PgAt.below P0_2.out hb3 ltP0_2); clear P0_2
  have ltP0_3 : w.heap.size < w3.heap.size := Nat.lt_of_lt_of_le ltP0_2 z3; clear ltP0_2
  go_wp2_with fail
  refine (MendRowS_c s0 f0 t0 (some ⟨S0g, 0, none⟩) n0 n0 l0 a1 a2 w3 (by omega) H0.out hm0 (rd_own S0_3.out)).mono ?_
  rintro e w4 ⟨RSA, RSc, rfl, hq4, hb4⟩
  have RSk := hq4.lt
  simp only [pg]
  replace RSk := Lib.hid RSk
  have z4 := (hb4).size
  have b4 : Below w.heap.size w w4 := b3.trans ((hb4).mono b3.size)
  have y4 := b4.size
  have P0_4 := Lib.hid (PgAt.below P0_3.out hb4 ltP0_3); clear P0_3
  have ltP0_4 : w.heap.size < w4.heap.size := Nat.lt_of_lt_of_le ltP0_3 z4; clear ltP0_3
  have S0_4 := Lib.hid (own_call S0_3.out hb4); clear S0_3
  have RS_4 := Lib.hid hq4; clear hq4
  clear S0_4
  go_upto_region 6 with fail
  refine gen_world fun VWS hW => ?_
  have hbVWS : Below w4.heap.size w4 VWS := by rw [hW.out]; (repeat' (first | (with_reducible exact Below.refl _ _) | (with_reducible assumption) | (with_reducible refine below_drewN ?_ _) | (with_reducible refine Below.drew ?_) | (with_reducible refine Below.alloc ?_ ?_ _) | (with_reducible refine Below.setCell ?_ ?_ _) | (with_reducible refine via (by with_reducible assumption) ?_ ?_) | go_size))
  have WS_5 := Lib.hid (show PgAt VWS w4.heap.size (mendR s0 f0 t0 l0 a1 a2).1.s (mendR s0 f0 t0 l0 a1 a2).1.f (mendR s0 f0 t0 l0 a1 a2).1.t RSA (mendR s0 f0 t0 l0 a1 a2).1.l.length RSc by rw [hW.out]; unfold PgAt; simp [go_sem])
  have ltWS_5 : w4.heap.size < VWS.heap.size := by rw [hW.out]; simp [go_sem]
  have KWS := ltWS_5
  clear hW
  have z5 := (hbVWS).size
  have b5 : Below w.heap.size w VWS := b4.trans ((hbVWS).mono b4.size)
  have y5 := b5.size
  have P0_5 := Lib.hid (PgAt.below P0_4.out hbVWS ltP0_4); clear P0_4
  have ltP0_5 : w.heap.size < VWS.heap.size := Nat.lt_of_lt_of_le ltP0_4 z5; clear ltP0_4
  have RS_5 := Lib.hid (own_call RS_4.out hbVWS); clear RS_4
  obtain ⟨P0g0, P0g1, P0g2, P0g3⟩ := P0_5.out; have P0far := far ltP0_5
  go_wp2_with fail
  clear P0g0 P0g1 P0g2 P0g3 P0far
  refine (toTablePage_c s0 f0 t0 A0 n0 c0 l0 VWS H0.out hm0 ((hr0.below b5).mono b5.size)).mono ?_
  rintro e w6 ⟨X0g, X0lo, rfl, X0_6, hb6⟩
  have X0hi := (X0_6.lt X0g rfl).2
  replace X0_6 := Lib.hid X0_6
  simp only [pg]
  have z6 := (hb6).size
  have b6 : Below w.heap.size w w6 := b5.trans ((hb6).mono b5.size)
  have y6 := b6.size
  have P0_6 := Lib.hid (PgAt.below P0_5.out hb6 ltP0_5); clear P0_5
  have ltP0_6 : w.heap.size < w6.heap.size := Nat.lt_of_lt_of_le ltP0_5 z6; clear ltP0_5
  have WS_6 := Lib.hid (PgAt.below WS_5.out hb6 ltWS_5); clear WS_5
  have ltWS_6 : w4.heap.size < w6.heap.size := Nat.lt_of_lt_of_le ltWS_5 z6; clear ltWS_5
  have RS_6 := Lib.hid (own_call RS_5.out hb6); clear RS_5
  go_upto_region 7 with fail
  refine gen_world fun V0 hW => ?_
  have hbV0 : Below w6.heap.size w6 V0 := by rw [hW.out]; (repeat' (first | (with_reducible exact Below.refl _ _) | (with_reducible assumption) | (with_reducible refine below_drewN ?_ _) | (with_reducible refine Below.drew ?_) | (with_reducible refine Below.alloc ?_ ?_ _) | (with_reducible refine Below.setCell ?_ ?_ _) | (with_reducible refine via (by with_reducible assumption) ?_ ?_) | go_size))
  have C0_7 := Lib.hid (show PgAt V0 w6.heap.size s0 f0 t0 (some ⟨X0g, 0, none⟩) n0 n0 by rw [hW.out]; unfold PgAt; simp [go_sem])
  have ltC0_7 : w6.heap.size < V0.heap.size := by rw [hW.out]; simp [go_sem]
  have KC0 := ltC0_7
  clear hW
  have z7 := (hbV0).size
  have b7 : Below w.heap.size w V0 := b6.trans ((hbV0).mono b6.size)
  have y7 := b7.size
  have P0_7 := Lib.hid (PgAt.below P0_6.out hbV0 ltP0_6); clear P0_6
  have ltP0_7 : w.heap.size < V0.heap.size := Nat.lt_of_lt_of_le ltP0_6 z7; clear ltP0_6
  have WS_7 := Lib.hid (PgAt.below WS_6.out hbV0 ltWS_6); clear WS_6
  have ltWS_7 : w4.heap.size < V0.heap.size := Nat.lt_of_lt_of_le ltWS_6 z7; clear ltWS_6
  have RS_7 := Lib.hid (own_call RS_6.out hbV0); clear RS_6
  have X0_7 := Lib.hid (own_call X0_6.out hbV0); clear X0_6
  obtain ⟨C0g0, C0g1, C0g2, C0g3⟩ := C0_7.out; have C0far := far ltC0_7
  go_wp2_with fail
  clear C0g0 C0g1 C0g2 C0g3 C0far
  refine (MendRowI_c s0 f0 t0 (some ⟨X0g, 0, none⟩) n0 n0 l0 a1 a2 V0 (by omega) H0.out hm0 (rd_own X0_7.out)).mono ?_
  rintro e w8 ⟨RIA, RIc, rfl, hq8, hb8⟩
  have RIk := hq8.lt
  simp only [pg]
  replace RIk := Lib.hid RIk
  have z8 := (hb8).size
  have b8 : Below w.heap.size w w8 := b7.trans ((hb8).mono b7.size)
  have y8 := b8.size
  have P0_8 := Lib.hid (PgAt.below P0_7.out hb8 ltP0_7); clear P0_7
  have ltP0_8 : w.heap.size < w8.heap.size := Nat.lt_of_lt_of_le ltP0_7 z8; clear ltP0_7
  have WS_8 := Lib.hid (PgAt.below WS_7.out hb8 ltWS_7); clear WS_7
  have ltWS_8 : w4.heap.size < w8.heap.size := Nat.lt_of_lt_of_le ltWS_7 z8; clear ltWS_7
  have C0_8 := Lib.hid (PgAt.below C0_7.out hb8 ltC0_7); clear C0_7
  have ltC0_8 : w6.heap.size < w8.heap.size := Nat.lt_of_lt_of_le ltC0_7 z8; clear ltC0_7
  have RS_8 := Lib.hid (own_call RS_7.out hb8); clear RS_7
  have X0_8 := Lib.hid (own_call X0_7.out hb8); clear X0_7
  have RI_8 := Lib.hid hq8; clear hq8
  go_upto_region 8 with fail
  refine gen_world fun VWG hW => ?_
  have hbVWG : Below w8.heap.size w8 VWG := by rw [hW.out]; (repeat' (first | (with_reducible exact Below.refl _ _) | (with_reducible assumption) | (with_reducible refine below_drewN ?_ _) | (with_reducible refine Below.drew ?_) | (with_reducible refine Below.alloc ?_ ?_ _) | (with_reducible refine Below.setCell ?_ ?_ _) | (with_reducible refine via (by with_reducible assumption) ?_ ?_) | go_size))
  have WG_9 := Lib.hid (show PgAt VWG w8.heap.size (mendR s0 f0 t0 l0 a1 a2).1.s (mendR s0 f0 t0 l0 a1 a2).1.f (mendR s0 f0 t0 l0 a1 a2).1.t RIA (mendR s0 f0 t0 l0 a1 a2).1.l.length RIc by rw [hW.out]; unfold PgAt; simp [go_sem])
  have ltWG_9 : w8.heap.size < VWG.heap.size := by rw [hW.out]; simp [go_sem]
  have KWG := ltWG_9
  clear hW
  have z9 := (hbVWG).size
  have b9 : Below w.heap.size w VWG := b8.trans ((hbVWG).mono b8.size)
  have y9 := b9.size
  have P0_9 := Lib.hid (PgAt.below P0_8.out hbVWG ltP0_8); clear P0_8
  have ltP0_9 : w.heap.size < VWG.heap.size := Nat.lt_of_lt_of_le ltP0_8 z9; clear ltP0_8
  have WS_9 := Lib.hid (PgAt.below WS_8.out hbVWG ltWS_8); clear WS_8
  have ltWS_9 : w4.heap.size < VWG.heap.size := Nat.lt_of_lt_of_le ltWS_8 z9; clear ltWS_8
  have C0_9 := Lib.hid (PgAt.below C0_8.out hbVWG ltC0_8); clear C0_8
  have ltC0_9 : w6.heap.size < VWG.heap.size := Nat.lt_of_lt_of_le ltC0_8 z9; clear ltC0_8
  have RS_9 := Lib.hid (own_call RS_8.out hbVWG); clear RS_8
  have X0_9 := Lib.hid (own_call X0_8.out hbVWG); clear X0_8
  have RI_9 := Lib.hid (own_call RI_8.out hbVWG); clear RI_8
  generalize hR : mendR s0 f0 t0 l0 a1 a2 = R at *
  have HR := Lib.hid hR; clear hR
  obtain ⟨WSg0, WSg1, WSg2, WSg3⟩ := WS_9.out; have WSfar := far ltWS_9
  obtain ⟨WGg0, WGg1, WGg2, WGg3⟩ := WG_9.out; have WGfar := far ltWG_9
  go_wp2_with fail
  clear WGg0 WGg1 WGg2 WGg3 WGfar
  clear WSg0 WSg1 WSg2 WSg3 WSfar
  refine (eqTablePage_c R.1.s R.1.f R.1.t _ _ R.1.l.length _ _ R.1.l VWG rfl (by unfold maxLen; omega) (rd_own RI_9.out) (rd_own RS_9.out)).mono ?_
  rintro e w10 ⟨rfl, hb10⟩
  have z10 := (hb10).size
  have b10 : Below w.heap.size w w10 := b9.trans ((hb10).mono b9.size)
  have y10 := b10.size
  have P0_10 := Lib.hid (PgAt.below P0_9.out hb10 ltP0_9); clear P0_9
  have ltP0_10 : w.heap.size < w10.heap.size := Nat.lt_of_lt_of_le ltP0_9 z10; clear ltP0_9
  have WS_10 := Lib.hid (PgAt.below WS_9.out hb10 ltWS_9); clear WS_9
  have ltWS_10 : w4.heap.size < w10.heap.size := Nat.lt_of_lt_of_le ltWS_9 z10; clear ltWS_9
  have C0_10 := Lib.hid (PgAt.below C0_9.out hb10 ltC0_9); clear C0_9
  have ltC0_10 : w6.heap.size < w10.heap.size := Nat.lt_of_lt_of_le ltC0_9 z10; clear ltC0_9
  have WG_10 := Lib.hid (PgAt.below WG_9.out hb10 ltWG_9); clear WG_9
  have ltWG_10 : w8.heap.size < w10.heap.size := Nat.lt_of_lt_of_le ltWG_9 z10; clear ltWG_9
  have RS_10 := Lib.hid (own_call RS_9.out hb10); clear RS_9
  have X0_10 := Lib.hid (own_call X0_9.out hb10); clear X0_9
  have RI_10 := Lib.hid (own_call RI_9.out hb10); clear RI_9
  go_upto_region 10 with fail
  obtain ⟨W, rfl⟩ : ∃ W' : World, W' = w10 := ⟨_, rfl⟩
  go_cut [53] (fun v wx => v = .bool false ∧ Below W.heap.size W wx)
  case first =>
    obtain ⟨P0g0, P0g1, P0g2, P0g3⟩ := P0_10.out; have P0far := far ltP0_10
    obtain ⟨C0g0, C0g1, C0g2, C0g3⟩ := C0_10.out; have C0far := far ltC0_10
    go_region_held3 (fun w' => (∀ b o, b < W.heap.size → w'.cell? ⟨b, o, none⟩ = W.cell? ⟨b, o, none⟩) ∧ Below W.heap.size W w') (exact old_of (by (repeat' (first | (with_reducible exact Below.refl _ _) | (with_reducible assumption) | (with_reducible refine below_drewN ?_ _) | (with_reducible refine Below.drew ?_) | (with_reducible refine Below.alloc ?_ ?_ _) | (with_reducible refine Below.setCell ?_ ?_ _) | (with_reducible refine via (by with_reducible assumption) ?_ ?_) | go_size)))) (first | (go_at_call 18; refine (toTablePage_c s0 f0 t0 A0 n0 c0 l0 _ H0.out hm0 (by exact ((hr0.below b10).mono b10.size))).mono ?_; rintro e wa ⟨ga, gal, rfl, hoa, hba⟩; have HOA := Lib.hid hoa; clear hoa; have hSa : Below W.heap.size W wa := (by (repeat' (first | (with_reducible exact Below.refl _ _) | (with_reducible assumption) | (with_reducible refine below_drewN ?_ _) | (with_reducible refine Below.drew ?_) | (with_reducible refine Below.alloc ?_ ?_ _) | (with_reducible refine Below.setCell ?_ ?_ _) | (with_reducible refine via (by with_reducible assumption) ?_ ?_) | go_size))); obtain ⟨hca, hfa⟩ := bcell hSa; have hsa := hSa.size; (try simp only [pg])) | (go_at_call 20; refine (eqTablePage_c s0 f0 t0 _ _ n0 _ _ l0 _ H0.out hx0 (by exact (rd_own (own_call X0_10.out hSa))) (by exact (rd_own HOA.out))).mono ?_; rintro e wd ⟨rfl, hbd⟩; have hSd : Below W.heap.size W wd := (by (repeat' (first | (with_reducible exact Below.refl _ _) | (with_reducible assumption) | (with_reducible refine below_drewN ?_ _) | (with_reducible refine Below.drew ?_) | (with_reducible refine Below.alloc ?_ ?_ _) | (with_reducible refine Below.setCell ?_ ?_ _) | (with_reducible refine via (by with_reducible assumption) ?_ ?_) | go_size))); obtain ⟨hcd, hfd⟩ := bcell hSd; have hsd := hSd.size))
    all_goals
      (go_wp2_with fail; refine Met.intro ?_; apply_assumption; (repeat apply Exists.intro); refine ⟨?_, rfl⟩)
      exact ⟨rfl, by (repeat' (first | (with_reducible exact Below.refl _ _) | (with_reducible assumption) | (with_reducible refine below_drewN ?_ _) | (with_reducible refine Below.drew ?_) | (with_reducible refine Below.alloc ?_ ?_ _) | (with_reducible refine Below.setCell ?_ ?_ _) | (with_reducible refine via (by with_reducible assumption) ?_ ?_) | go_size))⟩
  case rest =>
    obtain ⟨w11, rfl⟩ : ∃ w' : World, w' = wc := ⟨_, rfl⟩
    obtain ⟨rfl, hbc⟩ := hcut
    have z11 := (hbc).size
    have b11 : Below w.heap.size w w11 := b10.trans ((hbc).mono b10.size)
    have y11 := b11.size
    have P0_11 := Lib.hid (PgAt.below P0_10.out hbc ltP0_10); clear P0_10
    have ltP0_11 : w.heap.size < w11.heap.size := Nat.lt_of_lt_of_le ltP0_10 z11; clear ltP0_10
    have WS_11 := Lib.hid (PgAt.below WS_10.out hbc ltWS_10); clear WS_10
    have ltWS_11 : w4.heap.size < w11.heap.size := Nat.lt_of_lt_of_le ltWS_10 z11; clear ltWS_10
    have C0_11 := Lib.hid (PgAt.below C0_10.out hbc ltC0_10); clear C0_10
    have ltC0_11 : w6.heap.size < w11.heap.size := Nat.lt_of_lt_of_le ltC0_10 z11; clear ltC0_10
    have WG_11 := Lib.hid (PgAt.below WG_10.out hbc ltWG_10); clear WG_10
    have ltWG_11 : w8.heap.size < w11.heap.size := Nat.lt_of_lt_of_le ltWG_10 z11; clear ltWG_10
    have RS_11 := Lib.hid (own_call RS_10.out hbc); clear RS_10
    have X0_11 := Lib.hid (own_call X0_10.out hbc); clear X0_10
    have RI_11 := Lib.hid (own_call RI_10.out hbc); clear RI_10
    obtain ⟨C0g0, C0g1, C0g2, C0g3⟩ := C0_11.out; have C0far := far ltC0_11
    go_wp2_with fail
    clear C0g0 C0g1 C0g2 C0g3 C0far
    refine (markTablePage_c s0 f0 t0 _ n0 n0 (1) _ _ w11 (by omega) (by omega) X0_11.out).mono ?_
    rintro e w12 ⟨rfl, _, hg12⟩
    have z12 := (hg12).size
    have b12 : Below w.heap.size w w12 := below_of_grown b11 hg12 b11.size (fun q hq => by simp only [Value.ownBlock, Option.some.injEq] at hq; omega)
    have y12 := b12.size
    have P0_12 := Lib.hid (PgAt.grown P0_11.out hg12 ltP0_11 (fun hc => by have hq := hc.symm; simp only [Value.ownBlock, Option.some.injEq] at hq; omega)); clear P0_11
    have ltP0_12 : w.heap.size < w12.heap.size := Nat.lt_of_lt_of_le ltP0_11 z12; clear ltP0_11
    have WS_12 := Lib.hid (PgAt.grown WS_11.out hg12 ltWS_11 (fun hc => by have hq := hc.symm; simp only [Value.ownBlock, Option.some.injEq] at hq; omega)); clear WS_11
    have ltWS_12 : w4.heap.size < w12.heap.size := Nat.lt_of_lt_of_le ltWS_11 z12; clear ltWS_11
    have C0_12 := Lib.hid (PgAt.grown C0_11.out hg12 ltC0_11 (fun hc => by have hq := hc.symm; simp only [Value.ownBlock, Option.some.injEq] at hq; omega)); clear C0_11
    have ltC0_12 : w6.heap.size < w12.heap.size := Nat.lt_of_lt_of_le ltC0_11 z12; clear ltC0_11
    have WG_12 := Lib.hid (PgAt.grown WG_11.out hg12 ltWG_11 (fun hc => by have hq := hc.symm; simp only [Value.ownBlock, Option.some.injEq] at hq; omega)); clear WG_11
    have ltWG_12 : w8.heap.size < w12.heap.size := Nat.lt_of_lt_of_le ltWG_11 z12; clear ltWG_11
    have RS_12 := Lib.hid (own_ne RS_11.out hg12 (fun q hp hc => by have f_hp := RSk.out _ hp; have hq := hc.symm; simp only [Value.ownBlock, Option.some.injEq] at hq; omega)); clear RS_11
    have RI_12 := Lib.hid (own_ne RI_11.out hg12 (fun q hp hc => by have f_hp := RIk.out _ hp; have hq := hc.symm; simp only [Value.ownBlock, Option.some.injEq] at hq; omega)); clear RI_11
    clear X0_11
    clear C0_12 ltC0_12
    obtain ⟨WSg0, WSg1, WSg2, WSg3⟩ := WS_12.out; have WSfar := far ltWS_12
    obtain ⟨WGg0, WGg1, WGg2, WGg3⟩ := WG_12.out; have WGfar := far ltWG_12
    go_wp2_with fail
    clear WGg0 WGg1 WGg2 WGg3 WGfar
    clear WSg0 WSg1 WSg2 WSg3 WSfar
    refine (eqTablePage_c R.1.s R.1.f R.1.t _ _ R.1.l.length _ _ R.1.l w12 rfl (by unfold maxLen; omega) (rd_own RI_12.out) (rd_own RS_12.out)).mono ?_
    rintro e w13 ⟨rfl, hb13⟩
    have z13 := (hb13).size
    have b13 : Below w.heap.size w w13 := b12.trans ((hb13).mono b12.size)
    have y13 := b13.size
    have P0_13 := Lib.hid (PgAt.below P0_12.out hb13 ltP0_12); clear P0_12
    have ltP0_13 : w.heap.size < w13.heap.size := Nat.lt_of_lt_of_le ltP0_12 z13; clear ltP0_12
    have WS_13 := Lib.hid (PgAt.below WS_12.out hb13 ltWS_12); clear WS_12
    have ltWS_13 : w4.heap.size < w13.heap.size := Nat.lt_of_lt_of_le ltWS_12 z13; clear ltWS_12
    have WG_13 := Lib.hid (PgAt.below WG_12.out hb13 ltWG_12); clear WG_12
    have ltWG_13 : w8.heap.size < w13.heap.size := Nat.lt_of_lt_of_le ltWG_12 z13; clear ltWG_12
    have RS_13 := Lib.hid (own_call RS_12.out hb13); clear RS_12
    have RI_13 := Lib.hid (own_call RI_12.out hb13); clear RI_12
    obtain ⟨WGg0, WGg1, WGg2, WGg3⟩ := WG_13.out; have WGfar := far ltWG_13
    go_wp2_with fail
    clear WGg0 WGg1 WGg2 WGg3 WGfar
    refine (markTablePage_c R.1.s R.1.f R.1.t _ R.1.l.length _ 1 _ _ w13 (by omega) (by omega) RI_13.out).mono ?_
    rintro e w14 ⟨rfl, hq14, hg14⟩
    have z14 := (hg14).size
    have b14 : Below w.heap.size w w14 := below_of_grown b13 hg14 b13.size (fun q hq => by have f_hq := RIk.out _ hq; omega)
    have y14 := b14.size
    have P0_14 := Lib.hid (PgAt.grown P0_13.out hg14 ltP0_13 (fun hc => by have hq := hc.symm; have f_hq := RIk.out _ hq; omega)); clear P0_13
    have ltP0_14 : w.heap.size < w14.heap.size := Nat.lt_of_lt_of_le ltP0_13 z14; clear ltP0_13
    have WS_14 := Lib.hid (PgAt.grown WS_13.out hg14 ltWS_13 (fun hc => by have hq := hc.symm; have f_hq := RIk.out _ hq; omega)); clear WS_13
    have ltWS_14 : w4.heap.size < w14.heap.size := Nat.lt_of_lt_of_le ltWS_13 z14; clear ltWS_13
    have WG_14 := Lib.hid (PgAt.grown WG_13.out hg14 ltWG_13 (fun hc => by have hq := hc.symm; have f_hq := RIk.out _ hq; omega)); clear WG_13
    have ltWG_14 : w8.heap.size < w14.heap.size := Nat.lt_of_lt_of_le ltWG_13 z14; clear ltWG_13
    have RS_14 := Lib.hid (own_ne RS_13.out hg14 (fun q hp hc => by have f_hp := RSk.out _ hp; have hq := hc.symm; have f_hq := RIk.out _ hq; omega)); clear RS_13
    clear RI_13
    have RM_14 := Lib.hid hq14; clear hq14
    obtain ⟨WGg0, WGg1, WGg2, WGg3⟩ := WG_14.out; have WGfar := far ltWG_14
    go_wp2_with fail
    clear WGg0 WGg1 WGg2 WGg3 WGfar
    refine (heldTablePage_c R.1.s R.1.f R.1.t _ R.1.l.length _ 1 w14 (by omega) (by omega) (rd_own RM_14.out)).mono ?_
    rintro e w15 ⟨rfl, hb15⟩
    have z15 := (hb15).size
    have b15 : Below w.heap.size w w15 := b14.trans ((hb15).mono b14.size)
    have y15 := b15.size
    have P0_15 := Lib.hid (PgAt.below P0_14.out hb15 ltP0_14); clear P0_14
    have ltP0_15 : w.heap.size < w15.heap.size := Nat.lt_of_lt_of_le ltP0_14 z15; clear ltP0_14
    have WS_15 := Lib.hid (PgAt.below WS_14.out hb15 ltWS_14); clear WS_14
    have ltWS_15 : w4.heap.size < w15.heap.size := Nat.lt_of_lt_of_le ltWS_14 z15; clear ltWS_14
    have WG_15 := Lib.hid (PgAt.below WG_14.out hb15 ltWG_14); clear WG_14
    have ltWG_15 : w8.heap.size < w15.heap.size := Nat.lt_of_lt_of_le ltWG_14 z15; clear ltWG_14
    have RS_15 := Lib.hid (own_call RS_14.out hb15); clear RS_14
    have RM_15 := Lib.hid (own_call RM_14.out hb15); clear RM_14
    obtain ⟨P0g0, P0g1, P0g2, P0g3⟩ := P0_15.out; have P0far := far ltP0_15
    go_wp2_with fail
    clear P0g0 P0g1 P0g2 P0g3 P0far
    refine (toTablePage_c s0 f0 t0 A0 n0 c0 l0 w15 H0.out hm0 ((hr0.below b15).mono b15.size)).mono ?_
    rintro e w16 ⟨Y0g, Y0lo, rfl, Y0_16, hb16⟩
    have Y0hi := (Y0_16.lt Y0g rfl).2
    replace Y0_16 := Lib.hid Y0_16
    simp only [pg]
    have z16 := (hb16).size
    have b16 : Below w.heap.size w w16 := b15.trans ((hb16).mono b15.size)
    have y16 := b16.size
    have P0_16 := Lib.hid (PgAt.below P0_15.out hb16 ltP0_15); clear P0_15
    have ltP0_16 : w.heap.size < w16.heap.size := Nat.lt_of_lt_of_le ltP0_15 z16; clear ltP0_15
    have WS_16 := Lib.hid (PgAt.below WS_15.out hb16 ltWS_15); clear WS_15
    have ltWS_16 : w4.heap.size < w16.heap.size := Nat.lt_of_lt_of_le ltWS_15 z16; clear ltWS_15
    have WG_16 := Lib.hid (PgAt.below WG_15.out hb16 ltWG_15); clear WG_15
    have ltWG_16 : w8.heap.size < w16.heap.size := Nat.lt_of_lt_of_le ltWG_15 z16; clear ltWG_15
    have RS_16 := Lib.hid (own_call RS_15.out hb16); clear RS_15
    have RM_16 := Lib.hid (own_call RM_15.out hb16); clear RM_15
    go_wp2_with fail
    refine (MendRowI_c s0 f0 t0 (some ⟨Y0g, 0, none⟩) n0 n0 l0 a1 a2 w16 (by omega) H0.out hm0 (rd_own Y0_16.out)).mono ?_
    rw [HR.out]
    rintro e w17 ⟨RJA, RJc, rfl, hq17, hb17⟩
    have RJk := hq17.lt
    simp only [pg]
    replace RJk := Lib.hid RJk
    have z17 := (hb17).size
    have b17 : Below w.heap.size w w17 := b16.trans ((hb17).mono b16.size)
    have y17 := b17.size
    have P0_17 := Lib.hid (PgAt.below P0_16.out hb17 ltP0_16); clear P0_16
    have ltP0_17 : w.heap.size < w17.heap.size := Nat.lt_of_lt_of_le ltP0_16 z17; clear ltP0_16
    have WS_17 := Lib.hid (PgAt.below WS_16.out hb17 ltWS_16); clear WS_16
    have ltWS_17 : w4.heap.size < w17.heap.size := Nat.lt_of_lt_of_le ltWS_16 z17; clear ltWS_16
    have WG_17 := Lib.hid (PgAt.below WG_16.out hb17 ltWG_16); clear WG_16
    have ltWG_17 : w8.heap.size < w17.heap.size := Nat.lt_of_lt_of_le ltWG_16 z17; clear ltWG_16
    have RS_17 := Lib.hid (own_call RS_16.out hb17); clear RS_16
    have RM_17 := Lib.hid (own_call RM_16.out hb17); clear RM_16
    have Y0_17 := Lib.hid (own_call Y0_16.out hb17); clear Y0_16
    have RJ_17 := Lib.hid hq17; clear hq17
    clear Y0_17
    go_upto_region 25 with fail
    refine gen_world fun VWH hW => ?_
    have hbVWH : Below w17.heap.size w17 VWH := by rw [hW.out]; (repeat' (first | (with_reducible exact Below.refl _ _) | (with_reducible assumption) | (with_reducible refine below_drewN ?_ _) | (with_reducible refine Below.drew ?_) | (with_reducible refine Below.alloc ?_ ?_ _) | (with_reducible refine Below.setCell ?_ ?_ _) | (with_reducible refine via (by with_reducible assumption) ?_ ?_) | go_size))
    have WH_18 := Lib.hid (show PgAt VWH w17.heap.size R.1.s R.1.f R.1.t RJA R.1.l.length RJc by rw [hW.out]; unfold PgAt; simp [go_sem])
    have ltWH_18 : w17.heap.size < VWH.heap.size := by rw [hW.out]; simp [go_sem]
    have KWH := ltWH_18
    clear hW
    have z18 := (hbVWH).size
    have b18 : Below w.heap.size w VWH := b17.trans ((hbVWH).mono b17.size)
    have y18 := b18.size
    have P0_18 := Lib.hid (PgAt.below P0_17.out hbVWH ltP0_17); clear P0_17
    have ltP0_18 : w.heap.size < VWH.heap.size := Nat.lt_of_lt_of_le ltP0_17 z18; clear ltP0_17
    have WS_18 := Lib.hid (PgAt.below WS_17.out hbVWH ltWS_17); clear WS_17
    have ltWS_18 : w4.heap.size < VWH.heap.size := Nat.lt_of_lt_of_le ltWS_17 z18; clear ltWS_17
    have WG_18 := Lib.hid (PgAt.below WG_17.out hbVWH ltWG_17); clear WG_17
    have ltWG_18 : w8.heap.size < VWH.heap.size := Nat.lt_of_lt_of_le ltWG_17 z18; clear ltWG_17
    have RS_18 := Lib.hid (own_call RS_17.out hbVWH); clear RS_17
    have RM_18 := Lib.hid (own_call RM_17.out hbVWH); clear RM_17
    have RJ_18 := Lib.hid (own_call RJ_17.out hbVWH); clear RJ_17
    obtain ⟨WSg0, WSg1, WSg2, WSg3⟩ := WS_18.out; have WSfar := far ltWS_18
    obtain ⟨WHg0, WHg1, WHg2, WHg3⟩ := WH_18.out; have WHfar := far ltWH_18
    go_wp2_with fail
    clear WHg0 WHg1 WHg2 WHg3 WHfar
    clear WSg0 WSg1 WSg2 WSg3 WSfar
    refine (eqTablePage_c R.1.s R.1.f R.1.t _ _ R.1.l.length _ _ R.1.l VWH rfl (by unfold maxLen; omega) (rd_own RJ_18.out) (rd_own RS_18.out)).mono ?_
    rintro e w19 ⟨rfl, hb19⟩
    have z19 := (hb19).size
    have b19 : Below w.heap.size w w19 := b18.trans ((hb19).mono b18.size)
    have y19 := b19.size
    have P0_19 := Lib.hid (PgAt.below P0_18.out hb19 ltP0_18); clear P0_18
    have ltP0_19 : w.heap.size < w19.heap.size := Nat.lt_of_lt_of_le ltP0_18 z19; clear ltP0_18
    have WS_19 := Lib.hid (PgAt.below WS_18.out hb19 ltWS_18); clear WS_18
    have ltWS_19 : w4.heap.size < w19.heap.size := Nat.lt_of_lt_of_le ltWS_18 z19; clear ltWS_18
    have WG_19 := Lib.hid (PgAt.below WG_18.out hb19 ltWG_18); clear WG_18
    have ltWG_19 : w8.heap.size < w19.heap.size := Nat.lt_of_lt_of_le ltWG_18 z19; clear ltWG_18
    have WH_19 := Lib.hid (PgAt.below WH_18.out hb19 ltWH_18); clear WH_18
    have ltWH_19 : w17.heap.size < w19.heap.size := Nat.lt_of_lt_of_le ltWH_18 z19; clear ltWH_18
    have RS_19 := Lib.hid (own_call RS_18.out hb19); clear RS_18
    have RM_19 := Lib.hid (own_call RM_18.out hb19); clear RM_18
    have RJ_19 := Lib.hid (own_call RJ_18.out hb19); clear RJ_18
    obtain ⟨WGg0, WGg1, WGg2, WGg3⟩ := WG_19.out; have WGfar := far ltWG_19
    go_wp2_with fail
    clear WGg0 WGg1 WGg2 WGg3 WGfar
    refine (heldTablePage_c R.1.s R.1.f R.1.t _ R.1.l.length _ 1 w19 (by omega) (by omega) (rd_own RM_19.out)).mono ?_
    rintro e w20 ⟨rfl, hb20⟩
    have z20 := (hb20).size
    have b20 : Below w.heap.size w w20 := b19.trans ((hb20).mono b19.size)
    have y20 := b20.size
    have P0_20 := Lib.hid (PgAt.below P0_19.out hb20 ltP0_19); clear P0_19
    have ltP0_20 : w.heap.size < w20.heap.size := Nat.lt_of_lt_of_le ltP0_19 z20; clear ltP0_19
    have WS_20 := Lib.hid (PgAt.below WS_19.out hb20 ltWS_19); clear WS_19
    have ltWS_20 : w4.heap.size < w20.heap.size := Nat.lt_of_lt_of_le ltWS_19 z20; clear ltWS_19
    have WG_20 := Lib.hid (PgAt.below WG_19.out hb20 ltWG_19); clear WG_19
    have ltWG_20 : w8.heap.size < w20.heap.size := Nat.lt_of_lt_of_le ltWG_19 z20; clear ltWG_19
    have WH_20 := Lib.hid (PgAt.below WH_19.out hb20 ltWH_19); clear WH_19
    have ltWH_20 : w17.heap.size < w20.heap.size := Nat.lt_of_lt_of_le ltWH_19 z20; clear ltWH_19
    have RS_20 := Lib.hid (own_call RS_19.out hb20); clear RS_19
    have RM_20 := Lib.hid (own_call RM_19.out hb20); clear RM_19
    have RJ_20 := Lib.hid (own_call RJ_19.out hb20); clear RJ_19
    go_wp2_with fail
    go_ret
    exact ⟨rfl, b20⟩

end Go.Proofs.Ytklpjpablmiaoaa
