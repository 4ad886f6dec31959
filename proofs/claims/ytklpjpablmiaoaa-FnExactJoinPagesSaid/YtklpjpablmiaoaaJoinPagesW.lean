/- The walk of FnExactJoinPages. -/
import Derived.Test.YtklpjpablmiaoaaJoin1
import Derived.Test.YtklpjpablmiaoaaPageMark
import Derived.Test.YtklpjpablmiaoaaLawCalls
import Derived.Deep.DeepCutAuto
set_option linter.unusedVariables false
set_option linter.unusedSimpArgs false
namespace Go.Proofs.Ytklpjpablmiaoaa
open Go.RowKit

theorem rd_argJ {w W u : World} {A : Option Addr} {l : List Int} (h : Rd w w.heap.size 1 icell A l) (b : Below w.heap.size w W) (hb : Below W.heap.size W u) : Rd u u.heap.size 1 icell A l :=
  have b2 := b.trans (hb.mono b.size)
  (h.below b2).mono b2.size

set_option maxRecDepth 100000 in
set_option maxHeartbeats 8000000 in
theorem fnExactJoinPages_walk (w : World) (s0 : ByteArray) (f0 t0 : Int) (A0 : Option Addr) (n0 c0 : Nat) (l0 : List Int) (hs0 : s0.size ≤ maxLen) (wf0 : (Lit.int .i64 f0).wf = true) (wt0 : (Lit.int .i64 t0).wf = true) (hn0 : l0.length = n0) (hx0 : n0 ≤ maxLen) (hr0 : Rd w w.heap.size 1 icell A0 l0) (ok0 : ∀ x ∈ l0, (Lit.int .i64 x).wf = true) (s1 : ByteArray) (f1 t1 : Int) (A1 : Option Addr) (n1 c1 : Nat) (l1 : List Int) (hs1 : s1.size ≤ maxLen) (wf1 : (Lit.int .i64 f1).wf = true) (wt1 : (Lit.int .i64 t1).wf = true) (hn1 : l1.length = n1) (hx1 : n1 ≤ maxLen) (hr1 : Rd w w.heap.size 1 icell A1 l1) (ok1 : ∀ x ∈ l1, (Lit.int .i64 x).wf = true) :
    Calls Try.prog 9 #[.agg #[.string s0, .int .i64 f0, .int .i64 t0, .slice A0 n0 c0], .agg #[.string s1, .int .i64 f1, .int .i64 t1, .slice A1 n1 c1]] w fun e w' => e = .returned (.bool true) ∧ Below w.heap.size w w' := by
  go_enter Try.func9, Try.ntmps9
  have b0 : Below w.heap.size w w := Below.refl _ _
  go_wp2_with fail
  refine gen_calls fun W0 hW => ?_
  have hbW0 : Below w.heap.size w W0 := by rw [hW.out]; (repeat' (first | (with_reducible exact Below.refl _ _) | (with_reducible assumption) | (with_reducible refine below_drewN ?_ _) | (with_reducible refine Below.drew ?_) | (with_reducible refine Below.alloc ?_ ?_ _) | (with_reducible refine Below.setCell ?_ ?_ _) | (with_reducible refine via (by with_reducible assumption) ?_ ?_) | go_size))
  have P0_1 := Lib.hid (show PgAt W0 (w.heap.size) s0 f0 t0 A0 n0 c0 by rw [hW.out]; unfold PgAt; simp [go_sem])
  have ltP0_1 : w.heap.size < W0.heap.size := by rw [hW.out]; simp [go_sem]
  have KP0 := ltP0_1
  have P1_1 := Lib.hid (show PgAt W0 (w.heap.size + 1) s1 f1 t1 A1 n1 c1 by rw [hW.out]; unfold PgAt; simp [go_sem])
  have ltP1_1 : w.heap.size + 1 < W0.heap.size := by rw [hW.out]; simp [go_sem]
  have KP1 := ltP1_1
  clear hW
  have z1 := (hbW0).size
  have b1 : Below w.heap.size w W0 := b0.trans ((hbW0).mono b0.size)
  have y1 := b1.size
  have H0 := Lib.hid hn0; clear hn0
  have H1 := Lib.hid hn1; clear hn1
  refine (szTablePage_c s0 f0 t0 A0 n0 c0 1048576 W0 hs0 hx0 (by omega)).mono ?_
  rintro e w2 ⟨r0, rfl, rl0, ru0, rn0, hb2⟩
  have z2 := (hb2).size
  have b2 : Below w.heap.size w w2 := b1.trans ((hb2).mono b1.size)
  have y2 := b2.size
  have P0_2 := Lib.hid (PgAt.below P0_1.out hb2 ltP0_1); clear P0_1
  have ltP0_2 : w.heap.size < w2.heap.size := Nat.lt_of_lt_of_le ltP0_1 z2; clear ltP0_1
  have P1_2 := Lib.hid (PgAt.below P1_1.out hb2 ltP1_1); clear P1_1
  have ltP1_2 : w.heap.size + 1 < w2.heap.size := Nat.lt_of_lt_of_le ltP1_1 z2; clear ltP1_1
  by_cases rs0 : r0 < 0
  · go_wp2_with fail
    go_ret
    exact ⟨rfl, b2⟩
  obtain ⟨hm0s, hm0⟩ := rn0 (by omega)
  obtain ⟨P1g0, P1g1, P1g2, P1g3⟩ := P1_2.out; have P1far := far ltP1_2
  go_wp2_with fail
  clear P1g0 P1g1 P1g2 P1g3 P1far
  refine (szTablePage_c s1 f1 t1 A1 n1 c1 r0 w2 hs1 hx1 (by omega)).mono ?_
  rintro e w3 ⟨r1, rfl, rl1, ru1, rn1, hb3⟩
  have z3 := (hb3).size
  have b3 : Below w.heap.size w w3 := b2.trans ((hb3).mono b2.size)
  have y3 := b3.size
  have P0_3 := Lib.hid (PgAt.below P0_2.out hb3 ltP0_2); clear P0_2
  have ltP0_3 : w.heap.size < w3.heap.size := Nat.lt_of_lt_of_le ltP0_2 z3; clear ltP0_2
  have P1_3 := Lib.hid (PgAt.below P1_2.out hb3 ltP1_2); clear P1_2
  have ltP1_3 : w.heap.size + 1 < w3.heap.size := Nat.lt_of_lt_of_le ltP1_2 z3; clear ltP1_2
  by_cases rs1 : r1 < 0
  · go_wp2_with fail
    go_ret
    exact ⟨rfl, b3⟩
  obtain ⟨hm1s, hm1⟩ := rn1 (by omega)
  have hRl : (joinR s0 f0 t0 l0 s1 f1 t1 l1).1.l.length ≤ 1048576 := by have := joinR_60 s0 f0 t0 l0 s1 f1 t1 l1; omega
  go_upto_region 8 with fail
  obtain ⟨W, rfl⟩ : ∃ W' : World, W' = w3 := ⟨_, rfl⟩
  go_cut [6, 7] (fun u v wx => ∃ (bw : Nat) (RSA : Option Addr) (RSc : Nat), u = .pointer (some ⟨bw, 0, none⟩) ∧ v = .int .i64 (joinR s0 f0 t0 l0 s1 f1 t1 l1).2 ∧ PgAt wx bw (joinR s0 f0 t0 l0 s1 f1 t1 l1).1.s (joinR s0 f0 t0 l0 s1 f1 t1 l1).1.f (joinR s0 f0 t0 l0 s1 f1 t1 l1).1.t RSA (joinR s0 f0 t0 l0 s1 f1 t1 l1).1.l.length RSc ∧ W.heap.size ≤ bw ∧ bw < wx.heap.size ∧ wx.ownsRow W.heap.size 2 1 (.slice RSA (joinR s0 f0 t0 l0 s1 f1 t1 l1).1.l.length RSc) (joinR s0 f0 t0 l0 s1 f1 t1 l1).1.l.length ((joinR s0 f0 t0 l0 s1 f1 t1 l1).1.l.map (Value.int .i64)) ∧ Below W.heap.size W wx)
  case first =>
    obtain ⟨P0g0, P0g1, P0g2, P0g3⟩ := P0_3.out; have P0far := far ltP0_3
    obtain ⟨P1g0, P1g1, P1g2, P1g3⟩ := P1_3.out; have P1far := far ltP1_3
    go_region_held3 (fun w' => (∀ b o, b < W.heap.size → w'.cell? ⟨b, o, none⟩ = W.cell? ⟨b, o, none⟩) ∧ Below W.heap.size W w') (exact old_of (by (repeat' (first | (with_reducible exact Below.refl _ _) | (with_reducible assumption) | (with_reducible refine below_drewN ?_ _) | (with_reducible refine Below.drew ?_) | (with_reducible refine Below.alloc ?_ ?_ _) | (with_reducible refine Below.setCell ?_ ?_ _) | (with_reducible refine via (by with_reducible assumption) ?_ ?_) | go_size)))) (first | (go_at_call_of 18 (Value.agg #[.string s0, .int .i64 f0, .int .i64 t0, .slice A0 n0 c0]); refine (toTablePage_c s0 f0 t0 A0 n0 c0 l0 _ H0.out hm0 (by exact rd_argJ hr0 b3 (by (repeat' (first | (with_reducible exact Below.refl _ _) | (with_reducible assumption) | (with_reducible refine below_drewN ?_ _) | (with_reducible refine Below.drew ?_) | (with_reducible refine Below.alloc ?_ ?_ _) | (with_reducible refine Below.setCell ?_ ?_ _) | (with_reducible refine via (by with_reducible assumption) ?_ ?_) | go_size))))).mono ?_; rintro e wa ⟨ga, gal, rfl, hoga, hbga⟩; have H_ga := Lib.hid hoga; clear hoga;  have hSga : Below W.heap.size W wa := (by (repeat' (first | (with_reducible exact Below.refl _ _) | (with_reducible assumption) | (with_reducible refine below_drewN ?_ _) | (with_reducible refine Below.drew ?_) | (with_reducible refine Below.alloc ?_ ?_ _) | (with_reducible refine Below.setCell ?_ ?_ _) | (with_reducible refine via (by with_reducible assumption) ?_ ?_) | go_size)));  obtain ⟨hcga, hfga⟩ := bcell hSga; have hsga := hSga.size; obtain ⟨huga, hvga⟩ := bcell hbga; have hzga := hbga.size; (try simp only [World.size_alloc, size_drewN, World.size_setCell, World.size_drew] at huga hvga hzga); (try (have ha0 := far (show W.heap.size < wa.heap.size by omega))); (try simp only [pg])) | (go_at_call_of 18 (Value.agg #[.string s1, .int .i64 f1, .int .i64 t1, .slice A1 n1 c1]); refine (toTablePage_c s1 f1 t1 A1 n1 c1 l1 _ H1.out hm1 (by exact rd_argJ hr1 b3 (by (repeat' (first | (with_reducible exact Below.refl _ _) | (with_reducible assumption) | (with_reducible refine below_drewN ?_ _) | (with_reducible refine Below.drew ?_) | (with_reducible refine Below.alloc ?_ ?_ _) | (with_reducible refine Below.setCell ?_ ?_ _) | (with_reducible refine via (by with_reducible assumption) ?_ ?_) | go_size))))).mono ?_; rintro e wb ⟨gb, gbl, rfl, hogb, hbgb⟩; have H_gb := Lib.hid hogb; clear hogb; have hXgb : Below wa.heap.size wa wb := (by (repeat' (first | (with_reducible exact Below.refl _ _) | (with_reducible assumption) | (with_reducible refine below_drewN ?_ _) | (with_reducible refine Below.drew ?_) | (with_reducible refine Below.alloc ?_ ?_ _) | (with_reducible refine Below.setCell ?_ ?_ _) | (with_reducible refine via (by with_reducible assumption) ?_ ?_) | go_size))); have hSgb : Below W.heap.size W wb := (by (repeat' (first | (with_reducible exact Below.refl _ _) | (with_reducible assumption) | (with_reducible refine below_drewN ?_ _) | (with_reducible refine Below.drew ?_) | (with_reducible refine Below.alloc ?_ ?_ _) | (with_reducible refine Below.setCell ?_ ?_ _) | (with_reducible refine via (by with_reducible assumption) ?_ ?_) | go_size))); have hYgb := hXgb; obtain ⟨hcgb, hfgb⟩ := bcell hSgb; have hsgb := hSgb.size; obtain ⟨hugb, hvgb⟩ := bcell hbgb; have hzgb := hbgb.size; (try simp only [World.size_alloc, size_drewN, World.size_setCell, World.size_drew] at hugb hvgb hzgb); (try (have hb0 := far (show W.heap.size < wb.heap.size by omega))); (try (have hb1 := far (show wa.heap.size < wb.heap.size by omega))); (try simp only [pg])) | (go_at_call 31; refine (JoinPagesS_c s0 f0 t0 (some ⟨ga, 0, none⟩) n0 n0 l0 s1 f1 t1 (some ⟨gb, 0, none⟩) n1 n1 l1 _ (by omega) H0.out hm0 (by exact (rd_own (own_call H_ga.out (by (repeat' (first | (with_reducible exact Below.refl _ _) | (with_reducible assumption) | (with_reducible refine below_drewN ?_ _) | (with_reducible refine Below.drew ?_) | (with_reducible refine Below.alloc ?_ ?_ _) | (with_reducible refine Below.setCell ?_ ?_ _) | (with_reducible refine via (by with_reducible assumption) ?_ ?_) | go_size)))))) (by omega) H1.out hm1 (by exact (rd_own (own_call H_gb.out (by (repeat' (first | (with_reducible exact Below.refl _ _) | (with_reducible assumption) | (with_reducible refine below_drewN ?_ _) | (with_reducible refine Below.drew ?_) | (with_reducible refine Below.alloc ?_ ?_ _) | (with_reducible refine Below.setCell ?_ ?_ _) | (with_reducible refine via (by with_reducible assumption) ?_ ?_) | go_size))))))).mono ?_; rintro e wd ⟨RSA, RSc, rfl, hod, hbd⟩; have HOD := Lib.hid hod; clear hod; have hSd : Below W.heap.size W wd := (by (repeat' (first | (with_reducible exact Below.refl _ _) | (with_reducible assumption) | (with_reducible refine below_drewN ?_ _) | (with_reducible refine Below.drew ?_) | (with_reducible refine Below.alloc ?_ ?_ _) | (with_reducible refine Below.setCell ?_ ?_ _) | (with_reducible refine via (by with_reducible assumption) ?_ ?_) | go_size))); obtain ⟨hcd, hfd⟩ := bcell hSd; have hsd := hSd.size; obtain ⟨hud, hvd⟩ := bcell hbd; have hzd := hbd.size; (try simp only [World.size_alloc, size_drewN, World.size_setCell, World.size_drew] at hud hvd hzd); (try (have hd0 := far (show W.heap.size < wd.heap.size by omega))); (try (have hd1 := far (show wa.heap.size < wd.heap.size by omega))); (try (have hd2 := far (show wb.heap.size < wd.heap.size by omega))); simp only [pg]))
    all_goals
      (go_wp2_with fail; refine Met.intro ?_; apply_assumption; (repeat apply Exists.intro); refine ⟨?_, rfl⟩)
      exact ⟨_, RSA, RSc, rfl, rfl, by unfold PgAt; first | (simp [go_sem]; done) | (simp [go_sem, *]; done), by (try simp only [World.size_alloc, size_drewN, World.size_setCell, World.size_drew]); omega, by (try simp only [World.size_alloc, size_drewN, World.size_setCell, World.size_drew]); omega, own_base (by first | (refine own_call HOD.out ?_; (repeat' (first | (with_reducible exact Below.refl _ _) | (with_reducible assumption) | (with_reducible refine below_drewN ?_ _) | (with_reducible refine Below.drew ?_) | (with_reducible refine Below.alloc ?_ ?_ _) | (with_reducible refine Below.setCell ?_ ?_ _) | (with_reducible refine via (by with_reducible assumption) ?_ ?_) | go_size)); done) | exact ownsRow_setCell_below (ownsRow_setCell_below (ownsRow_setCell_below (ownsRow_setCell_below HOD.out (by dsimp only; (try simp only [World.size_alloc, size_drewN, World.size_setCell, World.size_drew]); omega) _) (by dsimp only; (try simp only [World.size_alloc, size_drewN, World.size_setCell, World.size_drew]); omega) _) (by dsimp only; (try simp only [World.size_alloc, size_drewN, World.size_setCell, World.size_drew]); omega) _) (by dsimp only; (try simp only [World.size_alloc, size_drewN, World.size_setCell, World.size_drew]); omega) _) (by (try simp only [World.size_alloc, size_drewN, World.size_setCell, World.size_drew]); omega), by (repeat' (first | (with_reducible exact Below.refl _ _) | (with_reducible assumption) | (with_reducible refine below_drewN ?_ _) | (with_reducible refine Below.drew ?_) | (with_reducible refine Below.alloc ?_ ?_ _) | (with_reducible refine Below.setCell ?_ ?_ _) | (with_reducible refine via (by with_reducible assumption) ?_ ?_) | go_size))⟩
  case rest =>
    obtain ⟨w4, rfl⟩ : ∃ w' : World, w' = wc := ⟨_, rfl⟩
    obtain ⟨bw, RSA, RSc, rfl, rfl, WS_4, bwlo, ltWS_4, hqs, hbc⟩ := hcut
    have RSk := Lib.hid hqs.lt
    replace WS_4 := Lib.hid WS_4
    have KWS := ltWS_4
    have z4 := (hbc).size
    have b4 : Below w.heap.size w w4 := b3.trans ((hbc).mono b3.size)
    have y4 := b4.size
    have P0_4 := Lib.hid (PgAt.below P0_3.out hbc ltP0_3); clear P0_3
    have ltP0_4 : w.heap.size < w4.heap.size := Nat.lt_of_lt_of_le ltP0_3 z4; clear ltP0_3
    have P1_4 := Lib.hid (PgAt.below P1_3.out hbc ltP1_3); clear P1_3
    have ltP1_4 : w.heap.size + 1 < w4.heap.size := Nat.lt_of_lt_of_le ltP1_3 z4; clear ltP1_3
    have RS_4 := Lib.hid hqs; clear hqs
    obtain ⟨P0g0, P0g1, P0g2, P0g3⟩ := P0_4.out; have P0far := far ltP0_4
    go_wp2_with fail
    clear P0g0 P0g1 P0g2 P0g3 P0far
    refine (toTablePage_c s0 f0 t0 A0 n0 c0 l0 w4 H0.out hm0 ((hr0.below b4).mono b4.size)).mono ?_
    rintro e w5 ⟨X0g, X0lo, rfl, X0_5, hb5⟩
    have X0hi := (X0_5.lt X0g rfl).2
    replace X0_5 := Lib.hid X0_5
    simp only [pg]
    have z5 := (hb5).size
    have b5 : Below w.heap.size w w5 := b4.trans ((hb5).mono b4.size)
    have y5 := b5.size
    have P0_5 := Lib.hid (PgAt.below P0_4.out hb5 ltP0_4); clear P0_4
    have ltP0_5 : w.heap.size < w5.heap.size := Nat.lt_of_lt_of_le ltP0_4 z5; clear ltP0_4
    have P1_5 := Lib.hid (PgAt.below P1_4.out hb5 ltP1_4); clear P1_4
    have ltP1_5 : w.heap.size + 1 < w5.heap.size := Nat.lt_of_lt_of_le ltP1_4 z5; clear ltP1_4
    have WS_5 := Lib.hid (PgAt.below WS_4.out hb5 ltWS_4); clear WS_4
    have ltWS_5 : bw < w5.heap.size := Nat.lt_of_lt_of_le ltWS_4 z5; clear ltWS_4
    have RS_5 := Lib.hid (own_call RS_4.out hb5); clear RS_4
    go_upto_region 10 with fail
    refine gen_world fun V0 hW => ?_
    have hbV0 : Below w5.heap.size w5 V0 := by rw [hW.out]; (repeat' (first | (with_reducible exact Below.refl _ _) | (with_reducible assumption) | (with_reducible refine below_drewN ?_ _) | (with_reducible refine Below.drew ?_) | (with_reducible refine Below.alloc ?_ ?_ _) | (with_reducible refine Below.setCell ?_ ?_ _) | (with_reducible refine via (by with_reducible assumption) ?_ ?_) | go_size))
    have C0_6 := Lib.hid (show PgAt V0 w5.heap.size s0 f0 t0 (some ⟨X0g, 0, none⟩) n0 n0 by rw [hW.out]; unfold PgAt; simp [go_sem])
    have ltC0_6 : w5.heap.size < V0.heap.size := by rw [hW.out]; simp [go_sem]
    have KC0 := ltC0_6
    clear hW
    have z6 := (hbV0).size
    have b6 : Below w.heap.size w V0 := b5.trans ((hbV0).mono b5.size)
    have y6 := b6.size
    have P0_6 := Lib.hid (PgAt.below P0_5.out hbV0 ltP0_5); clear P0_5
    have ltP0_6 : w.heap.size < V0.heap.size := Nat.lt_of_lt_of_le ltP0_5 z6; clear ltP0_5
    have P1_6 := Lib.hid (PgAt.below P1_5.out hbV0 ltP1_5); clear P1_5
    have ltP1_6 : w.heap.size + 1 < V0.heap.size := Nat.lt_of_lt_of_le ltP1_5 z6; clear ltP1_5
    have WS_6 := Lib.hid (PgAt.below WS_5.out hbV0 ltWS_5); clear WS_5
    have ltWS_6 : bw < V0.heap.size := Nat.lt_of_lt_of_le ltWS_5 z6; clear ltWS_5
    have RS_6 := Lib.hid (own_call RS_5.out hbV0); clear RS_5
    have X0_6 := Lib.hid (own_call X0_5.out hbV0); clear X0_5
    obtain ⟨P1g0, P1g1, P1g2, P1g3⟩ := P1_6.out; have P1far := far ltP1_6
    go_wp2_with fail
    clear P1g0 P1g1 P1g2 P1g3 P1far
    refine (toTablePage_c s1 f1 t1 A1 n1 c1 l1 V0 H1.out hm1 ((hr1.below b6).mono b6.size)).mono ?_
    rintro e w7 ⟨X1g, X1lo, rfl, X1_7, hb7⟩
    have X1hi := (X1_7.lt X1g rfl).2
    replace X1_7 := Lib.hid X1_7
    simp only [pg]
    have z7 := (hb7).size
    have b7 : Below w.heap.size w w7 := b6.trans ((hb7).mono b6.size)
    have y7 := b7.size
    have P0_7 := Lib.hid (PgAt.below P0_6.out hb7 ltP0_6); clear P0_6
    have ltP0_7 : w.heap.size < w7.heap.size := Nat.lt_of_lt_of_le ltP0_6 z7; clear ltP0_6
    have P1_7 := Lib.hid (PgAt.below P1_6.out hb7 ltP1_6); clear P1_6
    have ltP1_7 : w.heap.size + 1 < w7.heap.size := Nat.lt_of_lt_of_le ltP1_6 z7; clear ltP1_6
    have WS_7 := Lib.hid (PgAt.below WS_6.out hb7 ltWS_6); clear WS_6
    have ltWS_7 : bw < w7.heap.size := Nat.lt_of_lt_of_le ltWS_6 z7; clear ltWS_6
    have C0_7 := Lib.hid (PgAt.below C0_6.out hb7 ltC0_6); clear C0_6
    have ltC0_7 : w5.heap.size < w7.heap.size := Nat.lt_of_lt_of_le ltC0_6 z7; clear ltC0_6
    have RS_7 := Lib.hid (own_call RS_6.out hb7); clear RS_6
    have X0_7 := Lib.hid (own_call X0_6.out hb7); clear X0_6
    go_upto_region 11 with fail
    refine gen_world fun V1 hW => ?_
    have hbV1 : Below w7.heap.size w7 V1 := by rw [hW.out]; (repeat' (first | (with_reducible exact Below.refl _ _) | (with_reducible assumption) | (with_reducible refine below_drewN ?_ _) | (with_reducible refine Below.drew ?_) | (with_reducible refine Below.alloc ?_ ?_ _) | (with_reducible refine Below.setCell ?_ ?_ _) | (with_reducible refine via (by with_reducible assumption) ?_ ?_) | go_size))
    have C1_8 := Lib.hid (show PgAt V1 w7.heap.size s1 f1 t1 (some ⟨X1g, 0, none⟩) n1 n1 by rw [hW.out]; unfold PgAt; simp [go_sem])
    have ltC1_8 : w7.heap.size < V1.heap.size := by rw [hW.out]; simp [go_sem]
    have KC1 := ltC1_8
    clear hW
    have z8 := (hbV1).size
    have b8 : Below w.heap.size w V1 := b7.trans ((hbV1).mono b7.size)
    have y8 := b8.size
    have P0_8 := Lib.hid (PgAt.below P0_7.out hbV1 ltP0_7); clear P0_7
    have ltP0_8 : w.heap.size < V1.heap.size := Nat.lt_of_lt_of_le ltP0_7 z8; clear ltP0_7
    have P1_8 := Lib.hid (PgAt.below P1_7.out hbV1 ltP1_7); clear P1_7
    have ltP1_8 : w.heap.size + 1 < V1.heap.size := Nat.lt_of_lt_of_le ltP1_7 z8; clear ltP1_7
    have WS_8 := Lib.hid (PgAt.below WS_7.out hbV1 ltWS_7); clear WS_7
    have ltWS_8 : bw < V1.heap.size := Nat.lt_of_lt_of_le ltWS_7 z8; clear ltWS_7
    have C0_8 := Lib.hid (PgAt.below C0_7.out hbV1 ltC0_7); clear C0_7
    have ltC0_8 : w5.heap.size < V1.heap.size := Nat.lt_of_lt_of_le ltC0_7 z8; clear ltC0_7
    have RS_8 := Lib.hid (own_call RS_7.out hbV1); clear RS_7
    have X0_8 := Lib.hid (own_call X0_7.out hbV1); clear X0_7
    have X1_8 := Lib.hid (own_call X1_7.out hbV1); clear X1_7
    obtain ⟨C0g0, C0g1, C0g2, C0g3⟩ := C0_8.out; have C0far := far ltC0_8
    obtain ⟨C1g0, C1g1, C1g2, C1g3⟩ := C1_8.out; have C1far := far ltC1_8
    go_wp2_with fail
    clear C0g0 C0g1 C0g2 C0g3 C0far
    clear C1g0 C1g1 C1g2 C1g3 C1far
    refine (JoinPagesI_c s0 f0 t0 (some ⟨X0g, 0, none⟩) n0 n0 l0 s1 f1 t1 (some ⟨X1g, 0, none⟩) n1 n1 l1 V1 (by omega) H0.out hm0 (rd_own X0_8.out) (by omega) H1.out hm1 (rd_own X1_8.out)).mono ?_
    rintro e w9 ⟨RIA, RIc, rfl, hq9, hb9⟩
    have RIk := hq9.lt
    simp only [pg]
    replace RIk := Lib.hid RIk
    have z9 := (hb9).size
    have b9 : Below w.heap.size w w9 := b8.trans ((hb9).mono b8.size)
    have y9 := b9.size
    have P0_9 := Lib.hid (PgAt.below P0_8.out hb9 ltP0_8); clear P0_8
    have ltP0_9 : w.heap.size < w9.heap.size := Nat.lt_of_lt_of_le ltP0_8 z9; clear ltP0_8
    have P1_9 := Lib.hid (PgAt.below P1_8.out hb9 ltP1_8); clear P1_8
    have ltP1_9 : w.heap.size + 1 < w9.heap.size := Nat.lt_of_lt_of_le ltP1_8 z9; clear ltP1_8
    have WS_9 := Lib.hid (PgAt.below WS_8.out hb9 ltWS_8); clear WS_8
    have ltWS_9 : bw < w9.heap.size := Nat.lt_of_lt_of_le ltWS_8 z9; clear ltWS_8
    have C0_9 := Lib.hid (PgAt.below C0_8.out hb9 ltC0_8); clear C0_8
    have ltC0_9 : w5.heap.size < w9.heap.size := Nat.lt_of_lt_of_le ltC0_8 z9; clear ltC0_8
    have C1_9 := Lib.hid (PgAt.below C1_8.out hb9 ltC1_8); clear C1_8
    have ltC1_9 : w7.heap.size < w9.heap.size := Nat.lt_of_lt_of_le ltC1_8 z9; clear ltC1_8
    have RS_9 := Lib.hid (own_call RS_8.out hb9); clear RS_8
    have X0_9 := Lib.hid (own_call X0_8.out hb9); clear X0_8
    have X1_9 := Lib.hid (own_call X1_8.out hb9); clear X1_8
    have RI_9 := Lib.hid hq9; clear hq9
    go_upto_region 12 with fail
    refine gen_world fun VWG hW => ?_
    have hbVWG : Below w9.heap.size w9 VWG := by rw [hW.out]; (repeat' (first | (with_reducible exact Below.refl _ _) | (with_reducible assumption) | (with_reducible refine below_drewN ?_ _) | (with_reducible refine Below.drew ?_) | (with_reducible refine Below.alloc ?_ ?_ _) | (with_reducible refine Below.setCell ?_ ?_ _) | (with_reducible refine via (by with_reducible assumption) ?_ ?_) | go_size))
    have WG_10 := Lib.hid (show PgAt VWG w9.heap.size (joinR s0 f0 t0 l0 s1 f1 t1 l1).1.s (joinR s0 f0 t0 l0 s1 f1 t1 l1).1.f (joinR s0 f0 t0 l0 s1 f1 t1 l1).1.t RIA (joinR s0 f0 t0 l0 s1 f1 t1 l1).1.l.length RIc by rw [hW.out]; unfold PgAt; simp [go_sem])
    have ltWG_10 : w9.heap.size < VWG.heap.size := by rw [hW.out]; simp [go_sem]
    have KWG := ltWG_10
    clear hW
    have z10 := (hbVWG).size
    have b10 : Below w.heap.size w VWG := b9.trans ((hbVWG).mono b9.size)
    have y10 := b10.size
    have P0_10 := Lib.hid (PgAt.below P0_9.out hbVWG ltP0_9); clear P0_9
    have ltP0_10 : w.heap.size < VWG.heap.size := Nat.lt_of_lt_of_le ltP0_9 z10; clear ltP0_9
    have P1_10 := Lib.hid (PgAt.below P1_9.out hbVWG ltP1_9); clear P1_9
    have ltP1_10 : w.heap.size + 1 < VWG.heap.size := Nat.lt_of_lt_of_le ltP1_9 z10; clear ltP1_9
    have WS_10 := Lib.hid (PgAt.below WS_9.out hbVWG ltWS_9); clear WS_9
    have ltWS_10 : bw < VWG.heap.size := Nat.lt_of_lt_of_le ltWS_9 z10; clear ltWS_9
    have C0_10 := Lib.hid (PgAt.below C0_9.out hbVWG ltC0_9); clear C0_9
    have ltC0_10 : w5.heap.size < VWG.heap.size := Nat.lt_of_lt_of_le ltC0_9 z10; clear ltC0_9
    have C1_10 := Lib.hid (PgAt.below C1_9.out hbVWG ltC1_9); clear C1_9
    have ltC1_10 : w7.heap.size < VWG.heap.size := Nat.lt_of_lt_of_le ltC1_9 z10; clear ltC1_9
    have RS_10 := Lib.hid (own_call RS_9.out hbVWG); clear RS_9
    have X0_10 := Lib.hid (own_call X0_9.out hbVWG); clear X0_9
    have X1_10 := Lib.hid (own_call X1_9.out hbVWG); clear X1_9
    have RI_10 := Lib.hid (own_call RI_9.out hbVWG); clear RI_9
    generalize hR : joinR s0 f0 t0 l0 s1 f1 t1 l1 = R at *
    have HR := Lib.hid hR; clear hR
    obtain ⟨WSg0, WSg1, WSg2, WSg3⟩ := WS_10.out; have WSfar := far ltWS_10
    obtain ⟨WGg0, WGg1, WGg2, WGg3⟩ := WG_10.out; have WGfar := far ltWG_10
    go_wp2_with fail
    clear WGg0 WGg1 WGg2 WGg3 WGfar
    clear WSg0 WSg1 WSg2 WSg3 WSfar
    refine (eqTablePage_c R.1.s R.1.f R.1.t _ _ R.1.l.length _ _ R.1.l VWG rfl (by unfold maxLen; omega) (rd_own RI_10.out) (rd_own RS_10.out)).mono ?_
    rintro e w11 ⟨rfl, hb11⟩
    have z11 := (hb11).size
    have b11 : Below w.heap.size w w11 := b10.trans ((hb11).mono b10.size)
    have y11 := b11.size
    have P0_11 := Lib.hid (PgAt.below P0_10.out hb11 ltP0_10); clear P0_10
    have ltP0_11 : w.heap.size < w11.heap.size := Nat.lt_of_lt_of_le ltP0_10 z11; clear ltP0_10
    have P1_11 := Lib.hid (PgAt.below P1_10.out hb11 ltP1_10); clear P1_10
    have ltP1_11 : w.heap.size + 1 < w11.heap.size := Nat.lt_of_lt_of_le ltP1_10 z11; clear ltP1_10
    have WS_11 := Lib.hid (PgAt.below WS_10.out hb11 ltWS_10); clear WS_10
    have ltWS_11 : bw < w11.heap.size := Nat.lt_of_lt_of_le ltWS_10 z11; clear ltWS_10
    have C0_11 := Lib.hid (PgAt.below C0_10.out hb11 ltC0_10); clear C0_10
    have ltC0_11 : w5.heap.size < w11.heap.size := Nat.lt_of_lt_of_le ltC0_10 z11; clear ltC0_10
    have C1_11 := Lib.hid (PgAt.below C1_10.out hb11 ltC1_10); clear C1_10
    have ltC1_11 : w7.heap.size < w11.heap.size := Nat.lt_of_lt_of_le ltC1_10 z11; clear ltC1_10
    have WG_11 := Lib.hid (PgAt.below WG_10.out hb11 ltWG_10); clear WG_10
    have ltWG_11 : w9.heap.size < w11.heap.size := Nat.lt_of_lt_of_le ltWG_10 z11; clear ltWG_10
    have RS_11 := Lib.hid (own_call RS_10.out hb11); clear RS_10
    have X0_11 := Lib.hid (own_call X0_10.out hb11); clear X0_10
    have X1_11 := Lib.hid (own_call X1_10.out hb11); clear X1_10
    have RI_11 := Lib.hid (own_call RI_10.out hb11); clear RI_10
    go_upto_region 14 with fail
    obtain ⟨W, rfl⟩ : ∃ W' : World, W' = w11 := ⟨_, rfl⟩
    go_cut [58] (fun v wx => v = .bool false ∧ Below W.heap.size W wx)
    case first =>
      obtain ⟨P0g0, P0g1, P0g2, P0g3⟩ := P0_11.out; have P0far := far ltP0_11
      obtain ⟨C0g0, C0g1, C0g2, C0g3⟩ := C0_11.out; have C0far := far ltC0_11
      go_region_held3 (fun w' => (∀ b o, b < W.heap.size → w'.cell? ⟨b, o, none⟩ = W.cell? ⟨b, o, none⟩) ∧ Below W.heap.size W w') (exact old_of (by (repeat' (first | (with_reducible exact Below.refl _ _) | (with_reducible assumption) | (with_reducible refine below_drewN ?_ _) | (with_reducible refine Below.drew ?_) | (with_reducible refine Below.alloc ?_ ?_ _) | (with_reducible refine Below.setCell ?_ ?_ _) | (with_reducible refine via (by with_reducible assumption) ?_ ?_) | go_size)))) (first | (go_at_call 18; refine (toTablePage_c s0 f0 t0 A0 n0 c0 l0 _ H0.out hm0 (by exact ((hr0.below b11).mono b11.size))).mono ?_; rintro e wa ⟨ga, gal, rfl, hoa, hba⟩; have HOA := Lib.hid hoa; clear hoa; have hSa : Below W.heap.size W wa := (by (repeat' (first | (with_reducible exact Below.refl _ _) | (with_reducible assumption) | (with_reducible refine below_drewN ?_ _) | (with_reducible refine Below.drew ?_) | (with_reducible refine Below.alloc ?_ ?_ _) | (with_reducible refine Below.setCell ?_ ?_ _) | (with_reducible refine via (by with_reducible assumption) ?_ ?_) | go_size))); obtain ⟨hca, hfa⟩ := bcell hSa; have hsa := hSa.size; (try simp only [pg])) | (go_at_call 20; refine (eqTablePage_c s0 f0 t0 _ _ n0 _ _ l0 _ H0.out hx0 (by exact (rd_own (own_call X0_11.out hSa))) (by exact (rd_own HOA.out))).mono ?_; rintro e wd ⟨rfl, hbd⟩; have hSd : Below W.heap.size W wd := (by (repeat' (first | (with_reducible exact Below.refl _ _) | (with_reducible assumption) | (with_reducible refine below_drewN ?_ _) | (with_reducible refine Below.drew ?_) | (with_reducible refine Below.alloc ?_ ?_ _) | (with_reducible refine Below.setCell ?_ ?_ _) | (with_reducible refine via (by with_reducible assumption) ?_ ?_) | go_size))); obtain ⟨hcd, hfd⟩ := bcell hSd; have hsd := hSd.size))
      all_goals
        (go_wp2_with fail; refine Met.intro ?_; apply_assumption; (repeat apply Exists.intro); refine ⟨?_, rfl⟩)
        exact ⟨rfl, by (repeat' (first | (with_reducible exact Below.refl _ _) | (with_reducible assumption) | (with_reducible refine below_drewN ?_ _) | (with_reducible refine Below.drew ?_) | (with_reducible refine Below.alloc ?_ ?_ _) | (with_reducible refine Below.setCell ?_ ?_ _) | (with_reducible refine via (by with_reducible assumption) ?_ ?_) | go_size))⟩
    case rest =>
      obtain ⟨w12, rfl⟩ : ∃ w' : World, w' = wc := ⟨_, rfl⟩
      obtain ⟨rfl, hbc⟩ := hcut
      have z12 := (hbc).size
      have b12 : Below w.heap.size w w12 := b11.trans ((hbc).mono b11.size)
      have y12 := b12.size
      have P0_12 := Lib.hid (PgAt.below P0_11.out hbc ltP0_11); clear P0_11
      have ltP0_12 : w.heap.size < w12.heap.size := Nat.lt_of_lt_of_le ltP0_11 z12; clear ltP0_11
      have P1_12 := Lib.hid (PgAt.below P1_11.out hbc ltP1_11); clear P1_11
      have ltP1_12 : w.heap.size + 1 < w12.heap.size := Nat.lt_of_lt_of_le ltP1_11 z12; clear ltP1_11
      have WS_12 := Lib.hid (PgAt.below WS_11.out hbc ltWS_11); clear WS_11
      have ltWS_12 : bw < w12.heap.size := Nat.lt_of_lt_of_le ltWS_11 z12; clear ltWS_11
      have C0_12 := Lib.hid (PgAt.below C0_11.out hbc ltC0_11); clear C0_11
      have ltC0_12 : w5.heap.size < w12.heap.size := Nat.lt_of_lt_of_le ltC0_11 z12; clear ltC0_11
      have C1_12 := Lib.hid (PgAt.below C1_11.out hbc ltC1_11); clear C1_11
      have ltC1_12 : w7.heap.size < w12.heap.size := Nat.lt_of_lt_of_le ltC1_11 z12; clear ltC1_11
      have WG_12 := Lib.hid (PgAt.below WG_11.out hbc ltWG_11); clear WG_11
      have ltWG_12 : w9.heap.size < w12.heap.size := Nat.lt_of_lt_of_le ltWG_11 z12; clear ltWG_11
      have RS_12 := Lib.hid (own_call RS_11.out hbc); clear RS_11
      have X0_12 := Lib.hid (own_call X0_11.out hbc); clear X0_11
      have X1_12 := Lib.hid (own_call X1_11.out hbc); clear X1_11
      have RI_12 := Lib.hid (own_call RI_11.out hbc); clear RI_11
      go_upto_region 16 with fail
      obtain ⟨W, rfl⟩ : ∃ W' : World, W' = w12 := ⟨_, rfl⟩
      go_cut [63] (fun v wx => v = .bool false ∧ Below W.heap.size W wx)
      case first =>
        obtain ⟨P1g0, P1g1, P1g2, P1g3⟩ := P1_12.out; have P1far := far ltP1_12
        obtain ⟨C1g0, C1g1, C1g2, C1g3⟩ := C1_12.out; have C1far := far ltC1_12
        go_region_held3 (fun w' => (∀ b o, b < W.heap.size → w'.cell? ⟨b, o, none⟩ = W.cell? ⟨b, o, none⟩) ∧ Below W.heap.size W w') (exact old_of (by (repeat' (first | (with_reducible exact Below.refl _ _) | (with_reducible assumption) | (with_reducible refine below_drewN ?_ _) | (with_reducible refine Below.drew ?_) | (with_reducible refine Below.alloc ?_ ?_ _) | (with_reducible refine Below.setCell ?_ ?_ _) | (with_reducible refine via (by with_reducible assumption) ?_ ?_) | go_size)))) (first | (go_at_call 18; refine (toTablePage_c s1 f1 t1 A1 n1 c1 l1 _ H1.out hm1 (by exact ((hr1.below b12).mono b12.size))).mono ?_; rintro e wa ⟨ga, gal, rfl, hoa, hba⟩; have HOA := Lib.hid hoa; clear hoa; have hSa : Below W.heap.size W wa := (by (repeat' (first | (with_reducible exact Below.refl _ _) | (with_reducible assumption) | (with_reducible refine below_drewN ?_ _) | (with_reducible refine Below.drew ?_) | (with_reducible refine Below.alloc ?_ ?_ _) | (with_reducible refine Below.setCell ?_ ?_ _) | (with_reducible refine via (by with_reducible assumption) ?_ ?_) | go_size))); obtain ⟨hca, hfa⟩ := bcell hSa; have hsa := hSa.size; (try simp only [pg])) | (go_at_call 20; refine (eqTablePage_c s1 f1 t1 _ _ n1 _ _ l1 _ H1.out hx1 (by exact (rd_own (own_call X1_12.out hSa))) (by exact (rd_own HOA.out))).mono ?_; rintro e wd ⟨rfl, hbd⟩; have hSd : Below W.heap.size W wd := (by (repeat' (first | (with_reducible exact Below.refl _ _) | (with_reducible assumption) | (with_reducible refine below_drewN ?_ _) | (with_reducible refine Below.drew ?_) | (with_reducible refine Below.alloc ?_ ?_ _) | (with_reducible refine Below.setCell ?_ ?_ _) | (with_reducible refine via (by with_reducible assumption) ?_ ?_) | go_size))); obtain ⟨hcd, hfd⟩ := bcell hSd; have hsd := hSd.size))
        all_goals
          (go_wp2_with fail; refine Met.intro ?_; apply_assumption; (repeat apply Exists.intro); refine ⟨?_, rfl⟩)
          exact ⟨rfl, by (repeat' (first | (with_reducible exact Below.refl _ _) | (with_reducible assumption) | (with_reducible refine below_drewN ?_ _) | (with_reducible refine Below.drew ?_) | (with_reducible refine Below.alloc ?_ ?_ _) | (with_reducible refine Below.setCell ?_ ?_ _) | (with_reducible refine via (by with_reducible assumption) ?_ ?_) | go_size))⟩
      case rest =>
        obtain ⟨w13, rfl⟩ : ∃ w' : World, w' = wc := ⟨_, rfl⟩
        obtain ⟨rfl, hbc⟩ := hcut
        have z13 := (hbc).size
        have b13 : Below w.heap.size w w13 := b12.trans ((hbc).mono b12.size)
        have y13 := b13.size
        have P0_13 := Lib.hid (PgAt.below P0_12.out hbc ltP0_12); clear P0_12
        have ltP0_13 : w.heap.size < w13.heap.size := Nat.lt_of_lt_of_le ltP0_12 z13; clear ltP0_12
        have P1_13 := Lib.hid (PgAt.below P1_12.out hbc ltP1_12); clear P1_12
        have ltP1_13 : w.heap.size + 1 < w13.heap.size := Nat.lt_of_lt_of_le ltP1_12 z13; clear ltP1_12
        have WS_13 := Lib.hid (PgAt.below WS_12.out hbc ltWS_12); clear WS_12
        have ltWS_13 : bw < w13.heap.size := Nat.lt_of_lt_of_le ltWS_12 z13; clear ltWS_12
        have C0_13 := Lib.hid (PgAt.below C0_12.out hbc ltC0_12); clear C0_12
        have ltC0_13 : w5.heap.size < w13.heap.size := Nat.lt_of_lt_of_le ltC0_12 z13; clear ltC0_12
        have C1_13 := Lib.hid (PgAt.below C1_12.out hbc ltC1_12); clear C1_12
        have ltC1_13 : w7.heap.size < w13.heap.size := Nat.lt_of_lt_of_le ltC1_12 z13; clear ltC1_12
        have WG_13 := Lib.hid (PgAt.below WG_12.out hbc ltWG_12); clear WG_12
        have ltWG_13 : w9.heap.size < w13.heap.size := Nat.lt_of_lt_of_le ltWG_12 z13; clear ltWG_12
        have RS_13 := Lib.hid (own_call RS_12.out hbc); clear RS_12
        have X0_13 := Lib.hid (own_call X0_12.out hbc); clear X0_12
        have X1_13 := Lib.hid (own_call X1_12.out hbc); clear X1_12
        have RI_13 := Lib.hid (own_call RI_12.out hbc); clear RI_12
        obtain ⟨C0g0, C0g1, C0g2, C0g3⟩ := C0_13.out; have C0far := far ltC0_13
        go_wp2_with fail
        clear C0g0 C0g1 C0g2 C0g3 C0far
        refine (markTablePage_c s0 f0 t0 _ n0 n0 (1) _ _ w13 (by omega) (by omega) X0_13.out).mono ?_
        rintro e w14 ⟨rfl, _, hg14⟩
        have z14 := (hg14).size
        have b14 : Below w.heap.size w w14 := below_of_grown b13 hg14 b13.size (fun q hq => by simp only [Value.ownBlock, Option.some.injEq] at hq; omega)
        have y14 := b14.size
        have P0_14 := Lib.hid (PgAt.grown P0_13.out hg14 ltP0_13 (fun hc => by have hq := hc.symm; simp only [Value.ownBlock, Option.some.injEq] at hq; omega)); clear P0_13
        have ltP0_14 : w.heap.size < w14.heap.size := Nat.lt_of_lt_of_le ltP0_13 z14; clear ltP0_13
        have P1_14 := Lib.hid (PgAt.grown P1_13.out hg14 ltP1_13 (fun hc => by have hq := hc.symm; simp only [Value.ownBlock, Option.some.injEq] at hq; omega)); clear P1_13
        have ltP1_14 : w.heap.size + 1 < w14.heap.size := Nat.lt_of_lt_of_le ltP1_13 z14; clear ltP1_13
        have WS_14 := Lib.hid (PgAt.grown WS_13.out hg14 ltWS_13 (fun hc => by have hq := hc.symm; simp only [Value.ownBlock, Option.some.injEq] at hq; omega)); clear WS_13
        have ltWS_14 : bw < w14.heap.size := Nat.lt_of_lt_of_le ltWS_13 z14; clear ltWS_13
        have C0_14 := Lib.hid (PgAt.grown C0_13.out hg14 ltC0_13 (fun hc => by have hq := hc.symm; simp only [Value.ownBlock, Option.some.injEq] at hq; omega)); clear C0_13
        have ltC0_14 : w5.heap.size < w14.heap.size := Nat.lt_of_lt_of_le ltC0_13 z14; clear ltC0_13
        have C1_14 := Lib.hid (PgAt.grown C1_13.out hg14 ltC1_13 (fun hc => by have hq := hc.symm; simp only [Value.ownBlock, Option.some.injEq] at hq; omega)); clear C1_13
        have ltC1_14 : w7.heap.size < w14.heap.size := Nat.lt_of_lt_of_le ltC1_13 z14; clear ltC1_13
        have WG_14 := Lib.hid (PgAt.grown WG_13.out hg14 ltWG_13 (fun hc => by have hq := hc.symm; simp only [Value.ownBlock, Option.some.injEq] at hq; omega)); clear WG_13
        have ltWG_14 : w9.heap.size < w14.heap.size := Nat.lt_of_lt_of_le ltWG_13 z14; clear ltWG_13
        have RS_14 := Lib.hid (own_ne RS_13.out hg14 (fun q hp hc => by have f_hp := RSk.out _ hp; have hq := hc.symm; simp only [Value.ownBlock, Option.some.injEq] at hq; omega)); clear RS_13
        have X1_14 := Lib.hid (own_ne X1_13.out hg14 (fun q hp hc => by simp only [Value.ownBlock, Option.some.injEq] at hp; have hq := hc.symm; simp only [Value.ownBlock, Option.some.injEq] at hq; omega)); clear X1_13
        have RI_14 := Lib.hid (own_ne RI_13.out hg14 (fun q hp hc => by have f_hp := RIk.out _ hp; have hq := hc.symm; simp only [Value.ownBlock, Option.some.injEq] at hq; omega)); clear RI_13
        clear X0_13
        clear C0_14 ltC0_14
        obtain ⟨C1g0, C1g1, C1g2, C1g3⟩ := C1_14.out; have C1far := far ltC1_14
        go_wp2_with fail
        clear C1g0 C1g1 C1g2 C1g3 C1far
        refine (markTablePage_c s1 f1 t1 _ n1 n1 (1 + (n0 : Int)) _ _ w14 (by omega) (by omega) X1_14.out).mono ?_
        rintro e w15 ⟨rfl, _, hg15⟩
        have z15 := (hg15).size
        have b15 : Below w.heap.size w w15 := below_of_grown b14 hg15 b14.size (fun q hq => by simp only [Value.ownBlock, Option.some.injEq] at hq; omega)
        have y15 := b15.size
        have P0_15 := Lib.hid (PgAt.grown P0_14.out hg15 ltP0_14 (fun hc => by have hq := hc.symm; simp only [Value.ownBlock, Option.some.injEq] at hq; omega)); clear P0_14
        have ltP0_15 : w.heap.size < w15.heap.size := Nat.lt_of_lt_of_le ltP0_14 z15; clear ltP0_14
        have P1_15 := Lib.hid (PgAt.grown P1_14.out hg15 ltP1_14 (fun hc => by have hq := hc.symm; simp only [Value.ownBlock, Option.some.injEq] at hq; omega)); clear P1_14
        have ltP1_15 : w.heap.size + 1 < w15.heap.size := Nat.lt_of_lt_of_le ltP1_14 z15; clear ltP1_14
        have WS_15 := Lib.hid (PgAt.grown WS_14.out hg15 ltWS_14 (fun hc => by have hq := hc.symm; simp only [Value.ownBlock, Option.some.injEq] at hq; omega)); clear WS_14
        have ltWS_15 : bw < w15.heap.size := Nat.lt_of_lt_of_le ltWS_14 z15; clear ltWS_14
        have C1_15 := Lib.hid (PgAt.grown C1_14.out hg15 ltC1_14 (fun hc => by have hq := hc.symm; simp only [Value.ownBlock, Option.some.injEq] at hq; omega)); clear C1_14
        have ltC1_15 : w7.heap.size < w15.heap.size := Nat.lt_of_lt_of_le ltC1_14 z15; clear ltC1_14
        have WG_15 := Lib.hid (PgAt.grown WG_14.out hg15 ltWG_14 (fun hc => by have hq := hc.symm; simp only [Value.ownBlock, Option.some.injEq] at hq; omega)); clear WG_14
        have ltWG_15 : w9.heap.size < w15.heap.size := Nat.lt_of_lt_of_le ltWG_14 z15; clear ltWG_14
        have RS_15 := Lib.hid (own_ne RS_14.out hg15 (fun q hp hc => by have f_hp := RSk.out _ hp; have hq := hc.symm; simp only [Value.ownBlock, Option.some.injEq] at hq; omega)); clear RS_14
        have RI_15 := Lib.hid (own_ne RI_14.out hg15 (fun q hp hc => by have f_hp := RIk.out _ hp; have hq := hc.symm; simp only [Value.ownBlock, Option.some.injEq] at hq; omega)); clear RI_14
        clear X1_14
        clear C1_15 ltC1_15
        obtain ⟨WSg0, WSg1, WSg2, WSg3⟩ := WS_15.out; have WSfar := far ltWS_15
        obtain ⟨WGg0, WGg1, WGg2, WGg3⟩ := WG_15.out; have WGfar := far ltWG_15
        go_wp2_with fail
        clear WGg0 WGg1 WGg2 WGg3 WGfar
        clear WSg0 WSg1 WSg2 WSg3 WSfar
        refine (eqTablePage_c R.1.s R.1.f R.1.t _ _ R.1.l.length _ _ R.1.l w15 rfl (by unfold maxLen; omega) (rd_own RI_15.out) (rd_own RS_15.out)).mono ?_
        rintro e w16 ⟨rfl, hb16⟩
        have z16 := (hb16).size
        have b16 : Below w.heap.size w w16 := b15.trans ((hb16).mono b15.size)
        have y16 := b16.size
        have P0_16 := Lib.hid (PgAt.below P0_15.out hb16 ltP0_15); clear P0_15
        have ltP0_16 : w.heap.size < w16.heap.size := Nat.lt_of_lt_of_le ltP0_15 z16; clear ltP0_15
        have P1_16 := Lib.hid (PgAt.below P1_15.out hb16 ltP1_15); clear P1_15
        have ltP1_16 : w.heap.size + 1 < w16.heap.size := Nat.lt_of_lt_of_le ltP1_15 z16; clear ltP1_15
        have WS_16 := Lib.hid (PgAt.below WS_15.out hb16 ltWS_15); clear WS_15
        have ltWS_16 : bw < w16.heap.size := Nat.lt_of_lt_of_le ltWS_15 z16; clear ltWS_15
        have WG_16 := Lib.hid (PgAt.below WG_15.out hb16 ltWG_15); clear WG_15
        have ltWG_16 : w9.heap.size < w16.heap.size := Nat.lt_of_lt_of_le ltWG_15 z16; clear ltWG_15
        have RS_16 := Lib.hid (own_call RS_15.out hb16); clear RS_15
        have RI_16 := Lib.hid (own_call RI_15.out hb16); clear RI_15
        obtain ⟨WGg0, WGg1, WGg2, WGg3⟩ := WG_16.out; have WGfar := far ltWG_16
        go_wp2_with fail
        clear WGg0 WGg1 WGg2 WGg3 WGfar
        refine (markTablePage_c R.1.s R.1.f R.1.t _ R.1.l.length _ 1 _ _ w16 (by omega) (by omega) RI_16.out).mono ?_
        rintro e w17 ⟨rfl, hq17, hg17⟩
        have z17 := (hg17).size
        have b17 : Below w.heap.size w w17 := below_of_grown b16 hg17 b16.size (fun q hq => by have f_hq := RIk.out _ hq; omega)
        have y17 := b17.size
        have P0_17 := Lib.hid (PgAt.grown P0_16.out hg17 ltP0_16 (fun hc => by have hq := hc.symm; have f_hq := RIk.out _ hq; omega)); clear P0_16
        have ltP0_17 : w.heap.size < w17.heap.size := Nat.lt_of_lt_of_le ltP0_16 z17; clear ltP0_16
        have P1_17 := Lib.hid (PgAt.grown P1_16.out hg17 ltP1_16 (fun hc => by have hq := hc.symm; have f_hq := RIk.out _ hq; omega)); clear P1_16
        have ltP1_17 : w.heap.size + 1 < w17.heap.size := Nat.lt_of_lt_of_le ltP1_16 z17; clear ltP1_16
        have WS_17 := Lib.hid (PgAt.grown WS_16.out hg17 ltWS_16 (fun hc => by have hq := hc.symm; have f_hq := RIk.out _ hq; omega)); clear WS_16
        have ltWS_17 : bw < w17.heap.size := Nat.lt_of_lt_of_le ltWS_16 z17; clear ltWS_16
        have WG_17 := Lib.hid (PgAt.grown WG_16.out hg17 ltWG_16 (fun hc => by have hq := hc.symm; have f_hq := RIk.out _ hq; omega)); clear WG_16
        have ltWG_17 : w9.heap.size < w17.heap.size := Nat.lt_of_lt_of_le ltWG_16 z17; clear ltWG_16
        have RS_17 := Lib.hid (own_ne RS_16.out hg17 (fun q hp hc => by have f_hp := RSk.out _ hp; have hq := hc.symm; have f_hq := RIk.out _ hq; omega)); clear RS_16
        clear RI_16
        have RM_17 := Lib.hid hq17; clear hq17
        obtain ⟨WGg0, WGg1, WGg2, WGg3⟩ := WG_17.out; have WGfar := far ltWG_17
        go_wp2_with fail
        clear WGg0 WGg1 WGg2 WGg3 WGfar
        refine (heldTablePage_c R.1.s R.1.f R.1.t _ R.1.l.length _ 1 w17 (by omega) (by omega) (rd_own RM_17.out)).mono ?_
        rintro e w18 ⟨rfl, hb18⟩
        have z18 := (hb18).size
        have b18 : Below w.heap.size w w18 := b17.trans ((hb18).mono b17.size)
        have y18 := b18.size
        have P0_18 := Lib.hid (PgAt.below P0_17.out hb18 ltP0_17); clear P0_17
        have ltP0_18 : w.heap.size < w18.heap.size := Nat.lt_of_lt_of_le ltP0_17 z18; clear ltP0_17
        have P1_18 := Lib.hid (PgAt.below P1_17.out hb18 ltP1_17); clear P1_17
        have ltP1_18 : w.heap.size + 1 < w18.heap.size := Nat.lt_of_lt_of_le ltP1_17 z18; clear ltP1_17
        have WS_18 := Lib.hid (PgAt.below WS_17.out hb18 ltWS_17); clear WS_17
        have ltWS_18 : bw < w18.heap.size := Nat.lt_of_lt_of_le ltWS_17 z18; clear ltWS_17
        have WG_18 := Lib.hid (PgAt.below WG_17.out hb18 ltWG_17); clear WG_17
        have ltWG_18 : w9.heap.size < w18.heap.size := Nat.lt_of_lt_of_le ltWG_17 z18; clear ltWG_17
        have RS_18 := Lib.hid (own_call RS_17.out hb18); clear RS_17
        have RM_18 := Lib.hid (own_call RM_17.out hb18); clear RM_17
        go_upto_region 31 with fail
        obtain ⟨W, rfl⟩ : ∃ W' : World, W' = w18 := ⟨_, rfl⟩
        go_cut [15, 16] (fun u v wx => ∃ (bw : Nat) (RSA : Option Addr) (RSc : Nat), u = .pointer (some ⟨bw, 0, none⟩) ∧ v = .int .i64 R.2 ∧ PgAt wx bw R.1.s R.1.f R.1.t RSA R.1.l.length RSc ∧ W.heap.size ≤ bw ∧ bw < wx.heap.size ∧ wx.ownsRow W.heap.size 2 1 (.slice RSA R.1.l.length RSc) R.1.l.length (R.1.l.map (Value.int .i64)) ∧ Below W.heap.size W wx)
        case first =>
          obtain ⟨P0g0, P0g1, P0g2, P0g3⟩ := P0_18.out; have P0far := far ltP0_18
          obtain ⟨P1g0, P1g1, P1g2, P1g3⟩ := P1_18.out; have P1far := far ltP1_18
          have HIJ := fun (g1 g2 : Nat) (W9 : World) (h1 : Rd W9 W9.heap.size 1 icell (some ⟨g1, 0, none⟩) l0) (h2 : Rd W9 W9.heap.size 1 icell (some ⟨g2, 0, none⟩) l1) => JoinPagesI_c s0 f0 t0 (some ⟨g1, 0, none⟩) n0 n0 l0 s1 f1 t1 (some ⟨g2, 0, none⟩) n1 n1 l1 W9 (by omega) H0.out hm0 h1 (by omega) H1.out hm1 h2
          rw [HR.out] at HIJ
          go_region_held3 (fun w' => (∀ b o, b < W.heap.size → w'.cell? ⟨b, o, none⟩ = W.cell? ⟨b, o, none⟩) ∧ Below W.heap.size W w') (exact old_of (by (repeat' (first | (with_reducible exact Below.refl _ _) | (with_reducible assumption) | (with_reducible refine below_drewN ?_ _) | (with_reducible refine Below.drew ?_) | (with_reducible refine Below.alloc ?_ ?_ _) | (with_reducible refine Below.setCell ?_ ?_ _) | (with_reducible refine via (by with_reducible assumption) ?_ ?_) | go_size)))) (first | (go_at_call_of 18 (Value.agg #[.string s0, .int .i64 f0, .int .i64 t0, .slice A0 n0 c0]); refine (toTablePage_c s0 f0 t0 A0 n0 c0 l0 _ H0.out hm0 (by exact rd_argJ hr0 b18 (by (repeat' (first | (with_reducible exact Below.refl _ _) | (with_reducible assumption) | (with_reducible refine below_drewN ?_ _) | (with_reducible refine Below.drew ?_) | (with_reducible refine Below.alloc ?_ ?_ _) | (with_reducible refine Below.setCell ?_ ?_ _) | (with_reducible refine via (by with_reducible assumption) ?_ ?_) | go_size))))).mono ?_; rintro e wa ⟨ga, gal, rfl, hoga, hbga⟩; have H_ga := Lib.hid hoga; clear hoga;  have hSga : Below W.heap.size W wa := (by (repeat' (first | (with_reducible exact Below.refl _ _) | (with_reducible assumption) | (with_reducible refine below_drewN ?_ _) | (with_reducible refine Below.drew ?_) | (with_reducible refine Below.alloc ?_ ?_ _) | (with_reducible refine Below.setCell ?_ ?_ _) | (with_reducible refine via (by with_reducible assumption) ?_ ?_) | go_size)));  obtain ⟨hcga, hfga⟩ := bcell hSga; have hsga := hSga.size; obtain ⟨huga, hvga⟩ := bcell hbga; have hzga := hbga.size; (try simp only [World.size_alloc, size_drewN, World.size_setCell, World.size_drew] at huga hvga hzga); (try (have ha0 := far (show W.heap.size < wa.heap.size by omega))); (try simp only [pg])) | (go_at_call_of 18 (Value.agg #[.string s1, .int .i64 f1, .int .i64 t1, .slice A1 n1 c1]); refine (toTablePage_c s1 f1 t1 A1 n1 c1 l1 _ H1.out hm1 (by exact rd_argJ hr1 b18 (by (repeat' (first | (with_reducible exact Below.refl _ _) | (with_reducible assumption) | (with_reducible refine below_drewN ?_ _) | (with_reducible refine Below.drew ?_) | (with_reducible refine Below.alloc ?_ ?_ _) | (with_reducible refine Below.setCell ?_ ?_ _) | (with_reducible refine via (by with_reducible assumption) ?_ ?_) | go_size))))).mono ?_; rintro e wb ⟨gb, gbl, rfl, hogb, hbgb⟩; have H_gb := Lib.hid hogb; clear hogb; have hXgb : Below wa.heap.size wa wb := (by (repeat' (first | (with_reducible exact Below.refl _ _) | (with_reducible assumption) | (with_reducible refine below_drewN ?_ _) | (with_reducible refine Below.drew ?_) | (with_reducible refine Below.alloc ?_ ?_ _) | (with_reducible refine Below.setCell ?_ ?_ _) | (with_reducible refine via (by with_reducible assumption) ?_ ?_) | go_size))); have hSgb : Below W.heap.size W wb := (by (repeat' (first | (with_reducible exact Below.refl _ _) | (with_reducible assumption) | (with_reducible refine below_drewN ?_ _) | (with_reducible refine Below.drew ?_) | (with_reducible refine Below.alloc ?_ ?_ _) | (with_reducible refine Below.setCell ?_ ?_ _) | (with_reducible refine via (by with_reducible assumption) ?_ ?_) | go_size))); have hYgb := hXgb; obtain ⟨hcgb, hfgb⟩ := bcell hSgb; have hsgb := hSgb.size; obtain ⟨hugb, hvgb⟩ := bcell hbgb; have hzgb := hbgb.size; (try simp only [World.size_alloc, size_drewN, World.size_setCell, World.size_drew] at hugb hvgb hzgb); (try (have hb0 := far (show W.heap.size < wb.heap.size by omega))); (try (have hb1 := far (show wa.heap.size < wb.heap.size by omega))); (try simp only [pg])) | (go_at_call 32; refine (HIJ _ _ _ (by exact (rd_own (own_call H_ga.out (by (repeat' (first | (with_reducible exact Below.refl _ _) | (with_reducible assumption) | (with_reducible refine below_drewN ?_ _) | (with_reducible refine Below.drew ?_) | (with_reducible refine Below.alloc ?_ ?_ _) | (with_reducible refine Below.setCell ?_ ?_ _) | (with_reducible refine via (by with_reducible assumption) ?_ ?_) | go_size)))))) (by exact (rd_own (own_call H_gb.out (by (repeat' (first | (with_reducible exact Below.refl _ _) | (with_reducible assumption) | (with_reducible refine below_drewN ?_ _) | (with_reducible refine Below.drew ?_) | (with_reducible refine Below.alloc ?_ ?_ _) | (with_reducible refine Below.setCell ?_ ?_ _) | (with_reducible refine via (by with_reducible assumption) ?_ ?_) | go_size))))))).mono ?_; rintro e wd ⟨RSA, RSc, rfl, hod, hbd⟩; have HOD := Lib.hid hod; clear hod; have hSd : Below W.heap.size W wd := (by (repeat' (first | (with_reducible exact Below.refl _ _) | (with_reducible assumption) | (with_reducible refine below_drewN ?_ _) | (with_reducible refine Below.drew ?_) | (with_reducible refine Below.alloc ?_ ?_ _) | (with_reducible refine Below.setCell ?_ ?_ _) | (with_reducible refine via (by with_reducible assumption) ?_ ?_) | go_size))); obtain ⟨hcd, hfd⟩ := bcell hSd; have hsd := hSd.size; obtain ⟨hud, hvd⟩ := bcell hbd; have hzd := hbd.size; (try simp only [World.size_alloc, size_drewN, World.size_setCell, World.size_drew] at hud hvd hzd); (try (have hd0 := far (show W.heap.size < wd.heap.size by omega))); (try (have hd1 := far (show wa.heap.size < wd.heap.size by omega))); (try (have hd2 := far (show wb.heap.size < wd.heap.size by omega))); simp only [pg]))
          all_goals
            (go_wp2_with fail; refine Met.intro ?_; apply_assumption; (repeat apply Exists.intro); refine ⟨?_, rfl⟩)
            exact ⟨_, RSA, RSc, rfl, rfl, by unfold PgAt; first | (simp [go_sem]; done) | (simp [go_sem, *]; done), by (try simp only [World.size_alloc, size_drewN, World.size_setCell, World.size_drew]); omega, by (try simp only [World.size_alloc, size_drewN, World.size_setCell, World.size_drew]); omega, own_base (by first | (refine own_call HOD.out ?_; (repeat' (first | (with_reducible exact Below.refl _ _) | (with_reducible assumption) | (with_reducible refine below_drewN ?_ _) | (with_reducible refine Below.drew ?_) | (with_reducible refine Below.alloc ?_ ?_ _) | (with_reducible refine Below.setCell ?_ ?_ _) | (with_reducible refine via (by with_reducible assumption) ?_ ?_) | go_size)); done) | exact ownsRow_setCell_below (ownsRow_setCell_below (ownsRow_setCell_below (ownsRow_setCell_below HOD.out (by dsimp only; (try simp only [World.size_alloc, size_drewN, World.size_setCell, World.size_drew]); omega) _) (by dsimp only; (try simp only [World.size_alloc, size_drewN, World.size_setCell, World.size_drew]); omega) _) (by dsimp only; (try simp only [World.size_alloc, size_drewN, World.size_setCell, World.size_drew]); omega) _) (by dsimp only; (try simp only [World.size_alloc, size_drewN, World.size_setCell, World.size_drew]); omega) _) (by (try simp only [World.size_alloc, size_drewN, World.size_setCell, World.size_drew]); omega), by (repeat' (first | (with_reducible exact Below.refl _ _) | (with_reducible assumption) | (with_reducible refine below_drewN ?_ _) | (with_reducible refine Below.drew ?_) | (with_reducible refine Below.alloc ?_ ?_ _) | (with_reducible refine Below.setCell ?_ ?_ _) | (with_reducible refine via (by with_reducible assumption) ?_ ?_) | go_size))⟩
        case rest =>
          obtain ⟨w19, rfl⟩ : ∃ w' : World, w' = wc := ⟨_, rfl⟩
          obtain ⟨bh, RJA, RJc, rfl, rfl, WH_19, bhlo, ltWH_19, hqs, hbc⟩ := hcut
          have RJk := Lib.hid hqs.lt
          replace WH_19 := Lib.hid WH_19
          have KWH := ltWH_19
          have z19 := (hbc).size
          have b19 : Below w.heap.size w w19 := b18.trans ((hbc).mono b18.size)
          have y19 := b19.size
          have P0_19 := Lib.hid (PgAt.below P0_18.out hbc ltP0_18); clear P0_18
          have ltP0_19 : w.heap.size < w19.heap.size := Nat.lt_of_lt_of_le ltP0_18 z19; clear ltP0_18
          have P1_19 := Lib.hid (PgAt.below P1_18.out hbc ltP1_18); clear P1_18
          have ltP1_19 : w.heap.size + 1 < w19.heap.size := Nat.lt_of_lt_of_le ltP1_18 z19; clear ltP1_18
          have WS_19 := Lib.hid (PgAt.below WS_18.out hbc ltWS_18); clear WS_18
          have ltWS_19 : bw < w19.heap.size := Nat.lt_of_lt_of_le ltWS_18 z19; clear ltWS_18
          have WG_19 := Lib.hid (PgAt.below WG_18.out hbc ltWG_18); clear WG_18
          have ltWG_19 : w9.heap.size < w19.heap.size := Nat.lt_of_lt_of_le ltWG_18 z19; clear ltWG_18
          have RS_19 := Lib.hid (own_call RS_18.out hbc); clear RS_18
          have RM_19 := Lib.hid (own_call RM_18.out hbc); clear RM_18
          have RJ_19 := Lib.hid hqs; clear hqs
          obtain ⟨WSg0, WSg1, WSg2, WSg3⟩ := WS_19.out; have WSfar := far ltWS_19
          obtain ⟨WHg0, WHg1, WHg2, WHg3⟩ := WH_19.out; have WHfar := far ltWH_19
          go_wp2_with fail
          clear WHg0 WHg1 WHg2 WHg3 WHfar
          clear WSg0 WSg1 WSg2 WSg3 WSfar
          refine (eqTablePage_c R.1.s R.1.f R.1.t _ _ R.1.l.length _ _ R.1.l w19 rfl (by unfold maxLen; omega) (rd_own RJ_19.out) (rd_own RS_19.out)).mono ?_
          rintro e w20 ⟨rfl, hb20⟩
          have z20 := (hb20).size
          have b20 : Below w.heap.size w w20 := b19.trans ((hb20).mono b19.size)
          have y20 := b20.size
          have P0_20 := Lib.hid (PgAt.below P0_19.out hb20 ltP0_19); clear P0_19
          have ltP0_20 : w.heap.size < w20.heap.size := Nat.lt_of_lt_of_le ltP0_19 z20; clear ltP0_19
          have P1_20 := Lib.hid (PgAt.below P1_19.out hb20 ltP1_19); clear P1_19
          have ltP1_20 : w.heap.size + 1 < w20.heap.size := Nat.lt_of_lt_of_le ltP1_19 z20; clear ltP1_19
          have WS_20 := Lib.hid (PgAt.below WS_19.out hb20 ltWS_19); clear WS_19
          have ltWS_20 : bw < w20.heap.size := Nat.lt_of_lt_of_le ltWS_19 z20; clear ltWS_19
          have WG_20 := Lib.hid (PgAt.below WG_19.out hb20 ltWG_19); clear WG_19
          have ltWG_20 : w9.heap.size < w20.heap.size := Nat.lt_of_lt_of_le ltWG_19 z20; clear ltWG_19
          have WH_20 := Lib.hid (PgAt.below WH_19.out hb20 ltWH_19); clear WH_19
          have ltWH_20 : bh < w20.heap.size := Nat.lt_of_lt_of_le ltWH_19 z20; clear ltWH_19
          have RS_20 := Lib.hid (own_call RS_19.out hb20); clear RS_19
          have RM_20 := Lib.hid (own_call RM_19.out hb20); clear RM_19
          have RJ_20 := Lib.hid (own_call RJ_19.out hb20); clear RJ_19
          obtain ⟨WGg0, WGg1, WGg2, WGg3⟩ := WG_20.out; have WGfar := far ltWG_20
          go_wp2_with fail
          clear WGg0 WGg1 WGg2 WGg3 WGfar
          refine (heldTablePage_c R.1.s R.1.f R.1.t _ R.1.l.length _ 1 w20 (by omega) (by omega) (rd_own RM_20.out)).mono ?_
          rintro e w21 ⟨rfl, hb21⟩
          have z21 := (hb21).size
          have b21 : Below w.heap.size w w21 := b20.trans ((hb21).mono b20.size)
          have y21 := b21.size
          have P0_21 := Lib.hid (PgAt.below P0_20.out hb21 ltP0_20); clear P0_20
          have ltP0_21 : w.heap.size < w21.heap.size := Nat.lt_of_lt_of_le ltP0_20 z21; clear ltP0_20
          have P1_21 := Lib.hid (PgAt.below P1_20.out hb21 ltP1_20); clear P1_20
          have ltP1_21 : w.heap.size + 1 < w21.heap.size := Nat.lt_of_lt_of_le ltP1_20 z21; clear ltP1_20
          have WS_21 := Lib.hid (PgAt.below WS_20.out hb21 ltWS_20); clear WS_20
          have ltWS_21 : bw < w21.heap.size := Nat.lt_of_lt_of_le ltWS_20 z21; clear ltWS_20
          have WG_21 := Lib.hid (PgAt.below WG_20.out hb21 ltWG_20); clear WG_20
          have ltWG_21 : w9.heap.size < w21.heap.size := Nat.lt_of_lt_of_le ltWG_20 z21; clear ltWG_20
          have WH_21 := Lib.hid (PgAt.below WH_20.out hb21 ltWH_20); clear WH_20
          have ltWH_21 : bh < w21.heap.size := Nat.lt_of_lt_of_le ltWH_20 z21; clear ltWH_20
          have RS_21 := Lib.hid (own_call RS_20.out hb21); clear RS_20
          have RM_21 := Lib.hid (own_call RM_20.out hb21); clear RM_20
          have RJ_21 := Lib.hid (own_call RJ_20.out hb21); clear RJ_20
          go_wp2_with fail
          go_ret
          exact ⟨rfl, b21⟩

end Go.Proofs.Ytklpjpablmiaoaa
