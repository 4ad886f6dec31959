/- The walk of FnExactSamePage. -/
import Derived.Test.YtklpjpablmiaoaaPageSame
import Derived.Test.YtklpjpablmiaoaaLawCalls
import Derived.Deep.DeepCutAuto
set_option linter.unusedVariables false
set_option linter.unusedSimpArgs false
namespace Go.Proofs.Ytklpjpablmiaoaa
open Go.RowKit

set_option maxHeartbeats 8000000 in
theorem fnExactSamePage_walk (w : World) (s0 : ByteArray) (f0 t0 : Int) (A0 : Option Addr) (n0 c0 : Nat) (l0 : List Int) (hs0 : s0.size ≤ maxLen) (wf0 : (Lit.int .i64 f0).wf = true) (wt0 : (Lit.int .i64 t0).wf = true) (hn0 : l0.length = n0) (hx0 : n0 ≤ maxLen) (hr0 : Rd w w.heap.size 1 icell A0 l0) (ok0 : ∀ x ∈ l0, (Lit.int .i64 x).wf = true) (s1 : ByteArray) (f1 t1 : Int) (A1 : Option Addr) (n1 c1 : Nat) (l1 : List Int) (hs1 : s1.size ≤ maxLen) (wf1 : (Lit.int .i64 f1).wf = true) (wt1 : (Lit.int .i64 t1).wf = true) (hn1 : l1.length = n1) (hx1 : n1 ≤ maxLen) (hr1 : Rd w w.heap.size 1 icell A1 l1) (ok1 : ∀ x ∈ l1, (Lit.int .i64 x).wf = true) :
    Calls Try.prog 5 #[.agg #[.string s0, .int .i64 f0, .int .i64 t0, .slice A0 n0 c0], .agg #[.string s1, .int .i64 f1, .int .i64 t1, .slice A1 n1 c1]] w fun e w' => e = .returned (.bool true) ∧ Below w.heap.size w w' := by
  go_enter Try.func5, Try.ntmps5
  have b0 : Below w.heap.size w w := Below.refl _ _
  go_wp2_with fail
  refine gen_calls fun W0 hW => ?_
  have hbW0 : Below w.heap.size w W0 := by rw [hW.out]; (repeat' (first | (with_reducible exact Below.refl _ _) | (with_reducible assumption) | (with_reducible refine below_drewN ?_ _) | (with_reducible refine Below.drew ?_) | (with_reducible refine Below.alloc ?_ ?_ _) | (with_reducible refine Below.setCell ?_ ?_ _) | (with_reducible refine via (by with_reducible assumption) ?_ ?_) | go_size))
  have P0_1 := Lib.hid (show PgAt W0 (w.heap.size) s0 f0 t0 A0 n0 c0 by rw [hW.out]; unfold PgAt; simp [go_sem])
  have ltP0_1 : w.heap.size < W0.heap.size := by rw [hW.out]; simp [go_sem]
  have P1_1 := Lib.hid (show PgAt W0 (w.heap.size + 1) s1 f1 t1 A1 n1 c1 by rw [hW.out]; unfold PgAt; simp [go_sem])
  have ltP1_1 : w.heap.size + 1 < W0.heap.size := by rw [hW.out]; simp [go_sem]
  clear hW
  have z1 := (hbW0).size
  have b1 : Below w.heap.size w W0 := b0.trans ((hbW0).mono b0.size)
  have y1 := b1.size
  have H0 := Lib.hid hn0; clear hn0
  have H1 := Lib.hid hn1; clear hn1
  refine (szTablePage_c s0 f0 t0 A0 n0 c0 1048576 W0 hs0 hx0 (by omega)).mono ?_
  rintro e w2 ⟨r0, rfl, rl0, ru0, rn0, hb2⟩
  have z2 := (hb2).size
  have b2 : Below w.heap.size w w2 := b1.trans ((hb2).mono b1.size)
  have y2 := b2.size
  have P0_2 := Lib.hid (PgAt.below P0_1.out hb2 ltP0_1); clear P0_1
  have ltP0_2 : w.heap.size < w2.heap.size := Nat.lt_of_lt_of_le ltP0_1 z2; clear ltP0_1
  have P1_2 := Lib.hid (PgAt.below P1_1.out hb2 ltP1_1); clear P1_1
  have ltP1_2 : w.heap.size + 1 < w2.heap.size := Nat.lt_of_lt_of_le ltP1_1 z2; clear ltP1_1
  by_cases rs0 : r0 < 0
  · go_wp2_with fail
    go_ret
    exact ⟨rfl, b2⟩
  obtain ⟨hm0s, hm0⟩ := rn0 (by omega)
  obtain ⟨P1g0, P1g1, P1g2, P1g3⟩ := P1_2.out; have P1far := far ltP1_2
  go_wp2_with fail
  clear P1g0 P1g1 P1g2 P1g3 P1far
  refine (szTablePage_c s1 f1 t1 A1 n1 c1 r0 w2 hs1 hx1 (by omega)).mono ?_
  rintro e w3 ⟨r1, rfl, rl1, ru1, rn1, hb3⟩
  have z3 := (hb3).size
  have b3 : Below w.heap.size w w3 := b2.trans ((hb3).mono b2.size)
  have y3 := b3.size
  have P0_3 := Lib.hid (PgAt.below P0_2.out hb3 ltP0_2); clear P0_2
  have ltP0_3 : w.heap.size < w3.heap.size := Nat.lt_of_lt_of_le ltP0_2 z3; clear ltP0_2
  have P1_3 := Lib.hid (PgAt.below P1_2.out hb3 ltP1_2); clear P1_2
  have ltP1_3 : w.heap.size + 1 < w3.heap.size := Nat.lt_of_lt_of_le ltP1_2 z3; clear ltP1_2
  by_cases rs1 : r1 < 0
  · go_wp2_with fail
    go_ret
    exact ⟨rfl, b3⟩
  obtain ⟨hm1s, hm1⟩ := rn1 (by omega)
  go_upto_region 8 with fail
  obtain ⟨W, rfl⟩ : ∃ W' : World, W' = w3 := ⟨_, rfl⟩
  go_cut [6] (fun v wx => v = .bool (sameP s0 f0 t0 l0 s1 f1 t1 l1) ∧ Below W.heap.size W wx)
  case first =>
    obtain ⟨P0g0, P0g1, P0g2, P0g3⟩ := P0_3.out; have P0far := far ltP0_3
    obtain ⟨P1g0, P1g1, P1g2, P1g3⟩ := P1_3.out; have P1far := far ltP1_3
    go_region_held3 (fun w' => (∀ b o, b < W.heap.size → w'.cell? ⟨b, o, none⟩ = W.cell? ⟨b, o, none⟩) ∧ Below W.heap.size W w') (exact old_of (by (repeat' (first | (with_reducible exact Below.refl _ _) | (with_reducible assumption) | (with_reducible refine below_drewN ?_ _) | (with_reducible refine Below.drew ?_) | (with_reducible refine Below.alloc ?_ ?_ _) | (with_reducible refine Below.setCell ?_ ?_ _) | (with_reducible refine via (by with_reducible assumption) ?_ ?_) | go_size)))) (first | (go_at_call_of 18 (Value.agg #[.string s0, .int .i64 f0, .int .i64 t0, .slice A0 n0 c0]); refine (toTablePage_c s0 f0 t0 A0 n0 c0 l0 _ H0.out hm0 (by exact ((hr0.below b3).mono b3.size))).mono ?_; rintro e wa ⟨ga, gal, rfl, hoa, hba⟩; have HOA := Lib.hid hoa; clear hoa; have hSa : Below W.heap.size W wa := (by (repeat' (first | (with_reducible exact Below.refl _ _) | (with_reducible assumption) | (with_reducible refine below_drewN ?_ _) | (with_reducible refine Below.drew ?_) | (with_reducible refine Below.alloc ?_ ?_ _) | (with_reducible refine Below.setCell ?_ ?_ _) | (with_reducible refine via (by with_reducible assumption) ?_ ?_) | go_size))); obtain ⟨hca, hfa⟩ := bcell hSa; have hsa := hSa.size; have hfarA := hsa; (try simp only [pg])) | (go_at_call_of 18 (Value.agg #[.string s1, .int .i64 f1, .int .i64 t1, .slice A1 n1 c1]); refine (toTablePage_c s1 f1 t1 A1 n1 c1 l1 _ H1.out hm1 (by exact ((hr1.below (b3.trans (hSa.mono b3.size))).mono (b3.trans (hSa.mono b3.size)).size))).mono ?_; rintro e wb ⟨gb, gbl, rfl, hob, hbb⟩; have HOB := Lib.hid hob; clear hob; have hSb : Below W.heap.size W wb := (by (repeat' (first | (with_reducible exact Below.refl _ _) | (with_reducible assumption) | (with_reducible refine below_drewN ?_ _) | (with_reducible refine Below.drew ?_) | (with_reducible refine Below.alloc ?_ ?_ _) | (with_reducible refine Below.setCell ?_ ?_ _) | (with_reducible refine via (by with_reducible assumption) ?_ ?_) | go_size))); obtain ⟨hcb, hfb⟩ := bcell hSb; have hsb := hSb.size; (try simp only [pg])) | (go_at_call 17; refine (SamePageS_c s0 f0 t0 (some ⟨ga, 0, none⟩) n0 n0 l0 s1 f1 t1 (some ⟨gb, 0, none⟩) n1 n1 l1 _ H0.out hm0 (by exact (rd_own (own_call HOA.out hbb))) H1.out hm1 (by exact (rd_own HOB.out))).mono ?_; rintro e wd ⟨rfl, hbd⟩; have hSd : Below W.heap.size W wd := (by (repeat' (first | (with_reducible exact Below.refl _ _) | (with_reducible assumption) | (with_reducible refine below_drewN ?_ _) | (with_reducible refine Below.drew ?_) | (with_reducible refine Below.alloc ?_ ?_ _) | (with_reducible refine Below.setCell ?_ ?_ _) | (with_reducible refine via (by with_reducible assumption) ?_ ?_) | go_size))); obtain ⟨hcd, hfd⟩ := bcell hSd; have hsd := hSd.size))
    all_goals
      (go_wp2_with fail; refine Met.intro ?_; apply_assumption; (repeat apply Exists.intro); refine ⟨?_, rfl⟩)
      exact ⟨rfl, by (repeat' (first | (with_reducible exact Below.refl _ _) | (with_reducible assumption) | (with_reducible refine below_drewN ?_ _) | (with_reducible refine Below.drew ?_) | (with_reducible refine Below.alloc ?_ ?_ _) | (with_reducible refine Below.setCell ?_ ?_ _) | (with_reducible refine via (by with_reducible assumption) ?_ ?_) | go_size))⟩
  case rest =>
    obtain ⟨w4, rfl⟩ : ∃ w' : World, w' = wc := ⟨_, rfl⟩
    obtain ⟨rfl, hbc⟩ := hcut
    have z4 := (hbc).size
    have b4 : Below w.heap.size w w4 := b3.trans ((hbc).mono b3.size)
    have y4 := b4.size
    have P0_4 := Lib.hid (PgAt.below P0_3.out hbc ltP0_3); clear P0_3
    have ltP0_4 : w.heap.size < w4.heap.size := Nat.lt_of_lt_of_le ltP0_3 z4; clear ltP0_3
    have P1_4 := Lib.hid (PgAt.below P1_3.out hbc ltP1_3); clear P1_3
    have ltP1_4 : w.heap.size + 1 < w4.heap.size := Nat.lt_of_lt_of_le ltP1_3 z4; clear ltP1_3
    obtain ⟨P0g0, P0g1, P0g2, P0g3⟩ := P0_4.out; have P0far := far ltP0_4
    go_wp2_with fail
    clear P0g0 P0g1 P0g2 P0g3 P0far
    refine (toTablePage_c s0 f0 t0 A0 n0 c0 l0 w4 H0.out hm0 ((hr0.below b4).mono b4.size)).mono ?_
    rintro e w5 ⟨X0g, X0lo, rfl, X0_5, hb5⟩
    replace X0_5 := Lib.hid X0_5
    simp only [pg]
    have z5 := (hb5).size
    have b5 : Below w.heap.size w w5 := b4.trans ((hb5).mono b4.size)
    have y5 := b5.size
    have P0_5 := Lib.hid (PgAt.below P0_4.out hb5 ltP0_4); clear P0_4
    have ltP0_5 : w.heap.size < w5.heap.size := Nat.lt_of_lt_of_le ltP0_4 z5; clear ltP0_4
    have P1_5 := Lib.hid (PgAt.below P1_4.out hb5 ltP1_4); clear P1_4
    have ltP1_5 : w.heap.size + 1 < w5.heap.size := Nat.lt_of_lt_of_le ltP1_4 z5; clear ltP1_4
    go_upto_region 10 with fail
    refine gen_world fun V0 hW => ?_
    have hbV0 : Below w5.heap.size w5 V0 := by rw [hW.out]; (repeat' (first | (with_reducible exact Below.refl _ _) | (with_reducible assumption) | (with_reducible refine below_drewN ?_ _) | (with_reducible refine Below.drew ?_) | (with_reducible refine Below.alloc ?_ ?_ _) | (with_reducible refine Below.setCell ?_ ?_ _) | (with_reducible refine via (by with_reducible assumption) ?_ ?_) | go_size))
    have C0_6 := Lib.hid (show PgAt V0 w5.heap.size s0 f0 t0 (some ⟨X0g, 0, none⟩) n0 n0 by rw [hW.out]; unfold PgAt; simp [go_sem])
    have ltC0_6 : w5.heap.size < V0.heap.size := by rw [hW.out]; simp [go_sem]
    clear hW
    have z6 := (hbV0).size
    have b6 : Below w.heap.size w V0 := b5.trans ((hbV0).mono b5.size)
    have y6 := b6.size
    have P0_6 := Lib.hid (PgAt.below P0_5.out hbV0 ltP0_5); clear P0_5
    have ltP0_6 : w.heap.size < V0.heap.size := Nat.lt_of_lt_of_le ltP0_5 z6; clear ltP0_5
    have P1_6 := Lib.hid (PgAt.below P1_5.out hbV0 ltP1_5); clear P1_5
    have ltP1_6 : w.heap.size + 1 < V0.heap.size := Nat.lt_of_lt_of_le ltP1_5 z6; clear ltP1_5
    have X0_6 := Lib.hid (own_call X0_5.out hbV0); clear X0_5
    obtain ⟨P1g0, P1g1, P1g2, P1g3⟩ := P1_6.out; have P1far := far ltP1_6
    go_wp2_with fail
    clear P1g0 P1g1 P1g2 P1g3 P1far
    refine (toTablePage_c s1 f1 t1 A1 n1 c1 l1 V0 H1.out hm1 ((hr1.below b6).mono b6.size)).mono ?_
    rintro e w7 ⟨X1g, X1lo, rfl, X1_7, hb7⟩
    replace X1_7 := Lib.hid X1_7
    simp only [pg]
    have z7 := (hb7).size
    have b7 : Below w.heap.size w w7 := b6.trans ((hb7).mono b6.size)
    have y7 := b7.size
    have P0_7 := Lib.hid (PgAt.below P0_6.out hb7 ltP0_6); clear P0_6
    have ltP0_7 : w.heap.size < w7.heap.size := Nat.lt_of_lt_of_le ltP0_6 z7; clear ltP0_6
    have P1_7 := Lib.hid (PgAt.below P1_6.out hb7 ltP1_6); clear P1_6
    have ltP1_7 : w.heap.size + 1 < w7.heap.size := Nat.lt_of_lt_of_le ltP1_6 z7; clear ltP1_6
    have C0_7 := Lib.hid (PgAt.below C0_6.out hb7 ltC0_6); clear C0_6
    have ltC0_7 : w5.heap.size < w7.heap.size := Nat.lt_of_lt_of_le ltC0_6 z7; clear ltC0_6
    have X0_7 := Lib.hid (own_call X0_6.out hb7); clear X0_6
    go_upto_region 11 with fail
    refine gen_world fun V1 hW => ?_
    have hbV1 : Below w7.heap.size w7 V1 := by rw [hW.out]; (repeat' (first | (with_reducible exact Below.refl _ _) | (with_reducible assumption) | (with_reducible refine below_drewN ?_ _) | (with_reducible refine Below.drew ?_) | (with_reducible refine Below.alloc ?_ ?_ _) | (with_reducible refine Below.setCell ?_ ?_ _) | (with_reducible refine via (by with_reducible assumption) ?_ ?_) | go_size))
    have C1_8 := Lib.hid (show PgAt V1 w7.heap.size s1 f1 t1 (some ⟨X1g, 0, none⟩) n1 n1 by rw [hW.out]; unfold PgAt; simp [go_sem])
    have ltC1_8 : w7.heap.size < V1.heap.size := by rw [hW.out]; simp [go_sem]
    clear hW
    have z8 := (hbV1).size
    have b8 : Below w.heap.size w V1 := b7.trans ((hbV1).mono b7.size)
    have y8 := b8.size
    have P0_8 := Lib.hid (PgAt.below P0_7.out hbV1 ltP0_7); clear P0_7
    have ltP0_8 : w.heap.size < V1.heap.size := Nat.lt_of_lt_of_le ltP0_7 z8; clear ltP0_7
    have P1_8 := Lib.hid (PgAt.below P1_7.out hbV1 ltP1_7); clear P1_7
    have ltP1_8 : w.heap.size + 1 < V1.heap.size := Nat.lt_of_lt_of_le ltP1_7 z8; clear ltP1_7
    have C0_8 := Lib.hid (PgAt.below C0_7.out hbV1 ltC0_7); clear C0_7
    have ltC0_8 : w5.heap.size < V1.heap.size := Nat.lt_of_lt_of_le ltC0_7 z8; clear ltC0_7
    have X0_8 := Lib.hid (own_call X0_7.out hbV1); clear X0_7
    have X1_8 := Lib.hid (own_call X1_7.out hbV1); clear X1_7
    obtain ⟨C0g0, C0g1, C0g2, C0g3⟩ := C0_8.out; have C0far := far ltC0_8
    obtain ⟨C1g0, C1g1, C1g2, C1g3⟩ := C1_8.out; have C1far := far ltC1_8
    go_wp2_with fail
    clear C0g0 C0g1 C0g2 C0g3 C0far
    clear C1g0 C1g1 C1g2 C1g3 C1far
    refine (SamePageI_c s0 f0 t0 (some ⟨X0g, 0, none⟩) n0 n0 l0 s1 f1 t1 (some ⟨X1g, 0, none⟩) n1 n1 l1 V1 H0.out hm0 (rd_own X0_8.out) H1.out hm1 (rd_own X1_8.out)).mono ?_
    rintro e w9 ⟨rfl, hb9⟩
    have z9 := (hb9).size
    have b9 : Below w.heap.size w w9 := b8.trans ((hb9).mono b8.size)
    have y9 := b9.size
    have P0_9 := Lib.hid (PgAt.below P0_8.out hb9 ltP0_8); clear P0_8
    have ltP0_9 : w.heap.size < w9.heap.size := Nat.lt_of_lt_of_le ltP0_8 z9; clear ltP0_8
    have P1_9 := Lib.hid (PgAt.below P1_8.out hb9 ltP1_8); clear P1_8
    have ltP1_9 : w.heap.size + 1 < w9.heap.size := Nat.lt_of_lt_of_le ltP1_8 z9; clear ltP1_8
    have C0_9 := Lib.hid (PgAt.below C0_8.out hb9 ltC0_8); clear C0_8
    have ltC0_9 : w5.heap.size < w9.heap.size := Nat.lt_of_lt_of_le ltC0_8 z9; clear ltC0_8
    have C1_9 := Lib.hid (PgAt.below C1_8.out hb9 ltC1_8); clear C1_8
    have ltC1_9 : w7.heap.size < w9.heap.size := Nat.lt_of_lt_of_le ltC1_8 z9; clear ltC1_8
    have X0_9 := Lib.hid (own_call X0_8.out hb9); clear X0_8
    have X1_9 := Lib.hid (own_call X1_8.out hb9); clear X1_8
    go_upto_region 14 with fail
    obtain ⟨W, rfl⟩ : ∃ W' : World, W' = w9 := ⟨_, rfl⟩
    go_cut [39] (fun v wx => v = .bool false ∧ Below W.heap.size W wx)
    case first =>
      obtain ⟨P0g0, P0g1, P0g2, P0g3⟩ := P0_9.out; have P0far := far ltP0_9
      obtain ⟨C0g0, C0g1, C0g2, C0g3⟩ := C0_9.out; have C0far := far ltC0_9
      go_region_held3 (fun w' => (∀ b o, b < W.heap.size → w'.cell? ⟨b, o, none⟩ = W.cell? ⟨b, o, none⟩) ∧ Below W.heap.size W w') (exact old_of (by (repeat' (first | (with_reducible exact Below.refl _ _) | (with_reducible assumption) | (with_reducible refine below_drewN ?_ _) | (with_reducible refine Below.drew ?_) | (with_reducible refine Below.alloc ?_ ?_ _) | (with_reducible refine Below.setCell ?_ ?_ _) | (with_reducible refine via (by with_reducible assumption) ?_ ?_) | go_size)))) (first | (go_at_call 18; refine (toTablePage_c s0 f0 t0 A0 n0 c0 l0 _ H0.out hm0 (by exact ((hr0.below b9).mono b9.size))).mono ?_; rintro e wa ⟨ga, gal, rfl, hoa, hba⟩; have HOA := Lib.hid hoa; clear hoa; have hSa : Below W.heap.size W wa := (by (repeat' (first | (with_reducible exact Below.refl _ _) | (with_reducible assumption) | (with_reducible refine below_drewN ?_ _) | (with_reducible refine Below.drew ?_) | (with_reducible refine Below.alloc ?_ ?_ _) | (with_reducible refine Below.setCell ?_ ?_ _) | (with_reducible refine via (by with_reducible assumption) ?_ ?_) | go_size))); obtain ⟨hca, hfa⟩ := bcell hSa; have hsa := hSa.size; (try simp only [pg])) | (go_at_call 20; refine (eqTablePage_c s0 f0 t0 _ _ n0 _ _ l0 _ H0.out hx0 (by exact (rd_own (own_call X0_9.out hSa))) (by exact (rd_own HOA.out))).mono ?_; rintro e wd ⟨rfl, hbd⟩; have hSd : Below W.heap.size W wd := (by (repeat' (first | (with_reducible exact Below.refl _ _) | (with_reducible assumption) | (with_reducible refine below_drewN ?_ _) | (with_reducible refine Below.drew ?_) | (with_reducible refine Below.alloc ?_ ?_ _) | (with_reducible refine Below.setCell ?_ ?_ _) | (with_reducible refine via (by with_reducible assumption) ?_ ?_) | go_size))); obtain ⟨hcd, hfd⟩ := bcell hSd; have hsd := hSd.size))
      all_goals
        (go_wp2_with fail; refine Met.intro ?_; apply_assumption; (repeat apply Exists.intro); refine ⟨?_, rfl⟩)
        exact ⟨rfl, by (repeat' (first | (with_reducible exact Below.refl _ _) | (with_reducible assumption) | (with_reducible refine below_drewN ?_ _) | (with_reducible refine Below.drew ?_) | (with_reducible refine Below.alloc ?_ ?_ _) | (with_reducible refine Below.setCell ?_ ?_ _) | (with_reducible refine via (by with_reducible assumption) ?_ ?_) | go_size))⟩
    case rest =>
      obtain ⟨w10, rfl⟩ : ∃ w' : World, w' = wc := ⟨_, rfl⟩
      obtain ⟨rfl, hbc⟩ := hcut
      have z10 := (hbc).size
      have b10 : Below w.heap.size w w10 := b9.trans ((hbc).mono b9.size)
      have y10 := b10.size
      have P0_10 := Lib.hid (PgAt.below P0_9.out hbc ltP0_9); clear P0_9
      have ltP0_10 : w.heap.size < w10.heap.size := Nat.lt_of_lt_of_le ltP0_9 z10; clear ltP0_9
      have P1_10 := Lib.hid (PgAt.below P1_9.out hbc ltP1_9); clear P1_9
      have ltP1_10 : w.heap.size + 1 < w10.heap.size := Nat.lt_of_lt_of_le ltP1_9 z10; clear ltP1_9
      have C0_10 := Lib.hid (PgAt.below C0_9.out hbc ltC0_9); clear C0_9
      have ltC0_10 : w5.heap.size < w10.heap.size := Nat.lt_of_lt_of_le ltC0_9 z10; clear ltC0_9
      have C1_10 := Lib.hid (PgAt.below C1_9.out hbc ltC1_9); clear C1_9
      have ltC1_10 : w7.heap.size < w10.heap.size := Nat.lt_of_lt_of_le ltC1_9 z10; clear ltC1_9
      have X0_10 := Lib.hid (own_call X0_9.out hbc); clear X0_9
      have X1_10 := Lib.hid (own_call X1_9.out hbc); clear X1_9
      go_upto_region 16 with fail
      obtain ⟨W, rfl⟩ : ∃ W' : World, W' = w10 := ⟨_, rfl⟩
      go_cut [44] (fun v wx => v = .bool false ∧ Below W.heap.size W wx)
      case first =>
        obtain ⟨P1g0, P1g1, P1g2, P1g3⟩ := P1_10.out; have P1far := far ltP1_10
        obtain ⟨C1g0, C1g1, C1g2, C1g3⟩ := C1_10.out; have C1far := far ltC1_10
        go_region_held3 (fun w' => (∀ b o, b < W.heap.size → w'.cell? ⟨b, o, none⟩ = W.cell? ⟨b, o, none⟩) ∧ Below W.heap.size W w') (exact old_of (by (repeat' (first | (with_reducible exact Below.refl _ _) | (with_reducible assumption) | (with_reducible refine below_drewN ?_ _) | (with_reducible refine Below.drew ?_) | (with_reducible refine Below.alloc ?_ ?_ _) | (with_reducible refine Below.setCell ?_ ?_ _) | (with_reducible refine via (by with_reducible assumption) ?_ ?_) | go_size)))) (first | (go_at_call 18; refine (toTablePage_c s1 f1 t1 A1 n1 c1 l1 _ H1.out hm1 (by exact ((hr1.below b10).mono b10.size))).mono ?_; rintro e wa ⟨ga, gal, rfl, hoa, hba⟩; have HOA := Lib.hid hoa; clear hoa; have hSa : Below W.heap.size W wa := (by (repeat' (first | (with_reducible exact Below.refl _ _) | (with_reducible assumption) | (with_reducible refine below_drewN ?_ _) | (with_reducible refine Below.drew ?_) | (with_reducible refine Below.alloc ?_ ?_ _) | (with_reducible refine Below.setCell ?_ ?_ _) | (with_reducible refine via (by with_reducible assumption) ?_ ?_) | go_size))); obtain ⟨hca, hfa⟩ := bcell hSa; have hsa := hSa.size; (try simp only [pg])) | (go_at_call 20; refine (eqTablePage_c s1 f1 t1 _ _ n1 _ _ l1 _ H1.out hx1 (by exact (rd_own (own_call X1_10.out hSa))) (by exact (rd_own HOA.out))).mono ?_; rintro e wd ⟨rfl, hbd⟩; have hSd : Below W.heap.size W wd := (by (repeat' (first | (with_reducible exact Below.refl _ _) | (with_reducible assumption) | (with_reducible refine below_drewN ?_ _) | (with_reducible refine Below.drew ?_) | (with_reducible refine Below.alloc ?_ ?_ _) | (with_reducible refine Below.setCell ?_ ?_ _) | (with_reducible refine via (by with_reducible assumption) ?_ ?_) | go_size))); obtain ⟨hcd, hfd⟩ := bcell hSd; have hsd := hSd.size))
        all_goals
          (go_wp2_with fail; refine Met.intro ?_; apply_assumption; (repeat apply Exists.intro); refine ⟨?_, rfl⟩)
          exact ⟨rfl, by (repeat' (first | (with_reducible exact Below.refl _ _) | (with_reducible assumption) | (with_reducible refine below_drewN ?_ _) | (with_reducible refine Below.drew ?_) | (with_reducible refine Below.alloc ?_ ?_ _) | (with_reducible refine Below.setCell ?_ ?_ _) | (with_reducible refine via (by with_reducible assumption) ?_ ?_) | go_size))⟩
      case rest =>
        obtain ⟨w11, rfl⟩ : ∃ w' : World, w' = wc := ⟨_, rfl⟩
        obtain ⟨rfl, hbc⟩ := hcut
        have z11 := (hbc).size
        have b11 : Below w.heap.size w w11 := b10.trans ((hbc).mono b10.size)
        have y11 := b11.size
        have P0_11 := Lib.hid (PgAt.below P0_10.out hbc ltP0_10); clear P0_10
        have ltP0_11 : w.heap.size < w11.heap.size := Nat.lt_of_lt_of_le ltP0_10 z11; clear ltP0_10
        have P1_11 := Lib.hid (PgAt.below P1_10.out hbc ltP1_10); clear P1_10
        have ltP1_11 : w.heap.size + 1 < w11.heap.size := Nat.lt_of_lt_of_le ltP1_10 z11; clear ltP1_10
        have C0_11 := Lib.hid (PgAt.below C0_10.out hbc ltC0_10); clear C0_10
        have ltC0_11 : w5.heap.size < w11.heap.size := Nat.lt_of_lt_of_le ltC0_10 z11; clear ltC0_10
        have C1_11 := Lib.hid (PgAt.below C1_10.out hbc ltC1_10); clear C1_10
        have ltC1_11 : w7.heap.size < w11.heap.size := Nat.lt_of_lt_of_le ltC1_10 z11; clear ltC1_10
        have X0_11 := Lib.hid (own_call X0_10.out hbc); clear X0_10
        have X1_11 := Lib.hid (own_call X1_10.out hbc); clear X1_10
        go_wp2_with fail
        go_ret
        exact ⟨rfl, b11⟩

end Go.Proofs.Ytklpjpablmiaoaa
