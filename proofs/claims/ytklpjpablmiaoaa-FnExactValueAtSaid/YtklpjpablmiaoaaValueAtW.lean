/- The walk of FnExactValueAt. -/
import Derived.Test.YtklpjpablmiaoaaPage3
import Derived.Test.YtklpjpablmiaoaaLawCalls
import Derived.Deep.DeepCutAuto
set_option linter.unusedVariables false
set_option linter.unusedSimpArgs false
namespace Go.Proofs.Ytklpjpablmiaoaa
open Go.RowKit

set_option maxHeartbeats 8000000 in
theorem fnExactValueAt_walk (w : World) (s0 : ByteArray) (f0 t0 : Int) (A0 : Option Addr) (n0 c0 : Nat) (l0 : List Int) (hs0 : s0.size ≤ maxLen) (wf0 : (Lit.int .i64 f0).wf = true) (wt0 : (Lit.int .i64 t0).wf = true) (hn0 : l0.length = n0) (hx0 : n0 ≤ maxLen) (hr0 : Rd w w.heap.size 1 icell A0 l0) (ok0 : ∀ x ∈ l0, (Lit.int .i64 x).wf = true) (a1 : Int) (wa1 : (Lit.int .i64 a1).wf = true) :
    Calls Try.prog 8 #[.agg #[.string s0, .int .i64 f0, .int .i64 t0, .slice A0 n0 c0], .int .i64 a1] w fun e w' => e = .returned (.bool true) ∧ Below w.heap.size w w' := by
  go_enter Try.func8, Try.ntmps8
  have b0 : Below w.heap.size w w := Below.refl _ _
  go_wp2_with fail
  refine gen_calls fun W0 hW => ?_
  have hbW0 : Below w.heap.size w W0 := by rw [hW.out]; (repeat' (first | (with_reducible exact Below.refl _ _) | (with_reducible assumption) | (with_reducible refine below_drewN ?_ _) | (with_reducible refine Below.drew ?_) | (with_reducible refine Below.alloc ?_ ?_ _) | (with_reducible refine Below.setCell ?_ ?_ _) | (with_reducible refine via (by with_reducible assumption) ?_ ?_) | go_size))
  have P0_1 := Lib.hid (show PgAt W0 (w.heap.size) s0 f0 t0 A0 n0 c0 by rw [hW.out]; unfold PgAt; simp [go_sem])
  have ltP0_1 : w.heap.size < W0.heap.size := by rw [hW.out]; simp [go_sem]
  clear hW
  have z1 := (hbW0).size
  have b1 : Below w.heap.size w W0 := b0.trans ((hbW0).mono b0.size)
  have y1 := b1.size
  have H0 := Lib.hid hn0; clear hn0
  refine (szTablePage_c s0 f0 t0 A0 n0 c0 1048576 W0 hs0 hx0 (by omega)).mono ?_
  rintro e w2 ⟨r0, rfl, rl0, ru0, rn0, hb2⟩
  have z2 := (hb2).size
  have b2 : Below w.heap.size w w2 := b1.trans ((hb2).mono b1.size)
  have y2 := b2.size
  have P0_2 := Lib.hid (PgAt.below P0_1.out hb2 ltP0_1); clear P0_1
  have ltP0_2 : w.heap.size < w2.heap.size := Nat.lt_of_lt_of_le ltP0_1 z2; clear ltP0_1
  by_cases rs0 : r0 < 0
  · go_wp2_with fail
    go_ret
    exact ⟨rfl, b2⟩
  obtain ⟨hm0s, hm0⟩ := rn0 (by omega)
  obtain ⟨P0g0, P0g1, P0g2, P0g3⟩ := P0_2.out; have P0far := far ltP0_2
  go_wp2_with fail
  clear P0g0 P0g1 P0g2 P0g3 P0far
  refine (toTablePage_c s0 f0 t0 A0 n0 c0 l0 w2 H0.out hm0 ((hr0.below b2).mono b2.size)).mono ?_
  rintro e w3 ⟨S0g, S0lo, rfl, S0_3, hb3⟩
  replace S0_3 := Lib.hid S0_3
  simp only [pg]
  have z3 := (hb3).size
  have b3 : Below w.heap.size w w3 := b2.trans ((hb3).mono b2.size)
  have y3 := b3.size
  have P0_3 := Lib.hid (PgAt.below P0_2.out hb3 ltP0_2); clear P0_2
  have ltP0_3 : w.heap.size < w3.heap.size := Nat.lt_of_lt_of_le ltP0_2 z3; clear ltP0_2
  go_wp2_with fail
  refine (ValueAtS_c s0 f0 t0 (some ⟨S0g, 0, none⟩) n0 n0 l0 a1 w3 (by omega) H0.out hm0 (rd_own S0_3.out)).mono ?_
  rintro e w4 ⟨rfl, hb4⟩
  have z4 := (hb4).size
  have b4 : Below w.heap.size w w4 := b3.trans ((hb4).mono b3.size)
  have y4 := b4.size
  have P0_4 := Lib.hid (PgAt.below P0_3.out hb4 ltP0_3); clear P0_3
  have ltP0_4 : w.heap.size < w4.heap.size := Nat.lt_of_lt_of_le ltP0_3 z4; clear ltP0_3
  have S0_4 := Lib.hid (own_call S0_3.out hb4); clear S0_3
  obtain ⟨P0g0, P0g1, P0g2, P0g3⟩ := P0_4.out; have P0far := far ltP0_4
  go_wp2_with fail
  clear P0g0 P0g1 P0g2 P0g3 P0far
  refine (toTablePage_c s0 f0 t0 A0 n0 c0 l0 w4 H0.out hm0 ((hr0.below b4).mono b4.size)).mono ?_
  rintro e w5 ⟨X0g, X0lo, rfl, X0_5, hb5⟩
  replace X0_5 := Lib.hid X0_5
  simp only [pg]
  have z5 := (hb5).size
  have b5 : Below w.heap.size w w5 := b4.trans ((hb5).mono b4.size)
  have y5 := b5.size
  have P0_5 := Lib.hid (PgAt.below P0_4.out hb5 ltP0_4); clear P0_4
  have ltP0_5 : w.heap.size < w5.heap.size := Nat.lt_of_lt_of_le ltP0_4 z5; clear ltP0_4
  go_upto_region 7 with fail
  refine gen_world fun V0 hW => ?_
  have hbV0 : Below w5.heap.size w5 V0 := by rw [hW.out]; (repeat' (first | (with_reducible exact Below.refl _ _) | (with_reducible assumption) | (with_reducible refine below_drewN ?_ _) | (with_reducible refine Below.drew ?_) | (with_reducible refine Below.alloc ?_ ?_ _) | (with_reducible refine Below.setCell ?_ ?_ _) | (with_reducible refine via (by with_reducible assumption) ?_ ?_) | go_size))
  have C0_6 := Lib.hid (show PgAt V0 w5.heap.size s0 f0 t0 (some ⟨X0g, 0, none⟩) n0 n0 by rw [hW.out]; unfold PgAt; simp [go_sem])
  have ltC0_6 : w5.heap.size < V0.heap.size := by rw [hW.out]; simp [go_sem]
  clear hW
  have z6 := (hbV0).size
  have b6 : Below w.heap.size w V0 := b5.trans ((hbV0).mono b5.size)
  have y6 := b6.size
  have P0_6 := Lib.hid (PgAt.below P0_5.out hbV0 ltP0_5); clear P0_5
  have ltP0_6 : w.heap.size < V0.heap.size := Nat.lt_of_lt_of_le ltP0_5 z6; clear ltP0_5
  have X0_6 := Lib.hid (own_call X0_5.out hbV0); clear X0_5
  obtain ⟨C0g0, C0g1, C0g2, C0g3⟩ := C0_6.out; have C0far := far ltC0_6
  go_wp2_with fail
  clear C0g0 C0g1 C0g2 C0g3 C0far
  refine (ValueAtI_c s0 f0 t0 (some ⟨X0g, 0, none⟩) n0 n0 l0 a1 V0 (by omega) H0.out hm0 (rd_own X0_6.out)).mono ?_
  rintro e w7 ⟨rfl, hb7⟩
  have z7 := (hb7).size
  have b7 : Below w.heap.size w w7 := b6.trans ((hb7).mono b6.size)
  have y7 := b7.size
  have P0_7 := Lib.hid (PgAt.below P0_6.out hb7 ltP0_6); clear P0_6
  have ltP0_7 : w.heap.size < w7.heap.size := Nat.lt_of_lt_of_le ltP0_6 z7; clear ltP0_6
  have C0_7 := Lib.hid (PgAt.below C0_6.out hb7 ltC0_6); clear C0_6
  have ltC0_7 : w5.heap.size < w7.heap.size := Nat.lt_of_lt_of_le ltC0_6 z7; clear ltC0_6
  have X0_7 := Lib.hid (own_call X0_6.out hb7); clear X0_6
  go_upto_region 10 with fail
  obtain ⟨W, rfl⟩ : ∃ W' : World, W' = w7 := ⟨_, rfl⟩
  go_cut [43] (fun v wx => v = .bool false ∧ Below W.heap.size W wx)
  case first =>
    obtain ⟨P0g0, P0g1, P0g2, P0g3⟩ := P0_7.out; have P0far := far ltP0_7
    obtain ⟨C0g0, C0g1, C0g2, C0g3⟩ := C0_7.out; have C0far := far ltC0_7
    go_region_held3 (fun w' => (∀ b o, b < W.heap.size → w'.cell? ⟨b, o, none⟩ = W.cell? ⟨b, o, none⟩) ∧ Below W.heap.size W w') (exact old_of (by (repeat' (first | (with_reducible exact Below.refl _ _) | (with_reducible assumption) | (with_reducible refine below_drewN ?_ _) | (with_reducible refine Below.drew ?_) | (with_reducible refine Below.alloc ?_ ?_ _) | (with_reducible refine Below.setCell ?_ ?_ _) | (with_reducible refine via (by with_reducible assumption) ?_ ?_) | go_size)))) (first | (go_at_call 18; refine (toTablePage_c s0 f0 t0 A0 n0 c0 l0 _ H0.out hm0 (by exact ((hr0.below b7).mono b7.size))).mono ?_; rintro e wa ⟨ga, gal, rfl, hoa, hba⟩; have HOA := Lib.hid hoa; clear hoa; have hSa : Below W.heap.size W wa := (by (repeat' (first | (with_reducible exact Below.refl _ _) | (with_reducible assumption) | (with_reducible refine below_drewN ?_ _) | (with_reducible refine Below.drew ?_) | (with_reducible refine Below.alloc ?_ ?_ _) | (with_reducible refine Below.setCell ?_ ?_ _) | (with_reducible refine via (by with_reducible assumption) ?_ ?_) | go_size))); obtain ⟨hca, hfa⟩ := bcell hSa; have hsa := hSa.size; (try simp only [pg])) | (go_at_call 20; refine (eqTablePage_c s0 f0 t0 _ _ n0 _ _ l0 _ H0.out hx0 (by exact (rd_own (own_call X0_7.out hSa))) (by exact (rd_own HOA.out))).mono ?_; rintro e wd ⟨rfl, hbd⟩; have hSd : Below W.heap.size W wd := (by (repeat' (first | (with_reducible exact Below.refl _ _) | (with_reducible assumption) | (with_reducible refine below_drewN ?_ _) | (with_reducible refine Below.drew ?_) | (with_reducible refine Below.alloc ?_ ?_ _) | (with_reducible refine Below.setCell ?_ ?_ _) | (with_reducible refine via (by with_reducible assumption) ?_ ?_) | go_size))); obtain ⟨hcd, hfd⟩ := bcell hSd; have hsd := hSd.size))
    all_goals
      (go_wp2_with fail; refine Met.intro ?_; apply_assumption; (repeat apply Exists.intro); refine ⟨?_, rfl⟩)
      exact ⟨rfl, by (repeat' (first | (with_reducible exact Below.refl _ _) | (with_reducible assumption) | (with_reducible refine below_drewN ?_ _) | (with_reducible refine Below.drew ?_) | (with_reducible refine Below.alloc ?_ ?_ _) | (with_reducible refine Below.setCell ?_ ?_ _) | (with_reducible refine via (by with_reducible assumption) ?_ ?_) | go_size))⟩
  case rest =>
    obtain ⟨w8, rfl⟩ : ∃ w' : World, w' = wc := ⟨_, rfl⟩
    obtain ⟨rfl, hbc⟩ := hcut
    have z8 := (hbc).size
    have b8 : Below w.heap.size w w8 := b7.trans ((hbc).mono b7.size)
    have y8 := b8.size
    have P0_8 := Lib.hid (PgAt.below P0_7.out hbc ltP0_7); clear P0_7
    have ltP0_8 : w.heap.size < w8.heap.size := Nat.lt_of_lt_of_le ltP0_7 z8; clear ltP0_7
    have C0_8 := Lib.hid (PgAt.below C0_7.out hbc ltC0_7); clear C0_7
    have ltC0_8 : w5.heap.size < w8.heap.size := Nat.lt_of_lt_of_le ltC0_7 z8; clear ltC0_7
    have X0_8 := Lib.hid (own_call X0_7.out hbc); clear X0_7
    go_wp2_with fail
    go_ret
    exact ⟨rfl, b8⟩

end Go.Proofs.Ytklpjpablmiaoaa
