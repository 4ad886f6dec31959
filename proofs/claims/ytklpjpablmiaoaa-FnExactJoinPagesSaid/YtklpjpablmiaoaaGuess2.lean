/- Contracts: the reference's guess. -/
import Derived.Test.YtklpjpablmiaoaaGuess1
set_option linter.unusedVariables false
set_option linter.unusedSimpArgs false
namespace Go.Proofs.Ytklpjpablmiaoaa
open Go.RowKit

theorem gv_t {t v : Int} {q : Nat} (h : (q : Int) * v = t) (ht : t.natAbs ≤ 256000000000000) : wrap64 ((q : Int) * v) = t := by rw [h]; exact wrap_in1 t (by omega)
theorem gv_odd {x t y : Int} {J : Nat} (hy : y = 1) (hx : x.natAbs ≤ 256000000000000 * J) (ht : t.natAbs ≤ 256000000000000) (hJ : J ≤ 8) : wrap64 (x + t) = x + y * t := by rw [hy, Int.one_mul]; exact wrap_in1 _ (by omega)
theorem gv_even {x t y : Int} {J : Nat} (hy : y = -1) (hx : x.natAbs ≤ 256000000000000 * J) (ht : t.natAbs ≤ 256000000000000) (hJ : J ≤ 8) : wrap64 (x + -t) = x + y * t := by rw [hy, show (-1 : Int) * t = -t by omega]; exact wrap_in1 _ (by omega)
theorem sgn_odd {j : Nat} (h : j % 2 = 1) : sgn j = 1 := by unfold sgn; rw [if_pos h]
theorem sgn_even {j : Nat} (h : j % 2 = 0) : sgn j = -1 := by unfold sgn; rw [if_neg (by omega)]

set_option maxHeartbeats 2000000 in
theorem l18Guess_c (A : Option Addr) (n c : Nat) (l : List Int) (row order : Nat) (B : Nat) (w : World) (hn : l.length = n) (hm : n ≤ 1048576) (hr : Rd w B 1 icell A l) (hs : smallV l) (ho : 1 ≤ order ∧ order ≤ 8) (hlen : 2 * order + 1 ≤ n) (hrow : row < n) :
    Calls Try.prog 58 #[.slice A n c, .int .i64 row, .int .i64 order] w fun e w' => e = .returned (.tuple #[.int .i64 (gss l row order), .bool true]) ∧ ∃ m, w' = w.drewN m := by
  have HN := Lib.hid hn; clear hn
  have HS := Lib.hid hs; clear hs
  by_cases hw : row < order
  · have q1 : (row : Int) < (order : Int) := by omega
    have q2 : (row : Int) + (order : Int) < (n : Int) ∨ True := .inr trivial
    have q3 : ¬ (n : Int) ≤ (row : Int) + (order : Int) := by omega
    go_enter Try.func58, Try.ntmps58
    go_wp2
    go_loopw [9, 10] (fun s i wr => ∃ (j : Nat) (x : Int), j ≤ order ∧ i = .int .i64 ((j : Int) + 1) ∧ s = .int .i64 x ∧ x = gsum l row order j ∧ ∃ m, wr = w.drewN m) (fun _ i _ => (order + 1) - (intOf i).toNat)
    case atStart => exact ⟨0, 0, Nat.zero_le _, rfl, rfl, rfl, 0, rfl⟩
    case round =>
      obtain ⟨j, x, hj, rfl, rfl, hx, mm, hww⟩ := hrel
      have hrk : Rd wr B 1 icell A l := by rw [hww]; exact hr
      have HW := Lib.hid hww; clear hww
      by_cases hlt : j < order
      · obtain ⟨b, off, rfl, _, hc⟩ := hrk.ints' (by rw [HN.out]; omega)
        obtain ⟨v, ev⟩ := get_ex l (row + (j + 1)) (by rw [HN.out]; omega)
        have g1 := hc _ v ev
        have hv0 : l.getD (nbr row order (j + 1)) 0 = v := by unfold nbr; rw [if_pos hw, List.getD_eq_getElem?_getD, ev]; rfl
        have p1 : (j : Int) + 1 ≤ (order : Int) := by omega
        have p2 : (0 : Int) ≤ (row : Int) + ((j : Int) + 1) := by omega
        have p3 : (row : Int) + ((j : Int) + 1) < (n : Int) := by omega
        clear hc ev
        have hxb := gsum_bd (row := row) HS.out ho.2 j
        rw [← hx] at hxb
        obtain ⟨t, ht⟩ : ∃ t, gtm l row order (j + 1) = t := ⟨_, rfl⟩
        have htb := gtm_bd (row := row) (j := j + 1) HS.out ho.2
        rw [ht] at htb
        obtain ⟨q, hq⟩ : ∃ q, ch order (j + 1) = q := ⟨_, rfl⟩
        have hqv : (q : Int) * v = t := by rw [← ht, gtm, hq, hv0]
        have HCH := Lib.hid (show ∀ W : World, Calls Try.prog 69 #[.int .i64 order, .int .i64 ((j : Int) + 1)] W fun e w' => e = .returned (.int .i64 (q : Int)) ∧ W = w' from fun W => by rw [← hq]; exact l17Choose_s order (j + 1) W ho.2 (Nat.succ_le_of_lt hlt))
        have HSUM := Lib.hid (show gsum l row order (j + 1) = x + sgn (j + 1) * t by rw [gsum, ← hx, ht])
        have HT := Lib.hid (gv_t hqv htb)
        have HV := Lib.hid (show (j + 1) % 2 = 1 → wrap64 (x + t) = gsum l row order (j + 1) from fun h => by rw [HSUM.out]; exact gv_odd (sgn_odd h) hxb htb (Nat.le_trans (Nat.le_of_lt hlt) ho.2))
        have HE := Lib.hid (show (j + 1) % 2 = 0 → wrap64 (x + -t) = gsum l row order (j + 1) from fun h => by rw [HSUM.out]; exact gv_even (sgn_even h) hxb htb (Nat.le_trans (Nat.le_of_lt hlt) ho.2))
        clear hx ht hq hqv hv0 hxb
        have hpar : (j + 1) % 2 = 0 ∨ (j + 1) % 2 = 1 := Nat.mod_two_eq_zero_or_one _
        have r0 : (0 : Int) ≤ (j : Int) + 1 := Int.add_nonneg (Int.natCast_nonneg j) (by decide)
        rcases hpar with hpar | hpar
        · have r1 : ((j : Int) + 1) % 2 = 0 := by have : (((j + 1) % 2 : Nat) : Int) = 0 := by rw [hpar]; rfl
                                                  simpa using this
          have HZ := Lib.hid (HE.out hpar)
          clear HV HE hpar
          go_wp2_with fail
          go_quiet ((go_at_call 69; exact quiet_eq (HCH.out _)))
          rw [HT.out]
          go_wp2_with fail
          (first | (refine ⟨?_, ?_⟩; rotate_left; (first | (simp [intOf]; done) | (simp [intOf]; omega)); (repeat apply Exists.intro); refine ⟨?_, rfl⟩; exact ⟨j + 1, _, by omega, by go_num, rfl, HZ.out, mm + nq, by rw [HW.out, World.drewN_drewN]⟩) | exact ⟨⟨j + 1, _, by omega, by go_num, rfl, HZ.out, mm + nq, by rw [HW.out, World.drewN_drewN]⟩, by first | (simp [intOf]; done) | (simp [intOf]; omega)⟩)
        · have r1 : ((j : Int) + 1) % 2 = 1 := by have : (((j + 1) % 2 : Nat) : Int) = 1 := by rw [hpar]; rfl
                                                  simpa using this
          have HZ := Lib.hid (HV.out hpar)
          clear HV HE hpar
          go_wp2_with fail
          go_quiet ((go_at_call 69; exact quiet_eq (HCH.out _)))
          rw [HT.out]
          go_wp2_with fail
          (first | (refine ⟨?_, ?_⟩; rotate_left; (first | (simp [intOf]; done) | (simp [intOf]; omega)); (repeat apply Exists.intro); refine ⟨?_, rfl⟩; exact ⟨j + 1, _, by omega, by go_num, rfl, HZ.out, mm + nq, by rw [HW.out, World.drewN_drewN]⟩) | exact ⟨⟨j + 1, _, by omega, by go_num, rfl, HZ.out, mm + nq, by rw [HW.out, World.drewN_drewN]⟩, by first | (simp [intOf]; done) | (simp [intOf]; omega)⟩)
      · have hjo : j = order := by omega
        subst hjo
        have HX := Lib.hid hx; clear hx
        go_wp2
        refine bodyPost_ret (v := .tuple #[.int .i64 x, .bool true]) (by simp only [results, Try.results58]; go_simp) rfl ⟨by rw [HX.out]; rfl, mm, HW.out⟩
  · have q1 : ¬ (row : Int) < (order : Int) := by omega
    have q2 : (row : Int) + (order : Int) < (n : Int) ∨ True := .inr trivial
    clear q2
    go_enter Try.func58, Try.ntmps58
    go_wp2
    go_loopw [9, 10] (fun s i wr => ∃ (j : Nat) (x : Int), j ≤ order ∧ i = .int .i64 ((j : Int) + 1) ∧ s = .int .i64 x ∧ x = gsum l row order j ∧ ∃ m, wr = w.drewN m) (fun _ i _ => (order + 1) - (intOf i).toNat)
    case atStart => exact ⟨0, 0, Nat.zero_le _, rfl, rfl, rfl, 0, rfl⟩
    case round =>
      obtain ⟨j, x, hj, rfl, rfl, hx, mm, hww⟩ := hrel
      have hrk : Rd wr B 1 icell A l := by rw [hww]; exact hr
      have HW := Lib.hid hww; clear hww
      by_cases hlt : j < order
      · obtain ⟨b, off, rfl, _, hc⟩ := hrk.ints' (by rw [HN.out]; omega)
        obtain ⟨p, hp, hpn, p1, e1, e2, p2, p3⟩ := nb_facts hw hlt hrow hm ho.2
        have HP := Lib.hid hp; clear hp
        obtain ⟨v, ev⟩ := get_ex l p (by rw [HN.out]; omega)
        have g1 := hc _ v ev
        have hv0 : l.getD (nbr row order (j + 1)) 0 = v := by unfold nbr; rw [if_neg hw, HP.out, List.getD_eq_getElem?_getD, ev]; rfl
        clear hc ev
        have hxb := gsum_bd (row := row) HS.out ho.2 j
        rw [← hx] at hxb
        obtain ⟨t, ht⟩ : ∃ t, gtm l row order (j + 1) = t := ⟨_, rfl⟩
        have htb := gtm_bd (row := row) (j := j + 1) HS.out ho.2
        rw [ht] at htb
        obtain ⟨q, hq⟩ : ∃ q, ch order (j + 1) = q := ⟨_, rfl⟩
        have hqv : (q : Int) * v = t := by rw [← ht, gtm, hq, hv0]
        have HCH := Lib.hid (show ∀ W : World, Calls Try.prog 69 #[.int .i64 order, .int .i64 ((j : Int) + 1)] W fun e w' => e = .returned (.int .i64 (q : Int)) ∧ W = w' from fun W => by rw [← hq]; exact l17Choose_s order (j + 1) W ho.2 (Nat.succ_le_of_lt hlt))
        have HSUM := Lib.hid (show gsum l row order (j + 1) = x + sgn (j + 1) * t by rw [gsum, ← hx, ht])
        have HT := Lib.hid (gv_t hqv htb)
        have HV := Lib.hid (show (j + 1) % 2 = 1 → wrap64 (x + t) = gsum l row order (j + 1) from fun h => by rw [HSUM.out]; exact gv_odd (sgn_odd h) hxb htb (Nat.le_trans (Nat.le_of_lt hlt) ho.2))
        have HE := Lib.hid (show (j + 1) % 2 = 0 → wrap64 (x + -t) = gsum l row order (j + 1) from fun h => by rw [HSUM.out]; exact gv_even (sgn_even h) hxb htb (Nat.le_trans (Nat.le_of_lt hlt) ho.2))
        clear hx ht hq hqv hv0 hxb
        have hpar : (j + 1) % 2 = 0 ∨ (j + 1) % 2 = 1 := Nat.mod_two_eq_zero_or_one _
        have r0 : (0 : Int) ≤ (j : Int) + 1 := Int.add_nonneg (Int.natCast_nonneg j) (by decide)
        rcases hpar with hpar | hpar
        · have r1 : ((j : Int) + 1) % 2 = 0 := by have : (((j + 1) % 2 : Nat) : Int) = 0 := by rw [hpar]; rfl
                                                  simpa using this
          have HZ := Lib.hid (HE.out hpar)
          clear HV HE hpar
          go_wp2_with fail
          go_quiet ((go_at_call 69; exact quiet_eq (HCH.out _)))
          rw [HT.out]
          go_wp2_with fail
          (first | (refine ⟨?_, ?_⟩; rotate_left; (first | (simp [intOf]; done) | (simp [intOf]; omega)); (repeat apply Exists.intro); refine ⟨?_, rfl⟩; exact ⟨j + 1, _, by omega, by go_num, rfl, HZ.out, mm + nq, by rw [HW.out, World.drewN_drewN]⟩) | exact ⟨⟨j + 1, _, by omega, by go_num, rfl, HZ.out, mm + nq, by rw [HW.out, World.drewN_drewN]⟩, by first | (simp [intOf]; done) | (simp [intOf]; omega)⟩)
        · have r1 : ((j : Int) + 1) % 2 = 1 := by have : (((j + 1) % 2 : Nat) : Int) = 1 := by rw [hpar]; rfl
                                                  simpa using this
          have HZ := Lib.hid (HV.out hpar)
          clear HV HE hpar
          go_wp2_with fail
          go_quiet ((go_at_call 69; exact quiet_eq (HCH.out _)))
          rw [HT.out]
          go_wp2_with fail
          (first | (refine ⟨?_, ?_⟩; rotate_left; (first | (simp [intOf]; done) | (simp [intOf]; omega)); (repeat apply Exists.intro); refine ⟨?_, rfl⟩; exact ⟨j + 1, _, by omega, by go_num, rfl, HZ.out, mm + nq, by rw [HW.out, World.drewN_drewN]⟩) | exact ⟨⟨j + 1, _, by omega, by go_num, rfl, HZ.out, mm + nq, by rw [HW.out, World.drewN_drewN]⟩, by first | (simp [intOf]; done) | (simp [intOf]; omega)⟩)
      · have hjo : j = order := by omega
        subst hjo
        have HX := Lib.hid hx; clear hx
        go_wp2
        refine bodyPost_ret (v := .tuple #[.int .i64 x, .bool true]) (by simp only [results, Try.results58]; go_simp) rfl ⟨by rw [HX.out]; rfl, mm, HW.out⟩

def guessR (s : ByteArray) (f t : Int) (l : List Int) (order : Int) : Int :=
  if pageB s f t l then (if inB order 1 8 then (if (l.length : Int) < 2 * order + 1 then 6 else 0) else 2) else 1
theorem guessR_zero {s : ByteArray} {f t : Int} {l : List Int} {order : Int} (h : guessR s f t l order = 0) : pageB s f t l = true ∧ (1 ≤ order ∧ order ≤ 8) ∧ 2 * order + 1 ≤ (l.length : Int) := by
  unfold guessR at h
  split at h
  · rename_i h1
    split at h
    · rename_i h2
      split at h
      · omega
      · exact ⟨h1, inB_iff.1 h2, by omega⟩
    · omega
  · omega
theorem guessR_bd (s : ByteArray) (f t : Int) (l : List Int) (order : Int) : 0 ≤ guessR s f t l order ∧ guessR s f t l order ≤ 6 := by
  unfold guessR
  split
  · split
    · split <;> omega
    · omega
  · omega
theorem page_small {s : ByteArray} {f t : Int} {l : List Int} (h : pageB s f t l = true) : smallV l := small_of (pageB_bd h).2.2.2.2.2

set_option maxHeartbeats 2000000 in
theorem guessCode_c (s : ByteArray) (f t : Int) (A : Option Addr) (n c : Nat) (l : List Int) (order : Int) (w : World) (hs : s.size ≤ 1048576) (hn : l.length = n) (hm : n ≤ 1048576) (hr : Rd w w.heap.size 1 icell A l) :
    Calls Try.prog 59 #[pg s f t A n c, .int .i64 order] w fun e w' => e = .returned (.int .i64 (guessR s f t l order)) ∧ Below w.heap.size w w' := by
  have HN := Lib.hid hn; clear hn
  have HL : Hid (((l.length : Nat) : Int) = (n : Int)) := Lib.hid (by rw [HN.out])
  unfold pg
  go_enter Try.func59, Try.ntmps59
  go_wp2_with fail
  refine gen_calls fun W hW => ?_
  have hbW : Below w.heap.size w W := by rw [hW.out]; (repeat' (first | (with_reducible exact Below.refl _ _) | (with_reducible assumption) | (with_reducible refine below_drewN ?_ _) | (with_reducible refine Below.drew ?_) | (with_reducible refine Below.alloc ?_ ?_ _) | (with_reducible refine Below.setCell ?_ ?_ _) | (with_reducible refine via (by with_reducible assumption) ?_ ?_) | go_size))
  have hp : PgAt W w.heap.size s f t A n c := by rw [hW.out]; unfold PgAt; simp [go_sem]
  have hlt : w.heap.size < W.heap.size := by rw [hW.out]; simp [go_sem]
  clear hW
  refine (ValidPageI_c s f t A n c l W hs HN.out hm ((hr.below hbW).mono hbW.size)).mono ?_
  rintro e W1 ⟨rfl, hb1⟩
  have hp1 := hp.below hb1 hlt
  have hlt1 : w.heap.size < W1.heap.size := Nat.lt_of_lt_of_le hlt hb1.size
  have hbW1 : Below w.heap.size w W1 := hbW.trans (hb1.mono hbW.size)
  clear hp hb1 hbW hlt
  obtain ⟨g0, g1, g2, g3⟩ := hp1
  have hfar := far hlt1
  cases hv : pageB s f t l
  · have HR := Lib.hid (show guessR s f t l order = 1 by unfold guessR; rw [hv]; rfl)
    go_wp2_with (go_at_call 40; refine (between_c _ _ _ _).mono ?_; rintro e w' ⟨rfl, rfl⟩)
    go_ret
    exact ⟨ret_int HR.out.symm, hbW1⟩
  cases ho : inB order 1 8
  · have HR := Lib.hid (show guessR s f t l order = 2 by unfold guessR; rw [hv, ho]; rfl)
    go_wp2_with (go_at_call 40; refine (between_c _ _ _ _).mono ?_; rintro e w' ⟨rfl, rfl⟩)
    go_ret
    exact ⟨ret_int HR.out.symm, hbW1⟩
  have hob := inB_iff.1 ho
  by_cases hsh : (n : Int) < 2 * order + 1
  · have HR := Lib.hid (show guessR s f t l order = 6 by unfold guessR; rw [hv, ho, HL.out, if_pos rfl, if_pos rfl, if_pos hsh])
    go_wp2_with (go_at_call 40; refine (between_c _ _ _ _).mono ?_; rintro e w' ⟨rfl, rfl⟩)
    go_ret
    exact ⟨ret_int HR.out.symm, hbW1⟩
  · have HR := Lib.hid (show guessR s f t l order = 0 by unfold guessR; rw [hv, ho, HL.out, if_pos rfl, if_pos rfl, if_neg hsh])
    go_wp2_with (go_at_call 40; refine (between_c _ _ _ _).mono ?_; rintro e w' ⟨rfl, rfl⟩)
    go_ret
    exact ⟨ret_int HR.out.symm, hbW1⟩

set_option maxHeartbeats 2000000 in
theorem l18Code_c (b : Nat) (s : ByteArray) (f t : Int) (A : Option Addr) (n c : Nat) (l : List Int) (order : Int) (B : Nat) (w : World) (hs : s.size ≤ maxLen) (hn : l.length = n) (hm : n ≤ 1048576) (hr : Rd w B 1 icell A l) (hp : PgAt w b s f t A n c) :
    Calls Try.prog 57 #[.pointer (some ⟨b, 0, none⟩), .int .i64 order] w fun e w' => e = .returned (.int .i64 (guessR s f t l order)) ∧ ∃ m, w' = w.drewN m := by
  have HN := Lib.hid hn; clear hn
  have HL : Hid (((l.length : Nat) : Int) = (n : Int)) := Lib.hid (by rw [HN.out])
  have HP := Lib.hid hp; clear hp
  go_enter Try.func57, Try.ntmps57
  go_wp2_with fail
  refine (l18Ok_c b s f t A n c l B w hs HN.out hm hr HP.out).mono ?_
  rintro e W1 ⟨rfl, m, rfl⟩
  obtain ⟨g0, g1, g2, g3⟩ := HP.out
  cases hv : pageB s f t l
  · have HR := Lib.hid (show guessR s f t l order = 1 by unfold guessR; rw [hv]; rfl)
    go_wp2_with (go_at_call 39; refine (l00In_c _ _ _ _).mono ?_; rintro e w' ⟨rfl, rfl⟩)
    go_ret
    exact ⟨ret_int HR.out.symm, m, rfl⟩
  cases ho : inB order 1 8
  · have HR := Lib.hid (show guessR s f t l order = 2 by unfold guessR; rw [hv, ho]; rfl)
    go_wp2_with (go_at_call 39; refine (l00In_c _ _ _ _).mono ?_; rintro e w' ⟨rfl, rfl⟩)
    go_ret
    exact ⟨ret_int HR.out.symm, m, rfl⟩
  have hob := inB_iff.1 ho
  by_cases hsh : (n : Int) < 2 * order + 1
  · have HR := Lib.hid (show guessR s f t l order = 6 by unfold guessR; rw [hv, ho, HL.out, if_pos rfl, if_pos rfl, if_pos hsh])
    go_wp2_with (go_at_call 39; refine (l00In_c _ _ _ _).mono ?_; rintro e w' ⟨rfl, rfl⟩)
    go_ret
    exact ⟨ret_int HR.out.symm, m, rfl⟩
  · have HR := Lib.hid (show guessR s f t l order = 0 by unfold guessR; rw [hv, ho, HL.out, if_pos rfl, if_pos rfl, if_neg hsh])
    go_wp2_with (go_at_call 39; refine (l00In_c _ _ _ _).mono ?_; rintro e w' ⟨rfl, rfl⟩)
    go_ret
    exact ⟨ret_int HR.out.symm, m, rfl⟩
end Go.Proofs.Ytklpjpablmiaoaa
