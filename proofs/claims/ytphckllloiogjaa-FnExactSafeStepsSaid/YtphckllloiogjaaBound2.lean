/- Contracts: tables of bounds; the most steps that are safe; both sides. -/
import Derived.Test.YtphckllloiogjaaBound1
import Derived.Test.YtphckllloiogjaaLawInts
set_option linter.unusedVariables false
set_option linter.unusedSimpArgs false
namespace Go.Proofs.Ytphckllloiogjaa
open Go.RowKit

theorem ret_pair {a b c d : Int} (h : (a, b) = (c, d)) : Ending.returned (.tuple #[.int .i64 a, .int .i64 b]) = .returned (.tuple #[.int .i64 c, .int .i64 d]) := by
  injection h with h1 h2; rw [h1, h2]
theorem safe_lo {l : List Int} {lim : Int} {m : Nat} : safeP l lim (m : Int) = decide (sumB l m ≤ lim) := by unfold safeP; rw [Int.toNat_natCast]
theorem sumBound_b (A : Option Addr) (n c : Nat) (l : List Int) (st : Nat) (B : Nat) (w : World) (hn : l.length = n) (hst : st ≤ 100000) (hr : Rd w B 1 icell A l) (hs : slipsB l = true) :
    Calls Try.prog 62 #[.slice A n c, .int .i64 st] w fun e w' => e = .returned (.int .i64 (sumB l st)) ∧ Below w.heap.size w w' := (sumBound_c A n c l st B w hn hst hr hs).mono fun _ _ ⟨a, b⟩ => ⟨a, by subst b; exact Below.refl _ _⟩
theorem l17Sum_b (A : Option Addr) (n c : Nat) (l : List Int) (st : Nat) (B : Nat) (w : World) (hn : l.length = n) (hst : st ≤ 100000) (hr : Rd w B 1 icell A l) (hs : slipsB l = true) :
    Calls Try.prog 59 #[.slice A n c, .int .i64 st] w fun e w' => e = .returned (.int .i64 (sumB l st)) ∧ Below w.heap.size w w' := (l17Sum_c A n c l st B w hn hst hr hs).mono fun _ _ ⟨a, m, b⟩ => ⟨a, by subst b; exact below_drewN (Below.refl _ _) m⟩

set_option maxHeartbeats 2000000 in
theorem BoundTableI_c (A : Option Addr) (n c : Nat) (l : List Int) (count : Int) (w : World) (hn : l.length = n) (hm : n ≤ 1048576) (_ : A = none → n = 0) (hr : Rd w w.heap.size 1 icell A l) :
    Calls Try.prog 28 #[.slice A n c, .int .i64 count] w fun e w' => ∃ v, e = .returned (.tuple #[v, .int .i64 (boundR l count).2]) ∧ w'.ownsRow w.heap.size 2 1 v (boundR l count).1.length ((boundR l count).1.map (Value.int .i64)) ∧ Below w.heap.size w w' := by
  obtain ⟨i0, hi0, hz0, hz1, hz2⟩ := info_parts info_i64
  have HN := Lib.hid hn; clear hn
  cases hsl : slipsB l
  · have HB := Lib.hid (show boundR l count = ([], 2) by unfold boundR; rw [hsl]; rfl)
    go_enter Try.func28, Try.ntmps28
    go_wp2_with (go_at_call 60; refine (areSlips_c _ n c l w.heap.size _ HN.out hm hr).mono ?_; rintro e w' ⟨rfl, rfl⟩)
    refine bodyPost_ret (v := .tuple #[.slice none 0 0, .int .i64 2]) (by simp only [results, Try.results28]; go_simp) rfl ⟨.slice none 0 0, by rw [HB.out], by rw [HB.out]; exact World.ownsRow_nil _ _ _ _, Below.refl _ _⟩
  cases hin : inB count 0 200
  · have HB := Lib.hid (show boundR l count = ([], 2) by unfold boundR; rw [hin, Bool.and_false]; rfl)
    go_enter Try.func28, Try.ntmps28
    go_wp2_with (first | (go_at_call 60; refine (areSlips_c _ n c l w.heap.size _ HN.out hm hr).mono ?_; rintro e w' ⟨rfl, rfl⟩) | (go_at_call 61; refine (between_c _ _ _ _).mono ?_; rintro e w' ⟨rfl, rfl⟩))
    refine bodyPost_ret (v := .tuple #[.slice none 0 0, .int .i64 2]) (by simp only [results, Try.results28]; go_simp) rfl ⟨.slice none 0 0, by rw [HB.out], by rw [HB.out]; exact World.ownsRow_nil _ _ _ _, Below.refl _ _⟩
  obtain ⟨q, rfl⟩ : ∃ q : Nat, count = (q : Int) := ⟨count.toNat, by have := inB_iff.1 hin; omega⟩
  have hq : q ≤ 200 := by have := inB_iff.1 hin; omega
  have HB := Lib.hid (show boundR l (q : Int) = if boundOk l q then (boundL l q, 0) else ([], 5) by unfold boundR; rw [hsl, hin, Int.toNat_natCast]; rfl)
  have HSL := Lib.hid hsl
  go_enter Try.func28, Try.ntmps28
  go_wp2_with (first | (go_at_call 60; refine (areSlips_c _ n c l w.heap.size _ HN.out hm hr).mono ?_; rintro e w' ⟨rfl, rfl⟩) | (go_at_call 61; refine (between_c _ _ _ _).mono ?_; rintro e w' ⟨rfl, rfl⟩))
  clear hsl hin
  go_loopw [6, 19] (fun o i wr => ∃ k : Nat, k ≤ q ∧ i = .int .i64 k ∧ boundOk l k = true ∧ Below w.heap.size w wr ∧ wr.ownsRow w.heap.size 2 1 o k ((boundL l k).map (Value.int .i64))) (fun _ i _ => q - (intOf i).toNat)
  case atStart => exact ⟨0, Nat.zero_le _, rfl, rfl, by (repeat' (first | (with_reducible exact Below.refl _ _) | (with_reducible assumption) | (with_reducible refine below_drewN ?_ _) | (with_reducible refine Below.drew ?_) | (with_reducible refine Below.alloc ?_ ?_ _) | (with_reducible refine Below.setCell ?_ ?_ _) | (with_reducible refine via (by with_reducible assumption) ?_ ?_) | go_size)), by simpa [boundL] using World.ownsRow_made w #[] 0 (Nat.le_refl _) (by simp [maxLen]) (by simp)⟩
  case round =>
    obtain ⟨k, hk, rfl, hok, hb, hx⟩ := hrel
    have HX := Lib.hid hx; clear hx
    have HOK := Lib.hid hok; clear hok
    have hbs := hb.size
    by_cases hlt : k < q
    · obtain ⟨s, hs⟩ : ∃ s, sumB l k = s := ⟨_, rfl⟩
      have hsb := sumB_bd l k
      rw [hs] at hsb
      have HS := Lib.hid hs; clear hs
      have HC := Lib.hid (show Calls Try.prog 62 #[.slice A n c, .int .i64 k] wr fun e w' => e = .returned (.int .i64 s) ∧ Below wr.heap.size wr w' by rw [← HS.out]; exact sumBound_b A n c l k w.heap.size wr HN.out (by omega) (hr.below hb) HSL.out)
      by_cases hbig : 1000000000000 < s
      · have HR := Lib.hid (show boundR l (q : Int) = ([], 5) by rw [HB.out, boundOk_no hlt (by rw [HS.out]; exact hbig)]; rfl)
        go_wp2_with fail
        refine HC.out.mono ?_
        rintro e w1 ⟨rfl, hb1⟩
        go_wp2_with fail
        refine bodyPost_ret (v := .tuple #[.slice none 0 0, .int .i64 5]) (by simp only [results, Try.results28]; go_simp) rfl ⟨.slice none 0 0, by rw [HR.out], by rw [HR.out]; exact World.ownsRow_nil _ _ _ _, ?_⟩
        (repeat' (first | (with_reducible exact Below.refl _ _) | (with_reducible assumption) | (with_reducible refine below_drewN ?_ _) | (with_reducible refine Below.drew ?_) | (with_reducible refine Below.alloc ?_ ?_ _) | (with_reducible refine Below.setCell ?_ ?_ _) | (with_reducible refine via (by with_reducible assumption) ?_ ?_) | go_size))
      · have HK := Lib.hid (show boundOk l (k + 1) = true by rw [boundOk_succ, HOK.out, HS.out]; simp; omega)
        go_wp2_with fail
        refine HC.out.mono ?_
        rintro e w1 ⟨rfl, hb1⟩
        have HX1 := Lib.hid (own_call HX.out hb1)
        have hb1s := hb1.size
        go_wp2_with (at_builtin; refine app_list (W := w) (z := .int .i64 0) (.tmp 27) (.tmp 29) rfl rfl Try.underlying32 hi0 hz0 hz1 hz2 rfl (by decide) (by decide) rfl (HX1.out.alloc _) rfl rfl (news1 (z := .int .i64 s) (by simp [go_sem])) (by simp [Value.oneCell']) (by omega) (by (repeat' (first | (with_reducible exact Below.refl _ _) | (with_reducible assumption) | (with_reducible refine below_drewN ?_ _) | (with_reducible refine Below.drew ?_) | (with_reducible refine Below.alloc ?_ ?_ _) | (with_reducible refine Below.setCell ?_ ?_ _) | (with_reducible refine via (by with_reducible assumption) ?_ ?_) | go_size))) (Nat.le_refl _) ?_; intro v1 w2 hown1 hg1 hblk1 hb2)
        have HO := Lib.hid hown1; clear hown1
        have HO2 := Lib.hid (show w2.ownsRow w.heap.size 2 1 v1 (k + 1) ((boundL l (k + 1)).map (Value.int .i64)) by rw [boundL, HS.out]; simpa using HO.out)
        (first | (refine ⟨?_, ?_⟩; rotate_left; (first | (simp [intOf]; done) | (simp [intOf]; omega)); (repeat apply Exists.intro); refine ⟨?_, rfl⟩; exact ⟨k + 1, by omega, by go_num, HK.out, hb2, HO2.out⟩) | exact ⟨⟨k + 1, by omega, by go_num, HK.out, hb2, HO2.out⟩, by first | (simp [intOf]; done) | (simp [intOf]; omega)⟩)
    · have hkn : k = q := by omega
      subst hkn
      have HR := Lib.hid (show boundR l (k : Int) = (boundL l k, 0) by rw [HB.out, HOK.out]; rfl)
      obtain ⟨v1, rfl⟩ : ∃ v : Value, v = u6 := ⟨_, rfl⟩
      go_wp2_with fail
      refine bodyPost_ret (v := .tuple #[v1, .int .i64 0]) (by simp only [results, Try.results28]; go_simp) rfl ⟨v1, by rw [HR.out], by rw [HR.out]; simp only; rw [boundL_len]; exact HX.out, hb⟩

set_option maxHeartbeats 2000000 in
theorem SafeStepsI_c (A : Option Addr) (n c : Nat) (l : List Int) (lim : Int) (w : World) (hn : l.length = n) (hm : n ≤ 1048576) (hr : Rd w w.heap.size 1 icell A l) :
    Calls Try.prog 26 #[.slice A n c, .int .i64 lim] w fun e w' => e = .returned (.tuple #[.int .i64 (safeR l lim).1, .int .i64 (safeR l lim).2]) ∧ Below w.heap.size w w' := by
  have HN := Lib.hid hn; clear hn
  cases hsl : slipsB l
  · have HB := Lib.hid (show safeR l lim = (0, 2) by unfold safeR; rw [hsl]; rfl)
    go_enter Try.func26, Try.ntmps26
    go_wp2_with (go_at_call 60; refine (areSlips_c _ n c l w.heap.size _ HN.out hm hr).mono ?_; rintro e w' ⟨rfl, rfl⟩)
    go_ret2
    exact ⟨ret_pair HB.out.symm, Below.refl _ _⟩
  cases hin : inB lim 0 1000000000000
  · have HB := Lib.hid (show safeR l lim = (0, 2) by unfold safeR; rw [hin, Bool.and_false]; rfl)
    go_enter Try.func26, Try.ntmps26
    go_wp2_with (first | (go_at_call 60; refine (areSlips_c _ n c l w.heap.size _ HN.out hm hr).mono ?_; rintro e w' ⟨rfl, rfl⟩) | (go_at_call 61; refine (between_c _ _ _ _).mono ?_; rintro e w' ⟨rfl, rfl⟩))
    go_ret2
    exact ⟨ret_pair HB.out.symm, Below.refl _ _⟩
  have hl2 := inB_iff.1 hin
  have HB := Lib.hid (show safeR l lim = if lim < sumB l 0 then (0, 3) else (bsr (safeP l lim) 100001 0 100000, 0) by unfold safeR; rw [hsl, hin]; rfl)
  have HSL := Lib.hid hsl
  obtain ⟨s0, hs0⟩ : ∃ s, sumB l 0 = s := ⟨_, rfl⟩
  rw [hs0] at HB
  have hsb0 := sumB_bd l 0
  rw [hs0] at hsb0
  have HC0 := Lib.hid (show ∀ W, Below w.heap.size w W → Calls Try.prog 62 #[.slice A n c, .int .i64 0] W fun e w' => e = .returned (.int .i64 s0) ∧ Below W.heap.size W w' from fun W hW => by rw [← hs0]; exact sumBound_b A n c l 0 w.heap.size W HN.out (by omega) (hr.below hW) HSL.out)
  have HSZ := Lib.hid hs0; clear hs0
  by_cases hs0l : lim < s0
  · have HR := Lib.hid (show safeR l lim = (0, 3) by rw [HB.out, if_pos hs0l])
    go_enter Try.func26, Try.ntmps26
    go_wp2_with (first | (go_at_call 60; refine (areSlips_c _ n c l w.heap.size _ HN.out hm hr).mono ?_; rintro e w' ⟨rfl, rfl⟩) | (go_at_call 61; refine (between_c _ _ _ _).mono ?_; rintro e w' ⟨rfl, rfl⟩))
    refine (HC0.out _ (Below.refl _ _)).mono ?_
    rintro e w1 ⟨rfl, hb1⟩
    go_wp2_with fail
    go_ret2
    exact ⟨ret_pair HR.out.symm, hb1⟩
  obtain ⟨P, hP⟩ : ∃ P : Int → Bool, P = safeP l lim := ⟨_, rfl⟩
  have HP := Lib.hid (show ∀ m : Nat, decide (sumB l m ≤ lim) = P (m : Int) by rw [hP]; intro m; exact safe_lo.symm)
  have HR := Lib.hid (show safeR l lim = (bsr P 100001 0 100000, 0) by rw [HB.out, if_neg hs0l, hP])
  clear hP
  obtain ⟨R, hRR⟩ : ∃ R, bsr P 100001 0 100000 = R := ⟨_, rfl⟩
  rw [hRR] at HR
  have HRR := Lib.hid hRR; clear hRR
  go_enter Try.func26, Try.ntmps26
  go_wp2_with (first | (go_at_call 60; refine (areSlips_c _ n c l w.heap.size _ HN.out hm hr).mono ?_; rintro e w' ⟨rfl, rfl⟩) | (go_at_call 61; refine (between_c _ _ _ _).mono ?_; rintro e w' ⟨rfl, rfl⟩))
  refine (HC0.out _ (Below.refl _ _)).mono ?_
  rintro e w1 ⟨rfl, hb1⟩
  have hb1s := hb1.size
  clear hsl hin
  go_wp2_with fail
  go_loopw [6, 7] (fun x y wr => ∃ (lo hi : Int) (f : Nat), 0 ≤ lo ∧ lo ≤ hi ∧ hi ≤ 100000 ∧ hi - lo < (f : Int) ∧ x = .int .i64 lo ∧ y = .int .i64 hi ∧ bsr P f lo hi = R ∧ Below w.heap.size w wr) (fun x y _ => (intOf y - intOf x).toNat)
  case atStart => exact ⟨0, 100000, 100001, by omega, by omega, by omega, by omega, rfl, rfl, HRR.out, hb1⟩
  case round =>
    clear hb1 hb1s
    obtain ⟨lo, hi, f, l0, l1, l2, l3, rfl, rfl, ha, hb⟩ := hrel
    have HA := Lib.hid ha; clear ha
    have hbs := hb.size
    by_cases hlt : lo < hi
    · obtain ⟨g, rfl⟩ : ∃ g, f = g + 1 := ⟨f - 1, by omega⟩
      obtain ⟨mid, hmid⟩ : ∃ mid : Nat, (lo + hi + 1) / 2 = (mid : Int) := ⟨((lo + hi + 1) / 2).toNat, by omega⟩
      have hmd : lo < mid ∧ (mid : Int) ≤ hi := by omega
      obtain ⟨hmd1, hmd2⟩ := hmd
      have HM := Lib.hid (show (lo + hi + 1) / 2 = mid from hmid)
      have HY := Lib.hid (show P mid = true → bsr P g mid hi = R from fun h => by rw [← HA.out, bsr_yes hlt (by rw [hmid]; exact h), hmid])
      have HNo := Lib.hid (show P mid = false → bsr P g lo ((mid : Int) - 1) = R from fun h => by rw [← HA.out, bsr_no hlt (by rw [hmid]; exact h), hmid])
      clear hmid
      obtain ⟨s, hs⟩ : ∃ s, sumB l mid = s := ⟨_, rfl⟩
      have hsb := sumB_bd l mid
      rw [hs] at hsb
      have HC := Lib.hid (show Calls Try.prog 62 #[.slice A n c, .int .i64 mid] wr fun e w' => e = .returned (.int .i64 s) ∧ Below wr.heap.size wr w' by rw [← hs]; exact sumBound_b A n c l mid w.heap.size wr HN.out (by omega) (hr.below hb) HSL.out)
      have HPM := Lib.hid (show decide (s ≤ lim) = P mid by rw [← hs]; exact HP.out mid)
      clear hs
      have q2 : lo < hi := hlt
      go_upto_region 8 with fail
      rw [HM.out]
      go_wp2_with fail
      refine HC.out.mono ?_
      rintro e w3 ⟨rfl, hb3⟩
      by_cases hle : s ≤ lim
      · have HS := Lib.hid (HY.out (by rw [← HPM.out]; simpa using hle))
        go_wp2_with fail
        (first | (refine ⟨?_, ?_⟩; rotate_left; (first | (simp [intOf]; done) | (simp [intOf]; omega)); (repeat apply Exists.intro); refine ⟨?_, rfl⟩; exact ⟨mid, hi, g, by omega, by omega, by omega, by omega, rfl, rfl, HS.out, by (repeat' (first | (with_reducible exact Below.refl _ _) | (with_reducible assumption) | (with_reducible refine below_drewN ?_ _) | (with_reducible refine Below.drew ?_) | (with_reducible refine Below.alloc ?_ ?_ _) | (with_reducible refine Below.setCell ?_ ?_ _) | (with_reducible refine via (by with_reducible assumption) ?_ ?_) | go_size))⟩) | exact ⟨⟨mid, hi, g, by omega, by omega, by omega, by omega, rfl, rfl, HS.out, by (repeat' (first | (with_reducible exact Below.refl _ _) | (with_reducible assumption) | (with_reducible refine below_drewN ?_ _) | (with_reducible refine Below.drew ?_) | (with_reducible refine Below.alloc ?_ ?_ _) | (with_reducible refine Below.setCell ?_ ?_ _) | (with_reducible refine via (by with_reducible assumption) ?_ ?_) | go_size))⟩, by first | (simp [intOf]; done) | (simp [intOf]; omega)⟩)
      · have HS := Lib.hid (HNo.out (by rw [← HPM.out]; simpa using hle))
        go_wp2_with fail
        (first | (refine ⟨?_, ?_⟩; rotate_left; (first | (simp [intOf]; done) | (simp [intOf]; omega)); (repeat apply Exists.intro); refine ⟨?_, rfl⟩; exact ⟨lo, (mid : Int) - 1, g, by omega, by omega, by omega, by omega, rfl, ret_val (by omega), HS.out, by (repeat' (first | (with_reducible exact Below.refl _ _) | (with_reducible assumption) | (with_reducible refine below_drewN ?_ _) | (with_reducible refine Below.drew ?_) | (with_reducible refine Below.alloc ?_ ?_ _) | (with_reducible refine Below.setCell ?_ ?_ _) | (with_reducible refine via (by with_reducible assumption) ?_ ?_) | go_size))⟩) | exact ⟨⟨lo, (mid : Int) - 1, g, by omega, by omega, by omega, by omega, rfl, ret_val (by omega), HS.out, by (repeat' (first | (with_reducible exact Below.refl _ _) | (with_reducible assumption) | (with_reducible refine below_drewN ?_ _) | (with_reducible refine Below.drew ?_) | (with_reducible refine Below.alloc ?_ ?_ _) | (with_reducible refine Below.setCell ?_ ?_ _) | (with_reducible refine via (by with_reducible assumption) ?_ ?_) | go_size))⟩, by first | (simp [intOf]; done) | (simp [intOf]; omega)⟩)
    · have HF := Lib.hid (show lo = R by rw [← HA.out, bsr_end hlt])
      go_wp2_with fail
      go_ret2
      exact ⟨ret_pair (by rw [HR.out, HF.out]), by (repeat' (first | (with_reducible exact Below.refl _ _) | (with_reducible assumption) | (with_reducible refine below_drewN ?_ _) | (with_reducible refine Below.drew ?_) | (with_reducible refine Below.alloc ?_ ?_ _) | (with_reducible refine Below.setCell ?_ ?_ _) | (with_reducible refine via (by with_reducible assumption) ?_ ?_) | go_size))⟩

set_option maxHeartbeats 2000000 in
theorem BoundTableS_c (A : Option Addr) (n c : Nat) (l : List Int) (count : Int) (w : World) (hn : l.length = n) (hm : n ≤ 1048576) (_ : A = none → n = 0) (hr : Rd w w.heap.size 1 icell A l) :
    Calls Try.prog 27 #[.slice A n c, .int .i64 count] w fun e w' => ∃ v, e = .returned (.tuple #[v, .int .i64 (boundR l count).2]) ∧ w'.ownsRow w.heap.size 2 1 v (boundR l count).1.length ((boundR l count).1.map (Value.int .i64)) ∧ Below w.heap.size w w' := by
  obtain ⟨i0, hi0, hz0, hz1, hz2⟩ := info_parts info_i64
  have HN := Lib.hid hn; clear hn
  cases hsl : slipsB l
  · have HB := Lib.hid (show boundR l count = ([], 2) by unfold boundR; rw [hsl]; rfl)
    go_enter Try.func27, Try.ntmps27
    go_wp2_with (go_at_call 57; refine (l17Slips_c _ n c l w.heap.size _ HN.out hm hr).mono ?_; rintro e w' ⟨rfl, rfl⟩)
    refine bodyPost_ret (v := .tuple #[.slice none 0 0, .int .i64 2]) (by simp only [results, Try.results27]; go_simp) rfl ⟨.slice none 0 0, by rw [HB.out], by rw [HB.out]; exact World.ownsRow_nil _ _ _ _, Below.refl _ _⟩
  cases hin : inB count 0 200
  · have HB := Lib.hid (show boundR l count = ([], 2) by unfold boundR; rw [hin, Bool.and_false]; rfl)
    go_enter Try.func27, Try.ntmps27
    go_wp2_with (first | (go_at_call 57; refine (l17Slips_c _ n c l w.heap.size _ HN.out hm hr).mono ?_; rintro e w' ⟨rfl, rfl⟩) | (go_at_call 58; refine (l00In_c _ _ _ _).mono ?_; rintro e w' ⟨rfl, rfl⟩))
    refine bodyPost_ret (v := .tuple #[.slice none 0 0, .int .i64 2]) (by simp only [results, Try.results27]; go_simp) rfl ⟨.slice none 0 0, by rw [HB.out], by rw [HB.out]; exact World.ownsRow_nil _ _ _ _, Below.refl _ _⟩
  obtain ⟨q, rfl⟩ : ∃ q : Nat, count = (q : Int) := ⟨count.toNat, by have := inB_iff.1 hin; omega⟩
  have hq : q ≤ 200 := by have := inB_iff.1 hin; omega
  have HB := Lib.hid (show boundR l (q : Int) = if boundOk l q then (boundL l q, 0) else ([], 5) by unfold boundR; rw [hsl, hin, Int.toNat_natCast]; rfl)
  have HSL := Lib.hid hsl
  go_enter Try.func27, Try.ntmps27
  go_wp2_with (first | (go_at_call 57; refine (l17Slips_c _ n c l w.heap.size _ HN.out hm hr).mono ?_; rintro e w' ⟨rfl, rfl⟩) | (go_at_call 58; refine (l00In_c _ _ _ _).mono ?_; rintro e w' ⟨rfl, rfl⟩))
  clear hsl hin
  go_loopw [6, 7] (fun o i wr => ∃ k : Nat, k ≤ q ∧ i = .int .i64 k ∧ boundOk l k = true ∧ Below w.heap.size w wr ∧ wr.ownsRow w.heap.size 2 1 o k ((boundL l k).map (Value.int .i64))) (fun _ i _ => q - (intOf i).toNat)
  case atStart => exact ⟨0, Nat.zero_le _, rfl, rfl, by (repeat' (first | (with_reducible exact Below.refl _ _) | (with_reducible assumption) | (with_reducible refine below_drewN ?_ _) | (with_reducible refine Below.drew ?_) | (with_reducible refine Below.alloc ?_ ?_ _) | (with_reducible refine Below.setCell ?_ ?_ _) | (with_reducible refine via (by with_reducible assumption) ?_ ?_) | go_size)), by simpa [boundL] using World.ownsRow_made w #[] 0 (Nat.le_refl _) (by simp [maxLen]) (by simp)⟩
  case round =>
    obtain ⟨k, hk, rfl, hok, hb, hx⟩ := hrel
    have HX := Lib.hid hx; clear hx
    have HOK := Lib.hid hok; clear hok
    have hbs := hb.size
    by_cases hlt : k < q
    · obtain ⟨s, hs⟩ : ∃ s, sumB l k = s := ⟨_, rfl⟩
      have hsb := sumB_bd l k
      rw [hs] at hsb
      have HS := Lib.hid hs; clear hs
      have HC := Lib.hid (show Calls Try.prog 59 #[.slice A n c, .int .i64 k] wr fun e w' => e = .returned (.int .i64 s) ∧ Below wr.heap.size wr w' by rw [← HS.out]; exact l17Sum_b A n c l k w.heap.size wr HN.out (by omega) (hr.below hb) HSL.out)
      by_cases hbig : 1000000000000 < s
      · have HR := Lib.hid (show boundR l (q : Int) = ([], 5) by rw [HB.out, boundOk_no hlt (by rw [HS.out]; exact hbig)]; rfl)
        go_wp2_with fail
        refine HC.out.mono ?_
        rintro e w1 ⟨rfl, hb1⟩
        go_wp2_with fail
        refine bodyPost_ret (v := .tuple #[.slice none 0 0, .int .i64 5]) (by simp only [results, Try.results27]; go_simp) rfl ⟨.slice none 0 0, by rw [HR.out], by rw [HR.out]; exact World.ownsRow_nil _ _ _ _, ?_⟩
        (repeat' (first | (with_reducible exact Below.refl _ _) | (with_reducible assumption) | (with_reducible refine below_drewN ?_ _) | (with_reducible refine Below.drew ?_) | (with_reducible refine Below.alloc ?_ ?_ _) | (with_reducible refine Below.setCell ?_ ?_ _) | (with_reducible refine via (by with_reducible assumption) ?_ ?_) | go_size))
      · have HK := Lib.hid (show boundOk l (k + 1) = true by rw [boundOk_succ, HOK.out, HS.out]; simp; omega)
        go_wp2_with fail
        refine HC.out.mono ?_
        rintro e w1 ⟨rfl, hb1⟩
        have HX1 := Lib.hid (own_call HX.out hb1)
        have hb1s := hb1.size
        go_wp2_with (at_builtin; refine app_list (W := w) (z := .int .i64 0) (.tmp 28) (.tmp 30) rfl rfl Try.underlying32 hi0 hz0 hz1 hz2 rfl (by decide) (by decide) rfl (HX1.out.alloc _) rfl rfl (news1 (z := .int .i64 s) (by simp [go_sem])) (by simp [Value.oneCell']) (by omega) (by (repeat' (first | (with_reducible exact Below.refl _ _) | (with_reducible assumption) | (with_reducible refine below_drewN ?_ _) | (with_reducible refine Below.drew ?_) | (with_reducible refine Below.alloc ?_ ?_ _) | (with_reducible refine Below.setCell ?_ ?_ _) | (with_reducible refine via (by with_reducible assumption) ?_ ?_) | go_size))) (Nat.le_refl _) ?_; intro v1 w2 hown1 hg1 hblk1 hb2)
        have HO := Lib.hid hown1; clear hown1
        have HO2 := Lib.hid (show w2.ownsRow w.heap.size 2 1 v1 (k + 1) ((boundL l (k + 1)).map (Value.int .i64)) by rw [boundL, HS.out]; simpa using HO.out)
        (first | (refine ⟨?_, ?_⟩; rotate_left; (first | (simp [intOf]; done) | (simp [intOf]; omega)); (repeat apply Exists.intro); refine ⟨?_, rfl⟩; exact ⟨k + 1, by omega, by go_num, HK.out, hb2, HO2.out⟩) | exact ⟨⟨k + 1, by omega, by go_num, HK.out, hb2, HO2.out⟩, by first | (simp [intOf]; done) | (simp [intOf]; omega)⟩)
    · have hkn : k = q := by omega
      subst hkn
      have HR := Lib.hid (show boundR l (k : Int) = (boundL l k, 0) by rw [HB.out, HOK.out]; rfl)
      obtain ⟨v1, rfl⟩ : ∃ v : Value, v = u6 := ⟨_, rfl⟩
      go_wp2_with fail
      refine bodyPost_ret (v := .tuple #[v1, .int .i64 0]) (by simp only [results, Try.results27]; go_simp) rfl ⟨v1, by rw [HR.out], by rw [HR.out]; simp only; rw [boundL_len]; exact HX.out, hb⟩

set_option maxHeartbeats 2000000 in
theorem SafeStepsS_c (A : Option Addr) (n c : Nat) (l : List Int) (lim : Int) (w : World) (hn : l.length = n) (hm : n ≤ 1048576) (hr : Rd w w.heap.size 1 icell A l) :
    Calls Try.prog 25 #[.slice A n c, .int .i64 lim] w fun e w' => e = .returned (.tuple #[.int .i64 (safeR l lim).1, .int .i64 (safeR l lim).2]) ∧ Below w.heap.size w w' := by
  have HN := Lib.hid hn; clear hn
  cases hsl : slipsB l
  · have HB := Lib.hid (show safeR l lim = (0, 2) by unfold safeR; rw [hsl]; rfl)
    go_enter Try.func25, Try.ntmps25
    go_wp2_with (go_at_call 57; refine (l17Slips_c _ n c l w.heap.size _ HN.out hm hr).mono ?_; rintro e w' ⟨rfl, rfl⟩)
    go_ret2
    exact ⟨ret_pair HB.out.symm, Below.refl _ _⟩
  cases hin : inB lim 0 1000000000000
  · have HB := Lib.hid (show safeR l lim = (0, 2) by unfold safeR; rw [hin, Bool.and_false]; rfl)
    go_enter Try.func25, Try.ntmps25
    go_wp2_with (first | (go_at_call 57; refine (l17Slips_c _ n c l w.heap.size _ HN.out hm hr).mono ?_; rintro e w' ⟨rfl, rfl⟩) | (go_at_call 58; refine (l00In_c _ _ _ _).mono ?_; rintro e w' ⟨rfl, rfl⟩))
    go_ret2
    exact ⟨ret_pair HB.out.symm, Below.refl _ _⟩
  have hl2 := inB_iff.1 hin
  have HB := Lib.hid (show safeR l lim = if lim < sumB l 0 then (0, 3) else (bsr (safeP l lim) 100001 0 100000, 0) by unfold safeR; rw [hsl, hin]; rfl)
  have HSL := Lib.hid hsl
  obtain ⟨s0, hs0⟩ : ∃ s, sumB l 0 = s := ⟨_, rfl⟩
  rw [hs0] at HB
  have hsb0 := sumB_bd l 0
  rw [hs0] at hsb0
  have HC0 := Lib.hid (show ∀ W, Below w.heap.size w W → Calls Try.prog 59 #[.slice A n c, .int .i64 0] W fun e w' => e = .returned (.int .i64 s0) ∧ Below W.heap.size W w' from fun W hW => by rw [← hs0]; exact l17Sum_b A n c l 0 w.heap.size W HN.out (by omega) (hr.below hW) HSL.out)
  have HSZ := Lib.hid hs0; clear hs0
  by_cases hs0l : lim < s0
  · have HR := Lib.hid (show safeR l lim = (0, 3) by rw [HB.out, if_pos hs0l])
    go_enter Try.func25, Try.ntmps25
    go_wp2_with (first | (go_at_call 57; refine (l17Slips_c _ n c l w.heap.size _ HN.out hm hr).mono ?_; rintro e w' ⟨rfl, rfl⟩) | (go_at_call 58; refine (l00In_c _ _ _ _).mono ?_; rintro e w' ⟨rfl, rfl⟩))
    refine (HC0.out _ (Below.refl _ _)).mono ?_
    rintro e w1 ⟨rfl, hb1⟩
    go_wp2_with fail
    go_ret2
    exact ⟨ret_pair HR.out.symm, hb1⟩
  obtain ⟨P, hP⟩ : ∃ P : Int → Bool, P = safeP l lim := ⟨_, rfl⟩
  have HP := Lib.hid (show ∀ m : Nat, decide (sumB l m ≤ lim) = P (m : Int) by rw [hP]; intro m; exact safe_lo.symm)
  have HR := Lib.hid (show safeR l lim = (bsr P 100001 0 100000, 0) by rw [HB.out, if_neg hs0l, hP])
  clear hP
  obtain ⟨R, hRR⟩ : ∃ R, bsr P 100001 0 100000 = R := ⟨_, rfl⟩
  rw [hRR] at HR
  have HRR := Lib.hid hRR; clear hRR
  go_enter Try.func25, Try.ntmps25
  go_wp2_with (first | (go_at_call 57; refine (l17Slips_c _ n c l w.heap.size _ HN.out hm hr).mono ?_; rintro e w' ⟨rfl, rfl⟩) | (go_at_call 58; refine (l00In_c _ _ _ _).mono ?_; rintro e w' ⟨rfl, rfl⟩))
  refine (HC0.out _ (Below.refl _ _)).mono ?_
  rintro e w1 ⟨rfl, hb1⟩
  have hb1s := hb1.size
  clear hsl hin
  go_wp2_with fail
  go_loopw [6, 7] (fun x y wr => ∃ (lo hi : Int) (f : Nat), 0 ≤ lo ∧ lo ≤ hi ∧ hi ≤ 100000 ∧ hi - lo < (f : Int) ∧ x = .int .i64 lo ∧ y = .int .i64 (hi + 1) ∧ bsr P f lo hi = R ∧ Below w.heap.size w wr) (fun x y _ => (intOf y - intOf x).toNat)
  case atStart => exact ⟨0, 100000, 100001, by omega, by omega, by omega, by omega, rfl, rfl, HRR.out, hb1⟩
  case round =>
    clear hb1 hb1s
    obtain ⟨lo, hi, f, l0, l1, l2, l3, rfl, rfl, ha, hb⟩ := hrel
    have HA := Lib.hid ha; clear ha
    have hbs := hb.size
    by_cases hlt : lo < hi
    · obtain ⟨g, rfl⟩ : ∃ g, f = g + 1 := ⟨f - 1, by omega⟩
      obtain ⟨mid, hmid⟩ : ∃ mid : Nat, (lo + hi + 1) / 2 = (mid : Int) := ⟨((lo + hi + 1) / 2).toNat, by omega⟩
      have hmd : lo < mid ∧ (mid : Int) ≤ hi := by omega
      obtain ⟨hmd1, hmd2⟩ := hmd
      have HM := Lib.hid (show (lo + (hi + 1)) / 2 = mid by rw [← hmid]; congr 1; omega)
      have HY := Lib.hid (show P mid = true → bsr P g mid hi = R from fun h => by rw [← HA.out, bsr_yes hlt (by rw [hmid]; exact h), hmid])
      have HNo := Lib.hid (show P mid = false → bsr P g lo ((mid : Int) - 1) = R from fun h => by rw [← HA.out, bsr_no hlt (by rw [hmid]; exact h), hmid])
      clear hmid
      obtain ⟨s, hs⟩ : ∃ s, sumB l mid = s := ⟨_, rfl⟩
      have hsb := sumB_bd l mid
      rw [hs] at hsb
      have HC := Lib.hid (show Calls Try.prog 59 #[.slice A n c, .int .i64 mid] wr fun e w' => e = .returned (.int .i64 s) ∧ Below wr.heap.size wr w' by rw [← hs]; exact l17Sum_b A n c l mid w.heap.size wr HN.out (by omega) (hr.below hb) HSL.out)
      have HPM := Lib.hid (show decide (s ≤ lim) = P mid by rw [← hs]; exact HP.out mid)
      clear hs
      have q1 : decide (1 < hi + 1 - lo) = true := by simp; omega
      have q2 : 1 < hi + 1 - lo := by omega
      have ew : hi + 1 - lo ≤ 100001 := by omega
      go_upto_region 9 with fail
      rw [HM.out]
      go_wp2_with fail
      refine HC.out.mono ?_
      rintro e w3 ⟨rfl, hb3⟩
      by_cases hle : s ≤ lim
      · have HS := Lib.hid (HY.out (by rw [← HPM.out]; simpa using hle))
        go_wp2_with fail
        (first | (refine ⟨?_, ?_⟩; rotate_left; (first | (simp [intOf]; done) | (simp [intOf]; omega)); (repeat apply Exists.intro); refine ⟨?_, rfl⟩; exact ⟨mid, hi, g, by omega, by omega, by omega, by omega, rfl, rfl, HS.out, by (repeat' (first | (with_reducible exact Below.refl _ _) | (with_reducible assumption) | (with_reducible refine below_drewN ?_ _) | (with_reducible refine Below.drew ?_) | (with_reducible refine Below.alloc ?_ ?_ _) | (with_reducible refine Below.setCell ?_ ?_ _) | (with_reducible refine via (by with_reducible assumption) ?_ ?_) | go_size))⟩) | exact ⟨⟨mid, hi, g, by omega, by omega, by omega, by omega, rfl, rfl, HS.out, by (repeat' (first | (with_reducible exact Below.refl _ _) | (with_reducible assumption) | (with_reducible refine below_drewN ?_ _) | (with_reducible refine Below.drew ?_) | (with_reducible refine Below.alloc ?_ ?_ _) | (with_reducible refine Below.setCell ?_ ?_ _) | (with_reducible refine via (by with_reducible assumption) ?_ ?_) | go_size))⟩, by first | (simp [intOf]; done) | (simp [intOf]; omega)⟩)
      · have HS := Lib.hid (HNo.out (by rw [← HPM.out]; simpa using hle))
        go_wp2_with fail
        (first | (refine ⟨?_, ?_⟩; rotate_left; (first | (simp [intOf]; done) | (simp [intOf]; omega)); (repeat apply Exists.intro); refine ⟨?_, rfl⟩; exact ⟨lo, (mid : Int) - 1, g, by omega, by omega, by omega, by omega, rfl, ret_val (by omega), HS.out, by (repeat' (first | (with_reducible exact Below.refl _ _) | (with_reducible assumption) | (with_reducible refine below_drewN ?_ _) | (with_reducible refine Below.drew ?_) | (with_reducible refine Below.alloc ?_ ?_ _) | (with_reducible refine Below.setCell ?_ ?_ _) | (with_reducible refine via (by with_reducible assumption) ?_ ?_) | go_size))⟩) | exact ⟨⟨lo, (mid : Int) - 1, g, by omega, by omega, by omega, by omega, rfl, ret_val (by omega), HS.out, by (repeat' (first | (with_reducible exact Below.refl _ _) | (with_reducible assumption) | (with_reducible refine below_drewN ?_ _) | (with_reducible refine Below.drew ?_) | (with_reducible refine Below.alloc ?_ ?_ _) | (with_reducible refine Below.setCell ?_ ?_ _) | (with_reducible refine via (by with_reducible assumption) ?_ ?_) | go_size))⟩, by first | (simp [intOf]; done) | (simp [intOf]; omega)⟩)
    · have HF := Lib.hid (show lo = R by rw [← HA.out, bsr_end hlt])
      have q1 : decide (1 < hi + 1 - lo) = false := by simp; omega
      have q2 : ¬ 1 < hi + 1 - lo := by omega
      go_wp2_with fail
      go_ret2
      exact ⟨ret_pair (by rw [HR.out, HF.out]), by (repeat' (first | (with_reducible exact Below.refl _ _) | (with_reducible assumption) | (with_reducible refine below_drewN ?_ _) | (with_reducible refine Below.drew ?_) | (with_reducible refine Below.alloc ?_ ?_ _) | (with_reducible refine Below.setCell ?_ ?_ _) | (with_reducible refine via (by with_reducible assumption) ?_ ?_) | go_size))⟩

end Go.Proofs.Ytphckllloiogjaa
