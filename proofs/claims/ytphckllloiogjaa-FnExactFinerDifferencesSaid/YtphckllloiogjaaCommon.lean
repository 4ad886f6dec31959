/- Contracts: lists of plain fractions; CommonDen. -/
import Derived.Test.YtphckllloiogjaaFracs1
import Derived.Test.YtphckllloiogjaaFracAdd
import Derived.Test.YtphckllloiogjaaLawCalls
set_option linter.unusedVariables false
set_option linter.unusedSimpArgs false
namespace Go.Proofs.Ytphckllloiogjaa
open Go.RowKit

def plainsB (l : List (Int × Int)) : Bool := l.all fun d => plainB d.1 d.2
theorem plains_no {l : List (Int × Int)} {k : Nat} {d : Int × Int} (h : l[k]? = some d) (hv : plainB d.1 d.2 = false) : plainsB l = false := by
  unfold plainsB
  rw [List.all_eq_false]
  exact ⟨d, List.mem_of_getElem? h, by simp [hv]⟩
theorem plains_yes {l : List (Int × Int)} {k : Nat} {d : Int × Int} (h : l[k]? = some d) (ha : plainsB (l.take k) = true) (hv : plainB d.1 d.2 = true) : plainsB (l.take (k + 1)) = true := by
  unfold plainsB at *
  rw [take_snoc' l k d h, List.all_append, ha]
  simp [hv]
theorem plains_at {l : List (Int × Int)} {k : Nat} {d : Int × Int} (h : l[k]? = some d) (ha : plainsB l = true) : plainB d.1 d.2 = true := List.all_eq_true.1 ha d (List.mem_of_getElem? h)
theorem drop_at {α : Type} {l : List α} {k : Nat} {x : α} (h : l[k]? = some x) : l.drop k = x :: l.drop (k + 1) := by
  obtain ⟨hk, e⟩ := List.getElem?_eq_some_iff.1 h
  rw [← e]
  exact List.drop_eq_getElem_cons hk

/-- the least common denominator, none where it is too great -/
def cden (c : Int) : List (Int × Int) → Option Int
  | [] => some c
  | f :: l => if 1000000000000 / (f.2 / (Int.gcd c f.2 : Int)) < c then none else cden (c * (f.2 / (Int.gcd c f.2 : Int))) l
def comD (l : List (Int × Int)) : Int × Int := if plainsB l = false then (0, 1) else match cden 1 l with | none => (0, 5) | some c => (c, 0)
theorem comD_none {l : List (Int × Int)} (h : plainsB l = true) (hc : cden 1 l = none) : comD l = (0, 5) := by rw [comD, if_neg (by rw [h]; simp), hc]
theorem comD_some {l : List (Int × Int)} {c : Int} (h : plainsB l = true) (hc : cden 1 l = some c) : comD l = (c, 0) := by rw [comD, if_neg (by rw [h]; simp), hc]

/-- a step: the further factor -/
theorem more_bd (c d : Int) (hc : 1 ≤ c) (hd : 1 ≤ d ∧ d ≤ 1000000000000) : 1 ≤ (Int.gcd c d : Int) ∧ (Int.gcd c d : Int) ≤ 1000000000000 ∧ 1 ≤ d / (Int.gcd c d : Int) ∧ d / (Int.gcd c d : Int) ≤ 1000000000000 := by
  have h1 := gcd_pos c d (by omega)
  have h2 : (Int.gcd c d : Int) ∣ d := Int.gcd_dvd_right ..
  have h3 := Int.le_of_dvd (by omega) h2
  have h4 : (Int.gcd c d : Int) * (d / (Int.gcd c d : Int)) = d := Int.mul_ediv_cancel' h2
  generalize (Int.gcd c d : Int) = g at *
  generalize d / g = m at *
  have h5 : 0 < m := by
    rcases Int.lt_or_le 0 m with h | h
    · exact h
    · have := Int.mul_le_mul_of_nonneg_left h (show 0 ≤ g by omega)
      simp at this
      omega
  have h6 := Int.mul_le_mul_of_nonneg_right (show 1 ≤ g by omega) (show 0 ≤ m by omega)
  omega
theorem times_bd (c m q : Int) (hc : 1 ≤ c) (hm : 1 ≤ m) (hq : 1000000000000 / m = q) (h : c ≤ q) : 1 ≤ c * m ∧ c * m ≤ 1000000000000 := by
  subst hq
  have h1 := Int.ediv_mul_le 1000000000000 (show m ≠ 0 by omega)
  have h2 := Int.mul_le_mul_of_nonneg_right h (show 0 ≤ m by omega)
  have h3 := Int.mul_le_mul_of_nonneg_left hm (show 0 ≤ c by omega)
  omega

theorem divisor_g (a b g : Int) (w : World) (ha : 0 ≤ a) (hb : 0 ≤ b) (ha' : a ≤ 9223372036854775807) (hb' : b ≤ 9223372036854775807) (hg : (Int.gcd a b : Int) = g) :
    Calls Try.prog 66 #[.int .i64 a, .int .i64 b] w fun e w' => e = .returned (.int .i64 g) ∧ ∃ m, w' = w.drewN m := by subst hg; exact divisor_c a b w ha hb ha' hb'
theorem l04Gcd_g (a b g : Int) (w : World) (ha : 0 ≤ a) (hb : 0 ≤ b) (ha' : a ≤ 9223372036854775807) (hb' : b ≤ 9223372036854775807) (hg : (Int.gcd a b : Int) = g) :
    Calls Try.prog 73 #[.int .i64 a, .int .i64 b] w fun e w' => e = .returned (.int .i64 g) ∧ w = w' := by subst hg; exact l04Gcd_c a b w ha hb ha' hb'

set_option maxHeartbeats 1000000 in
theorem arePlain_c (A : Option Addr) (n c : Nat) (l : List (Int × Int)) (w : World) (hn : l.length = n) (hm : n ≤ 1048576) (hr : Rd w w.heap.size 2 fcell A l) (ok : ∀ d ∈ l, okF d) :
    Calls Try.prog 65 #[.slice A n c] w fun e w' => e = .returned (.bool (plainsB l)) ∧ Below w.heap.size w w' := by
  have HN := Lib.hid hn; clear hn
  go_enter Try.func65, Try.ntmps65
  go_wp2_with fail
  go_loopw [7] (fun i wr => ∃ k : Nat, k ≤ n ∧ i = .int .i64 k ∧ plainsB (l.take k) = true ∧ Below w.heap.size w wr) (fun i _ => n - (intOf i).toNat)
  case atStart => exact ⟨0, Nat.zero_le _, rfl, by simp [plainsB], Below.refl _ _⟩
  case round =>
    obtain ⟨k, hk, rfl, ha, hb⟩ := hrel
    have HA := Lib.hid ha; clear ha
    have hbs := hb.size
    by_cases hlt : k < n
    · have hrk := hr.below hb
      obtain ⟨b1, off, rfl, hbl, hc⟩ := hrk.frac (by rw [HN.out]; omega)
      obtain ⟨d, hd⟩ := get_ex l k (by rw [HN.out]; omega)
      obtain ⟨g0, g1⟩ := hc k d hd
      have hw := wf64_bd (ok d (List.mem_of_getElem? hd)).2
      have HD := Lib.hid hd; clear hd hc hrk
      cases hv : plainB d.1 d.2
      · have HF := Lib.hid (plains_no HD.out hv)
        go_wp2_with fail
        refine (isPlainFraction_c d _ (by omega)).mono ?_
        rintro e w1 ⟨rfl, hb1⟩
        obtain ⟨hc1, hf1⟩ := bcell hb1; have hz1 := hb1.size; (try simp only [World.size_alloc, size_drewN, World.size_setCell, World.size_drew] at hz1 hc1 hf1)
        go_wp2_with fail
        go_ret
        refine ⟨ret_bool (by rw [HF.out]), ?_⟩
        (repeat' (first | (with_reducible exact Below.refl _ _) | (with_reducible assumption) | (with_reducible refine below_drewN ?_ _) | (with_reducible refine Below.drew ?_) | (with_reducible refine Below.alloc ?_ ?_ _) | (with_reducible refine Below.setCell ?_ ?_ _) | (with_reducible refine via (by with_reducible assumption) ?_ ?_) | go_size))
      · have HS := Lib.hid (plains_yes HD.out HA.out hv)
        go_wp2_with fail
        refine (isPlainFraction_c d _ (by omega)).mono ?_
        rintro e w1 ⟨rfl, hb1⟩
        obtain ⟨hc1, hf1⟩ := bcell hb1; have hz1 := hb1.size; (try simp only [World.size_alloc, size_drewN, World.size_setCell, World.size_drew] at hz1 hc1 hf1)
        go_wp2_with fail
        (first | (refine ⟨?_, ?_⟩; rotate_left; (first | (simp [intOf]; done) | (simp [intOf]; omega)); (repeat apply Exists.intro); refine ⟨?_, rfl⟩; exact ⟨k + 1, by omega, by go_num, HS.out, by (repeat' (first | (with_reducible exact Below.refl _ _) | (with_reducible assumption) | (with_reducible refine below_drewN ?_ _) | (with_reducible refine Below.drew ?_) | (with_reducible refine Below.alloc ?_ ?_ _) | (with_reducible refine Below.setCell ?_ ?_ _) | (with_reducible refine via (by with_reducible assumption) ?_ ?_) | go_size))⟩) | exact ⟨⟨k + 1, by omega, by go_num, HS.out, by (repeat' (first | (with_reducible exact Below.refl _ _) | (with_reducible assumption) | (with_reducible refine below_drewN ?_ _) | (with_reducible refine Below.drew ?_) | (with_reducible refine Below.alloc ?_ ?_ _) | (with_reducible refine Below.setCell ?_ ?_ _) | (with_reducible refine via (by with_reducible assumption) ?_ ?_) | go_size))⟩, by first | (simp [intOf]; done) | (simp [intOf]; omega)⟩)
    · have hkn : k = n := by omega
      have h6 := HA.out
      rw [List.take_of_length_le (by rw [HN.out]; omega)] at h6
      have H6 := Lib.hid h6; clear h6
      go_wp2_with fail
      go_ret
      exact ⟨ret_bool (by rw [H6.out]), hb⟩

set_option maxHeartbeats 1000000 in
theorem l19List_c (A : Option Addr) (n c : Nat) (l : List (Int × Int)) (w : World) (hn : l.length = n) (hm : n ≤ 1048576) (hr : Rd w w.heap.size 2 fcell A l) (ok : ∀ d ∈ l, okF d) :
    Calls Try.prog 63 #[.slice A n c] w fun e w' => e = .returned (.bool (plainsB l)) ∧ Below w.heap.size w w' := by
  have HN := Lib.hid hn; clear hn
  go_enter Try.func63, Try.ntmps63
  go_wp2_with fail
  go_loopw [3] (fun i wr => ∃ k : Nat, k ≤ n ∧ i = .int .i64 k ∧ plainsB (l.take k) = true ∧ Below w.heap.size w wr) (fun i _ => n - (intOf i).toNat)
  case atStart => exact ⟨0, Nat.zero_le _, rfl, by simp [plainsB], Below.refl _ _⟩
  case round =>
    obtain ⟨k, hk, rfl, ha, hb⟩ := hrel
    have HA := Lib.hid ha; clear ha
    have hbs := hb.size
    by_cases hlt : k < n
    · have hrk := hr.below hb
      obtain ⟨b1, off, rfl, hbl, hc⟩ := hrk.frac (by rw [HN.out]; omega)
      obtain ⟨d, hd⟩ := get_ex l k (by rw [HN.out]; omega)
      obtain ⟨g0, g1⟩ := hc k d hd
      have hw := wf64_bd (ok d (List.mem_of_getElem? hd)).2
      have HD := Lib.hid hd; clear hd hc hrk
      cases hv : plainB d.1 d.2
      · have HF := Lib.hid (plains_no HD.out hv)
        go_wp2_with fail
        refine (l19Ok_c d _ (by omega)).mono ?_
        rintro e w1 ⟨rfl, hb1⟩
        obtain ⟨hc1, hf1⟩ := bcell hb1; have hz1 := hb1.size; (try simp only [World.size_alloc, size_drewN, World.size_setCell, World.size_drew] at hz1 hc1 hf1)
        go_wp2_with fail
        go_ret
        refine ⟨ret_bool (by rw [HF.out]), ?_⟩
        (repeat' (first | (with_reducible exact Below.refl _ _) | (with_reducible assumption) | (with_reducible refine below_drewN ?_ _) | (with_reducible refine Below.drew ?_) | (with_reducible refine Below.alloc ?_ ?_ _) | (with_reducible refine Below.setCell ?_ ?_ _) | (with_reducible refine via (by with_reducible assumption) ?_ ?_) | go_size))
      · have HS := Lib.hid (plains_yes HD.out HA.out hv)
        go_wp2_with fail
        refine (l19Ok_c d _ (by omega)).mono ?_
        rintro e w1 ⟨rfl, hb1⟩
        obtain ⟨hc1, hf1⟩ := bcell hb1; have hz1 := hb1.size; (try simp only [World.size_alloc, size_drewN, World.size_setCell, World.size_drew] at hz1 hc1 hf1)
        go_wp2_with fail
        (first | (refine ⟨?_, ?_⟩; rotate_left; (first | (simp [intOf]; done) | (simp [intOf]; omega)); (repeat apply Exists.intro); refine ⟨?_, rfl⟩; exact ⟨k + 1, by omega, by go_num, HS.out, by (repeat' (first | (with_reducible exact Below.refl _ _) | (with_reducible assumption) | (with_reducible refine below_drewN ?_ _) | (with_reducible refine Below.drew ?_) | (with_reducible refine Below.alloc ?_ ?_ _) | (with_reducible refine Below.setCell ?_ ?_ _) | (with_reducible refine via (by with_reducible assumption) ?_ ?_) | go_size))⟩) | exact ⟨⟨k + 1, by omega, by go_num, HS.out, by (repeat' (first | (with_reducible exact Below.refl _ _) | (with_reducible assumption) | (with_reducible refine below_drewN ?_ _) | (with_reducible refine Below.drew ?_) | (with_reducible refine Below.alloc ?_ ?_ _) | (with_reducible refine Below.setCell ?_ ?_ _) | (with_reducible refine via (by with_reducible assumption) ?_ ?_) | go_size))⟩, by first | (simp [intOf]; done) | (simp [intOf]; omega)⟩)
    · have hkn : k = n := by omega
      have h6 := HA.out
      rw [List.take_of_length_le (by rw [HN.out]; omega)] at h6
      have H6 := Lib.hid h6; clear h6
      go_wp2_with fail
      go_ret
      exact ⟨ret_bool (by rw [H6.out]), hb⟩

set_option maxHeartbeats 2000000 in
theorem CommonDenI_c (A : Option Addr) (n c : Nat) (l : List (Int × Int)) (w : World) (hn : l.length = n) (hm : n ≤ 1048576) (hr : Rd w w.heap.size 2 fcell A l) (ok : ∀ d ∈ l, okF d) :
    Calls Try.prog 32 #[.slice A n c] w fun e w' => e = .returned (.tuple #[.int .i64 (comD l).1, .int .i64 (comD l).2]) ∧ Below w.heap.size w w' := by
  have HN := Lib.hid hn; clear hn
  go_enter Try.func32, Try.ntmps32
  go_wp2_with fail
  refine (arePlain_c A n c l w HN.out hm hr ok).mono ?_
  rintro e w0 ⟨rfl, hb0⟩
  have hb0s := hb0.size
  cases hpl : plainsB l
  · have HP := Lib.hid hpl
    go_wp2_with fail
    refine bodyPost_ret (v := .tuple #[.int .i64 0, .int .i64 1]) (by simp only [results, Try.results32]; go_simp) rfl ⟨by rw [comD, if_pos HP.out], hb0⟩
  · have HP := Lib.hid hpl
    go_wp2_with fail
    go_loopw [4, 13] (fun o i wr => ∃ k : Nat, ∃ cc : Int, k ≤ n ∧ i = .int .i64 k ∧ o = .int .i64 cc ∧ 1 ≤ cc ∧ cc ≤ 1000000000000 ∧ cden cc (l.drop k) = cden 1 l ∧ Below w.heap.size w wr) (fun _ i _ => n - (intOf i).toNat)
    case atStart => exact ⟨0, 1, Nat.zero_le _, rfl, rfl, by omega, by omega, rfl, hb0⟩
    case round =>
      clear hb0 hb0s
      obtain ⟨k, cc, hk, rfl, rfl, c1, c2, hcd, hb⟩ := hrel
      have HC := Lib.hid hcd; clear hcd
      have hbs := hb.size
      by_cases hlt : k < n
      · have hrk := hr.below hb
        obtain ⟨b1, off, rfl, hbl, hc⟩ := hrk.frac (by rw [HN.out]; omega)
        obtain ⟨⟨x, d⟩, hd⟩ := get_ex l k (by rw [HN.out]; omega)
        obtain ⟨g0, g1⟩ := hc k _ hd
        simp only at g0 g1
        have hp := (plainB_iff.1 (plains_at hd HP.out)).2.1
        simp only at hp
        obtain ⟨g, hg⟩ : ∃ g : Int, (Int.gcd cc d : Int) = g := ⟨_, rfl⟩
        obtain ⟨m, hmm⟩ : ∃ m : Int, d / g = m := ⟨_, rfl⟩
        obtain ⟨q, hq⟩ : ∃ q : Int, 1000000000000 / m = q := ⟨_, rfl⟩
        have hbd := more_bd cc d (by omega) hp
        rw [hg, hmm] at hbd
        obtain ⟨q1, q2, q3, q4⟩ := hbd
        have hstep := HC.out
        rw [drop_at hd, cden] at hstep
        simp only [hg, hmm, hq] at hstep
        have HST := Lib.hid hstep; clear hstep
        have HG := Lib.hid hg; clear hg
        have HQ := Lib.hid hq
        clear hd hc hrk
        have n1 : ¬ g = 0 := by omega
        have n2 : ¬ m = 0 := by omega
        have n3 : (g == 0) = false := by simp [n1]
        have n4 : (m == 0) = false := by simp [n2]
        have n5 : (0 : Int) ≤ d := by omega
        have n6 : (0 : Int) ≤ g := by omega
        have n7 : (0 : Int) ≤ m := by omega
        have n8 : (0 : Int) ≤ cc := by omega
        by_cases hcq : cc ≤ q
        · have hcm := times_bd cc m q c1 q3 hq hcq
          have HX := HST.out
          rw [if_neg (by omega)] at HX
          have HY := Lib.hid HX; clear HX
          go_wp2_with fail
          go_quiet (((go_at_call 66; exact Calls.quiet_of (divisor_g cc d g _ (by omega) (by omega) (by omega) (by omega) HG.out))))
          go_wp2_with fail
          (first | (refine ⟨?_, ?_⟩; rotate_left; (first | (simp [intOf]; done) | (simp [intOf]; omega)); (repeat apply Exists.intro); refine ⟨?_, rfl⟩; exact ⟨k + 1, cc * m, by omega, by go_num, by go_num, by omega, by omega, HY.out, by (repeat' (first | (with_reducible exact Below.refl _ _) | (with_reducible assumption) | (with_reducible refine below_drewN ?_ _) | (with_reducible refine Below.drew ?_) | (with_reducible refine Below.alloc ?_ ?_ _) | (with_reducible refine Below.setCell ?_ ?_ _) | (with_reducible refine via (by with_reducible assumption) ?_ ?_) | go_size))⟩) | exact ⟨⟨k + 1, cc * m, by omega, by go_num, by go_num, by omega, by omega, HY.out, by (repeat' (first | (with_reducible exact Below.refl _ _) | (with_reducible assumption) | (with_reducible refine below_drewN ?_ _) | (with_reducible refine Below.drew ?_) | (with_reducible refine Below.alloc ?_ ?_ _) | (with_reducible refine Below.setCell ?_ ?_ _) | (with_reducible refine via (by with_reducible assumption) ?_ ?_) | go_size))⟩, by first | (simp [intOf]; done) | (simp [intOf]; omega)⟩)
        · have HX := HST.out
          rw [if_pos (by omega)] at HX
          have HY := Lib.hid HX.symm; clear HX
          go_wp2_with fail
          go_quiet (((go_at_call 66; exact Calls.quiet_of (divisor_g cc d g _ (by omega) (by omega) (by omega) (by omega) HG.out))))
          go_wp2_with fail
          refine bodyPost_ret (v := .tuple #[.int .i64 0, .int .i64 5]) (by simp only [results, Try.results32]; go_simp) rfl ⟨by rw [comD_none HP.out HY.out], ?_⟩
          (repeat' (first | (with_reducible exact Below.refl _ _) | (with_reducible assumption) | (with_reducible refine below_drewN ?_ _) | (with_reducible refine Below.drew ?_) | (with_reducible refine Below.alloc ?_ ?_ _) | (with_reducible refine Below.setCell ?_ ?_ _) | (with_reducible refine via (by with_reducible assumption) ?_ ?_) | go_size))
      · have hkn : k = n := by omega
        have h6 := HC.out
        rw [List.drop_of_length_le (by rw [HN.out]; omega), cden] at h6
        have H6 := Lib.hid h6.symm; clear h6
        go_wp2_with fail
        refine bodyPost_ret (v := .tuple #[.int .i64 cc, .int .i64 0]) (by simp only [results, Try.results32]; go_simp) rfl ⟨by rw [comD_some HP.out H6.out], hb⟩

def comS (l : List (Int × Int)) : Int := match cden 1 l with | none => 1000000000001 | some c => c
set_option maxHeartbeats 2000000 in
theorem l19Common_c (A : Option Addr) (n c : Nat) (l : List (Int × Int)) (B : Nat) (w : World) (hn : l.length = n) (hm : n ≤ 1048576) (hr : Rd w B 2 fcell A l) (hpl : plainsB l = true) :
    Calls Try.prog 64 #[.slice A n c] w fun e w' => e = .returned (.int .i64 (comS l)) ∧ (∀ c, cden 1 l = some c → 1 ≤ c ∧ c ≤ 1000000000000) ∧ ∃ m, w' = w.drewN m := by
  have HN := Lib.hid hn; clear hn
  have HP := Lib.hid hpl; clear hpl
  go_enter Try.func64, Try.ntmps64
  go_wp2_with fail
  go_loopw [3, 4] (fun o i wr => ∃ k : Nat, ∃ cc : Int, k ≤ n ∧ i = .int .i64 k ∧ o = .int .i64 cc ∧ 1 ≤ cc ∧ cc ≤ 1000000000000 ∧ cden cc (l.drop k) = cden 1 l ∧ ∃ m, wr = w.drewN m) (fun _ i _ => n - (intOf i).toNat)
  case atStart => exact ⟨0, 1, Nat.zero_le _, rfl, rfl, by omega, by omega, rfl, 0, rfl⟩
  case round =>
    obtain ⟨k, cc, hk, rfl, rfl, c1, c2, hcd, mm, hw⟩ := hrel
    have HC := Lib.hid hcd; clear hcd
    have hrk : Rd wr B 2 fcell A l := by rw [hw]; exact hr
    have HW := Lib.hid hw; clear hw
    by_cases hlt : k < n
    · skip
      obtain ⟨b1, off, rfl, hbl, hc⟩ := hrk.frac (by rw [HN.out]; omega)
      obtain ⟨⟨x, d⟩, hd⟩ := get_ex l k (by rw [HN.out]; omega)
      obtain ⟨g0, g1⟩ := hc k _ hd
      simp only at g0 g1
      have hp := (plainB_iff.1 (plains_at hd HP.out)).2.1
      simp only at hp
      obtain ⟨g, hg⟩ : ∃ g : Int, (Int.gcd cc d : Int) = g := ⟨_, rfl⟩
      obtain ⟨m, hmm⟩ : ∃ m : Int, d / g = m := ⟨_, rfl⟩
      obtain ⟨q, hq⟩ : ∃ q : Int, 1000000000000 / m = q := ⟨_, rfl⟩
      have hbd := more_bd cc d (by omega) hp
      rw [hg, hmm] at hbd
      obtain ⟨q1, q2, q3, q4⟩ := hbd
      have hstep := HC.out
      rw [drop_at hd, cden] at hstep
      simp only [hg, hmm, hq] at hstep
      have HST := Lib.hid hstep; clear hstep
      have HG := Lib.hid hg; clear hg
      have HQ := Lib.hid hq
      clear hd hc hrk
      have n1 : ¬ g = 0 := by omega
      have n2 : ¬ m = 0 := by omega
      have n3 : (g == 0) = false := by simp [n1]
      have n4 : (m == 0) = false := by simp [n2]
      have n5 : (0 : Int) ≤ d := by omega
      have n6 : (0 : Int) ≤ g := by omega
      have n7 : (0 : Int) ≤ m := by omega
      have n8 : (0 : Int) ≤ cc := by omega
      by_cases hcq : cc ≤ q
      · have hcm := times_bd cc m q c1 q3 hq hcq
        have HX := HST.out
        rw [if_neg (by omega)] at HX
        have HY := Lib.hid HX; clear HX
        go_wp2_with fail
        go_quiet (((go_at_call 73; exact quiet_eq (l04Gcd_g cc d g _ (by omega) (by omega) (by omega) (by omega) HG.out))))
        go_wp2_with fail
        (first | (refine ⟨?_, ?_⟩; rotate_left; (first | (simp [intOf]; done) | (simp [intOf]; omega)); (repeat apply Exists.intro); refine ⟨?_, rfl⟩; exact ⟨k + 1, cc * m, by omega, by go_num, by go_num, by omega, by omega, HY.out, mm + nq, by rw [HW.out, World.drewN_drewN]⟩) | exact ⟨⟨k + 1, cc * m, by omega, by go_num, by go_num, by omega, by omega, HY.out, mm + nq, by rw [HW.out, World.drewN_drewN]⟩, by first | (simp [intOf]; done) | (simp [intOf]; omega)⟩)
      · have HX := HST.out
        rw [if_pos (by omega)] at HX
        have HY := Lib.hid HX.symm; clear HX
        go_wp2_with fail
        go_quiet (((go_at_call 73; exact quiet_eq (l04Gcd_g cc d g _ (by omega) (by omega) (by omega) (by omega) HG.out))))
        go_wp2_with fail
        go_ret
        exact ⟨ret_int (by rw [comS, HY.out]), fun c hc => (by rw [HY.out] at hc; cases hc), mm + nq, by rw [HW.out, World.drewN_drewN]⟩
    · have hkn : k = n := by omega
      have h6 := HC.out
      rw [List.drop_of_length_le (by rw [HN.out]; omega), cden] at h6
      have H6 := Lib.hid h6.symm; clear h6
      go_wp2_with fail
      go_ret
      exact ⟨ret_int (by rw [comS, H6.out]), fun c hc => (by rw [H6.out] at hc; injection hc with hc; omega), mm, HW.out⟩

set_option maxHeartbeats 1000000 in
theorem CommonDenS_c (A : Option Addr) (n c : Nat) (l : List (Int × Int)) (w : World) (hn : l.length = n) (hm : n ≤ 1048576) (hr : Rd w w.heap.size 2 fcell A l) (ok : ∀ d ∈ l, okF d) :
    Calls Try.prog 30 #[.slice A n c] w fun e w' => e = .returned (.tuple #[.int .i64 (comD l).1, .int .i64 (comD l).2]) ∧ Below w.heap.size w w' := by
  have HN := Lib.hid hn; clear hn
  go_enter Try.func30, Try.ntmps30
  go_wp2_with fail
  refine (l19List_c A n c l w HN.out hm hr ok).mono ?_
  rintro e w0 ⟨rfl, hb0⟩
  have hb0s := hb0.size
  cases hpl : plainsB l
  · have HP := Lib.hid hpl
    go_wp2_with fail
    refine bodyPost_ret (v := .tuple #[.int .i64 0, .int .i64 1]) (by simp only [results, Try.results30]; go_simp) rfl ⟨by rw [comD, if_pos HP.out], hb0⟩
  · have HP := Lib.hid hpl
    go_wp2_with fail
    refine (l19Common_c A n c l w.heap.size w0 HN.out hm (hr.below hb0) HP.out).mono ?_
    rintro e w1 ⟨rfl, hbd, m, rfl⟩
    cases hcd : cden 1 l with
    | none =>
      have HC := Lib.hid hcd
      have hcs : comS l = 1000000000001 := by rw [comS, HC.out]
      clear hcd hbd
      go_wp2_with fail
      refine bodyPost_ret (v := .tuple #[.int .i64 0, .int .i64 5]) (by simp only [results, Try.results30]; go_simp) rfl ⟨by rw [comD_none HP.out HC.out], ?_⟩
      (repeat' (first | (with_reducible exact Below.refl _ _) | (with_reducible assumption) | (with_reducible refine below_drewN ?_ _) | (with_reducible refine Below.drew ?_) | (with_reducible refine Below.alloc ?_ ?_ _) | (with_reducible refine Below.setCell ?_ ?_ _) | (with_reducible refine via (by with_reducible assumption) ?_ ?_) | go_size))
    | some cc =>
      obtain ⟨q1, q2⟩ := hbd cc hcd
      have HC := Lib.hid hcd
      have hcs : comS l = cc := by rw [comS, HC.out]
      clear hcd hbd
      go_wp2_with fail
      refine bodyPost_ret (v := .tuple #[.int .i64 cc, .int .i64 0]) (by simp only [results, Try.results30]; go_simp) rfl ⟨by rw [comD_some HP.out HC.out], ?_⟩
      (repeat' (first | (with_reducible exact Below.refl _ _) | (with_reducible assumption) | (with_reducible refine below_drewN ?_ _) | (with_reducible refine Below.drew ?_) | (with_reducible refine Below.alloc ?_ ?_ _) | (with_reducible refine Below.setCell ?_ ?_ _) | (with_reducible refine via (by with_reducible assumption) ?_ ?_) | go_size))

end Go.Proofs.Ytphckllloiogjaa
