/- Contracts: values between, finer tables; both sides. -/
import Derived.Test.YtphckllloiogjaaFin2
import Derived.Test.YtphckllloiogjaaFracs1
set_option linter.unusedVariables false
set_option linter.unusedSimpArgs false
namespace Go.Proofs.Ytphckllloiogjaa
open Go.RowKit

theorem fine_c (n : Int) (w : World) : Calls Try.prog 69 #[.int .i64 n] w fun e w' => e = .returned (.bool (inB n 1 20)) ∧ w = w' := by
  go_enter Try.func69, Try.ntmps69
  go_wp2_with (go_at_call 61; refine (between_c _ _ _ _).mono ?_; rintro e w' ⟨rfl, rfl⟩)
  go_ret
  exact ⟨rfl, rfl⟩
def placeR (l : List Int) (num den : Int) : Int := if knownB l && inB den 1 20 && inB num (-120) 120 then 0 else 2
theorem l19Code_c (A : Option Addr) (n c : Nat) (l : List Int) (num den : Int) (B : Nat) (w : World) (hn : l.length = n) (hm : n ≤ 1048576) (hr : Rd w B 1 icell A l) :
    Calls Try.prog 67 #[.slice A n c, .int .i64 num, .int .i64 den] w fun e w' => e = .returned (.int .i64 (placeR l num den)) ∧ w = w' := by
  cases h1 : knownB l
  · go_enter Try.func67, Try.ntmps67
    go_wp2_with (go_at_call 53; refine (l19Values_c _ n c l B _ hn hm hr).mono ?_; rintro e w' ⟨rfl, rfl⟩)
    go_ret
    exact ⟨ret_int (by unfold placeR; rw [h1]; rfl), rfl⟩
  cases h2 : inB den 1 20
  · go_enter Try.func67, Try.ntmps67
    go_wp2_with (first | (go_at_call 53; refine (l19Values_c _ n c l B _ hn hm hr).mono ?_; rintro e w' ⟨rfl, rfl⟩) | (go_at_call 58; refine (l00In_c _ _ _ _).mono ?_; rintro e w' ⟨rfl, rfl⟩))
    go_ret
    exact ⟨ret_int (by unfold placeR; rw [h1, h2]; rfl), rfl⟩
  cases h3 : inB num (-120) 120
  · go_enter Try.func67, Try.ntmps67
    go_wp2_with (first | (go_at_call 53; refine (l19Values_c _ n c l B _ hn hm hr).mono ?_; rintro e w' ⟨rfl, rfl⟩) | (go_at_call 58; refine (l00In_c _ _ _ _).mono ?_; rintro e w' ⟨rfl, rfl⟩))
    go_ret
    exact ⟨ret_int (by unfold placeR; rw [h1, h2, h3]; rfl), rfl⟩
  go_enter Try.func67, Try.ntmps67
  go_wp2_with (first | (go_at_call 53; refine (l19Values_c _ n c l B _ hn hm hr).mono ?_; rintro e w' ⟨rfl, rfl⟩) | (go_at_call 58; refine (l00In_c _ _ _ _).mono ?_; rintro e w' ⟨rfl, rfl⟩))
  go_ret
  exact ⟨ret_int (by unfold placeR; rw [h1, h2, h3]; rfl), rfl⟩
theorem vAt_den {l : List Int} {num den : Int} (hk : knownB l = true) (hd : 1 ≤ den ∧ den ≤ 20) : (vAt l num den).2 ≤ 9223372036854775807 := by
  have h6 := (known_len hk).2
  have h1 := blw_bd hd l.length h6
  have h2 := low_den_le (pnum (leads l) num den l.length) (blw den l.length) (by omega)
  unfold vAt
  omega
theorem vAtI_c (A : Option Addr) (n c : Nat) (l : List Int) (num den : Int) (w : World) (hn : l.length = n) (hr : Rd w w.heap.size 1 icell A (leads l)) (hk : knownB l = true) (hnum : -120 ≤ num ∧ num ≤ 120) (hden : 1 ≤ den ∧ den ≤ 20) :
    Calls Try.prog 70 #[.slice A n c, .int .i64 num, .int .i64 den] w fun e w' => e = .returned (fr (vAt l num den)) ∧ Below w.heap.size w w' := by
  subst hn
  have := known_len hk
  exact valueAt_c A _ c (leads l) num den w (leads_len l) (by omega) hr (leads_bd hk) hnum hden
theorem vAtS_c (A : Option Addr) (n c : Nat) (l : List Int) (num den : Int) (w : World) (hn : l.length = n) (hr : Rd w w.heap.size 1 icell A (leads l)) (hk : knownB l = true) (hnum : -120 ≤ num ∧ num ≤ 120) (hden : 1 ≤ den ∧ den ≤ 20) :
    Calls Try.prog 68 #[.slice A n c, .int .i64 num, .int .i64 den] w fun e w' => e = .returned (fr (vAt l num den)) ∧ Below w.heap.size w w' := by
  subst hn
  have := known_len hk
  exact l19At_c A _ c (leads l) num den w (leads_len l) (by omega) (by omega) hr (leads_bd hk) hnum hden

set_option maxRecDepth 100000 in
set_option maxHeartbeats 2000000 in
theorem ValueBetweenI_c (A : Option Addr) (n c : Nat) (l : List Int) (num den : Int) (w : World) (hn : l.length = n) (hm : n ≤ 1048576) (hA : A = none → n = 0) (hr : Rd w w.heap.size 1 icell A l) :
    Calls Try.prog 38 #[.slice A n c, .int .i64 num, .int .i64 den] w fun e w' => e = .returned (.tuple #[fr (betw l num den).1, .int .i64 (betw l num den).2]) ∧ Below w.heap.size w w' := by
  have HN := Lib.hid hn; clear hn
  cases h1 : knownB l
  · have HB := Lib.hid (show betw l num den = ((0, 0), 2) by unfold betw; rw [h1]; rfl)
    go_enter Try.func38, Try.ntmps38
    go_wp2_with (first | (go_at_call 55; refine (areKnown_c _ n c l w.heap.size _ HN.out hm (hr.alloc (Nat.le_refl _) _)).mono ?_; rintro e w' ⟨rfl, rfl⟩) | (go_at_call 69; refine (fine_c _ _).mono ?_; rintro e w' ⟨rfl, rfl⟩) | (go_at_call 61; refine (between_c _ _ _ _).mono ?_; rintro e w' ⟨rfl, rfl⟩))
    refine bodyPost_ret (v := .tuple #[fr (0, 0), .int .i64 2]) (by simp only [results, Try.results38, fr]; go_simp) rfl ⟨by rw [HB.out], ?_⟩
    (repeat' (first | (with_reducible exact Below.refl _ _) | (with_reducible assumption) | (with_reducible refine below_drewN ?_ _) | (with_reducible refine Below.drew ?_) | (with_reducible refine Below.alloc ?_ ?_ _) | (with_reducible refine Below.setCell ?_ ?_ _) | (with_reducible refine via (by with_reducible assumption) ?_ ?_) | go_size))
  cases h2 : inB den 1 20
  · have HB := Lib.hid (show betw l num den = ((0, 0), 2) by unfold betw; rw [h1, h2]; rfl)
    go_enter Try.func38, Try.ntmps38
    go_wp2_with (first | (go_at_call 55; refine (areKnown_c _ n c l w.heap.size _ HN.out hm (hr.alloc (Nat.le_refl _) _)).mono ?_; rintro e w' ⟨rfl, rfl⟩) | (go_at_call 69; refine (fine_c _ _).mono ?_; rintro e w' ⟨rfl, rfl⟩) | (go_at_call 61; refine (between_c _ _ _ _).mono ?_; rintro e w' ⟨rfl, rfl⟩))
    refine bodyPost_ret (v := .tuple #[fr (0, 0), .int .i64 2]) (by simp only [results, Try.results38, fr]; go_simp) rfl ⟨by rw [HB.out], ?_⟩
    (repeat' (first | (with_reducible exact Below.refl _ _) | (with_reducible assumption) | (with_reducible refine below_drewN ?_ _) | (with_reducible refine Below.drew ?_) | (with_reducible refine Below.alloc ?_ ?_ _) | (with_reducible refine Below.setCell ?_ ?_ _) | (with_reducible refine via (by with_reducible assumption) ?_ ?_) | go_size))
  cases h3 : inB num (-120) 120
  · have HB := Lib.hid (show betw l num den = ((0, 0), 2) by unfold betw; rw [h1, h2, h3]; rfl)
    go_enter Try.func38, Try.ntmps38
    go_wp2_with (first | (go_at_call 55; refine (areKnown_c _ n c l w.heap.size _ HN.out hm (hr.alloc (Nat.le_refl _) _)).mono ?_; rintro e w' ⟨rfl, rfl⟩) | (go_at_call 69; refine (fine_c _ _).mono ?_; rintro e w' ⟨rfl, rfl⟩) | (go_at_call 61; refine (between_c _ _ _ _).mono ?_; rintro e w' ⟨rfl, rfl⟩))
    refine bodyPost_ret (v := .tuple #[fr (0, 0), .int .i64 2]) (by simp only [results, Try.results38, fr]; go_simp) rfl ⟨by rw [HB.out], ?_⟩
    (repeat' (first | (with_reducible exact Below.refl _ _) | (with_reducible assumption) | (with_reducible refine below_drewN ?_ _) | (with_reducible refine Below.drew ?_) | (with_reducible refine Below.alloc ?_ ?_ _) | (with_reducible refine Below.setCell ?_ ?_ _) | (with_reducible refine via (by with_reducible assumption) ?_ ?_) | go_size))
  have HK := Lib.hid h1
  have hd := inB_iff.1 h2
  have hnu := inB_iff.1 h3
  have HB := Lib.hid (show betw l num den = if plainB (vAt l num den).1 (vAt l num den).2 then (vAt l num den, 0) else ((0, 0), 5) by unfold betw; rw [h1, h2, h3]; rfl)
  have hvd := vAt_den (num := num) h1 hd
  go_enter Try.func38, Try.ntmps38
  go_wp2_with (first | (go_at_call 55; refine (areKnown_c _ n c l w.heap.size _ HN.out hm (hr.alloc (Nat.le_refl _) _)).mono ?_; rintro e w' ⟨rfl, rfl⟩) | (go_at_call 69; refine (fine_c _ _).mono ?_; rintro e w' ⟨rfl, rfl⟩) | (go_at_call 61; refine (between_c _ _ _ _).mono ?_; rintro e w' ⟨rfl, rfl⟩))
  clear h1 h2 h3
  refine (leading_c A n c l _ HN.out hm ((hr.alloc (Nat.le_refl _) _).mono (by go_size))).mono ?_
  rintro e w1 ⟨v, rfl, hx, hb1⟩
  obtain ⟨A2, c2, rfl, _⟩ := own_form hx
  have HX := Lib.hid hx; clear hx
  obtain ⟨hc1, hf1⟩ := bcell hb1; have hz1 := hb1.size; (try simp only [World.size_alloc, size_drewN, World.size_setCell, World.size_drew] at hz1 hc1 hf1); have hl1_0 := far (show w.heap.size < w1.heap.size by omega)
  go_wp2_with fail
  refine (vAtI_c A2 n c2 l num den _ HN.out (rd_own HX.out) HK.out hnu hd).mono ?_
  rintro e w2 ⟨rfl, hb2⟩
  obtain ⟨hc2, hf2⟩ := bcell hb2; have hz2 := hb2.size; (try simp only [World.size_alloc, size_drewN, World.size_setCell, World.size_drew] at hz2 hc2 hf2); have hl2_0 := far (show w.heap.size < w2.heap.size by omega)
  generalize hV : vAt l num den = V at *
  have HV := Lib.hid hV; clear hV
  simp only [fr]
  go_wp2_with fail
  refine (isPlainFraction_c V _ hvd).mono ?_
  rintro e w3 ⟨rfl, hb3⟩
  obtain ⟨hc3, hf3⟩ := bcell hb3; have hz3 := hb3.size; (try simp only [World.size_alloc, size_drewN, World.size_setCell, World.size_drew] at hz3 hc3 hf3); have hl3_0 := far (show w.heap.size < w3.heap.size by omega); have hl3_1 := far (show w2.heap.size < w3.heap.size by omega)
  cases hpl : plainB V.1 V.2
  · have HR := Lib.hid (show betw l num den = ((0, 0), 5) by rw [HB.out, hpl]; rfl)
    go_wp2_with fail
    refine bodyPost_ret (v := .tuple #[fr (0, 0), .int .i64 5]) (by simp only [results, Try.results38, fr]; go_simp) rfl ⟨by rw [HR.out], ?_⟩
    (repeat' (first | (with_reducible exact Below.refl _ _) | (with_reducible assumption) | (with_reducible refine below_drewN ?_ _) | (with_reducible refine Below.drew ?_) | (with_reducible refine Below.alloc ?_ ?_ _) | (with_reducible refine Below.setCell ?_ ?_ _) | (with_reducible refine via (by with_reducible assumption) ?_ ?_) | go_size))
  · have HR := Lib.hid (show betw l num den = (V, 0) by rw [HB.out, hpl]; rfl)
    go_wp2_with fail
    refine bodyPost_ret (v := .tuple #[fr V, .int .i64 0]) (by simp only [results, Try.results38, fr]; go_simp) rfl ⟨by rw [HR.out], ?_⟩
    (repeat' (first | (with_reducible exact Below.refl _ _) | (with_reducible assumption) | (with_reducible refine below_drewN ?_ _) | (with_reducible refine Below.drew ?_) | (with_reducible refine Below.alloc ?_ ?_ _) | (with_reducible refine Below.setCell ?_ ?_ _) | (with_reducible refine via (by with_reducible assumption) ?_ ?_) | go_size))

set_option maxRecDepth 100000 in
set_option maxHeartbeats 2000000 in
theorem ValueBetweenS_c (A : Option Addr) (n c : Nat) (l : List Int) (num den : Int) (w : World) (hn : l.length = n) (hm : n ≤ 1048576) (hA : A = none → n = 0) (hr : Rd w w.heap.size 1 icell A l) :
    Calls Try.prog 37 #[.slice A n c, .int .i64 num, .int .i64 den] w fun e w' => e = .returned (.tuple #[fr (betw l num den).1, .int .i64 (betw l num den).2]) ∧ Below w.heap.size w w' := by
  have HN := Lib.hid hn; clear hn
  by_cases hall : knownB l = true ∧ inB den 1 20 = true ∧ inB num (-120) 120 = true
  rotate_left
  · have hp : placeR l num den = 2 := by unfold placeR; rw [if_neg (by simpa [and_assoc] using hall)]
    have HB := Lib.hid (show betw l num den = ((0, 0), 2) by unfold betw; rw [if_neg (by simpa [and_assoc] using hall)])
    go_enter Try.func37, Try.ntmps37
    go_wp2_with ((go_at_call 67; refine (l19Code_c _ n c l num den w.heap.size _ HN.out hm (hr.alloc (Nat.le_refl _) _)).mono ?_; rintro e w' ⟨rfl, rfl⟩))
    refine bodyPost_ret (v := .tuple #[fr (0, 0), .int .i64 2]) (by simp only [results, Try.results37, fr]; go_simp) rfl ⟨by rw [HB.out], ?_⟩
    (repeat' (first | (with_reducible exact Below.refl _ _) | (with_reducible assumption) | (with_reducible refine below_drewN ?_ _) | (with_reducible refine Below.drew ?_) | (with_reducible refine Below.alloc ?_ ?_ _) | (with_reducible refine Below.setCell ?_ ?_ _) | (with_reducible refine via (by with_reducible assumption) ?_ ?_) | go_size))
  obtain ⟨h1, h2, h3⟩ := hall
  have HK := Lib.hid h1
  have hd := inB_iff.1 h2
  have hnu := inB_iff.1 h3
  have hp : placeR l num den = 0 := by unfold placeR; rw [h1, h2, h3]; rfl
  have HB := Lib.hid (show betw l num den = if plainB (vAt l num den).1 (vAt l num den).2 then (vAt l num den, 0) else ((0, 0), 5) by unfold betw; rw [h1, h2, h3]; rfl)
  have hvd := vAt_den (num := num) h1 hd
  go_enter Try.func37, Try.ntmps37
  go_wp2_with ((go_at_call 67; refine (l19Code_c _ n c l num den w.heap.size _ HN.out hm (hr.alloc (Nat.le_refl _) _)).mono ?_; rintro e w' ⟨rfl, rfl⟩))
  clear h1 h2 h3
  refine (l19Leads_c A n c l _ HN.out hm hA ((hr.alloc (Nat.le_refl _) _).mono (by go_size))).mono ?_
  rintro e w1 ⟨v, rfl, hx, hb1⟩
  obtain ⟨A2, c2, rfl, _⟩ := own_form hx
  have HX := Lib.hid hx; clear hx
  obtain ⟨hc1, hf1⟩ := bcell hb1; have hz1 := hb1.size; (try simp only [World.size_alloc, size_drewN, World.size_setCell, World.size_drew] at hz1 hc1 hf1); have hl1_0 := far (show w.heap.size < w1.heap.size by omega)
  go_wp2_with fail
  refine (vAtS_c A2 n c2 l num den _ HN.out (rd_own HX.out) HK.out hnu hd).mono ?_
  rintro e w2 ⟨rfl, hb2⟩
  obtain ⟨hc2, hf2⟩ := bcell hb2; have hz2 := hb2.size; (try simp only [World.size_alloc, size_drewN, World.size_setCell, World.size_drew] at hz2 hc2 hf2); have hl2_0 := far (show w.heap.size < w2.heap.size by omega)
  generalize hV : vAt l num den = V at *
  have HV := Lib.hid hV; clear hV
  simp only [fr]
  go_wp2_with fail
  refine (l19Ok_c V _ hvd).mono ?_
  rintro e w3 ⟨rfl, hb3⟩
  obtain ⟨hc3, hf3⟩ := bcell hb3; have hz3 := hb3.size; (try simp only [World.size_alloc, size_drewN, World.size_setCell, World.size_drew] at hz3 hc3 hf3); have hl3_0 := far (show w.heap.size < w3.heap.size by omega); have hl3_1 := far (show w2.heap.size < w3.heap.size by omega)
  cases hpl : plainB V.1 V.2
  · have HR := Lib.hid (show betw l num den = ((0, 0), 5) by rw [HB.out, hpl]; rfl)
    go_wp2_with fail
    refine bodyPost_ret (v := .tuple #[fr (0, 0), .int .i64 5]) (by simp only [results, Try.results37, fr]; go_simp) rfl ⟨by rw [HR.out], ?_⟩
    (repeat' (first | (with_reducible exact Below.refl _ _) | (with_reducible assumption) | (with_reducible refine below_drewN ?_ _) | (with_reducible refine Below.drew ?_) | (with_reducible refine Below.alloc ?_ ?_ _) | (with_reducible refine Below.setCell ?_ ?_ _) | (with_reducible refine via (by with_reducible assumption) ?_ ?_) | go_size))
  · have HR := Lib.hid (show betw l num den = (V, 0) by rw [HB.out, hpl]; rfl)
    go_wp2_with fail
    refine bodyPost_ret (v := .tuple #[fr V, .int .i64 0]) (by simp only [results, Try.results37, fr]; go_simp) rfl ⟨by rw [HR.out], ?_⟩
    (repeat' (first | (with_reducible exact Below.refl _ _) | (with_reducible assumption) | (with_reducible refine below_drewN ?_ _) | (with_reducible refine Below.drew ?_) | (with_reducible refine Below.alloc ?_ ?_ _) | (with_reducible refine Below.setCell ?_ ?_ _) | (with_reducible refine via (by with_reducible assumption) ?_ ?_) | go_size))

end Go.Proofs.Ytphckllloiogjaa
