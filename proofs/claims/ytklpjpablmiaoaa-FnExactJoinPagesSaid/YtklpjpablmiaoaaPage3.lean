/- Contracts: the value at an argument, both sides. -/
import Derived.Test.YtklpjpablmiaoaaPage2
import Derived.Deep.DeepCutAuto
set_option linter.unusedVariables false
set_option linter.unusedSimpArgs false
namespace Go.Proofs.Ytklpjpablmiaoaa
open Go.RowKit

def atV (s : ByteArray) (f t : Int) (l : List Int) (a : Int) : Int × Int :=
  if pageB s f t l = false then (0, 1) else if inB a f (f + ((l.length : Int) - 1) * t) = false then (0, 2) else if ¬ (a - f) % t = 0 then (0, 3) else ((l[((a - f) / t).toNat]?).getD 0, 0)

theorem pageB_bd {s : ByteArray} {f t : Int} {l : List Int} (h : pageB s f t l = true) : (-1000000 ≤ f ∧ f ≤ 1000000) ∧ (1 ≤ t ∧ t ≤ 1000) ∧ (1 ≤ l.length ∧ l.length ≤ 60) ∧ f + ((l.length : Int) - 1) * t ≤ 1000000 ∧ nameB s = true ∧ ∀ x ∈ l, -1000000000000 ≤ x ∧ x ≤ 1000000000000 := by
  unfold pageB headB at h
  simp only [Bool.and_eq_true, inB_iff, decide_eq_true_eq] at h
  obtain ⟨⟨⟨⟨⟨h1, h2⟩, h3⟩, h4⟩, h5⟩, h6⟩ := h
  exact ⟨h2, h3, by omega, h5, h1, fun x hx => valB_iff.1 (List.all_eq_true.1 h6 x hx)⟩

theorem quo_bd {d t n : Int} (ht : 1 ≤ t) (hd : 0 ≤ d) (h : d ≤ (n - 1) * t) : 0 ≤ d / t ∧ d / t < n := by
  refine ⟨Int.ediv_nonneg hd (by omega), ?_⟩
  have h1 : d / t ≤ n - 1 := by
    rw [← Int.mul_ediv_cancel (n - 1) (show t ≠ 0 by omega)]
    exact Int.ediv_le_ediv (by omega) h
  omega

set_option maxHeartbeats 2000000 in
theorem ValueAtI_c (s : ByteArray) (f t : Int) (A : Option Addr) (n c : Nat) (l : List Int) (a : Int) (w : World) (hs : s.size ≤ 1048576) (hn : l.length = n) (hm : n ≤ 1048576) (hr : Rd w w.heap.size 1 icell A l) :
    Calls Try.prog 30 #[pg s f t A n c, .int .i64 a] w fun e w' => e = .returned (.tuple #[.int .i64 (atV s f t l a).1, .int .i64 (atV s f t l a).2]) ∧ Below w.heap.size w w' := by
  have HN := Lib.hid hn; clear hn
  unfold pg
  go_enter Try.func30, Try.ntmps30
  go_wp2_with fail
  refine gen_calls fun W hW => ?_
  have hbW : Below w.heap.size w W := by rw [hW.out]; (repeat' (first | (with_reducible exact Below.refl _ _) | (with_reducible assumption) | (with_reducible refine below_drewN ?_ _) | (with_reducible refine Below.drew ?_) | (with_reducible refine Below.alloc ?_ ?_ _) | (with_reducible refine Below.setCell ?_ ?_ _) | (with_reducible refine via (by with_reducible assumption) ?_ ?_) | go_size))
  have hp : PgAt W w.heap.size s f t A n c := by rw [hW.out]; unfold PgAt; simp [go_sem]
  have hlt : w.heap.size < W.heap.size := by rw [hW.out]; simp [go_sem]
  clear hW
  refine (ValidPageI_c s f t A n c l W hs HN.out hm ((hr.below hbW).mono hbW.size)).mono ?_
  rintro e W1 ⟨rfl, hb1⟩
  have hp1 := hp.below hb1 hlt
  have hlt1 : w.heap.size < W1.heap.size := Nat.lt_of_lt_of_le hlt hb1.size
  have hbW1 : Below w.heap.size w W1 := hbW.trans (hb1.mono hbW.size)
  clear hp hb1 hbW hlt
  obtain ⟨W, rfl⟩ : ∃ W' : World, W' = W1 := ⟨_, rfl⟩
  obtain ⟨g0, g1, g2, g3⟩ := hp1
  have hfar := far hlt1
  cases hv : pageB s f t l
  · have HV := Lib.hid hv
    go_wp2_with fail
    refine bodyPost_ret (v := .tuple #[.int .i64 0, .int .i64 1]) (by simp only [results, Try.results30]; go_simp) rfl ⟨by rw [atV, if_pos HV.out], ?_⟩
    (repeat' (first | (with_reducible exact Below.refl _ _) | (with_reducible assumption) | (with_reducible refine below_drewN ?_ _) | (with_reducible refine Below.drew ?_) | (with_reducible refine Below.alloc ?_ ?_ _) | (with_reducible refine Below.setCell ?_ ?_ _) | (with_reducible refine via (by with_reducible assumption) ?_ ?_) | go_size))
  · have HV := Lib.hid hv
    obtain ⟨qf, qt, qn, ql, _, _⟩ := pageB_bd hv
    rw [HN.out] at qn ql
    have hmul := rows_bd (n := (n : Int) - 1) (t := t) (by omega) qt
    have e1 : IntKind.i64.wrap ((n : Int) - 1) = (n : Int) - 1 := IntWalk.i64_in _ (by omega)
    have e2 : IntKind.i64.wrap (((n : Int) - 1) * t) = ((n : Int) - 1) * t := IntWalk.i64_in _ (by omega)
    have e3 : IntKind.i64.wrap (f + ((n : Int) - 1) * t) = f + ((n : Int) - 1) * t := IntWalk.i64_in _ (by omega)
    have HL : Hid (((l.length : Nat) : Int) = (n : Int)) := Lib.hid (by rw [HN.out])
    go_upto_region 3 with fail
    go_cut [19] (fun v wx => v = .bool (!inB a f (f + ((n : Int) - 1) * t)) ∧ Below W.heap.size W wx)
    case first =>
      go_region_held3 (fun w' => (∀ b o, b < W.heap.size → w'.cell? ⟨b, o, none⟩ = W.cell? ⟨b, o, none⟩) ∧ Below W.heap.size W w') (exact old_of (by (repeat' (first | (with_reducible exact Below.refl _ _) | (with_reducible assumption) | (with_reducible refine below_drewN ?_ _) | (with_reducible refine Below.drew ?_) | (with_reducible refine Below.alloc ?_ ?_ _) | (with_reducible refine Below.setCell ?_ ?_ _) | (with_reducible refine via (by with_reducible assumption) ?_ ?_) | go_size)))) (first | ((go_at_call 54; refine (argument_c s f t A n c ((n : Int) - 1) _ qf (by omega)).mono ?_; rintro e wa ⟨rfl, hba⟩; have hSa : Below W.heap.size W wa := (by (repeat' (first | (with_reducible exact Below.refl _ _) | (with_reducible assumption) | (with_reducible refine below_drewN ?_ _) | (with_reducible refine Below.drew ?_) | (with_reducible refine Below.alloc ?_ ?_ _) | (with_reducible refine Below.setCell ?_ ?_ _) | (with_reducible refine via (by with_reducible assumption) ?_ ?_) | go_size))); obtain ⟨hca, hfa⟩ := bcell hSa; have hsa := hSa.size)) | ((go_at_call 40; refine (between_c a f (f + ((n : Int) - 1) * t) _).mono ?_; rintro e wd ⟨rfl, rfl⟩)))
      all_goals
        (go_wp2_with fail; refine Met.intro ?_; apply_assumption; (repeat apply Exists.intro); refine ⟨?_, rfl⟩)
        exact ⟨rfl, by (repeat' (first | (with_reducible exact Below.refl _ _) | (with_reducible assumption) | (with_reducible refine below_drewN ?_ _) | (with_reducible refine Below.drew ?_) | (with_reducible refine Below.alloc ?_ ?_ _) | (with_reducible refine Below.setCell ?_ ?_ _) | (with_reducible refine via (by with_reducible assumption) ?_ ?_) | go_size))⟩
    obtain ⟨W2, rfl⟩ : ∃ w' : World, w' = wc := ⟨_, rfl⟩
    obtain ⟨rfl, hbc⟩ := hcut
    have hp2 := PgAt.below (⟨g0, g1, g2, g3⟩ : PgAt W w.heap.size s f t A n c) hbc hlt1
    have hlt2 : w.heap.size < W2.heap.size := Nat.lt_of_lt_of_le hlt1 hbc.size
    have hbW2 : Below w.heap.size w W2 := hbW1.trans (hbc.mono hbW1.size)
    clear g0 g1 g2 g3 hfar hlt1 hbW1 hbc
    obtain ⟨g0, g1, g2, g3⟩ := hp2
    have hfar := far hlt2
    have hrW : Rd W2 w.heap.size 1 icell A l := hr.below hbW2
    cases hi : inB a f (f + ((n : Int) - 1) * t)
    · have HI := Lib.hid hi
      go_wp2_with fail
      refine bodyPost_ret (v := .tuple #[.int .i64 0, .int .i64 2]) (by simp only [results, Try.results30]; go_simp) rfl ⟨by rw [atV, if_neg (by rw [HV.out]; simp), HL.out, if_pos HI.out], ?_⟩
      (repeat' (first | (with_reducible exact Below.refl _ _) | (with_reducible assumption) | (with_reducible refine below_drewN ?_ _) | (with_reducible refine Below.drew ?_) | (with_reducible refine Below.alloc ?_ ?_ _) | (with_reducible refine Below.setCell ?_ ?_ _) | (with_reducible refine via (by with_reducible assumption) ?_ ?_) | go_size))
    · have HI := Lib.hid hi
      have qa := inB_iff.1 hi
      have e4 : IntKind.i64.wrap (a - f) = a - f := IntWalk.i64_in _ (by omega)
      have n1 : ¬ t = 0 := by omega
      have n2 : (t == 0) = false := by simp [n1]
      have n3 : 0 ≤ a - f := by omega
      have n4 : 1 ≤ t := qt.1
      by_cases hz : (a - f) % t = 0
      · obtain ⟨k1, k2⟩ := quo_bd (n := n) qt.1 n3 (by omega)
        obtain ⟨k, hk⟩ := Int.eq_ofNat_of_zero_le k1
        have HK := Lib.hid hk
        have kn : k < n := by omega
        obtain ⟨b1, off, rfl, _, hc⟩ := hrW.ints' (by rw [HN.out]; omega)
        obtain ⟨x, hx⟩ := get_ex l k (by rw [HN.out]; exact kn)
        have gx := hc k x hx
        have HX := Lib.hid hx; clear hx hc k1 k2
        have HZ := Lib.hid hz
        have p1 : (0 : Int) ≤ (k : Int) := by omega
        have p2 : (k : Int) < (n : Int) := by omega
        go_wp2_with fail
        go_quiet (fail)
        go_wp2_with fail
        refine bodyPost_ret (v := .tuple #[.int .i64 x, .int .i64 0]) (by simp only [results, Try.results30]; go_simp) rfl ⟨by rw [atV, if_neg (by rw [HV.out]; simp), HL.out, if_neg (by rw [HI.out]; simp), if_neg (by rw [HZ.out]; simp), HK.out]; simp [HX.out], ?_⟩
        (repeat' (first | (with_reducible exact Below.refl _ _) | (with_reducible assumption) | (with_reducible refine below_drewN ?_ _) | (with_reducible refine Below.drew ?_) | (with_reducible refine Below.alloc ?_ ?_ _) | (with_reducible refine Below.setCell ?_ ?_ _) | (with_reducible refine via (by with_reducible assumption) ?_ ?_) | go_size))
      · have HZ := Lib.hid hz
        have hz1 : ((a - f) % t == 0) = false := by simp [hz]
        go_wp2_with fail
        refine bodyPost_ret (v := .tuple #[.int .i64 0, .int .i64 3]) (by simp only [results, Try.results30]; go_simp) rfl ⟨by rw [atV, if_neg (by rw [HV.out]; simp), HL.out, if_neg (by rw [HI.out]; simp), if_pos HZ.out], ?_⟩
        (repeat' (first | (with_reducible exact Below.refl _ _) | (with_reducible assumption) | (with_reducible refine below_drewN ?_ _) | (with_reducible refine Below.drew ?_) | (with_reducible refine Below.alloc ?_ ?_ _) | (with_reducible refine Below.setCell ?_ ?_ _) | (with_reducible refine via (by with_reducible assumption) ?_ ?_) | go_size))

set_option maxHeartbeats 2000000 in
theorem ValueAtS_c (s : ByteArray) (f t : Int) (A : Option Addr) (n c : Nat) (l : List Int) (a : Int) (w : World) (hs : s.size ≤ 1048576) (hn : l.length = n) (hm : n ≤ 1048576) (hr : Rd w w.heap.size 1 icell A l) :
    Calls Try.prog 29 #[pg s f t A n c, .int .i64 a] w fun e w' => e = .returned (.tuple #[.int .i64 (atV s f t l a).1, .int .i64 (atV s f t l a).2]) ∧ Below w.heap.size w w' := by
  have HN := Lib.hid hn; clear hn
  unfold pg
  go_enter Try.func29, Try.ntmps29
  go_wp2_with fail
  refine gen_calls fun W hW => ?_
  have hbW : Below w.heap.size w W := by rw [hW.out]; (repeat' (first | (with_reducible exact Below.refl _ _) | (with_reducible assumption) | (with_reducible refine below_drewN ?_ _) | (with_reducible refine Below.drew ?_) | (with_reducible refine Below.alloc ?_ ?_ _) | (with_reducible refine Below.setCell ?_ ?_ _) | (with_reducible refine via (by with_reducible assumption) ?_ ?_) | go_size))
  have hp : PgAt W w.heap.size s f t A n c := by rw [hW.out]; unfold PgAt; simp [go_sem]
  have hlt : w.heap.size < W.heap.size := by rw [hW.out]; simp [go_sem]
  clear hW
  refine (l18Ok_c w.heap.size s f t A n c l w.heap.size W (by unfold maxLen; omega) HN.out hm (hr.below hbW) hp).mono ?_
  rintro e W1 ⟨rfl, m, hW1⟩
  have hp1 : PgAt W1 w.heap.size s f t A n c := by rw [hW1]; exact hp
  have hlt1 : w.heap.size < W1.heap.size := by rw [hW1]; exact hlt
  have hbW1 : Below w.heap.size w W1 := by rw [hW1]; exact below_drewN hbW m
  clear hp hbW hlt hW1
  obtain ⟨W, rfl⟩ : ∃ W' : World, W' = W1 := ⟨_, rfl⟩
  obtain ⟨g0, g1, g2, g3⟩ := hp1
  have hfar := far hlt1
  cases hv : pageB s f t l
  · have HV := Lib.hid hv
    go_wp2_with fail
    refine bodyPost_ret (v := .tuple #[.int .i64 0, .int .i64 1]) (by simp only [results, Try.results29]; go_simp) rfl ⟨by rw [atV, if_pos HV.out], ?_⟩
    (repeat' (first | (with_reducible exact Below.refl _ _) | (with_reducible assumption) | (with_reducible refine below_drewN ?_ _) | (with_reducible refine Below.drew ?_) | (with_reducible refine Below.alloc ?_ ?_ _) | (with_reducible refine Below.setCell ?_ ?_ _) | (with_reducible refine via (by with_reducible assumption) ?_ ?_) | go_size))
  · have HV := Lib.hid hv
    obtain ⟨qf, qt, qn, ql, _, _⟩ := pageB_bd hv
    rw [HN.out] at qn ql
    have hmul := rows_bd (n := (n : Int) - 1) (t := t) (by omega) qt
    have e1 : IntKind.i64.wrap ((n : Int) - 1) = (n : Int) - 1 := IntWalk.i64_in _ (by omega)
    have e2 : IntKind.i64.wrap (((n : Int) - 1) * t) = ((n : Int) - 1) * t := IntWalk.i64_in _ (by omega)
    have e3 : IntKind.i64.wrap (f + ((n : Int) - 1) * t) = f + ((n : Int) - 1) * t := IntWalk.i64_in _ (by omega)
    have HL : Hid (((l.length : Nat) : Int) = (n : Int)) := Lib.hid (by rw [HN.out])
    have hrW : Rd W w.heap.size 1 icell A l := hr.below hbW1
    cases hi : inB a f (f + ((n : Int) - 1) * t)
    · have HI := Lib.hid hi
      go_wp2_with (go_at_call 39; refine (l00In_c _ _ _ _).mono ?_; rintro e w' ⟨rfl, rfl⟩)
      refine bodyPost_ret (v := .tuple #[.int .i64 0, .int .i64 2]) (by simp only [results, Try.results29]; go_simp) rfl ⟨by rw [atV, if_neg (by rw [HV.out]; simp), HL.out, if_pos HI.out], ?_⟩
      (repeat' (first | (with_reducible exact Below.refl _ _) | (with_reducible assumption) | (with_reducible refine below_drewN ?_ _) | (with_reducible refine Below.drew ?_) | (with_reducible refine Below.alloc ?_ ?_ _) | (with_reducible refine Below.setCell ?_ ?_ _) | (with_reducible refine via (by with_reducible assumption) ?_ ?_) | go_size))
    · have HI := Lib.hid hi
      have qa := inB_iff.1 hi
      have e4 : IntKind.i64.wrap (a - f) = a - f := IntWalk.i64_in _ (by omega)
      have n1 : ¬ t = 0 := by omega
      have n2 : (t == 0) = false := by simp [n1]
      have n3 : 0 ≤ a - f := by omega
      have n4 : 1 ≤ t := qt.1
      by_cases hz : (a - f) % t = 0
      · obtain ⟨k1, k2⟩ := quo_bd (n := n) qt.1 n3 (by omega)
        obtain ⟨k, hk⟩ := Int.eq_ofNat_of_zero_le k1
        have HK := Lib.hid hk
        have kn : k < n := by omega
        obtain ⟨b1, off, rfl, _, hc⟩ := hrW.ints' (by rw [HN.out]; omega)
        obtain ⟨x, hx⟩ := get_ex l k (by rw [HN.out]; exact kn)
        have gx := hc k x hx
        have HX := Lib.hid hx; clear hx hc k1 k2
        have HZ := Lib.hid hz
        have p1 : (0 : Int) ≤ (k : Int) := by omega
        have p2 : (k : Int) < (n : Int) := by omega
        go_wp2_with (go_at_call 39; refine (l00In_c _ _ _ _).mono ?_; rintro e w' ⟨rfl, rfl⟩)
        go_quiet (fail)
        go_wp2_with fail
        refine bodyPost_ret (v := .tuple #[.int .i64 x, .int .i64 0]) (by simp only [results, Try.results29]; go_simp) rfl ⟨by rw [atV, if_neg (by rw [HV.out]; simp), HL.out, if_neg (by rw [HI.out]; simp), if_neg (by rw [HZ.out]; simp), HK.out]; simp [HX.out], ?_⟩
        (repeat' (first | (with_reducible exact Below.refl _ _) | (with_reducible assumption) | (with_reducible refine below_drewN ?_ _) | (with_reducible refine Below.drew ?_) | (with_reducible refine Below.alloc ?_ ?_ _) | (with_reducible refine Below.setCell ?_ ?_ _) | (with_reducible refine via (by with_reducible assumption) ?_ ?_) | go_size))
      · have HZ := Lib.hid hz
        have hz1 : ((a - f) % t == 0) = false := by simp [hz]
        go_wp2_with (go_at_call 39; refine (l00In_c _ _ _ _).mono ?_; rintro e w' ⟨rfl, rfl⟩)
        refine bodyPost_ret (v := .tuple #[.int .i64 0, .int .i64 3]) (by simp only [results, Try.results29]; go_simp) rfl ⟨by rw [atV, if_neg (by rw [HV.out]; simp), HL.out, if_neg (by rw [HI.out]; simp), if_pos HZ.out], ?_⟩
        (repeat' (first | (with_reducible exact Below.refl _ _) | (with_reducible assumption) | (with_reducible refine below_drewN ?_ _) | (with_reducible refine Below.drew ?_) | (with_reducible refine Below.alloc ?_ ?_ _) | (with_reducible refine Below.setCell ?_ ?_ _) | (with_reducible refine via (by with_reducible assumption) ?_ ?_) | go_size))

end Go.Proofs.Ytklpjpablmiaoaa
