/- Contracts: registers and trials compared. -/
import Derived.Test.YtaebofpgdonnbaaTrials3
import Derived.Test.YtaebofpgdonnbaaSameInts
import Derived.Test.YtaebofpgdonnbaaNames
set_option linter.unusedVariables false
set_option linter.unusedSimpArgs false
namespace Go.Proofs.Ytaebofpgdonnbaa
open Go.RowKit

def regEq (r r' : RegD) : Bool := (r.base == r'.base) && (r.digs == r'.digs)
def trEq (x y : TrD) : Bool := regEq x.a y.a && regEq x.b y.b && regEq x.s y.s && (x.ca == y.ca)
def sameT (l l' : List TrD) : Bool := decide (l.length = l'.length) && (List.range l.length).all fun i => trEq (getT l i) (getT l' i)
theorem sameT_no {l l' : List TrD} (h : ¬ l.length = l'.length) : sameT l l' = false := by unfold sameT; rw [decide_eq_false h]; rfl
theorem all_no (p : Nat → Bool) (n k : Nat) (hk : k < n) (h : p k = false) : (List.range n).all p = false := by
  rw [Bool.eq_false_iff]
  intro hc
  have := List.all_eq_true.1 hc k (List.mem_range.2 hk)
  rw [h] at this
  cases this
theorem sameT_at {l l' : List TrD} {k : Nat} (hk : k < l.length) (h : trEq (getT l k) (getT l' k) = false) : sameT l l' = false := by unfold sameT; rw [all_no _ _ k hk h, Bool.and_false]
theorem sameT_yes {l l' : List TrD} {n : Nat} (h1 : l.length = n) (h2 : l'.length = n) (h : ((List.range n).all fun i => trEq (getT l i) (getT l' i)) = true) : sameT l l' = true := by unfold sameT; rw [h1, h2, h, decide_eq_true rfl]; rfl

theorem SameRegister_c (r r' : RegD) (A A' : Option Addr) (c c' : Nat) (B : Nat) (w : World) (hm : r.digs.length ≤ maxLen) (hm' : r'.digs.length ≤ maxLen) (hB : B ≤ w.heap.size) (hr : Rd w B 1 icell A r.digs) (hr' : Rd w B 1 icell A' r'.digs) :
    Calls Try.prog 50 #[ragg r A c, ragg r' A' c'] w fun e w' => e = .returned (.bool (regEq r r')) ∧ Below w.heap.size w w' := by
  simp only [ragg]
  cases h1 : (r.base == r'.base)
  · have HF := Lib.hid (show regEq r r' = false by unfold regEq; rw [h1]; rfl)
    go_enter Try.func50, Try.ntmps50
    go_wp2_with fail
    go_ret
    exact ⟨ret_bool HF.out.symm, by (repeat' (first | (with_reducible exact Below.refl _ _) | (with_reducible assumption) | (with_reducible refine below_drewN ?_ _) | (with_reducible refine Below.drew ?_) | (with_reducible refine Below.alloc ?_ ?_ _) | (with_reducible refine Below.setCell ?_ ?_ _) | (with_reducible refine via (by with_reducible assumption) ?_ ?_) | go_size))⟩
  cases h2 : (r.digs == r'.digs)
  · have HF := Lib.hid (show regEq r r' = false by unfold regEq; rw [h1, h2]; rfl)
    replace h2 := Lib.hid h2
    go_enter Try.func50, Try.ntmps50
    go_wp2_with fail
    refine (to_below (retb (sameNumbers_c A A' r.digs.length r'.digs.length c c' r.digs r'.digs B _ rfl rfl hm hm' (hr.below (by (repeat' (first | (with_reducible exact Below.refl _ _) | (with_reducible assumption) | (with_reducible refine below_drewN ?_ _) | (with_reducible refine Below.drew ?_) | (with_reducible refine Below.alloc ?_ ?_ _) | (with_reducible refine Below.setCell ?_ ?_ _) | (with_reducible refine via (by with_reducible assumption) ?_ ?_) | go_size)))) (hr'.below (by (repeat' (first | (with_reducible exact Below.refl _ _) | (with_reducible assumption) | (with_reducible refine below_drewN ?_ _) | (with_reducible refine Below.drew ?_) | (with_reducible refine Below.alloc ?_ ?_ _) | (with_reducible refine Below.setCell ?_ ?_ _) | (with_reducible refine via (by with_reducible assumption) ?_ ?_) | go_size))))) h2.out)).mono ?_
    rintro e w1 ⟨rfl, hb1⟩
    go_wp2_with fail
    go_ret
    exact ⟨ret_bool HF.out.symm, by (repeat' (first | (with_reducible exact Below.refl _ _) | (with_reducible assumption) | (with_reducible refine below_drewN ?_ _) | (with_reducible refine Below.drew ?_) | (with_reducible refine Below.alloc ?_ ?_ _) | (with_reducible refine Below.setCell ?_ ?_ _) | (with_reducible refine via (by with_reducible assumption) ?_ ?_) | go_size))⟩
  · have HF := Lib.hid (show regEq r r' = true by unfold regEq; rw [h1, h2]; rfl)
    replace h2 := Lib.hid h2
    go_enter Try.func50, Try.ntmps50
    go_wp2_with fail
    refine (to_below (retb (sameNumbers_c A A' r.digs.length r'.digs.length c c' r.digs r'.digs B _ rfl rfl hm hm' (hr.below (by (repeat' (first | (with_reducible exact Below.refl _ _) | (with_reducible assumption) | (with_reducible refine below_drewN ?_ _) | (with_reducible refine Below.drew ?_) | (with_reducible refine Below.alloc ?_ ?_ _) | (with_reducible refine Below.setCell ?_ ?_ _) | (with_reducible refine via (by with_reducible assumption) ?_ ?_) | go_size)))) (hr'.below (by (repeat' (first | (with_reducible exact Below.refl _ _) | (with_reducible assumption) | (with_reducible refine below_drewN ?_ _) | (with_reducible refine Below.drew ?_) | (with_reducible refine Below.alloc ?_ ?_ _) | (with_reducible refine Below.setCell ?_ ?_ _) | (with_reducible refine via (by with_reducible assumption) ?_ ?_) | go_size))))) h2.out)).mono ?_
    rintro e w1 ⟨rfl, hb1⟩
    go_wp2_with fail
    go_ret
    exact ⟨ret_bool HF.out.symm, by (repeat' (first | (with_reducible exact Below.refl _ _) | (with_reducible assumption) | (with_reducible refine below_drewN ?_ _) | (with_reducible refine Below.drew ?_) | (with_reducible refine Below.alloc ?_ ?_ _) | (with_reducible refine Below.setCell ?_ ?_ _) | (with_reducible refine via (by with_reducible assumption) ?_ ?_) | go_size))⟩

set_option maxHeartbeats 1000000 in
theorem l02Same_c (r r' : RegD) (b o b' o' : Nat) (B : Nat) (w : World) (hm : r.digs.length ≤ maxLen) (hm' : r'.digs.length ≤ maxLen) (hB : B ≤ w.heap.size) (hb : b < B) (hb' : b' < B) (hr : RegAt w B b o r) (hr' : RegAt w B b' o' r') :
    Calls Try.prog 48 #[.pointer (some ⟨b, o, none⟩), .pointer (some ⟨b', o', none⟩)] w fun e w' => e = .returned (.bool (regEq r r')) ∧ Below w.heap.size w w' := by
  obtain ⟨g0, A, c, g1, g2⟩ := hr
  obtain ⟨m0, A', c', m1, m2⟩ := hr'
  have G2 := Lib.hid g2; have M2 := Lib.hid m2
  clear g2 m2
  have hf1 := far (show b < w.heap.size by omega)
  have hf2 := far (show b' < w.heap.size by omega)
  cases h1 : (r.base == r'.base)
  · have HF := Lib.hid (show regEq r r' = false by unfold regEq; rw [h1]; rfl)
    go_enter Try.func48, Try.ntmps48
    go_wp2_with fail
    (refine wp_region_quiet_below (by kernel_rfl) (by kernel_rfl) ?_; (repeat (go_big_quiet_step (first | fail))); refine wpQuiet_nil ?_; refine qg_end ?_; intro wq hbq)
    go_wp2_with fail
    go_ret
    exact ⟨ret_bool HF.out.symm, by (repeat' (first | (with_reducible exact Below.refl _ _) | (with_reducible assumption) | (with_reducible refine below_drewN ?_ _) | (with_reducible refine Below.drew ?_) | (with_reducible refine Below.alloc ?_ ?_ _) | (with_reducible refine Below.setCell ?_ ?_ _) | (with_reducible refine via (by with_reducible assumption) ?_ ?_) | go_size))⟩
  cases h2 : (r.digs == r'.digs)
  · have HF := Lib.hid (show regEq r r' = false by unfold regEq; rw [h1, h2]; rfl)
    replace h2 := Lib.hid h2
    go_enter Try.func48, Try.ntmps48
    go_wp2_with fail
    (refine wp_region_quiet_below (by kernel_rfl) (by kernel_rfl) ?_; (repeat (go_big_quiet_step (first | ((go_at_call 58; exact rg_drawn (fun w' hb => retb (l00Same_c A A' r.digs.length r'.digs.length c c' r.digs r'.digs B w' rfl rfl hm hm' (G2.out.below (hb.mono hB)) (M2.out.below (hb.mono hB))) h2.out)))))); refine wpQuiet_nil ?_; refine qg_end ?_; intro wq hbq)
    go_wp2_with fail
    go_ret
    exact ⟨ret_bool HF.out.symm, by (repeat' (first | (with_reducible exact Below.refl _ _) | (with_reducible assumption) | (with_reducible refine below_drewN ?_ _) | (with_reducible refine Below.drew ?_) | (with_reducible refine Below.alloc ?_ ?_ _) | (with_reducible refine Below.setCell ?_ ?_ _) | (with_reducible refine via (by with_reducible assumption) ?_ ?_) | go_size))⟩
  · have HF := Lib.hid (show regEq r r' = true by unfold regEq; rw [h1, h2]; rfl)
    replace h2 := Lib.hid h2
    go_enter Try.func48, Try.ntmps48
    go_wp2_with fail
    (refine wp_region_quiet_below (by kernel_rfl) (by kernel_rfl) ?_; (repeat (go_big_quiet_step (first | ((go_at_call 58; exact rg_drawn (fun w' hb => retb (l00Same_c A A' r.digs.length r'.digs.length c c' r.digs r'.digs B w' rfl rfl hm hm' (G2.out.below (hb.mono hB)) (M2.out.below (hb.mono hB))) h2.out)))))); refine wpQuiet_nil ?_; refine qg_end ?_; intro wq hbq)
    go_wp2_with fail
    go_ret
    exact ⟨ret_bool HF.out.symm, by (repeat' (first | (with_reducible exact Below.refl _ _) | (with_reducible assumption) | (with_reducible refine below_drewN ?_ _) | (with_reducible refine Below.drew ?_) | (with_reducible refine Below.alloc ?_ ?_ _) | (with_reducible refine Below.setCell ?_ ?_ _) | (with_reducible refine via (by with_reducible assumption) ?_ ?_) | go_size))⟩

set_option maxRecDepth 100000 in
set_option maxHeartbeats 4000000 in
theorem same_c (x y : TrD) (A1 : Option Addr) (c1 : Nat) (A2 : Option Addr) (c2 : Nat) (A3 : Option Addr) (c3 : Nat) (B1 : Option Addr) (e1 : Nat) (B2 : Option Addr) (e2 : Nat) (B3 : Option Addr) (e3 : Nat) (B : Nat) (w : World) (hd : okTD x) (hd' : okTD y) (hB : B ≤ w.heap.size)
    (h1 : Rd w B 1 icell A1 x.a.digs) (h2 : Rd w B 1 icell A2 x.b.digs) (h3 : Rd w B 1 icell A3 x.s.digs) (k1 : Rd w B 1 icell B1 y.a.digs) (k2 : Rd w B 1 icell B2 y.b.digs) (k3 : Rd w B 1 icell B3 y.s.digs) :
    Calls Try.prog 34 #[tagg x A1 c1 A2 c2 A3 c3, tagg y B1 e1 B2 e2 B3 e3] w fun e w' => e = .returned (.bool (trEq x y)) ∧ Below w.heap.size w w' := by
  obtain ⟨d1, d2, d3⟩ := hd
  obtain ⟨d1', d2', d3'⟩ := hd'
  have L1 := Lib.hid (show ∀ w', Below w.heap.size w w' → Rd w' w.heap.size 1 icell A1 x.a.digs ∧ Rd w' w.heap.size 1 icell B1 y.a.digs from fun w' hb => ⟨(h1.mono hB).below hb, (k1.mono hB).below hb⟩)
  have L2 := Lib.hid (show ∀ w', Below w.heap.size w w' → Rd w' w.heap.size 1 icell A2 x.b.digs ∧ Rd w' w.heap.size 1 icell B2 y.b.digs from fun w' hb => ⟨(h2.mono hB).below hb, (k2.mono hB).below hb⟩)
  have L3 := Lib.hid (show ∀ w', Below w.heap.size w w' → Rd w' w.heap.size 1 icell A3 x.s.digs ∧ Rd w' w.heap.size 1 icell B3 y.s.digs from fun w' hb => ⟨(h3.mono hB).below hb, (k3.mono hB).below hb⟩)
  clear h1 h2 h3 k1 k2 k3
  simp only [tagg]
  go_enter Try.func34, Try.ntmps34
  cases t0 : regEq x.a y.a
  · have HF := Lib.hid (show trEq x y = false by unfold trEq; rw [t0]; rfl)
    replace t0 := Lib.hid t0
    go_wp2_with fail
    refine gen_calls fun V hV => ?_
    have hbV : Below w.heap.size w V := by rw [hV.out]; (repeat' (first | (with_reducible exact Below.refl _ _) | (with_reducible assumption) | (with_reducible refine below_drewN ?_ _) | (with_reducible refine Below.drew ?_) | (with_reducible refine Below.alloc ?_ ?_ _) | (with_reducible refine Below.setCell ?_ ?_ _) | (with_reducible refine via (by with_reducible assumption) ?_ ?_) | go_size))
    have hVz : V.heap.size = w.heap.size + 1 + 1 := by rw [hV.out]; simp [go_sem]
    have x0 : V.cell? ⟨w.heap.size, 0, none⟩ = some (.int .i64 x.a.base) := by rw [hV.out]; simp [go_sem]
    have y0 : V.cell? ⟨w.heap.size + 1, 0, none⟩ = some (.int .i64 y.a.base) := by rw [hV.out]; simp [go_sem]
    have x1 : V.cell? ⟨w.heap.size, 1, none⟩ = some (.slice A1 x.a.digs.length c1) := by rw [hV.out]; simp [go_sem]
    have y1 : V.cell? ⟨w.heap.size + 1, 1, none⟩ = some (.slice B1 y.a.digs.length e1) := by rw [hV.out]; simp [go_sem]
    have x2 : V.cell? ⟨w.heap.size, 2, none⟩ = some (.int .i64 x.b.base) := by rw [hV.out]; simp [go_sem]
    have y2 : V.cell? ⟨w.heap.size + 1, 2, none⟩ = some (.int .i64 y.b.base) := by rw [hV.out]; simp [go_sem]
    have x3 : V.cell? ⟨w.heap.size, 3, none⟩ = some (.slice A2 x.b.digs.length c2) := by rw [hV.out]; simp [go_sem]
    have y3 : V.cell? ⟨w.heap.size + 1, 3, none⟩ = some (.slice B2 y.b.digs.length e2) := by rw [hV.out]; simp [go_sem]
    have x4 : V.cell? ⟨w.heap.size, 4, none⟩ = some (.int .i64 x.s.base) := by rw [hV.out]; simp [go_sem]
    have y4 : V.cell? ⟨w.heap.size + 1, 4, none⟩ = some (.int .i64 y.s.base) := by rw [hV.out]; simp [go_sem]
    have x5 : V.cell? ⟨w.heap.size, 5, none⟩ = some (.slice A3 x.s.digs.length c3) := by rw [hV.out]; simp [go_sem]
    have y5 : V.cell? ⟨w.heap.size + 1, 5, none⟩ = some (.slice B3 y.s.digs.length e3) := by rw [hV.out]; simp [go_sem]
    have x6 : V.cell? ⟨w.heap.size, 6, none⟩ = some (.int .i64 x.ca) := by rw [hV.out]; simp [go_sem]
    have y6 : V.cell? ⟨w.heap.size + 1, 6, none⟩ = some (.int .i64 y.ca) := by rw [hV.out]; simp [go_sem]
    clear hV
    refine (retb (SameRegister_c x.a y.a A1 B1 c1 e1 w.heap.size V d1 d1' hbV.size (L1.out _ hbV).1 (L1.out _ hbV).2) t0.out).mono ?_
    rintro e w1 ⟨rfl, hb1⟩
    have hbw1 : Below w.heap.size w w1 := hbV.trans (hb1.mono hbV.size)
    obtain ⟨hc1, _⟩ := bcell hb1
    have hz1 := hb1.size
    rw [← hc1 _ _ (by omega)] at x0 y0
    rw [← hc1 _ _ (by omega)] at x1 y1
    rw [← hc1 _ _ (by omega)] at x2 y2
    rw [← hc1 _ _ (by omega)] at x3 y3
    rw [← hc1 _ _ (by omega)] at x4 y4
    rw [← hc1 _ _ (by omega)] at x5 y5
    rw [← hc1 _ _ (by omega)] at x6 y6
    clear hc1
    go_wp2_with fail
    go_ret
    exact ⟨ret_bool HF.out.symm, by (repeat' (first | (with_reducible exact Below.refl _ _) | (with_reducible assumption) | (with_reducible refine below_drewN ?_ _) | (with_reducible refine Below.drew ?_) | (with_reducible refine Below.alloc ?_ ?_ _) | (with_reducible refine Below.setCell ?_ ?_ _) | (with_reducible refine via (by with_reducible assumption) ?_ ?_) | go_size))⟩
  cases t1 : regEq x.b y.b
  · have HF := Lib.hid (show trEq x y = false by unfold trEq; rw [t0, t1]; rfl)
    replace t0 := Lib.hid t0
    replace t1 := Lib.hid t1
    go_wp2_with fail
    refine gen_calls fun V hV => ?_
    have hbV : Below w.heap.size w V := by rw [hV.out]; (repeat' (first | (with_reducible exact Below.refl _ _) | (with_reducible assumption) | (with_reducible refine below_drewN ?_ _) | (with_reducible refine Below.drew ?_) | (with_reducible refine Below.alloc ?_ ?_ _) | (with_reducible refine Below.setCell ?_ ?_ _) | (with_reducible refine via (by with_reducible assumption) ?_ ?_) | go_size))
    have hVz : V.heap.size = w.heap.size + 1 + 1 := by rw [hV.out]; simp [go_sem]
    have x0 : V.cell? ⟨w.heap.size, 0, none⟩ = some (.int .i64 x.a.base) := by rw [hV.out]; simp [go_sem]
    have y0 : V.cell? ⟨w.heap.size + 1, 0, none⟩ = some (.int .i64 y.a.base) := by rw [hV.out]; simp [go_sem]
    have x1 : V.cell? ⟨w.heap.size, 1, none⟩ = some (.slice A1 x.a.digs.length c1) := by rw [hV.out]; simp [go_sem]
    have y1 : V.cell? ⟨w.heap.size + 1, 1, none⟩ = some (.slice B1 y.a.digs.length e1) := by rw [hV.out]; simp [go_sem]
    have x2 : V.cell? ⟨w.heap.size, 2, none⟩ = some (.int .i64 x.b.base) := by rw [hV.out]; simp [go_sem]
    have y2 : V.cell? ⟨w.heap.size + 1, 2, none⟩ = some (.int .i64 y.b.base) := by rw [hV.out]; simp [go_sem]
    have x3 : V.cell? ⟨w.heap.size, 3, none⟩ = some (.slice A2 x.b.digs.length c2) := by rw [hV.out]; simp [go_sem]
    have y3 : V.cell? ⟨w.heap.size + 1, 3, none⟩ = some (.slice B2 y.b.digs.length e2) := by rw [hV.out]; simp [go_sem]
    have x4 : V.cell? ⟨w.heap.size, 4, none⟩ = some (.int .i64 x.s.base) := by rw [hV.out]; simp [go_sem]
    have y4 : V.cell? ⟨w.heap.size + 1, 4, none⟩ = some (.int .i64 y.s.base) := by rw [hV.out]; simp [go_sem]
    have x5 : V.cell? ⟨w.heap.size, 5, none⟩ = some (.slice A3 x.s.digs.length c3) := by rw [hV.out]; simp [go_sem]
    have y5 : V.cell? ⟨w.heap.size + 1, 5, none⟩ = some (.slice B3 y.s.digs.length e3) := by rw [hV.out]; simp [go_sem]
    have x6 : V.cell? ⟨w.heap.size, 6, none⟩ = some (.int .i64 x.ca) := by rw [hV.out]; simp [go_sem]
    have y6 : V.cell? ⟨w.heap.size + 1, 6, none⟩ = some (.int .i64 y.ca) := by rw [hV.out]; simp [go_sem]
    clear hV
    refine (retb (SameRegister_c x.a y.a A1 B1 c1 e1 w.heap.size V d1 d1' hbV.size (L1.out _ hbV).1 (L1.out _ hbV).2) t0.out).mono ?_
    rintro e w1 ⟨rfl, hb1⟩
    have hbw1 : Below w.heap.size w w1 := hbV.trans (hb1.mono hbV.size)
    obtain ⟨hc1, _⟩ := bcell hb1
    have hz1 := hb1.size
    rw [← hc1 _ _ (by omega)] at x0 y0
    rw [← hc1 _ _ (by omega)] at x1 y1
    rw [← hc1 _ _ (by omega)] at x2 y2
    rw [← hc1 _ _ (by omega)] at x3 y3
    rw [← hc1 _ _ (by omega)] at x4 y4
    rw [← hc1 _ _ (by omega)] at x5 y5
    rw [← hc1 _ _ (by omega)] at x6 y6
    clear hc1
    go_wp2_with fail
    refine (retb (SameRegister_c x.b y.b A2 B2 c2 e2 w.heap.size w1 d2 d2' hbw1.size (L2.out _ hbw1).1 (L2.out _ hbw1).2) t1.out).mono ?_
    rintro e w2 ⟨rfl, hb2⟩
    have hbw2 : Below w.heap.size w w2 := hbw1.trans (hb2.mono hbw1.size)
    obtain ⟨hc2, _⟩ := bcell hb2
    have hz2 := hb2.size
    rw [← hc2 _ _ (by omega)] at x0 y0
    rw [← hc2 _ _ (by omega)] at x1 y1
    rw [← hc2 _ _ (by omega)] at x2 y2
    rw [← hc2 _ _ (by omega)] at x3 y3
    rw [← hc2 _ _ (by omega)] at x4 y4
    rw [← hc2 _ _ (by omega)] at x5 y5
    rw [← hc2 _ _ (by omega)] at x6 y6
    clear hc2
    go_wp2_with fail
    go_ret
    exact ⟨ret_bool HF.out.symm, by (repeat' (first | (with_reducible exact Below.refl _ _) | (with_reducible assumption) | (with_reducible refine below_drewN ?_ _) | (with_reducible refine Below.drew ?_) | (with_reducible refine Below.alloc ?_ ?_ _) | (with_reducible refine Below.setCell ?_ ?_ _) | (with_reducible refine via (by with_reducible assumption) ?_ ?_) | go_size))⟩
  cases t2 : regEq x.s y.s
  · have HF := Lib.hid (show trEq x y = false by unfold trEq; rw [t0, t1, t2]; rfl)
    replace t0 := Lib.hid t0
    replace t1 := Lib.hid t1
    replace t2 := Lib.hid t2
    go_wp2_with fail
    refine gen_calls fun V hV => ?_
    have hbV : Below w.heap.size w V := by rw [hV.out]; (repeat' (first | (with_reducible exact Below.refl _ _) | (with_reducible assumption) | (with_reducible refine below_drewN ?_ _) | (with_reducible refine Below.drew ?_) | (with_reducible refine Below.alloc ?_ ?_ _) | (with_reducible refine Below.setCell ?_ ?_ _) | (with_reducible refine via (by with_reducible assumption) ?_ ?_) | go_size))
    have hVz : V.heap.size = w.heap.size + 1 + 1 := by rw [hV.out]; simp [go_sem]
    have x0 : V.cell? ⟨w.heap.size, 0, none⟩ = some (.int .i64 x.a.base) := by rw [hV.out]; simp [go_sem]
    have y0 : V.cell? ⟨w.heap.size + 1, 0, none⟩ = some (.int .i64 y.a.base) := by rw [hV.out]; simp [go_sem]
    have x1 : V.cell? ⟨w.heap.size, 1, none⟩ = some (.slice A1 x.a.digs.length c1) := by rw [hV.out]; simp [go_sem]
    have y1 : V.cell? ⟨w.heap.size + 1, 1, none⟩ = some (.slice B1 y.a.digs.length e1) := by rw [hV.out]; simp [go_sem]
    have x2 : V.cell? ⟨w.heap.size, 2, none⟩ = some (.int .i64 x.b.base) := by rw [hV.out]; simp [go_sem]
    have y2 : V.cell? ⟨w.heap.size + 1, 2, none⟩ = some (.int .i64 y.b.base) := by rw [hV.out]; simp [go_sem]
    have x3 : V.cell? ⟨w.heap.size, 3, none⟩ = some (.slice A2 x.b.digs.length c2) := by rw [hV.out]; simp [go_sem]
    have y3 : V.cell? ⟨w.heap.size + 1, 3, none⟩ = some (.slice B2 y.b.digs.length e2) := by rw [hV.out]; simp [go_sem]
    have x4 : V.cell? ⟨w.heap.size, 4, none⟩ = some (.int .i64 x.s.base) := by rw [hV.out]; simp [go_sem]
    have y4 : V.cell? ⟨w.heap.size + 1, 4, none⟩ = some (.int .i64 y.s.base) := by rw [hV.out]; simp [go_sem]
    have x5 : V.cell? ⟨w.heap.size, 5, none⟩ = some (.slice A3 x.s.digs.length c3) := by rw [hV.out]; simp [go_sem]
    have y5 : V.cell? ⟨w.heap.size + 1, 5, none⟩ = some (.slice B3 y.s.digs.length e3) := by rw [hV.out]; simp [go_sem]
    have x6 : V.cell? ⟨w.heap.size, 6, none⟩ = some (.int .i64 x.ca) := by rw [hV.out]; simp [go_sem]
    have y6 : V.cell? ⟨w.heap.size + 1, 6, none⟩ = some (.int .i64 y.ca) := by rw [hV.out]; simp [go_sem]
    clear hV
    refine (retb (SameRegister_c x.a y.a A1 B1 c1 e1 w.heap.size V d1 d1' hbV.size (L1.out _ hbV).1 (L1.out _ hbV).2) t0.out).mono ?_
    rintro e w1 ⟨rfl, hb1⟩
    have hbw1 : Below w.heap.size w w1 := hbV.trans (hb1.mono hbV.size)
    obtain ⟨hc1, _⟩ := bcell hb1
    have hz1 := hb1.size
    rw [← hc1 _ _ (by omega)] at x0 y0
    rw [← hc1 _ _ (by omega)] at x1 y1
    rw [← hc1 _ _ (by omega)] at x2 y2
    rw [← hc1 _ _ (by omega)] at x3 y3
    rw [← hc1 _ _ (by omega)] at x4 y4
    rw [← hc1 _ _ (by omega)] at x5 y5
    rw [← hc1 _ _ (by omega)] at x6 y6
    clear hc1
    go_wp2_with fail
    refine (retb (SameRegister_c x.b y.b A2 B2 c2 e2 w.heap.size w1 d2 d2' hbw1.size (L2.out _ hbw1).1 (L2.out _ hbw1).2) t1.out).mono ?_
    rintro e w2 ⟨rfl, hb2⟩
    have hbw2 : Below w.heap.size w w2 := hbw1.trans (hb2.mono hbw1.size)
    obtain ⟨hc2, _⟩ := bcell hb2
    have hz2 := hb2.size
    rw [← hc2 _ _ (by omega)] at x0 y0
    rw [← hc2 _ _ (by omega)] at x1 y1
    rw [← hc2 _ _ (by omega)] at x2 y2
    rw [← hc2 _ _ (by omega)] at x3 y3
    rw [← hc2 _ _ (by omega)] at x4 y4
    rw [← hc2 _ _ (by omega)] at x5 y5
    rw [← hc2 _ _ (by omega)] at x6 y6
    clear hc2
    go_wp2_with fail
    refine (retb (SameRegister_c x.s y.s A3 B3 c3 e3 w.heap.size w2 d3 d3' hbw2.size (L3.out _ hbw2).1 (L3.out _ hbw2).2) t2.out).mono ?_
    rintro e w3 ⟨rfl, hb3⟩
    have hbw3 : Below w.heap.size w w3 := hbw2.trans (hb3.mono hbw2.size)
    obtain ⟨hc3, _⟩ := bcell hb3
    have hz3 := hb3.size
    rw [← hc3 _ _ (by omega)] at x0 y0
    rw [← hc3 _ _ (by omega)] at x1 y1
    rw [← hc3 _ _ (by omega)] at x2 y2
    rw [← hc3 _ _ (by omega)] at x3 y3
    rw [← hc3 _ _ (by omega)] at x4 y4
    rw [← hc3 _ _ (by omega)] at x5 y5
    rw [← hc3 _ _ (by omega)] at x6 y6
    clear hc3
    go_wp2_with fail
    go_ret
    exact ⟨ret_bool HF.out.symm, by (repeat' (first | (with_reducible exact Below.refl _ _) | (with_reducible assumption) | (with_reducible refine below_drewN ?_ _) | (with_reducible refine Below.drew ?_) | (with_reducible refine Below.alloc ?_ ?_ _) | (with_reducible refine Below.setCell ?_ ?_ _) | (with_reducible refine via (by with_reducible assumption) ?_ ?_) | go_size))⟩
  cases t3 : (x.ca == y.ca)
  · have HF := Lib.hid (show trEq x y = false by unfold trEq; rw [t0, t1, t2, t3]; rfl)
    replace t0 := Lib.hid t0
    replace t1 := Lib.hid t1
    replace t2 := Lib.hid t2
    go_wp2_with fail
    refine gen_calls fun V hV => ?_
    have hbV : Below w.heap.size w V := by rw [hV.out]; (repeat' (first | (with_reducible exact Below.refl _ _) | (with_reducible assumption) | (with_reducible refine below_drewN ?_ _) | (with_reducible refine Below.drew ?_) | (with_reducible refine Below.alloc ?_ ?_ _) | (with_reducible refine Below.setCell ?_ ?_ _) | (with_reducible refine via (by with_reducible assumption) ?_ ?_) | go_size))
    have hVz : V.heap.size = w.heap.size + 1 + 1 := by rw [hV.out]; simp [go_sem]
    have x0 : V.cell? ⟨w.heap.size, 0, none⟩ = some (.int .i64 x.a.base) := by rw [hV.out]; simp [go_sem]
    have y0 : V.cell? ⟨w.heap.size + 1, 0, none⟩ = some (.int .i64 y.a.base) := by rw [hV.out]; simp [go_sem]
    have x1 : V.cell? ⟨w.heap.size, 1, none⟩ = some (.slice A1 x.a.digs.length c1) := by rw [hV.out]; simp [go_sem]
    have y1 : V.cell? ⟨w.heap.size + 1, 1, none⟩ = some (.slice B1 y.a.digs.length e1) := by rw [hV.out]; simp [go_sem]
    have x2 : V.cell? ⟨w.heap.size, 2, none⟩ = some (.int .i64 x.b.base) := by rw [hV.out]; simp [go_sem]
    have y2 : V.cell? ⟨w.heap.size + 1, 2, none⟩ = some (.int .i64 y.b.base) := by rw [hV.out]; simp [go_sem]
    have x3 : V.cell? ⟨w.heap.size, 3, none⟩ = some (.slice A2 x.b.digs.length c2) := by rw [hV.out]; simp [go_sem]
    have y3 : V.cell? ⟨w.heap.size + 1, 3, none⟩ = some (.slice B2 y.b.digs.length e2) := by rw [hV.out]; simp [go_sem]
    have x4 : V.cell? ⟨w.heap.size, 4, none⟩ = some (.int .i64 x.s.base) := by rw [hV.out]; simp [go_sem]
    have y4 : V.cell? ⟨w.heap.size + 1, 4, none⟩ = some (.int .i64 y.s.base) := by rw [hV.out]; simp [go_sem]
    have x5 : V.cell? ⟨w.heap.size, 5, none⟩ = some (.slice A3 x.s.digs.length c3) := by rw [hV.out]; simp [go_sem]
    have y5 : V.cell? ⟨w.heap.size + 1, 5, none⟩ = some (.slice B3 y.s.digs.length e3) := by rw [hV.out]; simp [go_sem]
    have x6 : V.cell? ⟨w.heap.size, 6, none⟩ = some (.int .i64 x.ca) := by rw [hV.out]; simp [go_sem]
    have y6 : V.cell? ⟨w.heap.size + 1, 6, none⟩ = some (.int .i64 y.ca) := by rw [hV.out]; simp [go_sem]
    clear hV
    refine (retb (SameRegister_c x.a y.a A1 B1 c1 e1 w.heap.size V d1 d1' hbV.size (L1.out _ hbV).1 (L1.out _ hbV).2) t0.out).mono ?_
    rintro e w1 ⟨rfl, hb1⟩
    have hbw1 : Below w.heap.size w w1 := hbV.trans (hb1.mono hbV.size)
    obtain ⟨hc1, _⟩ := bcell hb1
    have hz1 := hb1.size
    rw [← hc1 _ _ (by omega)] at x0 y0
    rw [← hc1 _ _ (by omega)] at x1 y1
    rw [← hc1 _ _ (by omega)] at x2 y2
    rw [← hc1 _ _ (by omega)] at x3 y3
    rw [← hc1 _ _ (by omega)] at x4 y4
    rw [← hc1 _ _ (by omega)] at x5 y5
    rw [← hc1 _ _ (by omega)] at x6 y6
    clear hc1
    go_wp2_with fail
    refine (retb (SameRegister_c x.b y.b A2 B2 c2 e2 w.heap.size w1 d2 d2' hbw1.size (L2.out _ hbw1).1 (L2.out _ hbw1).2) t1.out).mono ?_
    rintro e w2 ⟨rfl, hb2⟩
    have hbw2 : Below w.heap.size w w2 := hbw1.trans (hb2.mono hbw1.size)
    obtain ⟨hc2, _⟩ := bcell hb2
    have hz2 := hb2.size
    rw [← hc2 _ _ (by omega)] at x0 y0
    rw [← hc2 _ _ (by omega)] at x1 y1
    rw [← hc2 _ _ (by omega)] at x2 y2
    rw [← hc2 _ _ (by omega)] at x3 y3
    rw [← hc2 _ _ (by omega)] at x4 y4
    rw [← hc2 _ _ (by omega)] at x5 y5
    rw [← hc2 _ _ (by omega)] at x6 y6
    clear hc2
    go_wp2_with fail
    refine (retb (SameRegister_c x.s y.s A3 B3 c3 e3 w.heap.size w2 d3 d3' hbw2.size (L3.out _ hbw2).1 (L3.out _ hbw2).2) t2.out).mono ?_
    rintro e w3 ⟨rfl, hb3⟩
    have hbw3 : Below w.heap.size w w3 := hbw2.trans (hb3.mono hbw2.size)
    obtain ⟨hc3, _⟩ := bcell hb3
    have hz3 := hb3.size
    rw [← hc3 _ _ (by omega)] at x0 y0
    rw [← hc3 _ _ (by omega)] at x1 y1
    rw [← hc3 _ _ (by omega)] at x2 y2
    rw [← hc3 _ _ (by omega)] at x3 y3
    rw [← hc3 _ _ (by omega)] at x4 y4
    rw [← hc3 _ _ (by omega)] at x5 y5
    rw [← hc3 _ _ (by omega)] at x6 y6
    clear hc3
    go_wp2_with fail
    go_ret
    exact ⟨ret_bool HF.out.symm, by (repeat' (first | (with_reducible exact Below.refl _ _) | (with_reducible assumption) | (with_reducible refine below_drewN ?_ _) | (with_reducible refine Below.drew ?_) | (with_reducible refine Below.alloc ?_ ?_ _) | (with_reducible refine Below.setCell ?_ ?_ _) | (with_reducible refine via (by with_reducible assumption) ?_ ?_) | go_size))⟩
  have HF := Lib.hid (show trEq x y = true by unfold trEq; rw [t0, t1, t2, t3]; rfl)
  replace t0 := Lib.hid t0
  replace t1 := Lib.hid t1
  replace t2 := Lib.hid t2
  go_wp2_with fail
  refine gen_calls fun V hV => ?_
  have hbV : Below w.heap.size w V := by rw [hV.out]; (repeat' (first | (with_reducible exact Below.refl _ _) | (with_reducible assumption) | (with_reducible refine below_drewN ?_ _) | (with_reducible refine Below.drew ?_) | (with_reducible refine Below.alloc ?_ ?_ _) | (with_reducible refine Below.setCell ?_ ?_ _) | (with_reducible refine via (by with_reducible assumption) ?_ ?_) | go_size))
  have hVz : V.heap.size = w.heap.size + 1 + 1 := by rw [hV.out]; simp [go_sem]
  have x0 : V.cell? ⟨w.heap.size, 0, none⟩ = some (.int .i64 x.a.base) := by rw [hV.out]; simp [go_sem]
  have y0 : V.cell? ⟨w.heap.size + 1, 0, none⟩ = some (.int .i64 y.a.base) := by rw [hV.out]; simp [go_sem]
  have x1 : V.cell? ⟨w.heap.size, 1, none⟩ = some (.slice A1 x.a.digs.length c1) := by rw [hV.out]; simp [go_sem]
  have y1 : V.cell? ⟨w.heap.size + 1, 1, none⟩ = some (.slice B1 y.a.digs.length e1) := by rw [hV.out]; simp [go_sem]
  have x2 : V.cell? ⟨w.heap.size, 2, none⟩ = some (.int .i64 x.b.base) := by rw [hV.out]; simp [go_sem]
  have y2 : V.cell? ⟨w.heap.size + 1, 2, none⟩ = some (.int .i64 y.b.base) := by rw [hV.out]; simp [go_sem]
  have x3 : V.cell? ⟨w.heap.size, 3, none⟩ = some (.slice A2 x.b.digs.length c2) := by rw [hV.out]; simp [go_sem]
  have y3 : V.cell? ⟨w.heap.size + 1, 3, none⟩ = some (.slice B2 y.b.digs.length e2) := by rw [hV.out]; simp [go_sem]
  have x4 : V.cell? ⟨w.heap.size, 4, none⟩ = some (.int .i64 x.s.base) := by rw [hV.out]; simp [go_sem]
  have y4 : V.cell? ⟨w.heap.size + 1, 4, none⟩ = some (.int .i64 y.s.base) := by rw [hV.out]; simp [go_sem]
  have x5 : V.cell? ⟨w.heap.size, 5, none⟩ = some (.slice A3 x.s.digs.length c3) := by rw [hV.out]; simp [go_sem]
  have y5 : V.cell? ⟨w.heap.size + 1, 5, none⟩ = some (.slice B3 y.s.digs.length e3) := by rw [hV.out]; simp [go_sem]
  have x6 : V.cell? ⟨w.heap.size, 6, none⟩ = some (.int .i64 x.ca) := by rw [hV.out]; simp [go_sem]
  have y6 : V.cell? ⟨w.heap.size + 1, 6, none⟩ = some (.int .i64 y.ca) := by rw [hV.out]; simp [go_sem]
  clear hV
  refine (retb (SameRegister_c x.a y.a A1 B1 c1 e1 w.heap.size V d1 d1' hbV.size (L1.out _ hbV).1 (L1.out _ hbV).2) t0.out).mono ?_
  rintro e w1 ⟨rfl, hb1⟩
  have hbw1 : Below w.heap.size w w1 := hbV.trans (hb1.mono hbV.size)
  obtain ⟨hc1, _⟩ := bcell hb1
  have hz1 := hb1.size
  rw [← hc1 _ _ (by omega)] at x0 y0
  rw [← hc1 _ _ (by omega)] at x1 y1
  rw [← hc1 _ _ (by omega)] at x2 y2
  rw [← hc1 _ _ (by omega)] at x3 y3
  rw [← hc1 _ _ (by omega)] at x4 y4
  rw [← hc1 _ _ (by omega)] at x5 y5
  rw [← hc1 _ _ (by omega)] at x6 y6
  clear hc1
  go_wp2_with fail
  refine (retb (SameRegister_c x.b y.b A2 B2 c2 e2 w.heap.size w1 d2 d2' hbw1.size (L2.out _ hbw1).1 (L2.out _ hbw1).2) t1.out).mono ?_
  rintro e w2 ⟨rfl, hb2⟩
  have hbw2 : Below w.heap.size w w2 := hbw1.trans (hb2.mono hbw1.size)
  obtain ⟨hc2, _⟩ := bcell hb2
  have hz2 := hb2.size
  rw [← hc2 _ _ (by omega)] at x0 y0
  rw [← hc2 _ _ (by omega)] at x1 y1
  rw [← hc2 _ _ (by omega)] at x2 y2
  rw [← hc2 _ _ (by omega)] at x3 y3
  rw [← hc2 _ _ (by omega)] at x4 y4
  rw [← hc2 _ _ (by omega)] at x5 y5
  rw [← hc2 _ _ (by omega)] at x6 y6
  clear hc2
  go_wp2_with fail
  refine (retb (SameRegister_c x.s y.s A3 B3 c3 e3 w.heap.size w2 d3 d3' hbw2.size (L3.out _ hbw2).1 (L3.out _ hbw2).2) t2.out).mono ?_
  rintro e w3 ⟨rfl, hb3⟩
  have hbw3 : Below w.heap.size w w3 := hbw2.trans (hb3.mono hbw2.size)
  obtain ⟨hc3, _⟩ := bcell hb3
  have hz3 := hb3.size
  rw [← hc3 _ _ (by omega)] at x0 y0
  rw [← hc3 _ _ (by omega)] at x1 y1
  rw [← hc3 _ _ (by omega)] at x2 y2
  rw [← hc3 _ _ (by omega)] at x3 y3
  rw [← hc3 _ _ (by omega)] at x4 y4
  rw [← hc3 _ _ (by omega)] at x5 y5
  rw [← hc3 _ _ (by omega)] at x6 y6
  clear hc3
  go_wp2_with fail
  go_ret
  exact ⟨ret_bool HF.out.symm, by (repeat' (first | (with_reducible exact Below.refl _ _) | (with_reducible assumption) | (with_reducible refine below_drewN ?_ _) | (with_reducible refine Below.drew ?_) | (with_reducible refine Below.alloc ?_ ?_ _) | (with_reducible refine Below.setCell ?_ ?_ _) | (with_reducible refine via (by with_reducible assumption) ?_ ?_) | go_size))⟩

set_option maxRecDepth 100000 in
set_option maxHeartbeats 4000000 in
theorem l20Trial_c (x y : TrD) (b o b' o' : Nat) (B : Nat) (w : World) (hd : okTD x) (hd' : okTD y) (hB : B ≤ w.heap.size) (hb : b < B) (hb' : b' < B)
    (h1 : RegAt w B b o x.a) (h2 : RegAt w B b (o + 2) x.b) (h3 : RegAt w B b (o + 4) x.s) (h4 : w.cell? ⟨b, o + 6, none⟩ = some (.int .i64 x.ca)) (k1 : RegAt w B b' o' y.a) (k2 : RegAt w B b' (o' + 2) y.b) (k3 : RegAt w B b' (o' + 4) y.s) (k4 : w.cell? ⟨b', o' + 6, none⟩ = some (.int .i64 y.ca)) :
    Calls Try.prog 32 #[.pointer (some ⟨b, o, none⟩), .pointer (some ⟨b', o', none⟩)] w fun e w' => e = .returned (.bool (trEq x y)) ∧ Below w.heap.size w w' := by
  obtain ⟨d1, d2, d3⟩ := hd
  obtain ⟨d1', d2', d3'⟩ := hd'
  have L1 := Lib.hid (show ∀ u u' w', u = o → u' = o' → Below w.heap.size w w' → Calls Try.prog 48 #[.pointer (some ⟨b, u, none⟩), .pointer (some ⟨b', u', none⟩)] w' fun e w'' => e = .returned (.bool (regEq x.a y.a)) ∧ Below w'.heap.size w' w'' from fun u u' w' hu hu' hw => by rw [hu, hu']; exact l02Same_c x.a y.a b (o) b' (o') w.heap.size w' d1 d1' hw.size (by omega) (by omega) ((h1.mono hB).keep (by omega) fun p hp => hw.cell hp) ((k1.mono hB).keep (by omega) fun p hp => hw.cell hp))
  have L2 := Lib.hid (show ∀ u u' w', u = o + 2 → u' = o' + 2 → Below w.heap.size w w' → Calls Try.prog 48 #[.pointer (some ⟨b, u, none⟩), .pointer (some ⟨b', u', none⟩)] w' fun e w'' => e = .returned (.bool (regEq x.b y.b)) ∧ Below w'.heap.size w' w'' from fun u u' w' hu hu' hw => by rw [hu, hu']; exact l02Same_c x.b y.b b (o + 2) b' (o' + 2) w.heap.size w' d2 d2' hw.size (by omega) (by omega) ((h2.mono hB).keep (by omega) fun p hp => hw.cell hp) ((k2.mono hB).keep (by omega) fun p hp => hw.cell hp))
  have L3 := Lib.hid (show ∀ u u' w', u = o + 4 → u' = o' + 4 → Below w.heap.size w w' → Calls Try.prog 48 #[.pointer (some ⟨b, u, none⟩), .pointer (some ⟨b', u', none⟩)] w' fun e w'' => e = .returned (.bool (regEq x.s y.s)) ∧ Below w'.heap.size w' w'' from fun u u' w' hu hu' hw => by rw [hu, hu']; exact l02Same_c x.s y.s b (o + 4) b' (o' + 4) w.heap.size w' d3 d3' hw.size (by omega) (by omega) ((h3.mono hB).keep (by omega) fun p hp => hw.cell hp) ((k3.mono hB).keep (by omega) fun p hp => hw.cell hp))
  clear h1 h2 h3 k1 k2 k3
  have hf1 := far (show b < w.heap.size by omega)
  have hf2 := far (show b' < w.heap.size by omega)
  cases t0 : regEq x.a y.a
  · have HF := Lib.hid (show trEq x y = false by unfold trEq; rw [t0]; rfl)
    replace t0 := Lib.hid t0
    go_enter Try.func32, Try.ntmps32
    go_wp2_with fail
    (refine wp_region_quiet_below (by kernel_rfl) (by kernel_rfl) ?_; (repeat (go_big_quiet_step (first | ((go_at_call 48; exact rg_of (fun w' hw => retb (L1.out _ _ w' (by omega) (by omega) hw) t0.out)))))); refine wpQuiet_nil ?_; refine qg_end ?_; intro wq hbq)
    go_wp2_with fail
    go_ret
    exact ⟨ret_bool HF.out.symm, by (repeat' (first | (with_reducible exact Below.refl _ _) | (with_reducible assumption) | (with_reducible refine below_drewN ?_ _) | (with_reducible refine Below.drew ?_) | (with_reducible refine Below.alloc ?_ ?_ _) | (with_reducible refine Below.setCell ?_ ?_ _) | (with_reducible refine via (by with_reducible assumption) ?_ ?_) | go_size))⟩
  cases t1 : regEq x.b y.b
  · have HF := Lib.hid (show trEq x y = false by unfold trEq; rw [t0, t1]; rfl)
    replace t0 := Lib.hid t0
    replace t1 := Lib.hid t1
    go_enter Try.func32, Try.ntmps32
    go_wp2_with fail
    (refine wp_region_quiet_below (by kernel_rfl) (by kernel_rfl) ?_; (repeat (go_big_quiet_step (first | ((go_at_call 48; exact rg_of (fun w' hw => retb (L1.out _ _ w' (by omega) (by omega) hw) t0.out))) | ((go_at_call 48; exact rg_of (fun w' hw => retb (L2.out _ _ w' (by omega) (by omega) hw) t1.out)))))); refine wpQuiet_nil ?_; refine qg_end ?_; intro wq hbq)
    go_wp2_with fail
    go_ret
    exact ⟨ret_bool HF.out.symm, by (repeat' (first | (with_reducible exact Below.refl _ _) | (with_reducible assumption) | (with_reducible refine below_drewN ?_ _) | (with_reducible refine Below.drew ?_) | (with_reducible refine Below.alloc ?_ ?_ _) | (with_reducible refine Below.setCell ?_ ?_ _) | (with_reducible refine via (by with_reducible assumption) ?_ ?_) | go_size))⟩
  cases t2 : regEq x.s y.s
  · have HF := Lib.hid (show trEq x y = false by unfold trEq; rw [t0, t1, t2]; rfl)
    replace t0 := Lib.hid t0
    replace t1 := Lib.hid t1
    replace t2 := Lib.hid t2
    go_enter Try.func32, Try.ntmps32
    go_wp2_with fail
    (refine wp_region_quiet_below (by kernel_rfl) (by kernel_rfl) ?_; (repeat (go_big_quiet_step (first | ((go_at_call 48; exact rg_of (fun w' hw => retb (L1.out _ _ w' (by omega) (by omega) hw) t0.out))) | ((go_at_call 48; exact rg_of (fun w' hw => retb (L2.out _ _ w' (by omega) (by omega) hw) t1.out))) | ((go_at_call 48; exact rg_of (fun w' hw => retb (L3.out _ _ w' (by omega) (by omega) hw) t2.out)))))); refine wpQuiet_nil ?_; refine qg_end ?_; intro wq hbq)
    go_wp2_with fail
    go_ret
    exact ⟨ret_bool HF.out.symm, by (repeat' (first | (with_reducible exact Below.refl _ _) | (with_reducible assumption) | (with_reducible refine below_drewN ?_ _) | (with_reducible refine Below.drew ?_) | (with_reducible refine Below.alloc ?_ ?_ _) | (with_reducible refine Below.setCell ?_ ?_ _) | (with_reducible refine via (by with_reducible assumption) ?_ ?_) | go_size))⟩
  cases t3 : (x.ca == y.ca)
  · have HF := Lib.hid (show trEq x y = false by unfold trEq; rw [t0, t1, t2, t3]; rfl)
    replace t0 := Lib.hid t0
    replace t1 := Lib.hid t1
    replace t2 := Lib.hid t2
    go_enter Try.func32, Try.ntmps32
    go_wp2_with fail
    (refine wp_region_quiet_below (by kernel_rfl) (by kernel_rfl) ?_; (repeat (go_big_quiet_step (first | ((go_at_call 48; exact rg_of (fun w' hw => retb (L1.out _ _ w' (by omega) (by omega) hw) t0.out))) | ((go_at_call 48; exact rg_of (fun w' hw => retb (L2.out _ _ w' (by omega) (by omega) hw) t1.out))) | ((go_at_call 48; exact rg_of (fun w' hw => retb (L3.out _ _ w' (by omega) (by omega) hw) t2.out)))))); refine wpQuiet_nil ?_; refine qg_end ?_; intro wq hbq)
    go_wp2_with fail
    go_ret
    exact ⟨ret_bool HF.out.symm, by (repeat' (first | (with_reducible exact Below.refl _ _) | (with_reducible assumption) | (with_reducible refine below_drewN ?_ _) | (with_reducible refine Below.drew ?_) | (with_reducible refine Below.alloc ?_ ?_ _) | (with_reducible refine Below.setCell ?_ ?_ _) | (with_reducible refine via (by with_reducible assumption) ?_ ?_) | go_size))⟩
  have HF := Lib.hid (show trEq x y = true by unfold trEq; rw [t0, t1, t2, t3]; rfl)
  replace t0 := Lib.hid t0
  replace t1 := Lib.hid t1
  replace t2 := Lib.hid t2
  go_enter Try.func32, Try.ntmps32
  go_wp2_with fail
  (refine wp_region_quiet_below (by kernel_rfl) (by kernel_rfl) ?_; (repeat (go_big_quiet_step (first | ((go_at_call 48; exact rg_of (fun w' hw => retb (L1.out _ _ w' (by omega) (by omega) hw) t0.out))) | ((go_at_call 48; exact rg_of (fun w' hw => retb (L2.out _ _ w' (by omega) (by omega) hw) t1.out))) | ((go_at_call 48; exact rg_of (fun w' hw => retb (L3.out _ _ w' (by omega) (by omega) hw) t2.out)))))); refine wpQuiet_nil ?_; refine qg_end ?_; intro wq hbq)
  go_wp2_with fail
  go_ret
  exact ⟨ret_bool HF.out.symm, by (repeat' (first | (with_reducible exact Below.refl _ _) | (with_reducible assumption) | (with_reducible refine below_drewN ?_ _) | (with_reducible refine Below.drew ?_) | (with_reducible refine Below.alloc ?_ ?_ _) | (with_reducible refine Below.setCell ?_ ?_ _) | (with_reducible refine via (by with_reducible assumption) ?_ ?_) | go_size))⟩

set_option maxRecDepth 100000 in
set_option maxHeartbeats 4000000 in
theorem SameTrialsI_c (A : Option Addr) (n c : Nat) (l : List TrD) (A' : Option Addr) (n' c' : Nat) (l' : List TrD) (w : World) (hn : l.length = n) (hm : n ≤ 1048576) (hr : TRd w w.heap.size A l) (ok : ∀ d ∈ l, okTD d) (hn' : l'.length = n') (hm' : n' ≤ 1048576) (hr' : TRd w w.heap.size A' l') (ok' : ∀ d ∈ l', okTD d) :
    Calls Try.prog 17 #[.slice A n c, .slice A' n' c'] w fun e w' => e = .returned (.bool (sameT l l')) ∧ Below w.heap.size w w' := by
  have HN := Lib.hid hn; clear hn
  have HN' := Lib.hid hn'; clear hn'
  by_cases hl : n = n'
  rotate_left
  · have HF := Lib.hid (sameT_no (l := l) (l' := l') (by rw [HN.out, HN'.out]; exact hl))
    have q1 : ((n : Int) == (n' : Int)) = false := by rw [beq_eq_false_iff_ne]; omega
    have q2 : ((n : Int) != (n' : Int)) = true := by rw [bne_iff_ne]; omega
    have q3 : (n == n') = false := by rw [beq_eq_false_iff_ne]; exact hl
    have q4 : (n != n') = true := by rw [bne_iff_ne]; exact hl
    go_enter Try.func17, Try.ntmps17
    go_wp2_with fail
    go_ret
    exact ⟨ret_bool HF.out.symm, Below.refl _ _⟩
  subst hl
  go_enter Try.func17, Try.ntmps17
  go_wp2_with fail
  go_loopw [13] (fun i wr => ∃ k : Nat, k ≤ n ∧ i = .int .i64 k ∧ ((List.range k).all fun i => trEq (getT l i) (getT l' i)) = true ∧ Below w.heap.size w wr) (fun i _ => n - (intOf i).toNat)
  case atStart => exact ⟨0, Nat.zero_le _, rfl, by simp, Below.refl _ _⟩
  case round =>
    obtain ⟨k, hk, rfl, ha, hb0⟩ := hrel
    have HA := Lib.hid ha; clear ha
    have hbs := hb0.size
    by_cases hlt : k < n
    · obtain ⟨b, off, rfl, hbl, hc⟩ := ((hr.below hb0).mono hbs) (by rw [HN.out]; omega)
      obtain ⟨b', off', rfl, hbl', hc'⟩ := ((hr'.below hb0).mono hbs) (by rw [HN'.out]; omega)
      obtain ⟨x, hx⟩ := get_ex l k (by rw [HN.out]; omega)
      obtain ⟨y, hy⟩ := get_ex l' k (by rw [HN'.out]; omega)
      have HDX := Lib.hid (ok x (List.mem_of_getElem? hx))
      have HDY := Lib.hid (ok' y (List.mem_of_getElem? hy))
      obtain ⟨⟨g0, A1, c1, g1, p1⟩, ⟨g2, A2, c2, g3, p2⟩, ⟨g4, A3, c3, g5, p3⟩, g6⟩ := hc k x hx
      obtain ⟨⟨m0, B1, e1, m1, q1⟩, ⟨m2, B2, e2, m3, q2⟩, ⟨m4, B3, e3, m5, q3⟩, m6⟩ := hc' k y hy
      have P1 := Lib.hid p1; have P2 := Lib.hid p2; have P3 := Lib.hid p3
      have Q1 := Lib.hid q1; have Q2 := Lib.hid q2; have Q3 := Lib.hid q3
      clear p1 p2 p3 q1 q2 q3
      have HGX := Lib.hid (getT_eq hx); clear hx hc
      have HGY := Lib.hid (getT_eq hy); clear hy hc'
      have hf1 := far (show b < wr.heap.size by omega)
      have hf2 := far (show b' < wr.heap.size by omega)
      have p1 : (0 : Int) ≤ (k : Int) := by omega
      have p2 : (k : Int) < (n : Int) := by omega
      cases h1 : trEq x y
      · have HF := Lib.hid (sameT_at (l := l) (l' := l') (k := k) (by rw [HN.out]; exact hlt) (by rw [HGX.out, HGY.out]; exact h1))
        go_wp2_with fail
        (refine wp_region_quiet_below (by kernel_rfl) (by kernel_rfl) ?_; (repeat (go_big_quiet_step (first | ((go_at_call 34; exact rg_of (fun w' hb => retb (same_c x y A1 c1 A2 c2 A3 c3 B1 e1 B2 e2 B3 e3 wr.heap.size w' HDX.out HDY.out hb.size (P1.out.below hb) (P2.out.below hb) (P3.out.below hb) (Q1.out.below hb) (Q2.out.below hb) (Q3.out.below hb)) h1)))))); refine wpQuiet_nil ?_; refine qg_end ?_; intro wq hbq)
        go_wp2_with fail
        go_ret
        exact ⟨ret_bool HF.out.symm, by (repeat' (first | (with_reducible exact Below.refl _ _) | (with_reducible assumption) | (with_reducible refine below_drewN ?_ _) | (with_reducible refine Below.drew ?_) | (with_reducible refine Below.alloc ?_ ?_ _) | (with_reducible refine Below.setCell ?_ ?_ _) | (with_reducible refine via (by with_reducible assumption) ?_ ?_) | go_size))⟩
      · have HS := Lib.hid (all_range_succ _ k HA.out (show trEq (getT l k) (getT l' k) = true by rw [HGX.out, HGY.out]; exact h1))
        go_wp2_with fail
        (refine wp_region_quiet_below (by kernel_rfl) (by kernel_rfl) ?_; (repeat (go_big_quiet_step (first | ((go_at_call 34; exact rg_of (fun w' hb => retb (same_c x y A1 c1 A2 c2 A3 c3 B1 e1 B2 e2 B3 e3 wr.heap.size w' HDX.out HDY.out hb.size (P1.out.below hb) (P2.out.below hb) (P3.out.below hb) (Q1.out.below hb) (Q2.out.below hb) (Q3.out.below hb)) h1)))))); refine wpQuiet_nil ?_; refine qg_end ?_; intro wq hbq)
        go_wp2_with fail
        (first | (refine ⟨?_, ?_⟩; rotate_left; (first | (simp [intOf]; done) | (simp [intOf]; omega)); (repeat apply Exists.intro); refine ⟨?_, rfl⟩; exact ⟨k + 1, by omega, by go_num, HS.out, by (repeat' (first | (with_reducible exact Below.refl _ _) | (with_reducible assumption) | (with_reducible refine below_drewN ?_ _) | (with_reducible refine Below.drew ?_) | (with_reducible refine Below.alloc ?_ ?_ _) | (with_reducible refine Below.setCell ?_ ?_ _) | (with_reducible refine via (by with_reducible assumption) ?_ ?_) | go_size))⟩) | exact ⟨⟨k + 1, by omega, by go_num, HS.out, by (repeat' (first | (with_reducible exact Below.refl _ _) | (with_reducible assumption) | (with_reducible refine below_drewN ?_ _) | (with_reducible refine Below.drew ?_) | (with_reducible refine Below.alloc ?_ ?_ _) | (with_reducible refine Below.setCell ?_ ?_ _) | (with_reducible refine via (by with_reducible assumption) ?_ ?_) | go_size))⟩, by first | (simp [intOf]; done) | (simp [intOf]; omega)⟩)
    · have hkn : k = n := by omega
      subst hkn
      have HF := Lib.hid (sameT_yes HN.out HN'.out HA.out)
      go_wp2_with fail
      go_ret
      exact ⟨ret_bool HF.out.symm, hb0⟩

set_option maxRecDepth 100000 in
set_option maxHeartbeats 4000000 in
theorem SameTrialsS_c (A : Option Addr) (n c : Nat) (l : List TrD) (A' : Option Addr) (n' c' : Nat) (l' : List TrD) (w : World) (hn : l.length = n) (hm : n ≤ 1048576) (hr : TRd w w.heap.size A l) (ok : ∀ d ∈ l, okTD d) (hn' : l'.length = n') (hm' : n' ≤ 1048576) (hr' : TRd w w.heap.size A' l') (ok' : ∀ d ∈ l', okTD d) :
    Calls Try.prog 15 #[.slice A n c, .slice A' n' c'] w fun e w' => e = .returned (.bool (sameT l l')) ∧ Below w.heap.size w w' := by
  have HN := Lib.hid hn; clear hn
  have HN' := Lib.hid hn'; clear hn'
  by_cases hl : n = n'
  rotate_left
  · have HF := Lib.hid (sameT_no (l := l) (l' := l') (by rw [HN.out, HN'.out]; exact hl))
    have q1 : ((n : Int) == (n' : Int)) = false := by rw [beq_eq_false_iff_ne]; omega
    have q2 : ((n : Int) != (n' : Int)) = true := by rw [bne_iff_ne]; omega
    have q3 : (n == n') = false := by rw [beq_eq_false_iff_ne]; exact hl
    have q4 : (n != n') = true := by rw [bne_iff_ne]; exact hl
    go_enter Try.func15, Try.ntmps15
    go_wp2_with fail
    go_ret
    exact ⟨ret_bool HF.out.symm, Below.refl _ _⟩
  subst hl
  go_enter Try.func15, Try.ntmps15
  go_wp2_with fail
  go_loopw [5] (fun i wr => ∃ k : Nat, k ≤ n ∧ i = .int .i64 k ∧ ((List.range k).all fun i => trEq (getT l i) (getT l' i)) = true ∧ Below w.heap.size w wr) (fun i _ => n - (intOf i).toNat)
  case atStart => exact ⟨0, Nat.zero_le _, rfl, by simp, Below.refl _ _⟩
  case round =>
    obtain ⟨k, hk, rfl, ha, hb0⟩ := hrel
    have HA := Lib.hid ha; clear ha
    have hbs := hb0.size
    by_cases hlt : k < n
    · obtain ⟨b, off, rfl, hbl, hc⟩ := ((hr.below hb0).mono hbs) (by rw [HN.out]; omega)
      obtain ⟨b', off', rfl, hbl', hc'⟩ := ((hr'.below hb0).mono hbs) (by rw [HN'.out]; omega)
      obtain ⟨x, hx⟩ := get_ex l k (by rw [HN.out]; omega)
      obtain ⟨y, hy⟩ := get_ex l' k (by rw [HN'.out]; omega)
      have HDX := Lib.hid (ok x (List.mem_of_getElem? hx))
      have HDY := Lib.hid (ok' y (List.mem_of_getElem? hy))
      obtain ⟨u1, u2, u3, u4⟩ := hc k x hx
      obtain ⟨v1, v2, v3, v4⟩ := hc' k y hy
      have HC := Lib.hid (show ∀ u u' w', u = off + k * 7 → u' = off' + k * 7 → Below wr.heap.size wr w' → Calls Try.prog 32 #[.pointer (some ⟨b, u, none⟩), .pointer (some ⟨b', u', none⟩)] w' fun e w'' => e = .returned (.bool (trEq x y)) ∧ Below w'.heap.size w' w'' from fun u u' w' hu hu' h => by
        subst hu; subst hu'
        exact l20Trial_c x y b (off + k * 7) b' (off' + k * 7) wr.heap.size w' HDX.out HDY.out h.size hbl hbl' (u1.keep hbl fun p hp => h.cell hp) (u2.keep hbl fun p hp => h.cell hp) (u3.keep hbl fun p hp => h.cell hp) ((h.cell (p := ⟨b, off + k * 7 + 6, none⟩) hbl).trans u4) (v1.keep hbl' fun p hp => h.cell hp) (v2.keep hbl' fun p hp => h.cell hp) (v3.keep hbl' fun p hp => h.cell hp) ((h.cell (p := ⟨b', off' + k * 7 + 6, none⟩) hbl').trans v4))
      clear u1 u2 u3 u4 v1 v2 v3 v4
      have HGX := Lib.hid (getT_eq hx); clear hx hc
      have HGY := Lib.hid (getT_eq hy); clear hy hc'
      have hf1 := far (show b < wr.heap.size by omega)
      have hf2 := far (show b' < wr.heap.size by omega)
      have p1 : (0 : Int) ≤ (k : Int) := by omega
      have p2 : (k : Int) < (n : Int) := by omega
      cases h1 : trEq x y
      · have HF := Lib.hid (sameT_at (l := l) (l' := l') (k := k) (by rw [HN.out]; exact hlt) (by rw [HGX.out, HGY.out]; exact h1))
        go_wp2_with fail
        (refine wp_region_quiet_below (by kernel_rfl) (by kernel_rfl) ?_; (repeat (go_big_quiet_step (first | ((go_at_call 32; exact rg_of (fun w' hb => retb (HC.out _ _ w' (by omega) (by omega) hb) h1)))))); refine wpQuiet_nil ?_; refine qg_end ?_; intro wq hbq)
        go_wp2_with fail
        go_ret
        exact ⟨ret_bool HF.out.symm, by (repeat' (first | (with_reducible exact Below.refl _ _) | (with_reducible assumption) | (with_reducible refine below_drewN ?_ _) | (with_reducible refine Below.drew ?_) | (with_reducible refine Below.alloc ?_ ?_ _) | (with_reducible refine Below.setCell ?_ ?_ _) | (with_reducible refine via (by with_reducible assumption) ?_ ?_) | go_size))⟩
      · have HS := Lib.hid (all_range_succ _ k HA.out (show trEq (getT l k) (getT l' k) = true by rw [HGX.out, HGY.out]; exact h1))
        go_wp2_with fail
        (refine wp_region_quiet_below (by kernel_rfl) (by kernel_rfl) ?_; (repeat (go_big_quiet_step (first | ((go_at_call 32; exact rg_of (fun w' hb => retb (HC.out _ _ w' (by omega) (by omega) hb) h1)))))); refine wpQuiet_nil ?_; refine qg_end ?_; intro wq hbq)
        go_wp2_with fail
        (first | (refine ⟨?_, ?_⟩; rotate_left; (first | (simp [intOf]; done) | (simp [intOf]; omega)); (repeat apply Exists.intro); refine ⟨?_, rfl⟩; exact ⟨k + 1, by omega, by go_num, HS.out, by (repeat' (first | (with_reducible exact Below.refl _ _) | (with_reducible assumption) | (with_reducible refine below_drewN ?_ _) | (with_reducible refine Below.drew ?_) | (with_reducible refine Below.alloc ?_ ?_ _) | (with_reducible refine Below.setCell ?_ ?_ _) | (with_reducible refine via (by with_reducible assumption) ?_ ?_) | go_size))⟩) | exact ⟨⟨k + 1, by omega, by go_num, HS.out, by (repeat' (first | (with_reducible exact Below.refl _ _) | (with_reducible assumption) | (with_reducible refine below_drewN ?_ _) | (with_reducible refine Below.drew ?_) | (with_reducible refine Below.alloc ?_ ?_ _) | (with_reducible refine Below.setCell ?_ ?_ _) | (with_reducible refine via (by with_reducible assumption) ?_ ?_) | go_size))⟩, by first | (simp [intOf]; done) | (simp [intOf]; omega)⟩)
    · have hkn : k = n := by omega
      subst hkn
      have HF := Lib.hid (sameT_yes HN.out HN'.out HA.out)
      go_wp2_with fail
      go_ret
      exact ⟨ret_bool HF.out.symm, hb0⟩

end Go.Proofs.Ytaebofpgdonnbaa
