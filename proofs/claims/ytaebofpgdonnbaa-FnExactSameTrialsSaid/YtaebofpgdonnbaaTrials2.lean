/- Contracts: trials copied and compared by the law. -/
import Derived.Test.YtaebofpgdonnbaaTrials1
import Derived.Test.YtaebofpgdonnbaaLawCalls
set_option linter.unusedVariables false
set_option linter.unusedSimpArgs false
namespace Go.Proofs.Ytaebofpgdonnbaa
open Go.RowKit

theorem info_trial : (Try.prog.info? 64).map (fun i => (i.zero, i.size, i.bytes)) = some (some (.agg #[.int .i64 0, .slice none 0 0, .int .i64 0, .slice none 0 0, .int .i64 0, .slice none 0 0, .int .i64 0]), 7, 104) := by kernel_rfl
def IOwn (w : World) (lo g : Nat) (l : List Int) : Prop := w.ownsRow lo 2 1 (.slice (some ⟨g, 0, none⟩) l.length l.length) l.length (l.map (Value.int .i64))
def RetReg (r : RegD) (W : World) (e : Ending) (w' : World) : Prop := ∃ g : Nat, e = .returned (ragg r (some ⟨g, 0, none⟩) r.digs.length) ∧ IOwn w' W.heap.size g r.digs ∧ Below W.heap.size W w'
theorem set2 {w : World} {q o : Nat} {u u' z z' : Value} (h0 : w.cell? ⟨q, o, none⟩ = some z) (h1 : w.cell? ⟨q, o + 1, none⟩ = some z') :
    (∀ p o', p ≠ q → ((w.setCell ⟨q, o, none⟩ u).setCell ⟨q, o + 1, none⟩ u').cell? ⟨p, o', none⟩ = w.cell? ⟨p, o', none⟩) ∧
    (∀ o', o' ≠ o → o' ≠ o + 1 → ((w.setCell ⟨q, o, none⟩ u).setCell ⟨q, o + 1, none⟩ u').cell? ⟨q, o', none⟩ = w.cell? ⟨q, o', none⟩) ∧
    ((w.setCell ⟨q, o, none⟩ u).setCell ⟨q, o + 1, none⟩ u').cell? ⟨q, o, none⟩ = some u ∧ ((w.setCell ⟨q, o, none⟩ u).setCell ⟨q, o + 1, none⟩ u').cell? ⟨q, o + 1, none⟩ = some u' ∧
    (∀ p o', ((w.setCell ⟨q, o, none⟩ u).setCell ⟨q, o + 1, none⟩ u').frozen? ⟨p, o', none⟩ = w.frozen? ⟨p, o', none⟩) := by
  have ne : ∀ a b : Nat, a ≠ b → ∀ p p' : Nat, (⟨p, a, none⟩ : Addr) ≠ ⟨p', b, none⟩ := fun a b h p p' e => h (by injection e)
  have nb : ∀ a b : Nat, a ≠ b → ∀ p p' : Nat, (⟨a, p, none⟩ : Addr) ≠ ⟨b, p', none⟩ := fun a b h p p' e => h (by injection e)
  refine ⟨fun p o' h => ?_, fun o' h h' => ?_, ?_, ?_, fun p o' => ?_⟩
  · rw [World.cell?_setCell_other (h := nb _ _ (Ne.symm h) _ _), World.cell?_setCell_other (h := nb _ _ (Ne.symm h) _ _)]
  · rw [World.cell?_setCell_other (h := ne _ _ (Ne.symm h') _ _), World.cell?_setCell_other (h := ne _ _ (Ne.symm h) _ _)]
  · rw [World.cell?_setCell_other (h := ne _ _ (by omega) _ _), World.cell?_setCell_same (h := h0)]
  · have h2 : (w.setCell ⟨q, o, none⟩ u).cell? ⟨q, o + 1, none⟩ = some z' := by rw [World.cell?_setCell_other (h := ne o (o + 1) (by omega) _ _)]; exact h1
    rw [World.cell?_setCell_same (h := h2)]
  · rw [World.frozen?_setCell, World.frozen?_setCell]

set_option maxHeartbeats 1000000 in
theorem toRegister_c (r : RegD) (An : Option Addr) (cn : Nat) (w : World) (hm : r.digs.length ≤ 1048576) (hr : Rd w w.heap.size 1 icell An r.digs) : Calls Try.prog 49 #[ragg r An cn] w (RetReg r w) := by
  simp only [ragg]
  go_enter Try.func49, Try.ntmps49
  go_wp2_with fail
  refine gen_calls fun V hV => ?_
  have hbV : Below w.heap.size w V := by rw [hV.out]; (repeat' (first | (with_reducible exact Below.refl _ _) | (with_reducible assumption) | (with_reducible refine below_drewN ?_ _) | (with_reducible refine Below.drew ?_) | (with_reducible refine Below.alloc ?_ ?_ _) | (with_reducible refine Below.setCell ?_ ?_ _) | (with_reducible refine via (by with_reducible assumption) ?_ ?_) | go_size))
  have hVs := hbV.size
  have hVz : V.heap.size = w.heap.size + 1 + 1 + 1 := by rw [hV.out]; simp [go_sem]
  have a0 : V.cell? ⟨w.heap.size + 1 + 1, 0, none⟩ = some (.int .i64 r.base) := by rw [hV.out]; simp [go_sem]
  have a1 : V.cell? ⟨w.heap.size + 1 + 1, 1, none⟩ = some (.slice none 0 0) := by rw [hV.out]; simp [go_sem]
  have f1 : V.frozen? ⟨w.heap.size + 1 + 1, 1, none⟩ = false := by rw [hV.out]; simp [go_sem]
  have b0 : ∃ v, V.cell? ⟨w.heap.size + 1, 0, none⟩ = some v := ⟨_, by rw [hV.out]; simp [go_sem]; rfl⟩
  have b1 : ∃ v, V.cell? ⟨w.heap.size + 1, 1, none⟩ = some v := ⟨_, by rw [hV.out]; simp [go_sem]; rfl⟩
  have g0 : V.frozen? ⟨w.heap.size + 1, 0, none⟩ = false := by rw [hV.out]; simp [go_sem]
  have g1 : V.frozen? ⟨w.heap.size + 1, 1, none⟩ = false := by rw [hV.out]; simp [go_sem]
  clear hV
  refine (toInt64S_c An r.digs.length cn r.digs V rfl hm ((hr.below hbV).mono hVs)).mono ?_
  rintro e w2 ⟨rfl, hx, hb2⟩
  have hb2s := hb2.size
  have HX := Lib.hid hx; clear hx
  obtain ⟨hc2, hf2⟩ := bcell hb2
  obtain ⟨v0, b0⟩ := b0
  obtain ⟨v1, b1⟩ := b1
  rw [← hc2 _ _ (by omega)] at a0 a1 b0 b1
  rw [← hf2 _ _ (by omega)] at f1 g0 g1
  have HVZ := Lib.hid hVz
  clear hc2 hf2 hVz
  go_wp2_with fail
  have hvz := HVZ.out
  refine bodyPost_ret (v := ragg r (some ⟨V.heap.size, 0, none⟩) r.digs.length) (by simp only [results, Try.results49, ragg]; go_simp) rfl ⟨V.heap.size, rfl, ?_, ?_⟩
  · refine Go.Joins.ownsRow_le ?_ hVs
    repeat (refine ownsRow_setCell_below ?_ (by simp only; omega) _)
    exact HX.out
  · (repeat' (first | (with_reducible exact Below.refl _ _) | (with_reducible assumption) | (with_reducible refine below_drewN ?_ _) | (with_reducible refine Below.drew ?_) | (with_reducible refine Below.alloc ?_ ?_ _) | (with_reducible refine Below.setCell ?_ ?_ _) | (with_reducible refine via (by with_reducible assumption) ?_ ?_) | go_size))

theorem eqTrial_c (d : TrD) (A1 : Option Addr) (c1 : Nat) (A2 : Option Addr) (c2 : Nat) (A3 : Option Addr) (c3 : Nat) (B1 : Option Addr) (e1 : Nat) (B2 : Option Addr) (e2 : Nat) (B3 : Option Addr) (e3 : Nat) (B : Nat) (w : World) (hd : okTD d) (hB : B ≤ w.heap.size)
    (h1 : Rd w B 1 icell A1 d.a.digs) (h2 : Rd w B 1 icell A2 d.b.digs) (h3 : Rd w B 1 icell A3 d.s.digs) (k1 : Rd w B 1 icell B1 d.a.digs) (k2 : Rd w B 1 icell B2 d.b.digs) (k3 : Rd w B 1 icell B3 d.s.digs) :
    Calls Try.prog 35 #[tagg d A1 c1 A2 c2 A3 c3, tagg d B1 e1 B2 e2 B3 e3] w fun e w' => e = .returned (.bool true) ∧ Below w.heap.size w w' := by
  obtain ⟨d1, d2, d3⟩ := hd
  have L1 : ∀ w', Below w.heap.size w w' → Rd w' w.heap.size 1 icell A1 d.a.digs ∧ Rd w' w.heap.size 1 icell B1 d.a.digs := fun w' hb => ⟨(h1.mono hB).below hb, (k1.mono hB).below hb⟩
  have L2 : ∀ w', Below w.heap.size w w' → Rd w' w.heap.size 1 icell A2 d.b.digs ∧ Rd w' w.heap.size 1 icell B2 d.b.digs := fun w' hb => ⟨(h2.mono hB).below hb, (k2.mono hB).below hb⟩
  have L3 : ∀ w', Below w.heap.size w w' → Rd w' w.heap.size 1 icell A3 d.s.digs ∧ Rd w' w.heap.size 1 icell B3 d.s.digs := fun w' hb => ⟨(h3.mono hB).below hb, (k3.mono hB).below hb⟩
  replace L1 := Lib.hid L1
  replace L2 := Lib.hid L2
  replace L3 := Lib.hid L3
  clear h1 h2 h3 k1 k2 k3
  simp only [tagg]
  go_enter Try.func35, Try.ntmps35
  go_wp2_with fail
  refine gen_calls fun V hV => ?_
  have hbV : Below w.heap.size w V := by rw [hV.out]; (repeat' (first | (with_reducible exact Below.refl _ _) | (with_reducible assumption) | (with_reducible refine below_drewN ?_ _) | (with_reducible refine Below.drew ?_) | (with_reducible refine Below.alloc ?_ ?_ _) | (with_reducible refine Below.setCell ?_ ?_ _) | (with_reducible refine via (by with_reducible assumption) ?_ ?_) | go_size))
  have hVz : V.heap.size = w.heap.size + 1 + 1 := by rw [hV.out]; simp [go_sem]
  have x0 : V.cell? ⟨w.heap.size, 0, none⟩ = some (.int .i64 d.a.base) := by rw [hV.out]; simp [go_sem]
  have y0 : V.cell? ⟨w.heap.size + 1, 0, none⟩ = some (.int .i64 d.a.base) := by rw [hV.out]; simp [go_sem]
  have x1 : V.cell? ⟨w.heap.size, 1, none⟩ = some (.slice A1 d.a.digs.length c1) := by rw [hV.out]; simp [go_sem]
  have y1 : V.cell? ⟨w.heap.size + 1, 1, none⟩ = some (.slice B1 d.a.digs.length e1) := by rw [hV.out]; simp [go_sem]
  have x2 : V.cell? ⟨w.heap.size, 2, none⟩ = some (.int .i64 d.b.base) := by rw [hV.out]; simp [go_sem]
  have y2 : V.cell? ⟨w.heap.size + 1, 2, none⟩ = some (.int .i64 d.b.base) := by rw [hV.out]; simp [go_sem]
  have x3 : V.cell? ⟨w.heap.size, 3, none⟩ = some (.slice A2 d.b.digs.length c2) := by rw [hV.out]; simp [go_sem]
  have y3 : V.cell? ⟨w.heap.size + 1, 3, none⟩ = some (.slice B2 d.b.digs.length e2) := by rw [hV.out]; simp [go_sem]
  have x4 : V.cell? ⟨w.heap.size, 4, none⟩ = some (.int .i64 d.s.base) := by rw [hV.out]; simp [go_sem]
  have y4 : V.cell? ⟨w.heap.size + 1, 4, none⟩ = some (.int .i64 d.s.base) := by rw [hV.out]; simp [go_sem]
  have x5 : V.cell? ⟨w.heap.size, 5, none⟩ = some (.slice A3 d.s.digs.length c3) := by rw [hV.out]; simp [go_sem]
  have y5 : V.cell? ⟨w.heap.size + 1, 5, none⟩ = some (.slice B3 d.s.digs.length e3) := by rw [hV.out]; simp [go_sem]
  have x6 : V.cell? ⟨w.heap.size, 6, none⟩ = some (.int .i64 d.ca) := by rw [hV.out]; simp [go_sem]
  have y6 : V.cell? ⟨w.heap.size + 1, 6, none⟩ = some (.int .i64 d.ca) := by rw [hV.out]; simp [go_sem]
  clear hV
  refine (eqRegister_c d.a A1 B1 c1 e1 w.heap.size V d1 hbV.size (L1.out _ hbV).1 (L1.out _ hbV).2).mono ?_
  rintro e w1 ⟨rfl, hb1⟩
  have hbw1 : Below w.heap.size w w1 := hbV.trans (hb1.mono hbV.size)
  obtain ⟨hc1, _⟩ := bcell hb1
  have hz1 := hb1.size
  rw [← hc1 _ _ (by omega)] at x0 y0
  rw [← hc1 _ _ (by omega)] at x1 y1
  rw [← hc1 _ _ (by omega)] at x2 y2
  rw [← hc1 _ _ (by omega)] at x3 y3
  rw [← hc1 _ _ (by omega)] at x4 y4
  rw [← hc1 _ _ (by omega)] at x5 y5
  rw [← hc1 _ _ (by omega)] at x6 y6
  clear hc1
  go_wp2_with fail
  refine (eqRegister_c d.b A2 B2 c2 e2 w.heap.size w1 d2 hbw1.size (L2.out _ hbw1).1 (L2.out _ hbw1).2).mono ?_
  rintro e w2 ⟨rfl, hb2⟩
  have hbw2 : Below w.heap.size w w2 := hbw1.trans (hb2.mono hbw1.size)
  obtain ⟨hc2, _⟩ := bcell hb2
  have hz2 := hb2.size
  rw [← hc2 _ _ (by omega)] at x0 y0
  rw [← hc2 _ _ (by omega)] at x1 y1
  rw [← hc2 _ _ (by omega)] at x2 y2
  rw [← hc2 _ _ (by omega)] at x3 y3
  rw [← hc2 _ _ (by omega)] at x4 y4
  rw [← hc2 _ _ (by omega)] at x5 y5
  rw [← hc2 _ _ (by omega)] at x6 y6
  clear hc2
  go_wp2_with fail
  refine (eqRegister_c d.s A3 B3 c3 e3 w.heap.size w2 d3 hbw2.size (L3.out _ hbw2).1 (L3.out _ hbw2).2).mono ?_
  rintro e w3 ⟨rfl, hb3⟩
  have hbw3 : Below w.heap.size w w3 := hbw2.trans (hb3.mono hbw2.size)
  obtain ⟨hc3, _⟩ := bcell hb3
  have hz3 := hb3.size
  rw [← hc3 _ _ (by omega)] at x0 y0
  rw [← hc3 _ _ (by omega)] at x1 y1
  rw [← hc3 _ _ (by omega)] at x2 y2
  rw [← hc3 _ _ (by omega)] at x3 y3
  rw [← hc3 _ _ (by omega)] at x4 y4
  rw [← hc3 _ _ (by omega)] at x5 y5
  rw [← hc3 _ _ (by omega)] at x6 y6
  clear hc3
  go_wp2_with fail
  go_ret
  refine ⟨rfl, ?_⟩
  (repeat' (first | (with_reducible exact Below.refl _ _) | (with_reducible assumption) | (with_reducible refine below_drewN ?_ _) | (with_reducible refine Below.drew ?_) | (with_reducible refine Below.alloc ?_ ?_ _) | (with_reducible refine Below.setCell ?_ ?_ _) | (with_reducible refine via (by with_reducible assumption) ?_ ?_) | go_size))

set_option maxRecDepth 100000 in
set_option maxHeartbeats 2000000 in
theorem eqTrialS_c (A A' : Option Addr) (n c c' : Nat) (l : List TrD) (w : World) (hn : l.length = n) (hm : n ≤ maxLen) (hr : TRd w w.heap.size A l) (hr' : TRd w w.heap.size A' l) (ok : ∀ d ∈ l, okTD d) :
    Calls Try.prog 18 #[.slice A n c, .slice A' n c'] w fun e w' => e = .returned (.bool true) ∧ Below w.heap.size w w' := by
  unfold maxLen at hm
  have HN := Lib.hid hn; clear hn
  go_enter Try.func18, Try.ntmps18
  go_wp2
  go_loopw [5] (fun i wr => ∃ k : Nat, k ≤ n ∧ i = .int .i64 k ∧ Below w.heap.size w wr) (fun i _ => n - (intOf i).toNat)
  case atStart => exact ⟨0, Nat.zero_le _, rfl, Below.refl _ _⟩
  case round =>
    obtain ⟨k, hk, rfl, hb⟩ := hrel
    by_cases hlt : k < n
    · have hbs := hb.size
      obtain ⟨b, off, rfl, hbl, hc⟩ := ((hr.below hb).mono hbs) (by rw [HN.out]; omega)
      obtain ⟨b', off', rfl, hbl', hc'⟩ := ((hr'.below hb).mono hbs) (by rw [HN.out]; omega)
      obtain ⟨d, ed⟩ := get_ex l k (by rw [HN.out]; omega)
      have HD := Lib.hid (ok d (List.mem_of_getElem? ed))
      obtain ⟨⟨g0, A1, c1, g1, p1⟩, ⟨g2, A2, c2, g3, p2⟩, ⟨g4, A3, c3, g5, p3⟩, g6⟩ := hc k d ed
      obtain ⟨⟨m0, B1, e1, m1, q1⟩, ⟨m2, B2, e2, m3, q2⟩, ⟨m4, B3, e3, m5, q3⟩, m6⟩ := hc' k d ed
      clear hc hc' ed
      have P1 := Lib.hid p1; have P2 := Lib.hid p2; have P3 := Lib.hid p3
      have Q1 := Lib.hid q1; have Q2 := Lib.hid q2; have Q3 := Lib.hid q3
      clear p1 p2 p3 q1 q2 q3
      have y3 : (k : Int) < (n : Int) := by omega
      have y4 : (0 : Int) ≤ (k : Int) := by omega
      go_wp2_with fail
      (refine wp_region_quiet_below (by kernel_rfl) (by kernel_rfl) ?_; (repeat (go_big_quiet_step (first | ((go_at_call 35; exact rg_of (fun w' hb => eqTrial_c d A1 c1 A2 c2 A3 c3 B1 e1 B2 e2 B3 e3 wr.heap.size w' HD.out hb.size (P1.out.below hb) (P2.out.below hb) (P3.out.below hb) (Q1.out.below hb) (Q2.out.below hb) (Q3.out.below hb))))))); refine wpQuiet_nil ?_; refine qg_end ?_; intro wq hbq)
      go_wp2_with fail
      (first | (refine ⟨?_, ?_⟩; rotate_left; (first | (simp [intOf]; done) | (simp [intOf]; omega)); (repeat apply Exists.intro); refine ⟨?_, rfl⟩; exact ⟨k + 1, by omega, by go_num, by (repeat' (first | (with_reducible exact Below.refl _ _) | (with_reducible assumption) | (with_reducible refine below_drewN ?_ _) | (with_reducible refine Below.drew ?_) | (with_reducible refine Below.alloc ?_ ?_ _) | (with_reducible refine Below.setCell ?_ ?_ _) | (with_reducible refine via (by with_reducible assumption) ?_ ?_) | go_size))⟩) | exact ⟨⟨k + 1, by omega, by go_num, by (repeat' (first | (with_reducible exact Below.refl _ _) | (with_reducible assumption) | (with_reducible refine below_drewN ?_ _) | (with_reducible refine Below.drew ?_) | (with_reducible refine Below.alloc ?_ ?_ _) | (with_reducible refine Below.setCell ?_ ?_ _) | (with_reducible refine via (by with_reducible assumption) ?_ ?_) | go_size))⟩, by first | (simp [intOf]; done) | (simp [intOf]; omega)⟩)
    · go_wp2
      go_ret
      exact ⟨rfl, hb⟩

def RetTrial (d : TrD) (W : World) (e : Ending) (w' : World) : Prop := ∃ g1 g2 g3 : Nat, e = .returned (tagg d (some ⟨g1, 0, none⟩) d.a.digs.length (some ⟨g2, 0, none⟩) d.b.digs.length (some ⟨g3, 0, none⟩) d.s.digs.length) ∧ IOwn w' W.heap.size g1 d.a.digs ∧ IOwn w' W.heap.size g2 d.b.digs ∧ IOwn w' W.heap.size g3 d.s.digs ∧ Below W.heap.size W w'
set_option maxRecDepth 100000 in
set_option maxHeartbeats 4000000 in
theorem toTrial_c (d : TrD) (A1 : Option Addr) (c1 : Nat) (A2 : Option Addr) (c2 : Nat) (A3 : Option Addr) (c3 : Nat) (w : World) (hd : smallT d) (h1 : Rd w w.heap.size 1 icell A1 d.a.digs) (h2 : Rd w w.heap.size 1 icell A2 d.b.digs) (h3 : Rd w w.heap.size 1 icell A3 d.s.digs) :
    Calls Try.prog 33 #[tagg d A1 c1 A2 c2 A3 c3] w (RetTrial d w) := by
  obtain ⟨d1, d2, d3⟩ := hd
  have L1 := Lib.hid (show ∀ w', Below w.heap.size w w' → Rd w' w'.heap.size 1 icell A1 d.a.digs from fun w' hb => (h1.below hb).mono hb.size)
  have L2 := Lib.hid (show ∀ w', Below w.heap.size w w' → Rd w' w'.heap.size 1 icell A2 d.b.digs from fun w' hb => (h2.below hb).mono hb.size)
  have L3 := Lib.hid (show ∀ w', Below w.heap.size w w' → Rd w' w'.heap.size 1 icell A3 d.s.digs from fun w' hb => (h3.below hb).mono hb.size)
  clear h1 h2 h3
  simp only [tagg]
  go_enter Try.func33, Try.ntmps33
  go_wp2_with fail
  refine gen_calls fun V hV => ?_
  have hbV : Below w.heap.size w V := by rw [hV.out]; (repeat' (first | (with_reducible exact Below.refl _ _) | (with_reducible assumption) | (with_reducible refine below_drewN ?_ _) | (with_reducible refine Below.drew ?_) | (with_reducible refine Below.alloc ?_ ?_ _) | (with_reducible refine Below.setCell ?_ ?_ _) | (with_reducible refine via (by with_reducible assumption) ?_ ?_) | go_size))
  have hVz : V.heap.size = w.heap.size + 1 + 1 + 1 := by rw [hV.out]; simp [go_sem]
  have x0 : V.cell? ⟨w.heap.size, 0, none⟩ = some (.int .i64 d.a.base) := by rw [hV.out]; simp [go_sem]
  have y0 : V.cell? ⟨w.heap.size + 1 + 1, 0, none⟩ = some (.int .i64 0) := by rw [hV.out]; simp [go_sem]
  have z0 : ∃ v, V.cell? ⟨w.heap.size + 1, 0, none⟩ = some v := ⟨_, by rw [hV.out]; simp [go_sem]; rfl⟩
  obtain ⟨u0, z0⟩ := z0
  have x1 : V.cell? ⟨w.heap.size, 1, none⟩ = some (.slice A1 d.a.digs.length c1) := by rw [hV.out]; simp [go_sem]
  have y1 : V.cell? ⟨w.heap.size + 1 + 1, 1, none⟩ = some (.slice none 0 0) := by rw [hV.out]; simp [go_sem]
  have z1 : ∃ v, V.cell? ⟨w.heap.size + 1, 1, none⟩ = some v := ⟨_, by rw [hV.out]; simp [go_sem]; rfl⟩
  obtain ⟨u1, z1⟩ := z1
  have x2 : V.cell? ⟨w.heap.size, 2, none⟩ = some (.int .i64 d.b.base) := by rw [hV.out]; simp [go_sem]
  have y2 : V.cell? ⟨w.heap.size + 1 + 1, 2, none⟩ = some (.int .i64 0) := by rw [hV.out]; simp [go_sem]
  have z2 : ∃ v, V.cell? ⟨w.heap.size + 1, 2, none⟩ = some v := ⟨_, by rw [hV.out]; simp [go_sem]; rfl⟩
  obtain ⟨u2, z2⟩ := z2
  have x3 : V.cell? ⟨w.heap.size, 3, none⟩ = some (.slice A2 d.b.digs.length c2) := by rw [hV.out]; simp [go_sem]
  have y3 : V.cell? ⟨w.heap.size + 1 + 1, 3, none⟩ = some (.slice none 0 0) := by rw [hV.out]; simp [go_sem]
  have z3 : ∃ v, V.cell? ⟨w.heap.size + 1, 3, none⟩ = some v := ⟨_, by rw [hV.out]; simp [go_sem]; rfl⟩
  obtain ⟨u3, z3⟩ := z3
  have x4 : V.cell? ⟨w.heap.size, 4, none⟩ = some (.int .i64 d.s.base) := by rw [hV.out]; simp [go_sem]
  have y4 : V.cell? ⟨w.heap.size + 1 + 1, 4, none⟩ = some (.int .i64 0) := by rw [hV.out]; simp [go_sem]
  have z4 : ∃ v, V.cell? ⟨w.heap.size + 1, 4, none⟩ = some v := ⟨_, by rw [hV.out]; simp [go_sem]; rfl⟩
  obtain ⟨u4, z4⟩ := z4
  have x5 : V.cell? ⟨w.heap.size, 5, none⟩ = some (.slice A3 d.s.digs.length c3) := by rw [hV.out]; simp [go_sem]
  have y5 : V.cell? ⟨w.heap.size + 1 + 1, 5, none⟩ = some (.slice none 0 0) := by rw [hV.out]; simp [go_sem]
  have z5 : ∃ v, V.cell? ⟨w.heap.size + 1, 5, none⟩ = some v := ⟨_, by rw [hV.out]; simp [go_sem]; rfl⟩
  obtain ⟨u5, z5⟩ := z5
  have x6 : V.cell? ⟨w.heap.size, 6, none⟩ = some (.int .i64 d.ca) := by rw [hV.out]; simp [go_sem]
  have y6 : V.cell? ⟨w.heap.size + 1 + 1, 6, none⟩ = some (.int .i64 0) := by rw [hV.out]; simp [go_sem]
  have z6 : ∃ v, V.cell? ⟨w.heap.size + 1, 6, none⟩ = some v := ⟨_, by rw [hV.out]; simp [go_sem]; rfl⟩
  obtain ⟨u6, z6⟩ := z6
  have fy : ∀ o, V.frozen? ⟨w.heap.size + 1 + 1, o, none⟩ = false := fun o => by rw [hV.out]; simp [go_sem]
  have fz : ∀ o, V.frozen? ⟨w.heap.size + 1, o, none⟩ = false := fun o => by rw [hV.out]; simp [go_sem]
  clear hV
  refine (toRegister_c d.a A1 c1 V d1 (L1.out _ hbV)).mono ?_
  rintro e w1 ⟨g1, rfl, o1, hb1⟩
  have hbw1 : Below w.heap.size w w1 := hbV.trans (hb1.mono hbV.size)
  obtain ⟨hc, hf⟩ := bcell hb1
  have hz1 := hb1.size
  have O1 := Lib.hid (show IOwn w1 (w.heap.size + 1 + 1 + 1) g1 d.a.digs from Go.Joins.ownsRow_le o1 (by omega)); clear o1
  rw [← hc _ _ (by omega)] at x0 y0 z0
  rw [← hc _ _ (by omega)] at x1 y1 z1
  rw [← hc _ _ (by omega)] at x2 y2 z2
  rw [← hc _ _ (by omega)] at x3 y3 z3
  rw [← hc _ _ (by omega)] at x4 y4 z4
  rw [← hc _ _ (by omega)] at x5 y5 z5
  rw [← hc _ _ (by omega)] at x6 y6 z6
  replace fy : ∀ o, w1.frozen? ⟨w.heap.size + 1 + 1, o, none⟩ = false := fun o => by rw [hf _ _ (by omega)]; exact fy o
  replace fz : ∀ o, w1.frozen? ⟨w.heap.size + 1, o, none⟩ = false := fun o => by rw [hf _ _ (by omega)]; exact fz o
  clear hc hf
  simp only [ragg]
  go_wp2_with fail
  refine gen_calls fun V1 hV => ?_
  have hbV1 : Below w.heap.size w V1 := by rw [hV.out]; (repeat' (first | (with_reducible exact Below.refl _ _) | (with_reducible assumption) | (with_reducible refine below_drewN ?_ _) | (with_reducible refine Below.drew ?_) | (with_reducible refine Below.alloc ?_ ?_ _) | (with_reducible refine Below.setCell ?_ ?_ _) | (with_reducible refine via (by with_reducible assumption) ?_ ?_) | go_size))
  have hVz1 : V1.heap.size = w1.heap.size := by rw [hV.out]; simp only [World.size_setCell]
  obtain ⟨s1, s2, s3, s4, s5⟩ := set2 (u := .int .i64 d.a.base) (u' := .slice (some ⟨g1, 0, none⟩) d.a.digs.length d.a.digs.length) y0 y1
  replace x0 : V1.cell? ⟨w.heap.size, 0, none⟩ = some (.int .i64 d.a.base) := by rw [hV.out]; exact (s1 _ _ (by omega)).trans x0
  replace z0 : V1.cell? ⟨w.heap.size + 1, 0, none⟩ = some u0 := by rw [hV.out]; exact (s1 _ _ (by omega)).trans z0
  replace y0 : V1.cell? ⟨w.heap.size + 1 + 1, 0, none⟩ = some (.int .i64 d.a.base) := by rw [hV.out]; exact s3
  replace x1 : V1.cell? ⟨w.heap.size, 1, none⟩ = some (.slice A1 d.a.digs.length c1) := by rw [hV.out]; exact (s1 _ _ (by omega)).trans x1
  replace z1 : V1.cell? ⟨w.heap.size + 1, 1, none⟩ = some u1 := by rw [hV.out]; exact (s1 _ _ (by omega)).trans z1
  replace y1 : V1.cell? ⟨w.heap.size + 1 + 1, 1, none⟩ = some (.slice (some ⟨g1, 0, none⟩) d.a.digs.length d.a.digs.length) := by rw [hV.out]; exact s4
  replace x2 : V1.cell? ⟨w.heap.size, 2, none⟩ = some (.int .i64 d.b.base) := by rw [hV.out]; exact (s1 _ _ (by omega)).trans x2
  replace z2 : V1.cell? ⟨w.heap.size + 1, 2, none⟩ = some u2 := by rw [hV.out]; exact (s1 _ _ (by omega)).trans z2
  replace y2 : V1.cell? ⟨w.heap.size + 1 + 1, 2, none⟩ = some (.int .i64 0) := by rw [hV.out]; exact (s2 _ (by decide) (by decide)).trans y2
  replace x3 : V1.cell? ⟨w.heap.size, 3, none⟩ = some (.slice A2 d.b.digs.length c2) := by rw [hV.out]; exact (s1 _ _ (by omega)).trans x3
  replace z3 : V1.cell? ⟨w.heap.size + 1, 3, none⟩ = some u3 := by rw [hV.out]; exact (s1 _ _ (by omega)).trans z3
  replace y3 : V1.cell? ⟨w.heap.size + 1 + 1, 3, none⟩ = some (.slice none 0 0) := by rw [hV.out]; exact (s2 _ (by decide) (by decide)).trans y3
  replace x4 : V1.cell? ⟨w.heap.size, 4, none⟩ = some (.int .i64 d.s.base) := by rw [hV.out]; exact (s1 _ _ (by omega)).trans x4
  replace z4 : V1.cell? ⟨w.heap.size + 1, 4, none⟩ = some u4 := by rw [hV.out]; exact (s1 _ _ (by omega)).trans z4
  replace y4 : V1.cell? ⟨w.heap.size + 1 + 1, 4, none⟩ = some (.int .i64 0) := by rw [hV.out]; exact (s2 _ (by decide) (by decide)).trans y4
  replace x5 : V1.cell? ⟨w.heap.size, 5, none⟩ = some (.slice A3 d.s.digs.length c3) := by rw [hV.out]; exact (s1 _ _ (by omega)).trans x5
  replace z5 : V1.cell? ⟨w.heap.size + 1, 5, none⟩ = some u5 := by rw [hV.out]; exact (s1 _ _ (by omega)).trans z5
  replace y5 : V1.cell? ⟨w.heap.size + 1 + 1, 5, none⟩ = some (.slice none 0 0) := by rw [hV.out]; exact (s2 _ (by decide) (by decide)).trans y5
  replace x6 : V1.cell? ⟨w.heap.size, 6, none⟩ = some (.int .i64 d.ca) := by rw [hV.out]; exact (s1 _ _ (by omega)).trans x6
  replace z6 : V1.cell? ⟨w.heap.size + 1, 6, none⟩ = some u6 := by rw [hV.out]; exact (s1 _ _ (by omega)).trans z6
  replace y6 : V1.cell? ⟨w.heap.size + 1 + 1, 6, none⟩ = some (.int .i64 0) := by rw [hV.out]; exact (s2 _ (by decide) (by decide)).trans y6
  replace fy : ∀ o, V1.frozen? ⟨w.heap.size + 1 + 1, o, none⟩ = false := fun o => by rw [hV.out]; exact (s5 _ _).trans (fy o)
  replace fz : ∀ o, V1.frozen? ⟨w.heap.size + 1, o, none⟩ = false := fun o => by rw [hV.out]; exact (s5 _ _).trans (fz o)
  replace O1 := Lib.hid (show IOwn V1 (w.heap.size + 1 + 1 + 1) g1 d.a.digs from by rw [hV.out]; exact ownsRow_setCell_below (ownsRow_setCell_below O1.out (by simp only; omega) _) (by simp only; omega) _)
  clear hV s1 s2 s3 s4 s5
  refine (toRegister_c d.b A2 c2 V1 d2 (L2.out _ hbV1)).mono ?_
  rintro e w2 ⟨g2, rfl, o2, hb2⟩
  have hbw2 : Below w.heap.size w w2 := hbV1.trans (hb2.mono hbV1.size)
  obtain ⟨hc, hf⟩ := bcell hb2
  have hz2 := hb2.size
  have O2 := Lib.hid (show IOwn w2 (w.heap.size + 1 + 1 + 1) g2 d.b.digs from Go.Joins.ownsRow_le o2 (by omega)); clear o2
  replace O1 := Lib.hid (show IOwn w2 (w.heap.size + 1 + 1 + 1) g1 d.a.digs from own_call O1.out hb2)
  rw [← hc _ _ (by omega)] at x0 y0 z0
  rw [← hc _ _ (by omega)] at x1 y1 z1
  rw [← hc _ _ (by omega)] at x2 y2 z2
  rw [← hc _ _ (by omega)] at x3 y3 z3
  rw [← hc _ _ (by omega)] at x4 y4 z4
  rw [← hc _ _ (by omega)] at x5 y5 z5
  rw [← hc _ _ (by omega)] at x6 y6 z6
  replace fy : ∀ o, w2.frozen? ⟨w.heap.size + 1 + 1, o, none⟩ = false := fun o => by rw [hf _ _ (by omega)]; exact fy o
  replace fz : ∀ o, w2.frozen? ⟨w.heap.size + 1, o, none⟩ = false := fun o => by rw [hf _ _ (by omega)]; exact fz o
  clear hc hf
  simp only [ragg]
  go_wp2_with fail
  refine gen_calls fun V2 hV => ?_
  have hbV2 : Below w.heap.size w V2 := by rw [hV.out]; (repeat' (first | (with_reducible exact Below.refl _ _) | (with_reducible assumption) | (with_reducible refine below_drewN ?_ _) | (with_reducible refine Below.drew ?_) | (with_reducible refine Below.alloc ?_ ?_ _) | (with_reducible refine Below.setCell ?_ ?_ _) | (with_reducible refine via (by with_reducible assumption) ?_ ?_) | go_size))
  have hVz2 : V2.heap.size = w2.heap.size := by rw [hV.out]; simp only [World.size_setCell]
  obtain ⟨s1, s2, s3, s4, s5⟩ := set2 (u := .int .i64 d.b.base) (u' := .slice (some ⟨g2, 0, none⟩) d.b.digs.length d.b.digs.length) y2 y3
  replace x0 : V2.cell? ⟨w.heap.size, 0, none⟩ = some (.int .i64 d.a.base) := by rw [hV.out]; exact (s1 _ _ (by omega)).trans x0
  replace z0 : V2.cell? ⟨w.heap.size + 1, 0, none⟩ = some u0 := by rw [hV.out]; exact (s1 _ _ (by omega)).trans z0
  replace y0 : V2.cell? ⟨w.heap.size + 1 + 1, 0, none⟩ = some (.int .i64 d.a.base) := by rw [hV.out]; exact (s2 _ (by decide) (by decide)).trans y0
  replace x1 : V2.cell? ⟨w.heap.size, 1, none⟩ = some (.slice A1 d.a.digs.length c1) := by rw [hV.out]; exact (s1 _ _ (by omega)).trans x1
  replace z1 : V2.cell? ⟨w.heap.size + 1, 1, none⟩ = some u1 := by rw [hV.out]; exact (s1 _ _ (by omega)).trans z1
  replace y1 : V2.cell? ⟨w.heap.size + 1 + 1, 1, none⟩ = some (.slice (some ⟨g1, 0, none⟩) d.a.digs.length d.a.digs.length) := by rw [hV.out]; exact (s2 _ (by decide) (by decide)).trans y1
  replace x2 : V2.cell? ⟨w.heap.size, 2, none⟩ = some (.int .i64 d.b.base) := by rw [hV.out]; exact (s1 _ _ (by omega)).trans x2
  replace z2 : V2.cell? ⟨w.heap.size + 1, 2, none⟩ = some u2 := by rw [hV.out]; exact (s1 _ _ (by omega)).trans z2
  replace y2 : V2.cell? ⟨w.heap.size + 1 + 1, 2, none⟩ = some (.int .i64 d.b.base) := by rw [hV.out]; exact s3
  replace x3 : V2.cell? ⟨w.heap.size, 3, none⟩ = some (.slice A2 d.b.digs.length c2) := by rw [hV.out]; exact (s1 _ _ (by omega)).trans x3
  replace z3 : V2.cell? ⟨w.heap.size + 1, 3, none⟩ = some u3 := by rw [hV.out]; exact (s1 _ _ (by omega)).trans z3
  replace y3 : V2.cell? ⟨w.heap.size + 1 + 1, 3, none⟩ = some (.slice (some ⟨g2, 0, none⟩) d.b.digs.length d.b.digs.length) := by rw [hV.out]; exact s4
  replace x4 : V2.cell? ⟨w.heap.size, 4, none⟩ = some (.int .i64 d.s.base) := by rw [hV.out]; exact (s1 _ _ (by omega)).trans x4
  replace z4 : V2.cell? ⟨w.heap.size + 1, 4, none⟩ = some u4 := by rw [hV.out]; exact (s1 _ _ (by omega)).trans z4
  replace y4 : V2.cell? ⟨w.heap.size + 1 + 1, 4, none⟩ = some (.int .i64 0) := by rw [hV.out]; exact (s2 _ (by decide) (by decide)).trans y4
  replace x5 : V2.cell? ⟨w.heap.size, 5, none⟩ = some (.slice A3 d.s.digs.length c3) := by rw [hV.out]; exact (s1 _ _ (by omega)).trans x5
  replace z5 : V2.cell? ⟨w.heap.size + 1, 5, none⟩ = some u5 := by rw [hV.out]; exact (s1 _ _ (by omega)).trans z5
  replace y5 : V2.cell? ⟨w.heap.size + 1 + 1, 5, none⟩ = some (.slice none 0 0) := by rw [hV.out]; exact (s2 _ (by decide) (by decide)).trans y5
  replace x6 : V2.cell? ⟨w.heap.size, 6, none⟩ = some (.int .i64 d.ca) := by rw [hV.out]; exact (s1 _ _ (by omega)).trans x6
  replace z6 : V2.cell? ⟨w.heap.size + 1, 6, none⟩ = some u6 := by rw [hV.out]; exact (s1 _ _ (by omega)).trans z6
  replace y6 : V2.cell? ⟨w.heap.size + 1 + 1, 6, none⟩ = some (.int .i64 0) := by rw [hV.out]; exact (s2 _ (by decide) (by decide)).trans y6
  replace fy : ∀ o, V2.frozen? ⟨w.heap.size + 1 + 1, o, none⟩ = false := fun o => by rw [hV.out]; exact (s5 _ _).trans (fy o)
  replace fz : ∀ o, V2.frozen? ⟨w.heap.size + 1, o, none⟩ = false := fun o => by rw [hV.out]; exact (s5 _ _).trans (fz o)
  replace O1 := Lib.hid (show IOwn V2 (w.heap.size + 1 + 1 + 1) g1 d.a.digs from by rw [hV.out]; exact ownsRow_setCell_below (ownsRow_setCell_below O1.out (by simp only; omega) _) (by simp only; omega) _)
  replace O2 := Lib.hid (show IOwn V2 (w.heap.size + 1 + 1 + 1) g2 d.b.digs from by rw [hV.out]; exact ownsRow_setCell_below (ownsRow_setCell_below O2.out (by simp only; omega) _) (by simp only; omega) _)
  clear hV s1 s2 s3 s4 s5
  refine (toRegister_c d.s A3 c3 V2 d3 (L3.out _ hbV2)).mono ?_
  rintro e w3 ⟨g3, rfl, o3, hb3⟩
  have hbw3 : Below w.heap.size w w3 := hbV2.trans (hb3.mono hbV2.size)
  obtain ⟨hc, hf⟩ := bcell hb3
  have hz3 := hb3.size
  have O3 := Lib.hid (show IOwn w3 (w.heap.size + 1 + 1 + 1) g3 d.s.digs from Go.Joins.ownsRow_le o3 (by omega)); clear o3
  replace O1 := Lib.hid (show IOwn w3 (w.heap.size + 1 + 1 + 1) g1 d.a.digs from own_call O1.out hb3)
  replace O2 := Lib.hid (show IOwn w3 (w.heap.size + 1 + 1 + 1) g2 d.b.digs from own_call O2.out hb3)
  rw [← hc _ _ (by omega)] at x0 y0 z0
  rw [← hc _ _ (by omega)] at x1 y1 z1
  rw [← hc _ _ (by omega)] at x2 y2 z2
  rw [← hc _ _ (by omega)] at x3 y3 z3
  rw [← hc _ _ (by omega)] at x4 y4 z4
  rw [← hc _ _ (by omega)] at x5 y5 z5
  rw [← hc _ _ (by omega)] at x6 y6 z6
  replace fy : ∀ o, w3.frozen? ⟨w.heap.size + 1 + 1, o, none⟩ = false := fun o => by rw [hf _ _ (by omega)]; exact fy o
  replace fz : ∀ o, w3.frozen? ⟨w.heap.size + 1, o, none⟩ = false := fun o => by rw [hf _ _ (by omega)]; exact fz o
  clear hc hf
  simp only [ragg]
  have fy0 := fy 0
  have fz0 := fz 0
  have fy1 := fy 1
  have fz1 := fz 1
  have fy2 := fy 2
  have fz2 := fz 2
  have fy3 := fy 3
  have fz3 := fz 3
  have fy4 := fy 4
  have fz4 := fz 4
  have fy5 := fy 5
  have fz5 := fz 5
  have fy6 := fy 6
  have fz6 := fz 6
  clear fy fz
  have HV := Lib.hid hVz
  go_wp2_with fail
  refine bodyPost_ret (v := tagg d (some ⟨g1, 0, none⟩) d.a.digs.length (some ⟨g2, 0, none⟩) d.b.digs.length (some ⟨g3, 0, none⟩) d.s.digs.length) (by simp only [results, Try.results33, tagg]; go_simp) rfl ⟨g1, g2, g3, rfl, ?_, ?_, ?_, ?_⟩
  · refine Go.Joins.ownsRow_le ?_ (show w.heap.size ≤ w.heap.size + 1 + 1 + 1 by omega)
    repeat (refine ownsRow_setCell_below ?_ (by simp only; omega) _)
    exact O1.out
  · refine Go.Joins.ownsRow_le ?_ (show w.heap.size ≤ w.heap.size + 1 + 1 + 1 by omega)
    repeat (refine ownsRow_setCell_below ?_ (by simp only; omega) _)
    exact O2.out
  · refine Go.Joins.ownsRow_le ?_ (show w.heap.size ≤ w.heap.size + 1 + 1 + 1 by omega)
    repeat (refine ownsRow_setCell_below ?_ (by simp only; omega) _)
    exact O3.out
  · (repeat' (first | (with_reducible exact Below.refl _ _) | (with_reducible assumption) | (with_reducible refine below_drewN ?_ _) | (with_reducible refine Below.drew ?_) | (with_reducible refine Below.alloc ?_ ?_ _) | (with_reducible refine Below.setCell ?_ ?_ _) | (with_reducible refine via (by with_reducible assumption) ?_ ?_) | go_size))

end Go.Proofs.Ytaebofpgdonnbaa
