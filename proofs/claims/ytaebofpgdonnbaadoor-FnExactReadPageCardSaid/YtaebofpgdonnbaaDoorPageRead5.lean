/- Contracts: PageFault and ReadPage, both sides. -/
import Derived.Test.YtaebofpgdonnbaaDoorPageRead4
set_option linter.unusedVariables false
set_option linter.unusedSimpArgs false
namespace Go.Proofs.YtaebofpgdonnbaaDoor
open Go.RowKit

def readPR (lines : List ByteArray) : PgR × Int := if (readR lines).2.2 = 0 then ((readR lines).1, 0) else (pz, 8)
theorem goM_len {lines : List ByteArray} {f t : Int} : ∀ (k i : Nat) (vs : List Int), (goM lines f t k i vs).1.length ≤ vs.length + k
  | 0, _, vs => by unfold goM; exact Nat.le_refl _
  | k + 1, i, vs => by
    cases h : lines[i + 1]? with
    | none => unfold goM; rw [h]; exact Nat.zero_le _
    | some ln =>
      by_cases hr : (rowWs (splL ln 32) (f + (i : Int) * t)).2 = 0
      · rw [goM_ok h hr]
        have := goM_len (lines := lines) (f := f) (t := t) k (i + 1) (vs ++ [(rowWs (splL ln 32) (f + (i : Int) * t)).1])
        rw [List.length_append] at this
        simp only [List.length_cons, List.length_nil] at this
        omega
      · rw [goM_bad h hr]; exact Nat.zero_le _
theorem readR_len (lines : List ByteArray) : (readR lines).1.l.length ≤ 60 := by
  cases h0 : lines[0]? with
  | none => unfold readR; rw [h0]; exact Nat.zero_le _
  | some h =>
    cases hw : headWs (splL h 32)
    · rw [readR_head h0 hw]; exact Nat.zero_le _
    · obtain ⟨nm, f, t, n, hv⟩ : ∃ nm f t n, headVs (splL h 32) = (nm, f, t, n) := ⟨_, _, _, _, rfl⟩
      obtain ⟨_, _, hn1, hn2⟩ := headWs_bd hw hv
      obtain ⟨N, rfl⟩ := Int.eq_ofNat_of_zero_le (by omega : 0 ≤ n)
      rw [readR_eq h0 hw hv]
      have := goM_len (lines := lines) (f := f) (t := t) N 0 []
      simp only [List.length_nil] at this
      split
      · split
        · show (goM lines f t N 0 []).1.length ≤ 60
          omega
        · exact Nat.zero_le _
      · exact Nat.zero_le _
theorem readPR_len (lines : List ByteArray) : (readPR lines).1.l.length ≤ 1048576 := by
  unfold readPR
  split
  · have := readR_len lines
    show (readR lines).1.l.length ≤ 1048576
    omega
  · exact Nat.zero_le _

set_option maxRecDepth 100000 in
set_option maxHeartbeats 2000000 in
theorem PageFaultI_c (A : Option Addr) (n c : Nat) (lines : List ByteArray) (w : World) (hn : lines.length = n) (hm : n ≤ 1048576) (hr : Rd w w.heap.size 1 scell A lines) (hsz : ∀ x ∈ lines, x.size ≤ 1048576) (ht : Tab w) :
    Calls Tryd.prog 13 #[.slice A n c] w fun e w' => e = .returned (.tuple #[.int .i64 (readR lines).2.1, .int .i64 (readR lines).2.2]) ∧ Below w.heap.size w w' := by
  have HC := Lib.hid (readPage_c A n c lines w hn hm hr hsz ht)
  generalize readR lines = R at *
  go_enter Tryd.func13, Tryd.ntmps13
  go_wp2_with fail
  refine HC.out.mono ?_
  rintro e w1 ⟨A1, c1, rfl, ho, hb1⟩
  clear ho
  have hs1 := hb1.size
  go_wp2_with fail
  refine bodyPost_ret (v := .tuple #[.int .i64 R.2.1, .int .i64 R.2.2]) (by simp only [results, Tryd.results13]; go_simp) rfl ⟨rfl, by (repeat' (first | (with_reducible exact Below.refl _ _) | (with_reducible assumption) | (with_reducible refine below_drewN ?_ _) | (with_reducible refine Below.drew ?_) | (with_reducible refine Below.alloc ?_ ?_ _) | (with_reducible refine Below.setCell ?_ ?_ _) | (with_reducible refine via (by with_reducible assumption) ?_ ?_) | go_size))⟩

set_option maxRecDepth 100000 in
set_option maxHeartbeats 2000000 in
theorem ReadPageI_c (A : Option Addr) (n c : Nat) (lines : List ByteArray) (w : World) (hn : lines.length = n) (hm : n ≤ 1048576) (hr : Rd w w.heap.size 1 scell A lines) (hsz : ∀ x ∈ lines, x.size ≤ 1048576) (ht : Tab w) :
    Calls Tryd.prog 16 #[.slice A n c] w fun e w' => ∃ RA Rc, e = .returned (.tuple #[pg (readPR lines).1.s (readPR lines).1.f (readPR lines).1.t RA (readPR lines).1.l.length Rc, .int .i64 (readPR lines).2]) ∧ w'.ownsRow w.heap.size 2 1 (.slice RA (readPR lines).1.l.length Rc) (readPR lines).1.l.length ((readPR lines).1.l.map (Value.int .i64)) ∧ Below w.heap.size w w' := by
  have HC := Lib.hid (fun w' hr' ht => readPage_c A n c lines w' hn hm hr' hsz ht)
  have HT := Lib.hid ht; clear ht
  unfold readPR pg
  generalize readR lines = R at *
  obtain ⟨P, hP⟩ : ∃ P : PgR × Int, P = (if R.2.2 = 0 then (R.1, 0) else (pz, 8)) := ⟨_, rfl⟩
  rw [← hP]
  have HP := Lib.hid hP; clear hP
  go_enter Tryd.func16, Tryd.ntmps16
  go_wp2_with fail
  refine gen_calls fun V hV => ?_
  have hbV : Below w.heap.size w V := by rw [hV.out]; (repeat' (first | (with_reducible exact Below.refl _ _) | (with_reducible assumption) | (with_reducible refine below_drewN ?_ _) | (with_reducible refine Below.drew ?_) | (with_reducible refine Below.alloc ?_ ?_ _) | (with_reducible refine Below.setCell ?_ ?_ _) | (with_reducible refine via (by with_reducible assumption) ?_ ?_) | go_size))
  have hlt : w.heap.size < V.heap.size := by rw [hV.out]; simp [go_sem]
  have z0 : V.cell? ⟨w.heap.size, 0, none⟩ = some (.string ByteArray.empty) := by rw [hV.out]; simp [go_sem]; rfl
  have z1 : V.cell? ⟨w.heap.size, 1, none⟩ = some (.int .i64 0) := by rw [hV.out]; simp [go_sem]
  have z2 : V.cell? ⟨w.heap.size, 2, none⟩ = some (.int .i64 0) := by rw [hV.out]; simp [go_sem]
  have z3 : V.cell? ⟨w.heap.size, 3, none⟩ = some (.slice none 0 0) := by rw [hV.out]; simp [go_sem]
  have f0 : V.frozen? ⟨w.heap.size, 0, none⟩ = false := by rw [hV.out]; simp [go_sem]
  have f1 : V.frozen? ⟨w.heap.size, 1, none⟩ = false := by rw [hV.out]; simp [go_sem]
  have f2 : V.frozen? ⟨w.heap.size, 2, none⟩ = false := by rw [hV.out]; simp [go_sem]
  have f3 : V.frozen? ⟨w.heap.size, 3, none⟩ = false := by rw [hV.out]; simp [go_sem]
  clear hV
  refine (HC.out V ((hr.below hbV).mono hbV.size) (HT.out.below hbV)).mono ?_
  rintro e w1 ⟨A1, c1, rfl, ho, hb1⟩
  obtain ⟨hc, hf⟩ := bcell hb1
  rw [← hc _ _ hlt] at z0
  rw [← hf _ _ hlt] at f0
  rw [← hc _ _ hlt] at z1
  rw [← hf _ _ hlt] at f1
  rw [← hc _ _ hlt] at z2
  rw [← hf _ _ hlt] at f2
  rw [← hc _ _ hlt] at z3
  rw [← hf _ _ hlt] at f3
  have hl1 := far (Nat.lt_of_lt_of_le hlt hb1.size)
  have hbw1 : Below w.heap.size w w1 := hbV.trans (hb1.mono hbV.size)
  have hVs := hbV.size
  have HO := Lib.hid ho
  clear ho hc hf hb1
  by_cases hR : R.2.2 = 0
  · have q1 : (R.2.2 == 0) = true := by rw [beq_iff_eq]; exact hR
    have q2 : (R.2.2 != 0) = false := by rw [bne_eq_false_iff_eq]; exact hR
    have HP2 := Lib.hid (show P = (R.1, 0) by rw [HP.out, if_pos hR])
    replace hR := Lib.hid hR
    have n1 : ¬ w.heap.size = w1.heap.size := by omega
    have n2 : ¬ w1.heap.size = w.heap.size := by omega
    go_wp2_with fail
    refine bodyPost_ret (v := .tuple #[.agg #[.string R.1.s, .int .i64 R.1.f, .int .i64 R.1.t, .slice A1 R.1.l.length c1], .int .i64 0]) (by simp only [results, Tryd.results16]; go_simp) rfl ⟨A1, c1, by rw [HP2.out], ?_, by (repeat' (first | (with_reducible exact Below.refl _ _) | (with_reducible assumption) | (with_reducible refine below_drewN ?_ _) | (with_reducible refine Below.drew ?_) | (with_reducible refine Below.alloc ?_ ?_ _) | (with_reducible refine Below.setCell ?_ ?_ _) | (with_reducible refine via (by with_reducible assumption) ?_ ?_) | go_size))⟩
    rw [HP2.out]
    refine Go.Joins.ownsRow_le ?_ hVs
    exact (ownsRow_setCell_below (ownsRow_setCell_below (ownsRow_setCell_below (ownsRow_setCell_below HO.out (a := ⟨w.heap.size, 0, none⟩) hlt _) (a := ⟨w.heap.size, 1, none⟩) hlt _) (a := ⟨w.heap.size, 2, none⟩) hlt _) (a := ⟨w.heap.size, 3, none⟩) hlt _).alloc _
  · have q1 : (R.2.2 == 0) = false := by rw [beq_eq_false_iff_ne]; exact hR
    have q2 : (R.2.2 != 0) = true := by rw [bne_iff_ne]; exact hR
    have HP2 := Lib.hid (show P = (pz, 8) by rw [HP.out, if_neg hR])
    have n1 : ¬ w.heap.size = w1.heap.size := by omega
    have n2 : ¬ w1.heap.size = w.heap.size := by omega
    go_wp2_with fail
    refine bodyPost_ret (v := .tuple #[.agg #[.string ByteArray.empty, .int .i64 0, .int .i64 0, .slice none 0 0], .int .i64 8]) (by simp only [results, Tryd.results16]; go_simp; try rfl) rfl ⟨none, 0, (by rw [HP2.out]; rfl), (by rw [HP2.out]; exact World.ownsRow_nil _ _ _ _), by (repeat' (first | (with_reducible exact Below.refl _ _) | (with_reducible assumption) | (with_reducible refine below_drewN ?_ _) | (with_reducible refine Below.drew ?_) | (with_reducible refine Below.alloc ?_ ?_ _) | (with_reducible refine Below.setCell ?_ ?_ _) | (with_reducible refine via (by with_reducible assumption) ?_ ?_) | go_size))⟩

set_option maxRecDepth 100000 in
set_option maxHeartbeats 2000000 in
theorem PageFaultS_c (A : Option Addr) (n c : Nat) (lines : List ByteArray) (w : World) (hn : lines.length = n) (hm : n ≤ 1048576) (hr : Rd w w.heap.size 1 scell A lines) (hsz : ∀ x ∈ lines, x.size ≤ 1048576) :
    Calls Tryd.prog 11 #[.slice A n c] w fun e w' => e = .returned (.tuple #[.int .i64 (readR lines).2.1, .int .i64 (readR lines).2.2]) ∧ Below w.heap.size w w' := by
  have HC := Lib.hid (l18Read_c A n c lines w hn hm hr hsz)
  generalize readR lines = R at *
  go_enter Tryd.func11, Tryd.ntmps11
  go_wp2_with fail
  refine HC.out.mono ?_
  rintro e w1 ⟨A1, c1, rfl, ho, hb1⟩
  clear ho
  have hs1 := hb1.size
  go_wp2_with fail
  refine bodyPost_ret (v := .tuple #[.int .i64 R.2.1, .int .i64 R.2.2]) (by simp only [results, Tryd.results11]; go_simp) rfl ⟨rfl, by (repeat' (first | (with_reducible exact Below.refl _ _) | (with_reducible assumption) | (with_reducible refine below_drewN ?_ _) | (with_reducible refine Below.drew ?_) | (with_reducible refine Below.alloc ?_ ?_ _) | (with_reducible refine Below.setCell ?_ ?_ _) | (with_reducible refine via (by with_reducible assumption) ?_ ?_) | go_size))⟩

set_option maxRecDepth 100000 in
set_option maxHeartbeats 2000000 in
theorem ReadPageS_c (A : Option Addr) (n c : Nat) (lines : List ByteArray) (w : World) (hn : lines.length = n) (hm : n ≤ 1048576) (hr : Rd w w.heap.size 1 scell A lines) (hsz : ∀ x ∈ lines, x.size ≤ 1048576) :
    Calls Tryd.prog 15 #[.slice A n c] w fun e w' => ∃ RA Rc, e = .returned (.tuple #[pg (readPR lines).1.s (readPR lines).1.f (readPR lines).1.t RA (readPR lines).1.l.length Rc, .int .i64 (readPR lines).2]) ∧ w'.ownsRow w.heap.size 2 1 (.slice RA (readPR lines).1.l.length Rc) (readPR lines).1.l.length ((readPR lines).1.l.map (Value.int .i64)) ∧ Below w.heap.size w w' := by
  have HC := Lib.hid (fun w' hr'  => l18Read_c A n c lines w' hn hm hr' hsz)
  skip
  unfold readPR pg
  generalize readR lines = R at *
  obtain ⟨P, hP⟩ : ∃ P : PgR × Int, P = (if R.2.2 = 0 then (R.1, 0) else (pz, 8)) := ⟨_, rfl⟩
  rw [← hP]
  have HP := Lib.hid hP; clear hP
  go_enter Tryd.func15, Tryd.ntmps15
  go_wp2_with fail
  refine gen_calls fun V hV => ?_
  have hbV : Below w.heap.size w V := by rw [hV.out]; (repeat' (first | (with_reducible exact Below.refl _ _) | (with_reducible assumption) | (with_reducible refine below_drewN ?_ _) | (with_reducible refine Below.drew ?_) | (with_reducible refine Below.alloc ?_ ?_ _) | (with_reducible refine Below.setCell ?_ ?_ _) | (with_reducible refine via (by with_reducible assumption) ?_ ?_) | go_size))
  have hlt : w.heap.size < V.heap.size := by rw [hV.out]; simp [go_sem]
  have z0 : V.cell? ⟨w.heap.size, 0, none⟩ = some (.string ByteArray.empty) := by rw [hV.out]; simp [go_sem]; rfl
  have z1 : V.cell? ⟨w.heap.size, 1, none⟩ = some (.int .i64 0) := by rw [hV.out]; simp [go_sem]
  have z2 : V.cell? ⟨w.heap.size, 2, none⟩ = some (.int .i64 0) := by rw [hV.out]; simp [go_sem]
  have z3 : V.cell? ⟨w.heap.size, 3, none⟩ = some (.slice none 0 0) := by rw [hV.out]; simp [go_sem]
  have f0 : V.frozen? ⟨w.heap.size, 0, none⟩ = false := by rw [hV.out]; simp [go_sem]
  have f1 : V.frozen? ⟨w.heap.size, 1, none⟩ = false := by rw [hV.out]; simp [go_sem]
  have f2 : V.frozen? ⟨w.heap.size, 2, none⟩ = false := by rw [hV.out]; simp [go_sem]
  have f3 : V.frozen? ⟨w.heap.size, 3, none⟩ = false := by rw [hV.out]; simp [go_sem]
  clear hV
  refine (HC.out V ((hr.below hbV).mono hbV.size)).mono ?_
  rintro e w1 ⟨A1, c1, rfl, ho, hb1⟩
  obtain ⟨hc, hf⟩ := bcell hb1
  rw [← hc _ _ hlt] at z0
  rw [← hf _ _ hlt] at f0
  rw [← hc _ _ hlt] at z1
  rw [← hf _ _ hlt] at f1
  rw [← hc _ _ hlt] at z2
  rw [← hf _ _ hlt] at f2
  rw [← hc _ _ hlt] at z3
  rw [← hf _ _ hlt] at f3
  have hl1 := far (Nat.lt_of_lt_of_le hlt hb1.size)
  have hbw1 : Below w.heap.size w w1 := hbV.trans (hb1.mono hbV.size)
  have hVs := hbV.size
  have HO := Lib.hid ho
  clear ho hc hf hb1
  by_cases hR : R.2.2 = 0
  · have q1 : (R.2.2 == 0) = true := by rw [beq_iff_eq]; exact hR
    have q2 : (R.2.2 != 0) = false := by rw [bne_eq_false_iff_eq]; exact hR
    have HP2 := Lib.hid (show P = (R.1, 0) by rw [HP.out, if_pos hR])
    replace hR := Lib.hid hR
    have n1 : ¬ w.heap.size = w1.heap.size := by omega
    have n2 : ¬ w1.heap.size = w.heap.size := by omega
    go_wp2_with fail
    refine bodyPost_ret (v := .tuple #[.agg #[.string R.1.s, .int .i64 R.1.f, .int .i64 R.1.t, .slice A1 R.1.l.length c1], .int .i64 0]) (by simp only [results, Tryd.results15]; go_simp) rfl ⟨A1, c1, by rw [HP2.out], ?_, by (repeat' (first | (with_reducible exact Below.refl _ _) | (with_reducible assumption) | (with_reducible refine below_drewN ?_ _) | (with_reducible refine Below.drew ?_) | (with_reducible refine Below.alloc ?_ ?_ _) | (with_reducible refine Below.setCell ?_ ?_ _) | (with_reducible refine via (by with_reducible assumption) ?_ ?_) | go_size))⟩
    rw [HP2.out]
    refine Go.Joins.ownsRow_le ?_ hVs
    exact (ownsRow_setCell_below (ownsRow_setCell_below (ownsRow_setCell_below (ownsRow_setCell_below HO.out (a := ⟨w.heap.size, 0, none⟩) hlt _) (a := ⟨w.heap.size, 1, none⟩) hlt _) (a := ⟨w.heap.size, 2, none⟩) hlt _) (a := ⟨w.heap.size, 3, none⟩) hlt _).alloc _
  · have q1 : (R.2.2 == 0) = false := by rw [beq_eq_false_iff_ne]; exact hR
    have q2 : (R.2.2 != 0) = true := by rw [bne_iff_ne]; exact hR
    have HP2 := Lib.hid (show P = (pz, 8) by rw [HP.out, if_neg hR])
    have n1 : ¬ w.heap.size = w1.heap.size := by omega
    have n2 : ¬ w1.heap.size = w.heap.size := by omega
    go_wp2_with fail
    refine bodyPost_ret (v := .tuple #[.agg #[.string ByteArray.empty, .int .i64 0, .int .i64 0, .slice none 0 0], .int .i64 8]) (by simp only [results, Tryd.results15]; go_simp; try rfl) rfl ⟨none, 0, (by rw [HP2.out]; rfl), (by rw [HP2.out]; exact World.ownsRow_nil _ _ _ _), by (repeat' (first | (with_reducible exact Below.refl _ _) | (with_reducible assumption) | (with_reducible refine below_drewN ?_ _) | (with_reducible refine Below.drew ?_) | (with_reducible refine Below.alloc ?_ ?_ _) | (with_reducible refine Below.setCell ?_ ?_ _) | (with_reducible refine via (by with_reducible assumption) ?_ ?_) | go_size))⟩

end Go.Proofs.YtaebofpgdonnbaaDoor
