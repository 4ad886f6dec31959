/- Contracts of pages: sizes, copies, comparing. -/
import Derived.Test.YtaebofpgdonnbaaDoorLawCalls
import Derived.Test.YtaebofpgdonnbaaDoorPage1
set_option linter.unusedVariables false
set_option linter.unusedSimpArgs false
namespace Go.Proofs.YtaebofpgdonnbaaDoor
open Go.RowKit

/-- a page as a value -/
def pg (s : ByteArray) (f t : Int) (A : Option Addr) (n c : Nat) : Value := .agg #[.string s, .int .i64 f, .int .i64 t, .slice A n c]
/-- a page in four cells -/
def PgAt (w : World) (b : Nat) (s : ByteArray) (f t : Int) (A : Option Addr) (n c : Nat) : Prop :=
  w.cell? ⟨b, 0, none⟩ = some (.string s) ∧ w.cell? ⟨b, 1, none⟩ = some (.int .i64 f) ∧ w.cell? ⟨b, 2, none⟩ = some (.int .i64 t) ∧ w.cell? ⟨b, 3, none⟩ = some (.slice A n c)
theorem PgAt.below {w w' : World} {B b : Nat} {s : ByteArray} {f t : Int} {A : Option Addr} {n c : Nat} (h : PgAt w b s f t A n c) (hb : Below B w w') (hB : b < B) : PgAt w' b s f t A n c := by
  obtain ⟨h0, h1, h2, h3⟩ := h
  obtain ⟨hc, _⟩ := bcell hb
  exact ⟨by rw [hc _ _ hB]; exact h0, by rw [hc _ _ hB]; exact h1, by rw [hc _ _ hB]; exact h2, by rw [hc _ _ hB]; exact h3⟩

theorem szInt64S_c (A : Option Addr) (n c : Nat) (left : Int) (w : World) (hn : n ≤ maxLen) (hl : 0 ≤ left ∧ left ≤ 1048576) :
    Calls Tryd.prog 50 #[.slice A n c, .int .i64 left] w fun e w' => e = .returned (.int .i64 (if left - n < 0 then -1 else left - n)) ∧ w = w' := by
  unfold maxLen at hn
  by_cases h : left - n < 0
  all_goals
    go_enter Tryd.func50, Tryd.ntmps50
    go_wp2
    go_ret
    exact ⟨rfl, rfl⟩

set_option maxHeartbeats 400000 in
theorem szTablePage_c (s : ByteArray) (f t : Int) (A : Option Addr) (n c : Nat) (left : Int) (w : World) (hs : s.size ≤ maxLen) (hn : n ≤ maxLen) (hl : 0 ≤ left ∧ left ≤ 1048576) :
    Calls Tryd.prog 21 #[pg s f t A n c, .int .i64 left] w fun e w' => ∃ r : Int, e = .returned (.int .i64 r) ∧ -1 ≤ r ∧ r ≤ left ∧ (0 ≤ r → s.size ≤ 1048576 ∧ n ≤ 1048576) ∧ Below w.heap.size w w' := by
  have hs' := hs
  have hn' := hn
  unfold maxLen at hs' hn'
  unfold pg
  by_cases h1 : left - (s.size : Int) < 0
  · go_enter Tryd.func21, Tryd.ntmps21
    go_wp2_with ((go_at_call 50; refine (szInt64S_c _ _ _ _ _ hn (by omega)).mono ?_; rintro e w' ⟨rfl, rfl⟩))
    refine bodyPost_ret (v := .int .i64 (-1)) (by simp only [results, Tryd.results21]; go_simp) rfl ⟨-1, rfl, by omega, by omega, by omega, ?_⟩
    (repeat' (first | (with_reducible exact Below.refl _ _) | (with_reducible assumption) | (with_reducible refine below_drewN ?_ _) | (with_reducible refine Below.drew ?_) | (with_reducible refine Below.alloc ?_ ?_ _) | (with_reducible refine Below.setCell ?_ ?_ _) | (with_reducible refine via (by with_reducible assumption) ?_ ?_) | go_size))
  · by_cases h2 : left - (s.size : Int) - (n : Int) < 0
    · go_enter Tryd.func21, Tryd.ntmps21
      go_wp2_with ((go_at_call 50; refine (szInt64S_c _ _ _ _ _ hn (by omega)).mono ?_; rintro e w' ⟨rfl, rfl⟩))
      all_goals
        refine bodyPost_ret (v := .int .i64 (-1)) (by simp only [results, Tryd.results21]; go_simp) rfl ⟨-1, rfl, by omega, by omega, by omega, ?_⟩
        (repeat' (first | (with_reducible exact Below.refl _ _) | (with_reducible assumption) | (with_reducible refine below_drewN ?_ _) | (with_reducible refine Below.drew ?_) | (with_reducible refine Below.alloc ?_ ?_ _) | (with_reducible refine Below.setCell ?_ ?_ _) | (with_reducible refine via (by with_reducible assumption) ?_ ?_) | go_size))
    · go_enter Tryd.func21, Tryd.ntmps21
      go_wp2_with ((go_at_call 50; refine (szInt64S_c _ _ _ _ _ hn (by omega)).mono ?_; rintro e w' ⟨rfl, rfl⟩))
      all_goals
        refine bodyPost_ret (v := .int .i64 (left - s.size - n)) (by simp only [results, Tryd.results21]; go_simp) rfl ⟨left - s.size - n, rfl, by omega, by omega, by omega, ?_⟩
        (repeat' (first | (with_reducible exact Below.refl _ _) | (with_reducible assumption) | (with_reducible refine below_drewN ?_ _) | (with_reducible refine Below.drew ?_) | (with_reducible refine Below.alloc ?_ ?_ _) | (with_reducible refine Below.setCell ?_ ?_ _) | (with_reducible refine via (by with_reducible assumption) ?_ ?_) | go_size))

theorem toTablePage_c (s : ByteArray) (f t : Int) (A : Option Addr) (n c : Nat) (l : List Int) (w : World) (hn : l.length = n) (hm : n ≤ 1048576) (hr : Rd w w.heap.size 1 icell A l) :
    Calls Tryd.prog 23 #[pg s f t A n c] w fun e w' => ∃ g, w.heap.size ≤ g ∧ e = .returned (pg s f t (some ⟨g, 0, none⟩) n n) ∧ w'.ownsRow g 2 1 (.slice (some ⟨g, 0, none⟩) n n) n (l.map (Value.int .i64)) ∧ Below w.heap.size w w' := by
  have HN := Lib.hid hn; clear hn
  unfold pg
  go_enter Tryd.func23, Tryd.ntmps23
  go_wp2_with fail
  refine (toInt64S_c A n c l _ HN.out hm ?_).mono ?_
  · refine Rd.mono (Rd.below hr (B := w.heap.size) ?_) (by go_size)
    (repeat' (first | (with_reducible exact Below.refl _ _) | (with_reducible assumption) | (with_reducible refine below_drewN ?_ _) | (with_reducible refine Below.drew ?_) | (with_reducible refine Below.alloc ?_ ?_ _) | (with_reducible refine Below.setCell ?_ ?_ _) | (with_reducible refine via (by with_reducible assumption) ?_ ?_) | go_size))
  rintro e w1 ⟨rfl, ho, hb1⟩
  have HO := Lib.hid ho; clear ho
  obtain ⟨hc1, hf1⟩ := bcell hb1; have hz1 := hb1.size; (try simp only [World.size_alloc, size_drewN, World.size_setCell, World.size_drew] at hz1 hc1 hf1)
  have hl1 := far (show w.heap.size < w1.heap.size by omega)
  have hl2 := far (show w.heap.size + 1 < w1.heap.size by omega)
  have hl3 := far (show w.heap.size + 1 + 1 < w1.heap.size by omega)
  go_wp2_with fail
  have hB : Below w.heap.size w w1 := by (repeat' (first | (with_reducible exact Below.refl _ _) | (with_reducible assumption) | (with_reducible refine below_drewN ?_ _) | (with_reducible refine Below.drew ?_) | (with_reducible refine Below.alloc ?_ ?_ _) | (with_reducible refine Below.setCell ?_ ?_ _) | (with_reducible refine via (by with_reducible assumption) ?_ ?_) | go_size))
  refine bodyPost_ret (v := .agg #[.string s, .int .i64 f, .int .i64 t, .slice (some ⟨w.heap.size + 1 + 1 + 1, 0, none⟩) n n]) (by simp only [results, Tryd.results23]; go_simp) rfl ⟨w.heap.size + 1 + 1 + 1, by omega, rfl, ?_, ?_⟩
  · have h0 := HO.out
    simp only [World.size_alloc, size_drewN, World.size_setCell, World.size_drew] at h0
    repeat' refine ownsRow_setCell_below ?_ (by dsimp only; omega) _
    exact h0
  · (repeat' (first | (with_reducible exact Below.refl _ _) | (with_reducible assumption) | (with_reducible refine below_drewN ?_ _) | (with_reducible refine Below.drew ?_) | (with_reducible refine Below.alloc ?_ ?_ _) | (with_reducible refine Below.setCell ?_ ?_ _) | (with_reducible refine via (by with_reducible assumption) ?_ ?_) | go_size))

set_option maxHeartbeats 400000 in
theorem eqTablePage_c (s : ByteArray) (f t : Int) (A A' : Option Addr) (n c c' : Nat) (l : List Int) (w : World) (hn : l.length = n) (hm : n ≤ maxLen) (hr : Rd w w.heap.size 1 icell A l) (hr' : Rd w w.heap.size 1 icell A' l) :
    Calls Tryd.prog 17 #[pg s f t A n c, pg s f t A' n c'] w fun e w' => e = .returned (.bool true) ∧ Below w.heap.size w w' := by
  have HN := Lib.hid hn; clear hn
  unfold pg
  go_enter Tryd.func17, Tryd.ntmps17
  go_wp2_with fail
  refine (to_below (eqInt64S_c A A' n c c' l w.heap.size _ HN.out hm ?_ ?_)).mono ?_
  · refine Rd.below hr (B := w.heap.size) ?_
    (repeat' (first | (with_reducible exact Below.refl _ _) | (with_reducible assumption) | (with_reducible refine below_drewN ?_ _) | (with_reducible refine Below.drew ?_) | (with_reducible refine Below.alloc ?_ ?_ _) | (with_reducible refine Below.setCell ?_ ?_ _) | (with_reducible refine via (by with_reducible assumption) ?_ ?_) | go_size))
  · refine Rd.below hr' (B := w.heap.size) ?_
    (repeat' (first | (with_reducible exact Below.refl _ _) | (with_reducible assumption) | (with_reducible refine below_drewN ?_ _) | (with_reducible refine Below.drew ?_) | (with_reducible refine Below.alloc ?_ ?_ _) | (with_reducible refine Below.setCell ?_ ?_ _) | (with_reducible refine via (by with_reducible assumption) ?_ ?_) | go_size))
  rintro e w1 ⟨rfl, hb1⟩
  obtain ⟨hc1, hf1⟩ := bcell hb1; have hz1 := hb1.size; (try simp only [World.size_alloc, size_drewN, World.size_setCell, World.size_drew] at hz1 hc1 hf1)
  go_wp2_with fail
  go_ret
  refine ⟨rfl, ?_⟩
  (repeat' (first | (with_reducible exact Below.refl _ _) | (with_reducible assumption) | (with_reducible refine below_drewN ?_ _) | (with_reducible refine Below.drew ?_) | (with_reducible refine Below.alloc ?_ ?_ _) | (with_reducible refine Below.setCell ?_ ?_ _) | (with_reducible refine via (by with_reducible assumption) ?_ ?_) | go_size))

end Go.Proofs.YtaebofpgdonnbaaDoor
