/- Contracts: Fractions read, measured, copied, compared, marked, held. -/
import Derived.Test.YtphckllloiogjaaInts
import Derived.Test.YtphckllloiogjaaOwn
import Derived.Test.YtphckllloiogjaaOpen
import Derived.Test.YtphckllloiogjaaFracFn
set_option linter.unusedVariables false
set_option linter.unusedSimpArgs false
namespace Go.Proofs.Ytphckllloiogjaa
open Go.RowKit

theorem fcell_flat_len (l : List (Int × Int)) : (l.flatMap fcell).length = l.length * 2 := flat_len fcell 2 fcell_len l
theorem fcell_one (d : (Int × Int)) : ∀ u ∈ fcell d, u.oneCell' = true := by simp [fcell, Value.oneCell']
theorem info_frac : (Try.prog.info? 23).map (fun i => (i.zero, i.size, i.bytes)) = some (some (.agg #[.int .i64 0, .int .i64 0]), 2, 16) := by kernel_rfl

/-- the cells, one by one -/
theorem Rd.frac {w : World} {B : Nat} {A : Option Addr} {l : List (Int × Int)} (h : Rd w B 2 fcell A l) (hl : 0 < l.length) :
    ∃ b off, A = some ⟨b, off, none⟩ ∧ b < B ∧ ∀ i d, l[i]? = some d → w.cell? ⟨b, off + i * 2, none⟩ = some (.int .i64 d.1) ∧ w.cell? ⟨b, off + i * 2 + 1, none⟩ = some (.int .i64 d.2) := by
  obtain ⟨b, off, e, hb, hc⟩ := h hl
  exact ⟨b, off, e, hb, fun i d hi => ⟨hc i d hi 0 _ rfl, hc i d hi 1 _ rfl⟩⟩

def RetSzS (n : Nat) (left : Int) (W : World) (e : Ending) (w' : World) : Prop := ∃ r : Int, e = .returned (.int .i64 r) ∧ -1 ≤ r ∧ r ≤ left ∧ (0 ≤ r → (n : Int) ≤ left) ∧ Below W.heap.size W w'
set_option maxHeartbeats 1000000 in
theorem szFractionS_c (A : Option Addr) (n c : Nat) (l : List (Int × Int)) (left : Int) (w : World) (hn : l.length = n) (hm : n ≤ maxLen) (h0 : 0 ≤ left) (h1 : left ≤ 1048576) (hr : Rd w w.heap.size 2 fcell A l) (ok : ∀ d ∈ l, okF d) :
    Calls Try.prog 29 #[.slice A n c, .int .i64 left] w (RetSzS n left w) := by
  unfold maxLen at hm
  by_cases t1 : left - n < 0
  · go_enter Try.func29, Try.ntmps29
    go_wp2
    go_ret
    exact ⟨-1, rfl, by omega, by omega, fun h => by omega, by (repeat' (first | (with_reducible exact Below.refl _ _) | (with_reducible assumption) | (with_reducible refine below_drewN ?_ _) | (with_reducible refine Below.drew ?_) | (with_reducible refine Below.alloc ?_ ?_ _) | (with_reducible refine Below.setCell ?_ ?_ _) | (with_reducible refine via (by with_reducible assumption) ?_ ?_) | go_size))⟩

  · go_enter Try.func29, Try.ntmps29
    go_wp2
    go_ret
    exact ⟨_, rfl, by omega, by omega, fun h => by omega, by (repeat' (first | (with_reducible exact Below.refl _ _) | (with_reducible assumption) | (with_reducible refine below_drewN ?_ _) | (with_reducible refine Below.drew ?_) | (with_reducible refine Below.alloc ?_ ?_ _) | (with_reducible refine Below.setCell ?_ ?_ _) | (with_reducible refine via (by with_reducible assumption) ?_ ?_) | go_size))⟩


theorem take_set2 {α : Type} (xs : List α) (k : Nat) (u0 u1 : α) (h : k * 2 + 2 ≤ xs.length) :
    ((xs.set (k * 2) u0).set (k * 2 + 1) u1).take ((k + 1) * 2) = xs.take (k * 2) ++ [u0, u1] := by
  apply List.ext_getElem?
  intro i
  rw [List.getElem?_append, List.getElem?_take]
  have hl : (xs.take (k * 2)).length = k * 2 := by rw [List.length_take]; omega
  rw [hl]
  by_cases h1 : i < k * 2
  · rw [if_pos (by omega), if_pos h1, List.getElem?_take, if_pos h1]
    rw [List.getElem?_set_ne (by omega), List.getElem?_set_ne (by omega)]
  · rw [if_neg h1]
    by_cases h2 : i < (k + 1) * 2
    · rw [if_pos h2]
      have hcs : i = k * 2 ∨ i = k * 2 + 1 := by omega
      rcases hcs with rfl | rfl <;> simp [List.getElem?_set] <;> omega
    · rw [if_neg h2, List.getElem?_eq_none (by simp; omega)]

set_option maxHeartbeats 1000000 in
theorem toFractionS_c (A : Option Addr) (n c : Nat) (l : List (Int × Int)) (w : World) (hn : l.length = n) (hm : n ≤ 1048576) (hr : Rd w w.heap.size 2 fcell A l) :
    Calls Try.prog 31 #[.slice A n c] w fun e w' => e = .returned (.slice (some ⟨w.heap.size, 0, none⟩) n n) ∧ w'.ownsRow w.heap.size 23 2 (.slice (some ⟨w.heap.size, 0, none⟩) n n) n (l.flatMap fcell) ∧ Below w.heap.size w w' := by
  obtain ⟨i0, hi0, hz0, hz1, hz2⟩ := info_parts info_frac
  go_enter Try.func31, Try.ntmps31
  go_wp2_with (at_make; refine wpList_make_full _ rfl _ _ 46 rfl w.heap.size 23 i0 _ 2 Try.underlying46 hi0 hz0 hz1 _ _ _ _ n rfl rfl rfl rfl (by rw [hz2]; omega) (by unfold maxLen; omega) (Nat.le_refl _) ?_; intro w1 hown hg)
  have hb1 : Below w.heap.size w w1 := (Below.refl _ _).grown hg (Nat.le_refl _) (fun k hk => by cases hk)
  clear hg
  go_loopw [4] (fun i wr => ∃ k : Nat, k ≤ n ∧ i = .int .i64 k ∧ Below w.heap.size w wr ∧ ∃ xs, wr.ownsRow w.heap.size 23 2 (.slice (some ⟨w.heap.size, 0, none⟩) n n) n xs ∧ xs.take (k * 2) = (l.take k).flatMap fcell) (fun i _ => n - (intOf i).toNat)
  case atStart => exact ⟨0, Nat.zero_le _, rfl, hb1, _, hown, by simp⟩
  case round =>
    clear hb1 hown
    obtain ⟨k, hk, rfl, hb, xs, hx, ht⟩ := hrel
    have HX := Lib.hid hx; clear hx
    have HT := Lib.hid ht; clear ht
    by_cases hlt : k < n
    · obtain ⟨b, off, rfl, hbl, hc⟩ := hr.frac (by omega)
      obtain ⟨d, ed⟩ := get_ex l k (by omega)
      obtain ⟨g0, g1⟩ := hc k d ed
      rw [← hb.cell (p := ⟨b, off + k * 2, none⟩) hbl] at g0
      rw [← hb.cell (p := ⟨b, off + k * 2 + 1, none⟩) hbl] at g1
      have HE := Lib.hid ed; clear ed hc
      have hxl : xs.length = n * 2 := HX.out.1
      have hbs := hb.size
      have HN := Lib.hid hn; clear hn
      go_wp2_with fail
      refine (toFraction_c d wr).mono ?_
      rintro e w2 ⟨rfl, hb2⟩
      have hx2 := own_below HX.out hb2 (fun q hq => (HX.out.lt q hq).2)
      have hw2 : w.heap.size < w2.heap.size := (hx2.lt w.heap.size rfl).2
      obtain ⟨z0, hz0'⟩ : ∃ x, xs[k * 2]? = some x := ⟨_, List.getElem?_eq_getElem (by omega)⟩
      have c0 : w2.cell? ⟨w.heap.size, k * 2, none⟩ = some z0 := by rw [hx2.cellAt _ (by omega)]; exact hz0'
      have f0 : w2.frozen? ⟨w.heap.size, k * 2, none⟩ = false := hx2.frozenAt _
      obtain ⟨z1, hz1'⟩ : ∃ x, xs[k * 2 + 1]? = some x := ⟨_, List.getElem?_eq_getElem (by omega)⟩
      have c1 : w2.cell? ⟨w.heap.size, k * 2 + 1, none⟩ = some z1 := by rw [hx2.cellAt _ (by omega)]; exact hz1'
      have f1 : w2.frozen? ⟨w.heap.size, k * 2 + 1, none⟩ = false := hx2.frozenAt _
      have HX2 := Lib.hid hx2; clear hx2
      have HL := Lib.hid hxl; clear hxl
      clear hz0' hz1'
      simp only [fr]
      go_wp2_with fail
      go_roundw
      case rel =>
        have s0 := HX2.out.stored (k * 2) (.int .i64 d.1)
        have s1 := s0.1.stored (k * 2 + 1) (.int .i64 d.2)
        have hxl := HL.out
        refine ⟨k + 1, by omega, by go_num, by (repeat' (first | (with_reducible exact Below.refl _ _) | (with_reducible assumption) | (with_reducible refine below_drewN ?_ _) | (with_reducible refine Below.drew ?_) | (with_reducible refine Below.alloc ?_ ?_ _) | (with_reducible refine Below.setCell ?_ ?_ _) | (with_reducible refine via (by with_reducible assumption) ?_ ?_) | go_size)), _, s1.1, ?_⟩
        rw [take_set2 _ _ _ _ (by omega), HT.out, take_snoc' _ _ _ HE.out, List.flatMap_append]
        simp [fcell]
      case measure => simp [intOf]; omega
    · have hkn : k = n := by omega
      subst hkn
      have hfin : wr.ownsRow w.heap.size 23 2 (.slice (some ⟨w.heap.size, 0, none⟩) k k) k (l.flatMap fcell) := by
        have h1 := HX.out
        have h2 := HT.out
        rw [List.take_of_length_le (by rw [h1.1]; exact Nat.le_refl _), List.take_of_length_le (by omega)] at h2
        rwa [h2] at h1
      go_wp2
      go_ret
      exact ⟨rfl, hfin, hb⟩


set_option maxHeartbeats 1000000 in
theorem eqFractionS_c (A A' : Option Addr) (n c c' : Nat) (l : List (Int × Int)) (B : Nat) (w : World) (hn : l.length = n) (hm : n ≤ maxLen) (hB : B ≤ w.heap.size) (hr : Rd w B 2 fcell A l) (hr' : Rd w B 2 fcell A' l) :
    Calls Try.prog 33 #[.slice A n c, .slice A' n c'] w fun e w' => e = .returned (.bool true) ∧ Below w.heap.size w w' := by
  unfold maxLen at hm
  go_enter Try.func33, Try.ntmps33
  go_wp2
  go_loopw [5] (fun i wr => ∃ k : Nat, k ≤ n ∧ i = .int .i64 k ∧ Below w.heap.size w wr) (fun i _ => n - (intOf i).toNat)
  case atStart => exact ⟨0, Nat.zero_le _, rfl, Below.refl _ _⟩
  case round =>
    obtain ⟨k, hk, rfl, hb⟩ := hrel
    have HN := Lib.hid hn
    by_cases hlt : k < n
    · obtain ⟨b, off, rfl, hbl, hc⟩ := hr.frac (by omega)
      obtain ⟨b', off', rfl, hbl', hc'⟩ := hr'.frac (by omega)
      obtain ⟨d, ed⟩ := get_ex l k (by omega)
      obtain ⟨g0, g1⟩ := hc k d ed
      obtain ⟨m0, m1⟩ := hc' k d ed
      clear hc hc' hn ed
      have hbs := hb.size
      have y1 : b < w.heap.size := by omega
      have y2 : b' < w.heap.size := by omega
      have y3 : (k : Int) < (n : Int) := by omega
      have y4 : (0 : Int) ≤ (k : Int) := by omega
      go_wp2
      go_region_held3 (fun w' => (∀ b o, b < w.heap.size → w'.cell? ⟨b, o, none⟩ = w.cell? ⟨b, o, none⟩) ∧ Below w.heap.size w w') (exact old_of (by (repeat' (first | (with_reducible exact Below.refl _ _) | (with_reducible assumption) | (with_reducible refine below_drewN ?_ _) | (with_reducible refine Below.drew ?_) | (with_reducible refine Below.alloc ?_ ?_ _) | (with_reducible refine Below.setCell ?_ ?_ _) | (with_reducible refine via (by with_reducible assumption) ?_ ?_) | go_size))))
        (((go_at_call 15; refine (eqFraction_c d _).mono ?_; rintro e w2 ⟨rfl, hb2⟩)))
      go_wp2_with fail
      go_roundw
      case rel => exact ⟨k + 1, by omega, by go_num, by (repeat' (first | (with_reducible exact Below.refl _ _) | (with_reducible assumption) | (with_reducible refine below_drewN ?_ _) | (with_reducible refine Below.drew ?_) | (with_reducible refine Below.alloc ?_ ?_ _) | (with_reducible refine Below.setCell ?_ ?_ _) | (with_reducible refine via (by with_reducible assumption) ?_ ?_) | go_size))⟩
      case measure => simp [intOf]; omega
    · go_wp2
      go_ret
      exact ⟨rfl, hb⟩

end Go.Proofs.Ytphckllloiogjaa
