/- Contracts: copies, differences, leading differences. -/
import Derived.Test.YtphckllloiogjaaRows2
import Derived.Test.YtphckllloiogjaaFracScal
set_option linter.unusedVariables false
set_option linter.unusedSimpArgs false
namespace Go.Proofs.Ytphckllloiogjaa
open Go.RowKit

/-- differences of neighbours (they wrap, as Go's do) -/
def diffs (l : List Int) : List Int := List.zipWith (fun a b => wrap64 (b - a)) l l.tail
theorem diffs_len (l : List Int) : (diffs l).length = l.length - 1 := by simp [diffs]
theorem diffs_get (l : List Int) (k : Nat) (x y : Int) (hx : l[k]? = some x) (hy : l[k + 1]? = some y) : (diffs l)[k]? = some (wrap64 (y - x)) := by
  have : l.tail[k]? = some y := by rw [List.getElem?_tail]; exact hy
  simp [diffs, List.getElem?_zipWith, hx, this]

set_option maxHeartbeats 400000 in
theorem lessBefore_c (A : Option Addr) (n c : Nat) (l : List Int) (w : World) (hn : l.length = n) (hm : n ≤ 1048576) (hr : Rd w w.heap.size 1 icell A l) :
    Calls Try.prog 76 #[.slice A n c] w fun e w' => ∃ v, e = .returned v ∧ w'.ownsRow w.heap.size 2 1 v (n - 1) ((diffs l).map (Value.int .i64)) ∧ Below w.heap.size w w' := by
  obtain ⟨i0, hi0, hz0, hz1, hz2⟩ := info_parts info_i64
  go_enter Try.func76, Try.ntmps76
  go_wp2
  go_loopw [3, 4] (fun o i wr => ∃ k : Nat, (k = 0 ∨ k + 1 ≤ n) ∧ i = .int .i64 ((k : Int) + 1) ∧ Below w.heap.size w wr ∧ wr.ownsRow w.heap.size 2 1 o k (((diffs l).take k).map (Value.int .i64))) (fun _ i _ => n - (intOf i).toNat)
  case atStart =>
    exact ⟨0, .inl rfl, rfl, by (repeat' (first | (with_reducible exact Below.refl _ _) | (with_reducible assumption) | (with_reducible refine below_drewN ?_ _) | (with_reducible refine Below.drew ?_) | (with_reducible refine Below.alloc ?_ ?_ _) | (with_reducible refine Below.setCell ?_ ?_ _) | (with_reducible refine via (by with_reducible assumption) ?_ ?_) | go_size)), by simpa using World.ownsRow_made w #[] 0 (Nat.le_refl _) (by simp [maxLen]) (by simp)⟩
  case round =>
    obtain ⟨k, hk, rfl, hb, hx⟩ := hrel
    have HX := Lib.hid hx; clear hx
    by_cases hlt : k + 1 < n
    · obtain ⟨b, off, rfl, hbl, hc⟩ := hr.ints' (by omega)
      obtain ⟨x, ex⟩ := get_ex l k (by omega)
      obtain ⟨y, ey⟩ := get_ex l (k + 1) (by omega)
      have g1 : w.cell? ⟨b, off + (k + 1), none⟩ = some (.int .i64 y) := hc (k + 1) y ey
      have g2 : w.cell? ⟨b, off + k, none⟩ = some (.int .i64 x) := hc k x ex
      have hbs := hb.size
      have HD := Lib.hid (diffs_get l k x y ex ey)
      clear hc ex ey
      have HN := Lib.hid hn; clear hn
      have p1 : (0 : Int) ≤ (k : Int) + 1 := by omega
      have p2 : k < n := by omega
      go_wp2
      have e1 : IntKind.i64.wrap (k : Int) = k := IntWalk.i64_in _ (by omega)
      have e3 : IntKind.i64.wrap (y - x) = wrap64 (y - x) := IntWalk.i64_left _
      have p3 : (0 : Int) ≤ (k : Int) := by omega
      have p4 : (k : Int) < (n : Int) := by omega
      have p5 : (k : Int) + 1 < (n : Int) := by omega
      go_region_held3 (fun w' => (∀ b o, b < w.heap.size → w'.cell? ⟨b, o, none⟩ = w.cell? ⟨b, o, none⟩) ∧ Below w.heap.size w w') (exact old_of (by (repeat' (first | (with_reducible exact Below.refl _ _) | (with_reducible assumption) | (with_reducible refine below_drewN ?_ _) | (with_reducible refine Below.drew ?_) | (with_reducible refine Below.alloc ?_ ?_ _) | (with_reducible refine Below.setCell ?_ ?_ _) | (with_reducible refine via (by with_reducible assumption) ?_ ?_) | go_size))))
        ((refine app_step (W := w) (z := .int .i64 0) (.tmp 12) (.tmp 23) (by rfl) (by rfl) Try.underlying32 hi0 hz0 hz1 hz2 rfl (by decide) (by decide) (by rfl) ((HX.out.alloc _).drew) (by rfl) (by rfl) (news1 (z := .int .i64 (wrap64 (y - x))) (by simp [go_sem])) (by simp [Value.oneCell']) (by omega) (by (repeat' (first | (with_reducible exact Below.refl _ _) | (with_reducible assumption) | (with_reducible refine below_drewN ?_ _) | (with_reducible refine Below.drew ?_) | (with_reducible refine Below.alloc ?_ ?_ _) | (with_reducible refine Below.setCell ?_ ?_ _) | (with_reducible refine via (by with_reducible assumption) ?_ ?_) | go_size))) (Nat.le_refl _) ?_; intro v' w1 hown1 _ _ hb1))
      go_wp2_with fail
      go_roundw
      case rel =>
        refine ⟨k + 1, by omega, by go_num, hb1, ?_⟩
        rw [take_snoc' _ _ _ HD.out]
        simpa using hown1
      case measure => simp [intOf]; omega
    · have hfin : wr.ownsRow w.heap.size 2 1 u3 (n - 1) ((diffs l).map (Value.int .i64)) := by
        have h1 := HX.out
        have hk' : k = n - 1 := by omega
        rw [List.take_of_length_le (by rw [diffs_len]; omega), hk'] at h1
        exact h1
      go_wp2
      go_ret
      exact ⟨_, rfl, hfin, hb⟩

end Go.Proofs.Ytphckllloiogjaa
