/- Contracts: slices of numbers, copied, compared, marked, held. -/
import Derived.Test.YtaebofpgdonnbaaDoorCore
set_option linter.unusedVariables false
set_option linter.unusedSimpArgs false
namespace Go.Proofs.YtaebofpgdonnbaaDoor
open Go.RowKit

theorem ret_val {k : IntKind} {a b : Int} (h : a = b) : Value.int k a = .int k b := by rw [h]
theorem info_i64 : (Tryd.prog.info? 2).map (fun i => (i.zero, i.size, i.bytes)) = some (some (.int .i64 0), 1, 8) := by kernel_rfl

theorem take_snoc {α : Type} (l : List α) (k : Nat) (h : k < l.length) : l.take (k + 1) = l.take k ++ [l[k]] := by
  rw [List.take_succ_eq_append_getElem h]

theorem take_set_snoc {α : Type} (xs : List α) (k : Nat) (u : α) (h : k < xs.length) : (xs.set k u).take (k + 1) = xs.take k ++ [u] := by
  rw [take_snoc _ _ (by simpa using h)]
  simp [List.take_set_of_le]

theorem take_map_snoc {α β : Type} (f : α → β) (l : List α) (k : Nat) (h : k < l.length) : (l.take (k + 1)).map f = (l.take k).map f ++ [f l[k]] := by
  rw [take_snoc l k h, List.map_append]; rfl

theorem get_ex {α : Type} (l : List α) (k : Nat) (h : k < l.length) : ∃ x, l[k]? = some x := ⟨l[k], List.getElem?_eq_getElem h⟩
theorem Rd.ints' {w : World} {B : Nat} {A : Option Addr} {l : List Int} (h : Rd w B 1 icell A l) (hl : 0 < l.length) :
    ∃ b off, A = some ⟨b, off, none⟩ ∧ b < B ∧ ∀ i x, l[i]? = some x → w.cell? ⟨b, off + i, none⟩ = some (.int .i64 x) := by
  obtain ⟨b, off, e, hb, hc⟩ := h hl
  refine ⟨b, off, e, hb, fun i x hi => ?_⟩
  have := hc i x hi 0 (.int .i64 x) rfl
  simpa using this
theorem take_snoc' {α : Type} (l : List α) (k : Nat) (x : α) (h : l[k]? = some x) : l.take (k + 1) = l.take k ++ [x] := by
  rw [List.take_add_one, h]; rfl

set_option maxHeartbeats 400000 in
theorem toInt64S_c (A : Option Addr) (n c : Nat) (l : List Int) (w : World) (hn : l.length = n) (hm : n ≤ 1048576) (hr : Rd w w.heap.size 1 icell A l) :
    Calls Tryd.prog 53 #[.slice A n c] w fun e w' => e = .returned (.slice (some ⟨w.heap.size, 0, none⟩) n n) ∧ w'.ownsRow w.heap.size 2 1 (.slice (some ⟨w.heap.size, 0, none⟩) n n) n (l.map (Value.int .i64)) ∧ Below w.heap.size w w' := by
  obtain ⟨i0, hi0, hz0, hz1, hz2⟩ := info_parts info_i64
  go_enter Tryd.func53, Tryd.ntmps53
  go_wp2_with (at_make; refine wpList_make_full _ rfl _ _ 29 rfl w.heap.size 2 i0 (.int .i64 0) 1 Tryd.underlying29 hi0 hz0 hz1 _ _ _ _ n rfl rfl rfl rfl (by rw [hz2]; omega) (by unfold maxLen; omega) (Nat.le_refl _) ?_; intro w1 hown hg)
  have hb1 : Below w.heap.size w w1 := (Below.refl _ _).grown hg (Nat.le_refl _) (fun k hk => by cases hk)
  clear hg
  go_loopw [4] (fun i wr => ∃ k : Nat, k ≤ n ∧ i = .int .i64 k ∧ Below w.heap.size w wr ∧ ∃ xs, wr.ownsRow w.heap.size 2 1 (.slice (some ⟨w.heap.size, 0, none⟩) n n) n xs ∧ xs.take k = (l.take k).map (Value.int .i64)) (fun i _ => n - (intOf i).toNat)
  case atStart => exact ⟨0, Nat.zero_le _, rfl, hb1, _, hown, by simp⟩
  case round =>
    clear hb1 hown
    obtain ⟨k, hk, rfl, hb, xs, hx, ht⟩ := hrel
    have HX := Lib.hid hx; clear hx
    have HT := Lib.hid ht; clear ht
    by_cases hlt : k < n
    · obtain ⟨b, off, rfl, hbl, hc⟩ := hr.ints (by omega)
      have hlk : k < l.length := by omega
      have hxl : xs.length = n * 1 := HX.out.1
      obtain ⟨x0, hx0⟩ : ∃ x, xs[k]? = some x := ⟨xs[k]'(by omega), List.getElem?_eq_getElem _⟩
      have g1 : wr.cell? ⟨b, off + k, none⟩ = some (.int .i64 l[k]) := by rw [hb.cell (p := ⟨b, off + k, none⟩) hbl]; exact hc k hlk
      have g2 : wr.cell? ⟨w.heap.size, k, none⟩ = some x0 := by rw [HX.out.cellAt k (by omega)]; exact hx0
      have g3 : wr.frozen? ⟨w.heap.size, k, none⟩ = false := HX.out.frozenAt k
      clear hc
      have HN := Lib.hid hn; clear hn
      have HL := Lib.hid hxl; clear hxl hx0
      go_wp2
      go_roundw
      case rel =>
        have hst := HX.out.stored k (.int .i64 l[k])
        refine ⟨k + 1, by omega, by go_num, hb.setCell (Nat.le_refl _) _, _, hst.1, ?_⟩
        have hxl := HL.out
        rw [take_set_snoc _ _ _ (by omega), HT.out, take_map_snoc _ _ _ hlk]
      case measure => simp [intOf]; omega
    · have hkn : k = n := by omega
      subst hkn
      have hfin : wr.ownsRow w.heap.size 2 1 (.slice (some ⟨w.heap.size, 0, none⟩) k k) k (l.map (Value.int .i64)) := by
        have h1 := HX.out
        have h2 := HT.out
        rw [List.take_of_length_le (by rw [h1.1]; omega), List.take_of_length_le (by omega)] at h2
        rwa [h2] at h1
      go_wp2
      go_ret
      exact ⟨rfl, hfin, hb⟩

set_option maxHeartbeats 400000 in
theorem eqInt64S_c (A A' : Option Addr) (n c c' : Nat) (l : List Int) (B : Nat) (w : World) (hn : l.length = n) (hm : n ≤ maxLen) (hr : Rd w B 1 icell A l) (hr' : Rd w B 1 icell A' l) :
    Calls Tryd.prog 46 #[.slice A n c, .slice A' n c'] w fun e w' => e = .returned (.bool true) ∧ ∃ m, w' = w.drewN m := by
  unfold maxLen at hm
  go_enter Tryd.func46, Tryd.ntmps46
  go_wp2
  go_loopw [5] (fun i wr => ∃ k : Nat, k ≤ n ∧ i = .int .i64 k ∧ ∃ m, wr = w.drewN m) (fun i _ => n - (intOf i).toNat)
  case atStart => exact ⟨0, Nat.zero_le _, rfl, 0, rfl⟩
  case round =>
    obtain ⟨k, hk, rfl, m, rfl⟩ := hrel
    have HN := Lib.hid hn
    by_cases hlt : k < n
    · obtain ⟨b, off, rfl, _, hc⟩ := hr.ints (by omega)
      obtain ⟨b', off', rfl, _, hc'⟩ := hr'.ints (by omega)
      have hlk : k < l.length := by omega
      have g1 : w.cell? ⟨b, off + k, none⟩ = some (.int .i64 l[k]) := hc k hlk
      have g2 : w.cell? ⟨b', off' + k, none⟩ = some (.int .i64 l[k]) := hc' k hlk
      clear hc hc' hn
      go_wp2
      go_quiet (fail)
      go_wp2
      go_roundw
      case rel => exact ⟨k + 1, by omega, by go_num, m + nq, by first | rfl | rw [World.drewN_drewN]⟩
      case measure => simp [intOf]; omega
    · go_wp2
      go_ret
      exact ⟨rfl, m, rfl⟩

/-- the numbers k, k + 1, .. -/
def marks (k : Int) (n : Nat) : List Int := (List.range n).map fun (i : Nat) => k + (i : Int)
theorem marks_len (k : Int) (n : Nat) : (marks k n).length = n := by rw [marks, List.length_map, List.length_range]
theorem marks_get (k : Int) (n i : Nat) (h : i < (marks k n).length) : (marks k n)[i] = k + (i : Int) := by simp only [marks, List.getElem_map, List.getElem_range]
theorem marks_succ (k : Int) (n : Nat) : marks k (n + 1) = marks k n ++ [k + (n : Int)] := by rw [marks, List.range_succ, List.map_append]; rfl

set_option maxHeartbeats 400000 in
theorem markInt64S_c (A : Option Addr) (n c : Nat) (k0 : Int) (xs0 : List Value) (base : Nat) (w : World) (hm : n ≤ 1048576) (hk0 : 0 ≤ k0 ∧ k0 ≤ 4611686018427387904)
    (hown : w.ownsRow base 2 1 (.slice A n c) n xs0) :
    Calls Tryd.prog 48 #[.slice A n c, .int .i64 k0] w fun e w' => e = .returned (.int .i64 (k0 + n)) ∧ w'.ownsRow base 2 1 (.slice A n c) n ((marks k0 n).map (Value.int .i64)) ∧ w.grownBy w' (Value.slice A n c).ownBlock := by
  go_enter Tryd.func48, Tryd.ntmps48
  go_wp2
  go_loopw [1, 5] (fun q i wr => ∃ k : Nat, k ≤ n ∧ i = .int .i64 k ∧ q = .int .i64 (k0 + k) ∧ w.grownBy wr (Value.slice A n c).ownBlock ∧ ∃ xs, wr.ownsRow base 2 1 (.slice A n c) n xs ∧ xs.take k = (marks k0 k).map (Value.int .i64)) (fun _ i _ => n - (intOf i).toNat)
  case atStart => exact ⟨0, Nat.zero_le _, rfl, by simp, World.grownBy.refl w _, _, hown, by simp [marks]⟩
  case round =>
    clear hown
    obtain ⟨k, hk, rfl, rfl, hg, xs, hx, ht⟩ := hrel
    have HX := Lib.hid hx; clear hx
    have HT := Lib.hid ht; clear ht
    have HG := Lib.hid hg; clear hg
    by_cases hlt : k < n
    · have hA : ∃ g, A = some ⟨g, 0, none⟩ := by
        rcases HX.out.2 with ⟨hv, h0⟩ | ⟨g, cap, cur, hv, _⟩
        · omega
        · exact ⟨g, by injection hv⟩
      obtain ⟨g, rfl⟩ := hA
      have hxl : xs.length = n * 1 := HX.out.1
      obtain ⟨x0, hx0⟩ : ∃ x, xs[k]? = some x := ⟨xs[k]'(by omega), List.getElem?_eq_getElem _⟩
      have g2 : wr.cell? ⟨g, k, none⟩ = some x0 := by rw [HX.out.cellAt k (by omega)]; exact hx0
      have g3 : wr.frozen? ⟨g, k, none⟩ = false := HX.out.frozenAt k
      have HL := Lib.hid hxl; clear hxl hx0
      go_wp2
      go_roundw
      case rel =>
        have hst := HX.out.stored k (.int .i64 (k0 + k))
        refine ⟨k + 1, by omega, by go_num, ret_val (by omega), HG.out.trans hst.2, _, hst.1, ?_⟩
        have hxl := HL.out
        rw [take_set_snoc _ _ _ (by omega), HT.out, marks_succ]
        simp
      case measure => simp [intOf]; omega
    · have hkn : k = n := by omega
      subst hkn
      have hfin : wr.ownsRow base 2 1 (.slice A k c) k ((marks k0 k).map (Value.int .i64)) := by
        have h1 := HX.out
        have h2 := HT.out
        rw [List.take_of_length_le (by rw [h1.1]; omega)] at h2
        rwa [h2] at h1
      go_wp2
      go_ret
      exact ⟨rfl, hfin, HG.out⟩

set_option maxHeartbeats 400000 in
theorem heldInt64S_c (A : Option Addr) (n c : Nat) (k0 : Int) (B : Nat) (w : World) (hm : n ≤ 1048576) (hk0 : 0 ≤ k0 ∧ k0 ≤ 4611686018427387904)
    (hr : Rd w B 1 icell A (marks k0 n)) :
    Calls Tryd.prog 49 #[.slice A n c, .int .i64 k0] w fun e w' => e = .returned (.int .i64 (k0 + n)) ∧ w = w' := by
  go_enter Tryd.func49, Tryd.ntmps49
  go_wp2
  go_loop [1, 5] (fun q i => ∃ k : Nat, k ≤ n ∧ i = .int .i64 k ∧ q = .int .i64 (k0 + k)) (fun _ i => n - (intOf i).toNat)
  case atStart => exact ⟨0, Nat.zero_le _, rfl, by simp⟩
  case round =>
    obtain ⟨k, hk, rfl, rfl⟩ := hrel
    by_cases hlt : k < n
    · obtain ⟨b, off, rfl, _, hc⟩ := hr.ints (by rw [marks_len]; omega)
      have g1 : w.cell? ⟨b, off + k, none⟩ = some (.int .i64 (k0 + k)) := by
        have := hc k (by rw [marks_len]; omega)
        rwa [marks_get] at this
      clear hc
      go_wp2
      go_round
      case rel => exact ⟨k + 1, by omega, by go_num, ret_val (by omega)⟩
      case measure => simp [intOf]; omega
    · have hkn : k = n := by omega
      subst hkn
      go_wp2
      go_ret
      exact ⟨rfl, rfl⟩

end Go.Proofs.YtaebofpgdonnbaaDoor
