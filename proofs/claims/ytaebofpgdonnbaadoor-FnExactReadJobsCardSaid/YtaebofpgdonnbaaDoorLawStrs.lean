/- Contracts: rows of texts measured, copied, compared, marked by the laws. -/
import Derived.Test.YtaebofpgdonnbaaDoorLawCalls
import Derived.Test.YtaebofpgdonnbaaDoorInts
import Derived.Test.YtaebofpgdonnbaaDoorMark
import Derived.Test.YtaebofpgdonnbaaDoorHush
set_option linter.unusedVariables false
set_option linter.unusedSimpArgs false
namespace Go.Proofs.YtaebofpgdonnbaaDoor
open Go.RowKit

theorem Rd.strs {w : World} {B : Nat} {A : Option Addr} {l : List ByteArray} (h : Rd w B 1 scell A l) (hl : 0 < l.length) :
    ∃ b off, A = some ⟨b, off, none⟩ ∧ b < B ∧ ∀ i x, l[i]? = some x → w.cell? ⟨b, off + i, none⟩ = some (.string x) := by
  obtain ⟨b, off, e, hb, hc⟩ := h hl
  refine ⟨b, off, e, hb, fun i x hi => ?_⟩
  have := hc i x hi 0 (.string x) rfl
  simpa using this
theorem rd_ownS {w : World} {base : Nat} {e : TypeId} {A : Option Addr} {n c : Nat} {l : List ByteArray} (h : w.ownsRow base e 1 (.slice A n c) n (l.map Value.string)) : Rd w w.heap.size 1 scell A l :=
  Rd.of_own scell_len (by decide) (n := n) (c := c) (by rw [scell_flat]; exact h)
theorem info_string : (Tryd.prog.info? 9).map (fun i => (i.zero, i.size, i.bytes)) = some (some (.string ByteArray.empty), 1, 16) := by kernel_rfl

def RetSzTx (l : List ByteArray) (left : Int) (W : World) (e : Ending) (w' : World) : Prop := ∃ r : Int, e = .returned (.int .i64 r) ∧ -1 ≤ r ∧ r ≤ left ∧ (0 ≤ r → (l.length : Int) ≤ left ∧ ∀ x ∈ l, (x.size : Int) ≤ left) ∧ Below W.heap.size W w'
set_option maxHeartbeats 1000000 in
theorem szStringS_c (A : Option Addr) (n c : Nat) (l : List ByteArray) (left : Int) (w : World) (hn : l.length = n) (hm : n ≤ maxLen) (h0 : 0 ≤ left) (h1 : left ≤ 1048576) (hr : Rd w w.heap.size 1 scell A l) (ok : ∀ d ∈ l, d.size ≤ maxLen) :
    Calls Tryd.prog 10 #[.slice A n c, .int .i64 left] w (RetSzTx l left w) := by
  unfold maxLen at hm ok
  have HN := Lib.hid hn; clear hn
  by_cases t1 : left - n < 0
  · go_enter Tryd.func10, Tryd.ntmps10
    go_wp2
    go_ret
    exact ⟨-1, rfl, by omega, by omega, fun h => by omega, by (repeat' (first | (with_reducible exact Below.refl _ _) | (with_reducible assumption) | (with_reducible refine below_drewN ?_ _) | (with_reducible refine Below.drew ?_) | (with_reducible refine Below.alloc ?_ ?_ _) | (with_reducible refine Below.setCell ?_ ?_ _) | (with_reducible refine via (by with_reducible assumption) ?_ ?_) | go_size))⟩
  · go_enter Tryd.func10, Tryd.ntmps10
    go_wp2
    go_loopw [1, 5] (fun q i wr => ∃ (k : Nat) (r : Int), k ≤ n ∧ i = .int .i64 k ∧ q = .int .i64 r ∧ 0 ≤ r ∧ r ≤ left - n ∧ (∀ (i : Nat) (d : ByteArray), i < k → l[i]? = some d → (d.size : Int) ≤ left) ∧ Below w.heap.size w wr) (fun _ i _ => n - (intOf i).toNat)
    case atStart => exact ⟨0, _, Nat.zero_le _, rfl, rfl, by omega, by omega, fun i d hi => by omega, Below.refl _ _⟩
    case round =>
      obtain ⟨k, r, hk, rfl, rfl, hr0, hr1, hall, hb⟩ := hrel
      have HALL := Lib.hid hall; clear hall
      by_cases hlt : k < n
      · obtain ⟨b, off, rfl, hbl, hc⟩ := (hr.below hb).strs (by rw [HN.out]; omega)
        obtain ⟨d, ed⟩ := get_ex l k (by rw [HN.out]; omega)
        have hd := ok d (List.mem_of_getElem? ed)
        have g0 := hc k d ed
        have HED := Lib.hid ed
        clear hc ed
        have hbs := hb.size
        by_cases t2 : r - d.size < 0
        · go_wp2_with fail
          go_ret
          exact ⟨-1, rfl, by omega, by omega, fun h => by omega, by (repeat' (first | (with_reducible exact Below.refl _ _) | (with_reducible assumption) | (with_reducible refine below_drewN ?_ _) | (with_reducible refine Below.drew ?_) | (with_reducible refine Below.alloc ?_ ?_ _) | (with_reducible refine Below.setCell ?_ ?_ _) | (with_reducible refine via (by with_reducible assumption) ?_ ?_) | go_size))⟩
        · have HALL2 := Lib.hid (show ∀ i d, i < k + 1 → l[i]? = some d → (d.size : Int) ≤ left from fun i d' hi he => by
            by_cases hik : i < k
            · exact HALL.out i d' hik he
            · obtain rfl : i = k := by omega
              rw [HED.out] at he
              injection he with he
              subst he
              omega)
          go_wp2_with fail
          go_roundw
          case rel => exact ⟨k + 1, r - d.size, by omega, by go_num, by go_num, by omega, by omega, HALL2.out, by (repeat' (first | (with_reducible exact Below.refl _ _) | (with_reducible assumption) | (with_reducible refine below_drewN ?_ _) | (with_reducible refine Below.drew ?_) | (with_reducible refine Below.alloc ?_ ?_ _) | (with_reducible refine Below.setCell ?_ ?_ _) | (with_reducible refine via (by with_reducible assumption) ?_ ?_) | go_size))⟩
          case measure => simp [intOf]; omega
      · go_wp2
        go_ret
        exact ⟨r, rfl, by omega, by omega, fun h => ⟨by rw [HN.out]; omega, fun d hd => by
          obtain ⟨i, he⟩ := List.getElem?_of_mem hd
          exact HALL.out i d (by have := (List.getElem?_eq_some_iff.1 he).1; rw [HN.out] at this; omega) he⟩, hb⟩

set_option maxHeartbeats 1000000 in
theorem toStringS_c (A : Option Addr) (n c : Nat) (l : List ByteArray) (w : World) (hn : l.length = n) (hm : n ≤ 1048576) (hr : Rd w w.heap.size 1 scell A l) :
    Calls Tryd.prog 12 #[.slice A n c] w fun e w' => e = .returned (.slice (some ⟨w.heap.size, 0, none⟩) n n) ∧ w'.ownsRow w.heap.size 9 1 (.slice (some ⟨w.heap.size, 0, none⟩) n n) n (l.map Value.string) ∧ Below w.heap.size w w' := by
  obtain ⟨i0, hi0, hz0, hz1, hz2⟩ := info_parts info_string
  have HN := Lib.hid hn; clear hn
  go_enter Tryd.func12, Tryd.ntmps12
  go_wp2_with (at_make; refine wpList_make_full _ rfl _ _ 22 rfl w.heap.size 9 i0 (.string ByteArray.empty) 1 Tryd.underlying22 hi0 hz0 hz1 _ _ _ _ n rfl rfl rfl rfl (by rw [hz2]; omega) (by unfold maxLen; omega) (Nat.le_refl _) ?_; intro w1 hown hg)
  have hb1 : Below w.heap.size w w1 := (Below.refl _ _).grown hg (Nat.le_refl _) (fun k hk => by cases hk)
  clear hg
  go_loopw [4] (fun i wr => ∃ k : Nat, k ≤ n ∧ i = .int .i64 k ∧ Below w.heap.size w wr ∧ ∃ xs, wr.ownsRow w.heap.size 9 1 (.slice (some ⟨w.heap.size, 0, none⟩) n n) n xs ∧ xs.take k = (l.take k).map Value.string) (fun i _ => n - (intOf i).toNat)
  case atStart => exact ⟨0, Nat.zero_le _, rfl, hb1, _, hown, by simp⟩
  case round =>
    clear hb1 hown
    obtain ⟨k, hk, rfl, hb, xs, hx, ht⟩ := hrel
    have HX := Lib.hid hx; clear hx
    have HT := Lib.hid ht; clear ht
    by_cases hlt : k < n
    · obtain ⟨b, off, rfl, hbl, hc⟩ := hr.strs (by rw [HN.out]; omega)
      obtain ⟨x, ex⟩ := get_ex l k (by rw [HN.out]; omega)
      have hxl : xs.length = n * 1 := HX.out.1
      obtain ⟨x0, hx0⟩ : ∃ x, xs[k]? = some x := ⟨xs[k]'(by omega), List.getElem?_eq_getElem _⟩
      have g1 : wr.cell? ⟨b, off + k, none⟩ = some (.string x) := by rw [hb.cell (p := ⟨b, off + k, none⟩) hbl]; exact hc k x ex
      have g2 : wr.cell? ⟨w.heap.size, k, none⟩ = some x0 := by rw [HX.out.cellAt k (by omega)]; exact hx0
      have g3 : wr.frozen? ⟨w.heap.size, k, none⟩ = false := HX.out.frozenAt k
      have HE := Lib.hid ex
      clear hc ex
      have HL := Lib.hid hxl; clear hxl hx0
      go_wp2
      go_roundw
      case rel =>
        have hst := HX.out.stored k (.string x)
        refine ⟨k + 1, by omega, by go_num, hb.setCell (Nat.le_refl _) _, _, hst.1, ?_⟩
        have hxl := HL.out
        rw [take_set_snoc _ _ _ (by omega), HT.out, take_snoc_get HE.out]
        simp
      case measure => simp [intOf]; omega
    · have hkn : k = n := by omega
      subst hkn
      have hfin : wr.ownsRow w.heap.size 9 1 (.slice (some ⟨w.heap.size, 0, none⟩) k k) k (l.map Value.string) := by
        have h1 := HX.out
        have h2 := HT.out
        rw [List.take_of_length_le (by rw [h1.1]; omega), List.take_of_length_le (by rw [HN.out]; exact Nat.le_refl _)] at h2
        rwa [h2] at h1
      go_wp2
      go_ret
      exact ⟨rfl, hfin, hb⟩

set_option maxHeartbeats 1000000 in
theorem eqStringS_c (A A' : Option Addr) (n c c' : Nat) (l : List ByteArray) (B : Nat) (w : World) (hn : l.length = n) (hm : n ≤ maxLen) (hr : Rd w B 1 scell A l) (hr' : Rd w B 1 scell A' l) :
    Calls Tryd.prog 14 #[.slice A n c, .slice A' n c'] w fun e w' => e = .returned (.bool true) ∧ ∃ m, w' = w.drewN m := by
  unfold maxLen at hm
  have HN := Lib.hid hn; clear hn
  go_enter Tryd.func14, Tryd.ntmps14
  go_wp2
  go_loopw [5] (fun i wr => ∃ k : Nat, k ≤ n ∧ i = .int .i64 k ∧ ∃ m, wr = w.drewN m) (fun i _ => n - (intOf i).toNat)
  case atStart => exact ⟨0, Nat.zero_le _, rfl, 0, rfl⟩
  case round =>
    obtain ⟨k, hk, rfl, m, rfl⟩ := hrel
    by_cases hlt : k < n
    · obtain ⟨b, off, rfl, _, hc⟩ := hr.strs (by rw [HN.out]; omega)
      obtain ⟨b', off', rfl, _, hc'⟩ := hr'.strs (by rw [HN.out]; omega)
      obtain ⟨x, ex⟩ := get_ex l k (by rw [HN.out]; omega)
      have g1 : w.cell? ⟨b, off + k, none⟩ = some (.string x) := hc k x ex
      have g2 : w.cell? ⟨b', off' + k, none⟩ = some (.string x) := hc' k x ex
      clear hc hc' ex
      go_wp2
      go_quiet (fail)
      go_wp2
      go_roundw
      case rel => exact ⟨k + 1, by omega, by go_num, m + nq, by first | rfl | rw [World.drewN_drewN]⟩
      case measure => simp [intOf]; omega
    · go_wp2
      go_ret
      exact ⟨rfl, m, rfl⟩

def mtxts (k : Int) (n : Nat) : List ByteArray := (List.range n).map fun (i : Nat) => mtxt (k + (i : Int))
theorem mtxts_len (k : Int) (n : Nat) : (mtxts k n).length = n := by rw [mtxts, List.length_map, List.length_range]
theorem mtxts_get (k : Int) (n i : Nat) (h : i < n) : (mtxts k n)[i]? = some (mtxt (k + (i : Int))) := by rw [mtxts, List.getElem?_map, List.getElem?_range h]; rfl
theorem mtxts_succ (k : Int) (n : Nat) : mtxts k (n + 1) = mtxts k n ++ [mtxt (k + (n : Int))] := by rw [mtxts, List.range_succ, List.map_append]; rfl

set_option maxHeartbeats 2000000 in
theorem markStringS_c (A : Option Addr) (n c : Nat) (k0 : Int) (xs0 : List Value) (base : Nat) (w : World) (hm : n ≤ 1048576) (hk0 : 1 ≤ k0 ∧ k0 ≤ 4611686018000000000)
    (hown : w.ownsRow base 9 1 (.slice A n c) n xs0) :
    Calls Tryd.prog 18 #[.slice A n c, .int .i64 k0] w fun e w' => e = .returned (.int .i64 (k0 + n)) ∧ w'.ownsRow base 9 1 (.slice A n c) n ((mtxts k0 n).map Value.string) ∧ w.grownBy w' (Value.slice A n c).ownBlock := by
  obtain ⟨hk1, hk2⟩ := hk0
  go_enter Tryd.func18, Tryd.ntmps18
  go_wp2
  go_loopw [1, 5] (fun q i wr => ∃ k : Nat, k ≤ n ∧ i = .int .i64 k ∧ q = .int .i64 (k0 + k) ∧ w.grownBy wr (Value.slice A n c).ownBlock ∧ ∃ xs, wr.ownsRow base 9 1 (.slice A n c) n xs ∧ xs.take k = (mtxts k0 k).map Value.string) (fun _ i _ => n - (intOf i).toNat)
  case atStart => exact ⟨0, Nat.zero_le _, rfl, by simp, World.grownBy.refl w _, _, hown, by simp [mtxts]⟩
  case round =>
    clear hown
    obtain ⟨k, hk, rfl, rfl, hg, xs, hx, ht⟩ := hrel
    have HX := Lib.hid hx; clear hx
    have HT := Lib.hid ht; clear ht
    have HG := Lib.hid hg; clear hg
    by_cases hlt : k < n
    · have hA : ∃ g, A = some ⟨g, 0, none⟩ := by
        rcases HX.out.2 with ⟨hv, h0⟩ | ⟨g, cap, cur, hv, _⟩
        · omega
        · exact ⟨g, by injection hv⟩
      obtain ⟨g, rfl⟩ := hA
      have hxl : xs.length = n * 1 := HX.out.1
      obtain ⟨q, hq⟩ : ∃ q : Int, q = k0 + (k : Int) := ⟨_, rfl⟩
      rw [← hq]
      have qb : 1 ≤ q ∧ q ≤ 4611686018200000000 := by omega
      obtain ⟨qb1, qb2⟩ := qb
      have HQ := Lib.hid hq; clear hq
      obtain ⟨z0, hz0⟩ : ∃ x, xs[k]? = some x := ⟨_, List.getElem?_eq_getElem (by omega)⟩
      have HZ0 := Lib.hid hz0; clear hz0
      have HL := Lib.hid hxl; clear hxl
      go_wp2_with fail
      refine (markText_c q _ (by omega) (by omega)).mono ?_
      rintro e w1 ⟨rfl, hb1⟩
      have hx1 := own_call (HX.out) hb1
      have hg1 : w.grownBy w1 (Value.slice (some ⟨g, 0, none⟩) n c).ownBlock := (HG.out.trans (grown_of_below hb1))
      have c0 : w1.cell? ⟨g, k, none⟩ = some z0 := by rw [hx1.cellAt _ (by have := HL.out; omega)]; exact HZ0.out
      have f0 : w1.frozen? ⟨g, k, none⟩ = false := hx1.frozenAt _
      have HX1 := Lib.hid hx1; clear hx1
      have HG1 := Lib.hid hg1; clear hg1
      go_wp2_with fail
      go_roundw
      case rel =>
        have s0 := (HX1.out).stored k (.string (mtxt q))
        refine ⟨k + 1, by omega, by go_num, ret_val (by have := HQ.out; omega), HG1.out.trans s0.2, _, s0.1, ?_⟩
        have hxl := HL.out
        rw [take_set_snoc _ _ _ (by omega), HT.out, mtxts_succ, List.map_append, ← HQ.out]
        rfl
      case measure => simp [intOf]; omega
    · have hkn : k = n := by omega
      subst hkn
      have hfin : wr.ownsRow base 9 1 (.slice A k c) k ((mtxts k0 k).map Value.string) := by
        have h1 := HX.out
        have h2 := HT.out
        rw [List.take_of_length_le (by rw [h1.1]; omega)] at h2
        rwa [h2] at h1
      go_wp2
      go_ret
      exact ⟨rfl, hfin, HG.out⟩

set_option maxHeartbeats 2000000 in
theorem heldStringS_c (A : Option Addr) (n c : Nat) (k0 : Int) (w : World) (hm : n ≤ 1048576) (hk0 : 1 ≤ k0 ∧ k0 ≤ 4611686018000000000)
    (hr : Rd w w.heap.size 1 scell A (mtxts k0 n)) :
    Calls Tryd.prog 25 #[.slice A n c, .int .i64 k0] w fun e w' => e = .returned (.int .i64 (k0 + n)) ∧ Below w.heap.size w w' := by
  obtain ⟨hk1, hk2⟩ := hk0
  go_enter Tryd.func25, Tryd.ntmps25
  go_wp2
  go_loopw [1, 5] (fun q i wr => ∃ k : Nat, k ≤ n ∧ i = .int .i64 k ∧ q = .int .i64 (k0 + k) ∧ Below w.heap.size w wr) (fun _ i _ => n - (intOf i).toNat)
  case atStart => exact ⟨0, Nat.zero_le _, rfl, by simp, Below.refl _ _⟩
  case round =>
    obtain ⟨k, hk, rfl, rfl, hb⟩ := hrel
    have hbs := hb.size
    by_cases hlt : k < n
    · obtain ⟨b, off, rfl, hbl, hc⟩ := (hr.below hb).strs (by rw [mtxts_len]; omega)
      have g0 := hc k _ (mtxts_get k0 n k hlt)
      obtain ⟨q, hq⟩ : ∃ q : Int, q = k0 + (k : Int) := ⟨_, rfl⟩
      rw [← hq] at g0
      rw [← hq]
      have qb : 1 ≤ q ∧ q ≤ 4611686018200000000 := by omega
      obtain ⟨qb1, qb2⟩ := qb
      have HQ := Lib.hid hq; clear hq hc
      have hbl' : b < wr.heap.size := by omega
      have p1 : (0 : Int) ≤ (k : Int) := by omega
      have p2 : (k : Int) < (n : Int) := by omega
      go_wp2_with fail
      (refine wp_region_quiet_below (by kernel_rfl) (by kernel_rfl) ?_; (repeat (go_big_quiet_step (first | ((go_at_call 47; exact rg_of (fun w' hb => markText_c (q) w' (by omega) (by omega))))))); refine wpQuiet_nil ?_; refine qg_end ?_; intro wq hbq)
      go_wp2_with fail
      (first | (refine ⟨?_, ?_⟩; rotate_left; (first | (simp [intOf]; done) | (simp [intOf]; omega)); (repeat apply Exists.intro); refine ⟨?_, rfl⟩; exact ⟨k + 1, by omega, by go_num, ret_val (by have := HQ.out; omega), by (repeat' (first | (with_reducible exact Below.refl _ _) | (with_reducible assumption) | (with_reducible refine below_drewN ?_ _) | (with_reducible refine Below.drew ?_) | (with_reducible refine Below.alloc ?_ ?_ _) | (with_reducible refine Below.setCell ?_ ?_ _) | (with_reducible refine via (by with_reducible assumption) ?_ ?_) | go_size))⟩) | exact ⟨⟨k + 1, by omega, by go_num, ret_val (by have := HQ.out; omega), by (repeat' (first | (with_reducible exact Below.refl _ _) | (with_reducible assumption) | (with_reducible refine below_drewN ?_ _) | (with_reducible refine Below.drew ?_) | (with_reducible refine Below.alloc ?_ ?_ _) | (with_reducible refine Below.setCell ?_ ?_ _) | (with_reducible refine via (by with_reducible assumption) ?_ ?_) | go_size))⟩, by first | (simp [intOf]; done) | (simp [intOf]; omega)⟩)
    · have hkn : k = n := by omega
      subst hkn
      go_wp2
      go_ret
      exact ⟨rfl, hb⟩

end Go.Proofs.YtaebofpgdonnbaaDoor
