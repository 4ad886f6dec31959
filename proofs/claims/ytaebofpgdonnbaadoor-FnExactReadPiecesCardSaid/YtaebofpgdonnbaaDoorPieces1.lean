/- Contracts: Pieces read, measured, copied, compared, marked, held. -/
import Derived.Test.YtaebofpgdonnbaaDoorInts
import Derived.Test.YtaebofpgdonnbaaDoorOwn
import Derived.Test.YtaebofpgdonnbaaDoorOpen

set_option linter.unusedVariables false
set_option linter.unusedSimpArgs false
namespace Go.Proofs.YtaebofpgdonnbaaDoor
open Go.RowKit

def pagg (d : PieceD) : Value := .agg #[.string d.name, .int .i64 d.parent, .int .i64 d.each, .int .i64 d.price]
theorem pcell_flat_len (l : List PieceD) : (l.flatMap pcell).length = l.length * 4 := flat_len pcell 4 pcell_len l
theorem pcell_one (d : PieceD) : ∀ u ∈ pcell d, u.oneCell' = true := by simp [pcell, Value.oneCell']
theorem info_piece : (Tryd.prog.info? 79).map (fun i => (i.zero, i.size, i.bytes)) = some (some (.agg #[.string ByteArray.empty, .int .i64 0, .int .i64 0, .int .i64 0]), 4, 40) := by kernel_rfl

/-- the cells, one by one -/
theorem Rd.piece {w : World} {B : Nat} {A : Option Addr} {l : List PieceD} (h : Rd w B 4 pcell A l) (hl : 0 < l.length) :
    ∃ b off, A = some ⟨b, off, none⟩ ∧ b < B ∧ ∀ i d, l[i]? = some d → w.cell? ⟨b, off + i * 4, none⟩ = some (.string d.name) ∧ w.cell? ⟨b, off + i * 4 + 1, none⟩ = some (.int .i64 d.parent) ∧ w.cell? ⟨b, off + i * 4 + 2, none⟩ = some (.int .i64 d.each) ∧ w.cell? ⟨b, off + i * 4 + 3, none⟩ = some (.int .i64 d.price) := by
  obtain ⟨b, off, e, hb, hc⟩ := h hl
  exact ⟨b, off, e, hb, fun i d hi => ⟨hc i d hi 0 _ rfl, hc i d hi 1 _ rfl, hc i d hi 2 _ rfl, hc i d hi 3 _ rfl⟩⟩

def RetSz (left : Int) (W : World) (e : Ending) (w' : World) : Prop := ∃ r : Int, e = .returned (.int .i64 r) ∧ -1 ≤ r ∧ r ≤ left ∧ Below W.heap.size W w'
theorem szPiece_c (d : PieceD) (left : Int) (w : World) (h0 : 0 ≤ left) (h1 : left ≤ 1048576) (hd : okP d) : Calls Tryd.prog 58 #[pagg d, .int .i64 left] w (RetSz left w) := by
  obtain ⟨name, parent, each, price⟩ := d
  obtain ⟨k0, _, _, _⟩ := hd

  unfold maxLen at k0
  simp only at k0

  simp only [pagg]

  by_cases t_name : left - name.size < 0
  · go_enter Tryd.func58, Tryd.ntmps58
    go_wp2
    go_ret
    exact ⟨-1, rfl, by omega, by omega, by (repeat' (first | (with_reducible exact Below.refl _ _) | (with_reducible assumption) | (with_reducible refine below_drewN ?_ _) | (with_reducible refine Below.drew ?_) | (with_reducible refine Below.alloc ?_ ?_ _) | (with_reducible refine Below.setCell ?_ ?_ _) | (with_reducible refine via (by with_reducible assumption) ?_ ?_) | go_size))⟩

  · skip

    go_enter Tryd.func58, Tryd.ntmps58
    go_wp2
    go_ret
    exact ⟨_, rfl, by omega, by omega, by (repeat' (first | (with_reducible exact Below.refl _ _) | (with_reducible assumption) | (with_reducible refine below_drewN ?_ _) | (with_reducible refine Below.drew ?_) | (with_reducible refine Below.alloc ?_ ?_ _) | (with_reducible refine Below.setCell ?_ ?_ _) | (with_reducible refine via (by with_reducible assumption) ?_ ?_) | go_size))⟩

def RetSzS (n : Nat) (left : Int) (W : World) (e : Ending) (w' : World) : Prop := ∃ r : Int, e = .returned (.int .i64 r) ∧ -1 ≤ r ∧ r ≤ left ∧ (0 ≤ r → (n : Int) ≤ left) ∧ Below W.heap.size W w'
set_option maxHeartbeats 1000000 in
theorem szPieceS_c (A : Option Addr) (n c : Nat) (l : List PieceD) (left : Int) (w : World) (hn : l.length = n) (hm : n ≤ maxLen) (h0 : 0 ≤ left) (h1 : left ≤ 1048576) (hr : Rd w w.heap.size 4 pcell A l) (ok : ∀ d ∈ l, okP d) :
    Calls Tryd.prog 26 #[.slice A n c, .int .i64 left] w (RetSzS n left w) := by
  unfold maxLen at hm
  by_cases t1 : left - n < 0
  · go_enter Tryd.func26, Tryd.ntmps26
    go_wp2
    go_ret
    exact ⟨-1, rfl, by omega, by omega, fun h => by omega, by (repeat' (first | (with_reducible exact Below.refl _ _) | (with_reducible assumption) | (with_reducible refine below_drewN ?_ _) | (with_reducible refine Below.drew ?_) | (with_reducible refine Below.alloc ?_ ?_ _) | (with_reducible refine Below.setCell ?_ ?_ _) | (with_reducible refine via (by with_reducible assumption) ?_ ?_) | go_size))⟩

  · go_enter Tryd.func26, Tryd.ntmps26
    go_wp2
    go_loopw [1, 5] (fun q i wr => ∃ (k : Nat) (r : Int), k ≤ n ∧ i = .int .i64 k ∧ q = .int .i64 r ∧ 0 ≤ r ∧ r ≤ left - n ∧ Below w.heap.size w wr) (fun _ i _ => n - (intOf i).toNat)
    case atStart => exact ⟨0, _, Nat.zero_le _, rfl, rfl, by omega, by omega, Below.refl _ _⟩
    case round =>
      obtain ⟨k, r, hk, rfl, rfl, hr0, hr1, hb⟩ := hrel
      by_cases hlt : k < n
      · obtain ⟨b, off, rfl, hbl, hc⟩ := hr.piece (by omega)
        obtain ⟨d, ed⟩ := get_ex l k (by omega)
        have hd := ok d (List.mem_of_getElem? ed)
        obtain ⟨g0, g1, g2, g3⟩ := hc k d ed
        rw [← hb.cell (p := ⟨b, off + k * 4, none⟩) hbl] at g0
        rw [← hb.cell (p := ⟨b, off + k * 4 + 1, none⟩) hbl] at g1
        rw [← hb.cell (p := ⟨b, off + k * 4 + 2, none⟩) hbl] at g2
        rw [← hb.cell (p := ⟨b, off + k * 4 + 3, none⟩) hbl] at g3
        clear hc ed
        have hbs := hb.size
        have HD := Lib.hid hd; clear hd
        go_wp2_with fail
        refine (szPiece_c d r wr (by omega) (by omega) HD.out).mono ?_
        rintro e w1 ⟨r1, rfl, q1, q2, hb1⟩
        by_cases t2 : r1 < 0
        · go_wp2_with fail
          go_ret
          exact ⟨-1, rfl, by omega, by omega, fun h => by omega, by (repeat' (first | (with_reducible exact Below.refl _ _) | (with_reducible assumption) | (with_reducible refine below_drewN ?_ _) | (with_reducible refine Below.drew ?_) | (with_reducible refine Below.alloc ?_ ?_ _) | (with_reducible refine Below.setCell ?_ ?_ _) | (with_reducible refine via (by with_reducible assumption) ?_ ?_) | go_size))⟩
        · go_wp2_with fail
          go_roundw
          case rel => exact ⟨k + 1, r1, by omega, by go_num, rfl, by omega, by omega, by (repeat' (first | (with_reducible exact Below.refl _ _) | (with_reducible assumption) | (with_reducible refine below_drewN ?_ _) | (with_reducible refine Below.drew ?_) | (with_reducible refine Below.alloc ?_ ?_ _) | (with_reducible refine Below.setCell ?_ ?_ _) | (with_reducible refine via (by with_reducible assumption) ?_ ?_) | go_size))⟩
          case measure => simp [intOf]; omega
      · go_wp2
        go_ret
        exact ⟨r, rfl, by omega, by omega, fun h => by omega, hb⟩

theorem toPiece_c (d : PieceD) (w : World) : Calls Tryd.prog 61 #[pagg d] w fun e w' => e = .returned (pagg d) ∧ Below w.heap.size w w' := by
  simp only [pagg]
  go_enter Tryd.func61, Tryd.ntmps61
  go_wp2
  (refine bodyPost_ret (v := pagg d) (by simp only [results, Tryd.results61, pagg]; go_simp) rfl ⟨rfl, ?_⟩; (repeat' (first | (with_reducible exact Below.refl _ _) | (with_reducible assumption) | (with_reducible refine below_drewN ?_ _) | (with_reducible refine Below.drew ?_) | (with_reducible refine Below.alloc ?_ ?_ _) | (with_reducible refine Below.setCell ?_ ?_ _) | (with_reducible refine via (by with_reducible assumption) ?_ ?_) | go_size)))

theorem take_set4 {α : Type} (xs : List α) (k : Nat) (u0 u1 u2 u3 : α) (h : k * 4 + 4 ≤ xs.length) :
    ((((xs.set (k * 4) u0).set (k * 4 + 1) u1).set (k * 4 + 2) u2).set (k * 4 + 3) u3).take ((k + 1) * 4) = xs.take (k * 4) ++ [u0, u1, u2, u3] := by
  apply List.ext_getElem?
  intro i
  rw [List.getElem?_append, List.getElem?_take]
  have hl : (xs.take (k * 4)).length = k * 4 := by rw [List.length_take]; omega
  rw [hl]
  by_cases h1 : i < k * 4
  · rw [if_pos (by omega), if_pos h1, List.getElem?_take, if_pos h1]
    rw [List.getElem?_set_ne (by omega), List.getElem?_set_ne (by omega), List.getElem?_set_ne (by omega), List.getElem?_set_ne (by omega)]
  · rw [if_neg h1]
    by_cases h2 : i < (k + 1) * 4
    · rw [if_pos h2]
      have hcs : i = k * 4 ∨ i = k * 4 + 1 ∨ i = k * 4 + 2 ∨ i = k * 4 + 3 := by omega
      rcases hcs with rfl | rfl | rfl | rfl <;> simp [List.getElem?_set] <;> omega
    · rw [if_neg h2, List.getElem?_eq_none (by simp; omega)]

set_option maxHeartbeats 1000000 in
theorem toPieceS_c (A : Option Addr) (n c : Nat) (l : List PieceD) (w : World) (hn : l.length = n) (hm : n ≤ 1048576) (hr : Rd w w.heap.size 4 pcell A l) :
    Calls Tryd.prog 28 #[.slice A n c] w fun e w' => e = .returned (.slice (some ⟨w.heap.size, 0, none⟩) n n) ∧ w'.ownsRow w.heap.size 79 4 (.slice (some ⟨w.heap.size, 0, none⟩) n n) n (l.flatMap pcell) ∧ Below w.heap.size w w' := by
  obtain ⟨i0, hi0, hz0, hz1, hz2⟩ := info_parts info_piece
  go_enter Tryd.func28, Tryd.ntmps28
  go_wp2_with (at_make; refine wpList_make_full _ rfl _ _ 45 rfl w.heap.size 79 i0 _ 4 Tryd.underlying45 hi0 hz0 hz1 _ _ _ _ n rfl rfl rfl rfl (by rw [hz2]; omega) (by unfold maxLen; omega) (Nat.le_refl _) ?_; intro w1 hown hg)
  have hb1 : Below w.heap.size w w1 := (Below.refl _ _).grown hg (Nat.le_refl _) (fun k hk => by cases hk)
  clear hg
  go_loopw [4] (fun i wr => ∃ k : Nat, k ≤ n ∧ i = .int .i64 k ∧ Below w.heap.size w wr ∧ ∃ xs, wr.ownsRow w.heap.size 79 4 (.slice (some ⟨w.heap.size, 0, none⟩) n n) n xs ∧ xs.take (k * 4) = (l.take k).flatMap pcell) (fun i _ => n - (intOf i).toNat)
  case atStart => exact ⟨0, Nat.zero_le _, rfl, hb1, _, hown, by simp⟩
  case round =>
    clear hb1 hown
    obtain ⟨k, hk, rfl, hb, xs, hx, ht⟩ := hrel
    have HX := Lib.hid hx; clear hx
    have HT := Lib.hid ht; clear ht
    by_cases hlt : k < n
    · obtain ⟨b, off, rfl, hbl, hc⟩ := hr.piece (by omega)
      obtain ⟨d, ed⟩ := get_ex l k (by omega)
      obtain ⟨g0, g1, g2, g3⟩ := hc k d ed
      rw [← hb.cell (p := ⟨b, off + k * 4, none⟩) hbl] at g0
      rw [← hb.cell (p := ⟨b, off + k * 4 + 1, none⟩) hbl] at g1
      rw [← hb.cell (p := ⟨b, off + k * 4 + 2, none⟩) hbl] at g2
      rw [← hb.cell (p := ⟨b, off + k * 4 + 3, none⟩) hbl] at g3
      have HE := Lib.hid ed; clear ed hc
      have hxl : xs.length = n * 4 := HX.out.1
      have hbs := hb.size
      have HN := Lib.hid hn; clear hn
      go_wp2_with fail
      refine (toPiece_c d wr).mono ?_
      rintro e w2 ⟨rfl, hb2⟩
      have hx2 := own_below HX.out hb2 (fun q hq => (HX.out.lt q hq).2)
      have hw2 : w.heap.size < w2.heap.size := (hx2.lt w.heap.size rfl).2
      obtain ⟨z0, hz0'⟩ : ∃ x, xs[k * 4]? = some x := ⟨_, List.getElem?_eq_getElem (by omega)⟩
      have c0 : w2.cell? ⟨w.heap.size, k * 4, none⟩ = some z0 := by rw [hx2.cellAt _ (by omega)]; exact hz0'
      have f0 : w2.frozen? ⟨w.heap.size, k * 4, none⟩ = false := hx2.frozenAt _
      obtain ⟨z1, hz1'⟩ : ∃ x, xs[k * 4 + 1]? = some x := ⟨_, List.getElem?_eq_getElem (by omega)⟩
      have c1 : w2.cell? ⟨w.heap.size, k * 4 + 1, none⟩ = some z1 := by rw [hx2.cellAt _ (by omega)]; exact hz1'
      have f1 : w2.frozen? ⟨w.heap.size, k * 4 + 1, none⟩ = false := hx2.frozenAt _
      obtain ⟨z2, hz2'⟩ : ∃ x, xs[k * 4 + 2]? = some x := ⟨_, List.getElem?_eq_getElem (by omega)⟩
      have c2 : w2.cell? ⟨w.heap.size, k * 4 + 2, none⟩ = some z2 := by rw [hx2.cellAt _ (by omega)]; exact hz2'
      have f2 : w2.frozen? ⟨w.heap.size, k * 4 + 2, none⟩ = false := hx2.frozenAt _
      obtain ⟨z3, hz3'⟩ : ∃ x, xs[k * 4 + 3]? = some x := ⟨_, List.getElem?_eq_getElem (by omega)⟩
      have c3 : w2.cell? ⟨w.heap.size, k * 4 + 3, none⟩ = some z3 := by rw [hx2.cellAt _ (by omega)]; exact hz3'
      have f3 : w2.frozen? ⟨w.heap.size, k * 4 + 3, none⟩ = false := hx2.frozenAt _
      have HX2 := Lib.hid hx2; clear hx2
      have HL := Lib.hid hxl; clear hxl
      clear hz0' hz1' hz2' hz3'
      simp only [pagg]
      go_wp2_with fail
      go_roundw
      case rel =>
        have s0 := HX2.out.stored (k * 4) (.string d.name)
        have s1 := s0.1.stored (k * 4 + 1) (.int .i64 d.parent)
        have s2 := s1.1.stored (k * 4 + 2) (.int .i64 d.each)
        have s3 := s2.1.stored (k * 4 + 3) (.int .i64 d.price)
        have hxl := HL.out
        refine ⟨k + 1, by omega, by go_num, by (repeat' (first | (with_reducible exact Below.refl _ _) | (with_reducible assumption) | (with_reducible refine below_drewN ?_ _) | (with_reducible refine Below.drew ?_) | (with_reducible refine Below.alloc ?_ ?_ _) | (with_reducible refine Below.setCell ?_ ?_ _) | (with_reducible refine via (by with_reducible assumption) ?_ ?_) | go_size)), _, s3.1, ?_⟩
        rw [take_set4 _ _ _ _ _ _ (by omega), HT.out, take_snoc' _ _ _ HE.out, List.flatMap_append]
        simp [pcell]
      case measure => simp [intOf]; omega
    · have hkn : k = n := by omega
      subst hkn
      have hfin : wr.ownsRow w.heap.size 79 4 (.slice (some ⟨w.heap.size, 0, none⟩) k k) k (l.flatMap pcell) := by
        have h1 := HX.out
        have h2 := HT.out
        rw [List.take_of_length_le (by rw [h1.1]; exact Nat.le_refl _), List.take_of_length_le (by omega)] at h2
        rwa [h2] at h1
      go_wp2
      go_ret
      exact ⟨rfl, hfin, hb⟩

theorem eqPiece_c (d : PieceD) (w : World) : Calls Tryd.prog 64 #[pagg d, pagg d] w fun e w' => e = .returned (.bool true) ∧ Below w.heap.size w w' := by
  simp only [pagg]
  go_enter Tryd.func64, Tryd.ntmps64
  go_wp2
  go_ret
  refine ⟨rfl, ?_⟩
  (repeat' (first | (with_reducible exact Below.refl _ _) | (with_reducible assumption) | (with_reducible refine below_drewN ?_ _) | (with_reducible refine Below.drew ?_) | (with_reducible refine Below.alloc ?_ ?_ _) | (with_reducible refine Below.setCell ?_ ?_ _) | (with_reducible refine via (by with_reducible assumption) ?_ ?_) | go_size))

set_option maxHeartbeats 1000000 in
theorem eqPieceS_c (A A' : Option Addr) (n c c' : Nat) (l : List PieceD) (B : Nat) (w : World) (hn : l.length = n) (hm : n ≤ maxLen) (hB : B ≤ w.heap.size) (hr : Rd w B 4 pcell A l) (hr' : Rd w B 4 pcell A' l) :
    Calls Tryd.prog 30 #[.slice A n c, .slice A' n c'] w fun e w' => e = .returned (.bool true) ∧ Below w.heap.size w w' := by
  unfold maxLen at hm
  go_enter Tryd.func30, Tryd.ntmps30
  go_wp2
  go_loopw [5] (fun i wr => ∃ k : Nat, k ≤ n ∧ i = .int .i64 k ∧ Below w.heap.size w wr) (fun i _ => n - (intOf i).toNat)
  case atStart => exact ⟨0, Nat.zero_le _, rfl, Below.refl _ _⟩
  case round =>
    obtain ⟨k, hk, rfl, hb⟩ := hrel
    have HN := Lib.hid hn
    by_cases hlt : k < n
    · obtain ⟨b, off, rfl, hbl, hc⟩ := hr.piece (by omega)
      obtain ⟨b', off', rfl, hbl', hc'⟩ := hr'.piece (by omega)
      obtain ⟨d, ed⟩ := get_ex l k (by omega)
      obtain ⟨g0, g1, g2, g3⟩ := hc k d ed
      obtain ⟨m0, m1, m2, m3⟩ := hc' k d ed
      clear hc hc' hn ed
      have hbs := hb.size
      have y1 : b < w.heap.size := by omega
      have y2 : b' < w.heap.size := by omega
      have y3 : (k : Int) < (n : Int) := by omega
      have y4 : (0 : Int) ≤ (k : Int) := by omega
      go_wp2
      go_region_held3 (fun w' => (∀ b o, b < w.heap.size → w'.cell? ⟨b, o, none⟩ = w.cell? ⟨b, o, none⟩) ∧ Below w.heap.size w w') (exact old_of (by (repeat' (first | (with_reducible exact Below.refl _ _) | (with_reducible assumption) | (with_reducible refine below_drewN ?_ _) | (with_reducible refine Below.drew ?_) | (with_reducible refine Below.alloc ?_ ?_ _) | (with_reducible refine Below.setCell ?_ ?_ _) | (with_reducible refine via (by with_reducible assumption) ?_ ?_) | go_size))))
        (((go_at_call 64; refine (eqPiece_c d _).mono ?_; rintro e w2 ⟨rfl, hb2⟩)))
      go_wp2_with fail
      go_roundw
      case rel => exact ⟨k + 1, by omega, by go_num, by (repeat' (first | (with_reducible exact Below.refl _ _) | (with_reducible assumption) | (with_reducible refine below_drewN ?_ _) | (with_reducible refine Below.drew ?_) | (with_reducible refine Below.alloc ?_ ?_ _) | (with_reducible refine Below.setCell ?_ ?_ _) | (with_reducible refine via (by with_reducible assumption) ?_ ?_) | go_size))⟩
      case measure => simp [intOf]; omega
    · go_wp2
      go_ret
      exact ⟨rfl, hb⟩

end Go.Proofs.YtaebofpgdonnbaaDoor
