/- Contracts: the head line of a page read by the program. -/
import Derived.Test.YtaebofpgdonnbaaDoorReads
import Derived.Test.YtaebofpgdonnbaaDoorPageText6
set_option linter.unusedVariables false
set_option linter.unusedSimpArgs false
namespace Go.Proofs.YtaebofpgdonnbaaDoor
open Go.RowKit

def headWs : List ByteArray → Bool
  | [w0, w1, w2, w3] => (rdec w1).2 && (rdec w2).2 && (rdec w3).2 && headB w0 (rdec w1).1 (rdec w2).1 (rdec w3).1
  | _ => false
def headVs : List ByteArray → ByteArray × Int × Int × Int
  | [w0, w1, w2, w3] => (w0, (rdec w1).1, (rdec w2).1, (rdec w3).1)
  | _ => (ByteArray.empty, 0, 0, 0)
def RetHead (L : List ByteArray) (W : World) (e : Ending) (w' : World) : Prop := ∃ (nm : ByteArray) (f t n : Int), e = .returned (.tuple #[.agg #[.string nm, .int .i64 f, .int .i64 t, .slice none 0 0], .int .i64 n, .bool (headWs L)]) ∧ (headWs L = true → headVs L = (nm, f, t, n)) ∧ Below W.heap.size W w'
theorem list4s {L : List ByteArray} (h : L.length = 4) : ∃ a b c d, L = [a, b, c, d] := by
  match L, h with
  | [a, b, c, d], _ => exact ⟨a, b, c, d, rfl⟩
theorem headWs_no {L : List ByteArray} (h : ¬ L.length = 4) : headWs L = false := by
  match L, h with
  | [], _ => rfl
  | [_], _ => rfl
  | [_, _], _ => rfl
  | [_, _, _], _ => rfl
  | [_, _, _, _], h => exact absurd rfl h
  | _ :: _ :: _ :: _ :: _ :: _, _ => rfl

theorem pgAt_drew {w : World} {q : Nat} {s : ByteArray} {f t : Int} {A : Option Addr} {n c : Nat} (h : PgAt w q s f t A n c) : PgAt w.drew q s f t A n c := h
theorem pgAt_set {w : World} {q B o : Nat} {v : Value} {s : ByteArray} {f t : Int} {A : Option Addr} {n c : Nat} (h : PgAt w q s f t A n c) (hB : ¬ B = q) : PgAt (w.setCell ⟨B, o, none⟩ v) q s f t A n c := by
  obtain ⟨h0, h1, h2, h3⟩ := h
  have ne : ∀ o', (⟨B, o, none⟩ : Addr) ≠ ⟨q, o', none⟩ := fun o' e => hB (by injection e)
  exact ⟨by rw [World.cell?_setCell_other (h := ne _)]; exact h0, by rw [World.cell?_setCell_other (h := ne _)]; exact h1, by rw [World.cell?_setCell_other (h := ne _)]; exact h2, by rw [World.cell?_setCell_other (h := ne _)]; exact h3⟩
theorem keepPg {w W : World} {B q : Nat} {s : ByteArray} {f t : Int} {A : Option Addr} {n c : Nat} (h : PgAt w q s f t A n c) (hb : Below B W w) :
    w.cell? ⟨q, 0, none⟩ = some (.string s) ∧ w.cell? ⟨q, 1, none⟩ = some (.int .i64 f) ∧ w.cell? ⟨q, 2, none⟩ = some (.int .i64 t) ∧ w.cell? ⟨q, 3, none⟩ = some (.slice A n c) ∧ Below B W w := ⟨h.1, h.2.1, h.2.2.1, h.2.2.2, hb⟩

set_option maxRecDepth 100000 in
set_option maxHeartbeats 4000000 in
theorem readHead_c (s : ByteArray) (w : World) (hs : s.size ≤ 1048576) (ht : Tab w) :
    Calls Tryd.prog 82 #[.string s] w (RetHead (splL s 32) w) := by
  have HT := Lib.hid ht; clear ht
  have HZ := Lib.hid (splL_size s 32)
  have hln := splL_len s 32
  have HP := Lib.hid (fun w' => parts_c s w' hs)
  generalize splL s 32 = L at *
  go_enter Tryd.func82, Tryd.ntmps82
  go_wp2_with fail
  refine gen_calls fun V hV => ?_
  have hbV : Below w.heap.size w V := by rw [hV.out]; (repeat' (first | (with_reducible exact Below.refl _ _) | (with_reducible assumption) | (with_reducible refine below_drewN ?_ _) | (with_reducible refine Below.drew ?_) | (with_reducible refine Below.alloc ?_ ?_ _) | (with_reducible refine Below.setCell ?_ ?_ _) | (with_reducible refine via (by with_reducible assumption) ?_ ?_) | go_size))
  have hlt : w.heap.size < V.heap.size := by rw [hV.out]; simp [go_sem]
  have z0 : V.cell? ⟨w.heap.size, 0, none⟩ = some (.string ByteArray.empty) := by rw [hV.out]; simp [go_sem]; rfl
  have z1 : V.cell? ⟨w.heap.size, 1, none⟩ = some (.int .i64 0) := by rw [hV.out]; simp [go_sem]
  have z2 : V.cell? ⟨w.heap.size, 2, none⟩ = some (.int .i64 0) := by rw [hV.out]; simp [go_sem]
  have z3 : V.cell? ⟨w.heap.size, 3, none⟩ = some (.slice none 0 0) := by rw [hV.out]; simp [go_sem]
  have fz : ∀ o, V.frozen? ⟨w.heap.size, o, none⟩ = false := fun o => by rw [hV.out]; simp [go_sem]
  clear hV
  refine (HP.out V).mono ?_
  rintro e w1 ⟨v, rfl, hown, hb1⟩
  have hbw1 : Below w.heap.size w w1 := hbV.trans (hb1.mono hbV.size)
  obtain ⟨hc, hf⟩ := bcell hb1
  rw [← hc _ _ hlt] at z0
  rw [← hc _ _ hlt] at z1
  rw [← hc _ _ hlt] at z2
  rw [← hc _ _ hlt] at z3
  replace fz : ∀ o, w1.frozen? ⟨w.heap.size, o, none⟩ = false := fun o => by rw [hf _ _ hlt]; exact fz o
  have hlt1 : w.heap.size < w1.heap.size := Nat.lt_of_lt_of_le hlt hb1.size
  clear hc hf
  by_cases hL : L.length = 4
  rotate_left
  · have HH := Lib.hid (headWs_no hL)
    obtain ⟨A, c, rfl, _⟩ := own_form hown
    have q1 : ((L.length : Int) == 4) = false := by rw [beq_eq_false_iff_ne]; omega
    have q2 : ((L.length : Int) != 4) = true := by rw [bne_iff_ne]; omega
    have q3 : (L.length == 4) = false := by rw [beq_eq_false_iff_ne]; exact hL
    have q4 : (L.length != 4) = true := by rw [bne_iff_ne]; exact hL
    generalize L.length = k at *
    have fz0 := fz 0
    have fz1 := fz 1
    have fz2 := fz 2
    have fz3 := fz 3
    have hfar := far hlt1
    go_wp2_with fail
    refine bodyPost_ret (v := .tuple #[.agg #[.string ByteArray.empty, .int .i64 0, .int .i64 0, .slice none 0 0], .int .i64 0, .bool false]) (by simp only [results, Tryd.results82]; go_simp; try rfl) rfl ⟨ByteArray.empty, 0, 0, 0, (by rw [HH.out]), fun h => (by rw [HH.out] at h; cases h), by (repeat' (first | (with_reducible exact Below.refl _ _) | (with_reducible assumption) | (with_reducible refine below_drewN ?_ _) | (with_reducible refine Below.drew ?_) | (with_reducible refine Below.alloc ?_ ?_ _) | (with_reducible refine Below.setCell ?_ ?_ _) | (with_reducible refine via (by with_reducible assumption) ?_ ?_) | go_size))⟩
  obtain ⟨g, cap, rfl, hgB, hgl, hcell⟩ := words_in hown hL
  obtain ⟨x0, x1, x2, x3, rfl⟩ := list4s hL
  have e0 := hcell 0 x0 rfl
  have s0 := HZ.out x0 (by simp)
  have e1 := hcell 1 x1 rfl
  have s1 := HZ.out x1 (by simp)
  have e2 := hcell 2 x2 rfl
  have s2 := HZ.out x2 (by simp)
  have e3 := hcell 3 x3 rfl
  have s3 := HZ.out x3 (by simp)
  clear hcell hown hL
  rcases ha : rdec x1 with ⟨a, oa⟩
  rcases hb : rdec x2 with ⟨b, ob⟩
  rcases hc : rdec x3 with ⟨c, oc⟩
  have hcb := rdec_bd x3
  rw [hc] at hcb
  have HW := Lib.hid (show headWs [x0, x1, x2, x3] = (oa && ob && oc && headB x0 a b c) by simp only [headWs, ha, hb, hc])
  have HVs := Lib.hid (show headVs [x0, x1, x2, x3] = (x0, a, b, c) by simp only [headVs, ha, hb, hc])
  have HA := Lib.hid (fun w' ht => ha ▸ ReadDecimal_c x1 w' (by unfold maxLen; omega) ht)
  have HB := Lib.hid (fun w' ht => hb ▸ ReadDecimal_c x2 w' (by unfold maxLen; omega) ht)
  have HC := Lib.hid (fun w' ht => hc ▸ ReadDecimal_c x3 w' (by unfold maxLen; omega) ht)
  clear ha hb hc
  have hg1 := hgl
  go_wp2_with fail
  refine (HA.out _ (HT.out.below hbw1)).mono ?_
  rintro e w2 ⟨rfl, hb2⟩
  obtain ⟨hc, hf⟩ := bcell hb2
  rw [← hc _ _ hlt1] at z0
  rw [← hc _ _ hg1] at e0
  rw [← hc _ _ hlt1] at z1
  rw [← hc _ _ hg1] at e1
  rw [← hc _ _ hlt1] at z2
  rw [← hc _ _ hg1] at e2
  rw [← hc _ _ hlt1] at z3
  rw [← hc _ _ hg1] at e3
  replace fz : ∀ o, w2.frozen? ⟨w.heap.size, o, none⟩ = false := fun o => by rw [hf _ _ hlt1]; exact fz o
  have hlt2 : w.heap.size < w2.heap.size := Nat.lt_of_lt_of_le hlt1 hb2.size
  have hg2 : g < w2.heap.size := Nat.lt_of_lt_of_le hg1 hb2.size
  have hbw2 : Below w.heap.size w w2 := hbw1.trans (hb2.mono hbw1.size)
  clear hc hf hb2
  go_wp2_with fail
  refine (HB.out _ (HT.out.below hbw2)).mono ?_
  rintro e w3 ⟨rfl, hb3⟩
  obtain ⟨hc, hf⟩ := bcell hb3
  rw [← hc _ _ hlt2] at z0
  rw [← hc _ _ hg2] at e0
  rw [← hc _ _ hlt2] at z1
  rw [← hc _ _ hg2] at e1
  rw [← hc _ _ hlt2] at z2
  rw [← hc _ _ hg2] at e2
  rw [← hc _ _ hlt2] at z3
  rw [← hc _ _ hg2] at e3
  replace fz : ∀ o, w3.frozen? ⟨w.heap.size, o, none⟩ = false := fun o => by rw [hf _ _ hlt2]; exact fz o
  have hlt3 : w.heap.size < w3.heap.size := Nat.lt_of_lt_of_le hlt2 hb3.size
  have hg3 : g < w3.heap.size := Nat.lt_of_lt_of_le hg2 hb3.size
  have hbw3 : Below w.heap.size w w3 := hbw2.trans (hb3.mono hbw2.size)
  clear hc hf hb3
  go_wp2_with fail
  refine (HC.out _ (HT.out.below hbw3)).mono ?_
  rintro e w4 ⟨rfl, hb4⟩
  obtain ⟨hc, hf⟩ := bcell hb4
  rw [← hc _ _ hlt3] at z0
  rw [← hc _ _ hg3] at e0
  rw [← hc _ _ hlt3] at z1
  rw [← hc _ _ hg3] at e1
  rw [← hc _ _ hlt3] at z2
  rw [← hc _ _ hg3] at e2
  rw [← hc _ _ hlt3] at z3
  rw [← hc _ _ hg3] at e3
  replace fz : ∀ o, w4.frozen? ⟨w.heap.size, o, none⟩ = false := fun o => by rw [hf _ _ hlt3]; exact fz o
  have hlt4 : w.heap.size < w4.heap.size := Nat.lt_of_lt_of_le hlt3 hb4.size
  have hg4 : g < w4.heap.size := Nat.lt_of_lt_of_le hg3 hb4.size
  have hbw4 : Below w.heap.size w w4 := hbw3.trans (hb4.mono hbw3.size)
  clear hc hf hb4
  have fz0 := fz 0
  have fz1 := fz 1
  have fz2 := fz 2
  have fz3 := fz 3
  have hfar := far hlt4
  have hfg := far hg4
  have HVH := Lib.hid (fun w' => validHead_c x0 a b none 0 0 c w' (by unfold maxLen; omega) (by omega))
  clear hlt hlt1 hlt2 hlt3 hg1 hg2 hg3 hgl hbw1 hbw2 hbw3 hbV hb1
  unfold pg at HVH
  generalize headB x0 a b c = hd at *
  cases oa
  · go_upto_region 8 with fail
    refine gen_world fun W hW => ?_
    have hbW : Below w.heap.size w W := by rw [hW.out]; (repeat' (first | (with_reducible exact Below.refl _ _) | (with_reducible assumption) | (with_reducible refine below_drewN ?_ _) | (with_reducible refine Below.drew ?_) | (with_reducible refine Below.alloc ?_ ?_ _) | (with_reducible refine Below.setCell ?_ ?_ _) | (with_reducible refine via (by with_reducible assumption) ?_ ?_) | go_size))
    have hb4W : Below w4.heap.size w4 W := by rw [hW.out]; (repeat' (first | (with_reducible exact Below.refl _ _) | (with_reducible assumption) | (with_reducible refine below_drewN ?_ _) | (with_reducible refine Below.drew ?_) | (with_reducible refine Below.alloc ?_ ?_ _) | (with_reducible refine Below.setCell ?_ ?_ _) | (with_reducible refine via (by with_reducible assumption) ?_ ?_) | go_size))
    have c0 : W.cell? ⟨w4.heap.size, 0, none⟩ = some (.string x0) := by rw [hW.out]; simp [go_sem]
    have c1 : W.cell? ⟨w4.heap.size, 1, none⟩ = some (.int .i64 a) := by rw [hW.out]; simp [go_sem]
    have c2 : W.cell? ⟨w4.heap.size, 2, none⟩ = some (.int .i64 b) := by rw [hW.out]; simp [go_sem]
    have c3 : W.cell? ⟨w4.heap.size, 3, none⟩ = some (.slice none 0 0) := by rw [hW.out]; simp [go_sem]
    have hlW := far (show w4.heap.size < W.heap.size by rw [hW.out]; simp [go_sem])
    obtain ⟨hc, hf⟩ := bcell hb4W
    rw [← hc _ _ hlt4] at z0
    rw [← hf _ _ hlt4] at fz0
    rw [← hc _ _ hlt4] at z1
    rw [← hf _ _ hlt4] at fz1
    rw [← hc _ _ hlt4] at z2
    rw [← hf _ _ hlt4] at fz2
    rw [← hc _ _ hlt4] at z3
    rw [← hf _ _ hlt4] at fz3
    have hl2W := far (show w.heap.size < W.heap.size by omega)
    have hne1 : ¬ w4.heap.size = w.heap.size := by omega
    have hne2 : ¬ w.heap.size = w4.heap.size := by omega
    have hbsW := hbW.size
    clear hW hc hf e0 e1 e2 e3 fz
    have HPW : PgAt W w4.heap.size x0 a b none 0 0 := ⟨c0, c1, c2, c3⟩
    go_region
    go_wp2_with fail
    refine bodyPost_ret (v := .tuple #[.agg #[.string x0, .int .i64 a, .int .i64 b, .slice none 0 0], .int .i64 c, .bool false]) (by simp only [results, Tryd.results82]; go_simp) rfl ⟨x0, a, b, c, by rw [HW.out]; simp, fun _ => HVs.out, by (repeat' (first | (with_reducible exact Below.refl _ _) | (with_reducible assumption) | (with_reducible refine below_drewN ?_ _) | (with_reducible refine Below.drew ?_) | (with_reducible refine Below.alloc ?_ ?_ _) | (with_reducible refine Below.setCell ?_ ?_ _) | (with_reducible refine via (by with_reducible assumption) ?_ ?_) | go_size))⟩
  cases ob
  · go_upto_region 8 with fail
    refine gen_world fun W hW => ?_
    have hbW : Below w.heap.size w W := by rw [hW.out]; (repeat' (first | (with_reducible exact Below.refl _ _) | (with_reducible assumption) | (with_reducible refine below_drewN ?_ _) | (with_reducible refine Below.drew ?_) | (with_reducible refine Below.alloc ?_ ?_ _) | (with_reducible refine Below.setCell ?_ ?_ _) | (with_reducible refine via (by with_reducible assumption) ?_ ?_) | go_size))
    have hb4W : Below w4.heap.size w4 W := by rw [hW.out]; (repeat' (first | (with_reducible exact Below.refl _ _) | (with_reducible assumption) | (with_reducible refine below_drewN ?_ _) | (with_reducible refine Below.drew ?_) | (with_reducible refine Below.alloc ?_ ?_ _) | (with_reducible refine Below.setCell ?_ ?_ _) | (with_reducible refine via (by with_reducible assumption) ?_ ?_) | go_size))
    have c0 : W.cell? ⟨w4.heap.size, 0, none⟩ = some (.string x0) := by rw [hW.out]; simp [go_sem]
    have c1 : W.cell? ⟨w4.heap.size, 1, none⟩ = some (.int .i64 a) := by rw [hW.out]; simp [go_sem]
    have c2 : W.cell? ⟨w4.heap.size, 2, none⟩ = some (.int .i64 b) := by rw [hW.out]; simp [go_sem]
    have c3 : W.cell? ⟨w4.heap.size, 3, none⟩ = some (.slice none 0 0) := by rw [hW.out]; simp [go_sem]
    have hlW := far (show w4.heap.size < W.heap.size by rw [hW.out]; simp [go_sem])
    obtain ⟨hc, hf⟩ := bcell hb4W
    rw [← hc _ _ hlt4] at z0
    rw [← hf _ _ hlt4] at fz0
    rw [← hc _ _ hlt4] at z1
    rw [← hf _ _ hlt4] at fz1
    rw [← hc _ _ hlt4] at z2
    rw [← hf _ _ hlt4] at fz2
    rw [← hc _ _ hlt4] at z3
    rw [← hf _ _ hlt4] at fz3
    have hl2W := far (show w.heap.size < W.heap.size by omega)
    have hne1 : ¬ w4.heap.size = w.heap.size := by omega
    have hne2 : ¬ w.heap.size = w4.heap.size := by omega
    have hbsW := hbW.size
    clear hW hc hf e0 e1 e2 e3 fz
    have HPW : PgAt W w4.heap.size x0 a b none 0 0 := ⟨c0, c1, c2, c3⟩
    go_region
    go_wp2_with fail
    refine bodyPost_ret (v := .tuple #[.agg #[.string x0, .int .i64 a, .int .i64 b, .slice none 0 0], .int .i64 c, .bool false]) (by simp only [results, Tryd.results82]; go_simp) rfl ⟨x0, a, b, c, by rw [HW.out]; simp, fun _ => HVs.out, by (repeat' (first | (with_reducible exact Below.refl _ _) | (with_reducible assumption) | (with_reducible refine below_drewN ?_ _) | (with_reducible refine Below.drew ?_) | (with_reducible refine Below.alloc ?_ ?_ _) | (with_reducible refine Below.setCell ?_ ?_ _) | (with_reducible refine via (by with_reducible assumption) ?_ ?_) | go_size))⟩
  cases oc
  · go_upto_region 8 with fail
    refine gen_world fun W hW => ?_
    have hbW : Below w.heap.size w W := by rw [hW.out]; (repeat' (first | (with_reducible exact Below.refl _ _) | (with_reducible assumption) | (with_reducible refine below_drewN ?_ _) | (with_reducible refine Below.drew ?_) | (with_reducible refine Below.alloc ?_ ?_ _) | (with_reducible refine Below.setCell ?_ ?_ _) | (with_reducible refine via (by with_reducible assumption) ?_ ?_) | go_size))
    have hb4W : Below w4.heap.size w4 W := by rw [hW.out]; (repeat' (first | (with_reducible exact Below.refl _ _) | (with_reducible assumption) | (with_reducible refine below_drewN ?_ _) | (with_reducible refine Below.drew ?_) | (with_reducible refine Below.alloc ?_ ?_ _) | (with_reducible refine Below.setCell ?_ ?_ _) | (with_reducible refine via (by with_reducible assumption) ?_ ?_) | go_size))
    have c0 : W.cell? ⟨w4.heap.size, 0, none⟩ = some (.string x0) := by rw [hW.out]; simp [go_sem]
    have c1 : W.cell? ⟨w4.heap.size, 1, none⟩ = some (.int .i64 a) := by rw [hW.out]; simp [go_sem]
    have c2 : W.cell? ⟨w4.heap.size, 2, none⟩ = some (.int .i64 b) := by rw [hW.out]; simp [go_sem]
    have c3 : W.cell? ⟨w4.heap.size, 3, none⟩ = some (.slice none 0 0) := by rw [hW.out]; simp [go_sem]
    have hlW := far (show w4.heap.size < W.heap.size by rw [hW.out]; simp [go_sem])
    obtain ⟨hc, hf⟩ := bcell hb4W
    rw [← hc _ _ hlt4] at z0
    rw [← hf _ _ hlt4] at fz0
    rw [← hc _ _ hlt4] at z1
    rw [← hf _ _ hlt4] at fz1
    rw [← hc _ _ hlt4] at z2
    rw [← hf _ _ hlt4] at fz2
    rw [← hc _ _ hlt4] at z3
    rw [← hf _ _ hlt4] at fz3
    have hl2W := far (show w.heap.size < W.heap.size by omega)
    have hne1 : ¬ w4.heap.size = w.heap.size := by omega
    have hne2 : ¬ w.heap.size = w4.heap.size := by omega
    have hbsW := hbW.size
    clear hW hc hf e0 e1 e2 e3 fz
    have HPW : PgAt W w4.heap.size x0 a b none 0 0 := ⟨c0, c1, c2, c3⟩
    go_region
    go_wp2_with fail
    refine bodyPost_ret (v := .tuple #[.agg #[.string x0, .int .i64 a, .int .i64 b, .slice none 0 0], .int .i64 c, .bool false]) (by simp only [results, Tryd.results82]; go_simp) rfl ⟨x0, a, b, c, by rw [HW.out]; simp, fun _ => HVs.out, by (repeat' (first | (with_reducible exact Below.refl _ _) | (with_reducible assumption) | (with_reducible refine below_drewN ?_ _) | (with_reducible refine Below.drew ?_) | (with_reducible refine Below.alloc ?_ ?_ _) | (with_reducible refine Below.setCell ?_ ?_ _) | (with_reducible refine via (by with_reducible assumption) ?_ ?_) | go_size))⟩
  go_upto_region 8 with fail
  refine gen_world fun W hW => ?_
  have hbW : Below w.heap.size w W := by rw [hW.out]; (repeat' (first | (with_reducible exact Below.refl _ _) | (with_reducible assumption) | (with_reducible refine below_drewN ?_ _) | (with_reducible refine Below.drew ?_) | (with_reducible refine Below.alloc ?_ ?_ _) | (with_reducible refine Below.setCell ?_ ?_ _) | (with_reducible refine via (by with_reducible assumption) ?_ ?_) | go_size))
  have hb4W : Below w4.heap.size w4 W := by rw [hW.out]; (repeat' (first | (with_reducible exact Below.refl _ _) | (with_reducible assumption) | (with_reducible refine below_drewN ?_ _) | (with_reducible refine Below.drew ?_) | (with_reducible refine Below.alloc ?_ ?_ _) | (with_reducible refine Below.setCell ?_ ?_ _) | (with_reducible refine via (by with_reducible assumption) ?_ ?_) | go_size))
  have c0 : W.cell? ⟨w4.heap.size, 0, none⟩ = some (.string x0) := by rw [hW.out]; simp [go_sem]
  have c1 : W.cell? ⟨w4.heap.size, 1, none⟩ = some (.int .i64 a) := by rw [hW.out]; simp [go_sem]
  have c2 : W.cell? ⟨w4.heap.size, 2, none⟩ = some (.int .i64 b) := by rw [hW.out]; simp [go_sem]
  have c3 : W.cell? ⟨w4.heap.size, 3, none⟩ = some (.slice none 0 0) := by rw [hW.out]; simp [go_sem]
  have hlW := far (show w4.heap.size < W.heap.size by rw [hW.out]; simp [go_sem])
  obtain ⟨hc, hf⟩ := bcell hb4W
  rw [← hc _ _ hlt4] at z0
  rw [← hf _ _ hlt4] at fz0
  rw [← hc _ _ hlt4] at z1
  rw [← hf _ _ hlt4] at fz1
  rw [← hc _ _ hlt4] at z2
  rw [← hf _ _ hlt4] at fz2
  rw [← hc _ _ hlt4] at z3
  rw [← hf _ _ hlt4] at fz3
  have hl2W := far (show w.heap.size < W.heap.size by omega)
  have hne1 : ¬ w4.heap.size = w.heap.size := by omega
  have hne2 : ¬ w.heap.size = w4.heap.size := by omega
  have hbsW := hbW.size
  clear hW hc hf e0 e1 e2 e3 fz
  have HPW : PgAt W w4.heap.size x0 a b none 0 0 := ⟨c0, c1, c2, c3⟩
  clear c0 c1 c2 c3
  have hlq : w4.heap.size < W.heap.size := hlW.1
  go_region_held3 (fun w' => w'.cell? ⟨w4.heap.size, 0, none⟩ = some (.string x0) ∧ w'.cell? ⟨w4.heap.size, 1, none⟩ = some (.int .i64 a) ∧ w'.cell? ⟨w4.heap.size, 2, none⟩ = some (.int .i64 b) ∧ w'.cell? ⟨w4.heap.size, 3, none⟩ = some (.slice none 0 0) ∧ Below w.heap.size w w') (exact keepPg (by repeat (first | (with_reducible assumption) | (with_reducible refine pgAt_drew ?_) | (with_reducible refine pgAt_set ?_ hne2))) (by (repeat' (first | (with_reducible exact Below.refl _ _) | (with_reducible assumption) | (with_reducible refine below_drewN ?_ _) | (with_reducible refine Below.drew ?_) | (with_reducible refine Below.alloc ?_ ?_ _) | (with_reducible refine Below.setCell ?_ ?_ _) | (with_reducible refine via (by with_reducible assumption) ?_ ?_) | go_size))))
    (first | (go_at_call 90; refine (HVH.out _).mono ?_; rintro e w5 ⟨rfl, hb5⟩; have HP5 : PgAt w5 w4.heap.size x0 a b none 0 0 := (PgAt.below (by repeat (first | (with_reducible assumption) | (with_reducible refine pgAt_drew ?_))) hb5 (by first | exact hlq | (simp only [World.size_drew, size_drewN]; exact hlq))); obtain ⟨hc5, hf5⟩ := bcell hb5; have hz5 := hb5.size; (try simp only [World.size_alloc, size_drewN, World.size_setCell, World.size_drew] at hc5 hf5 hz5); have hl5 := far (show w.heap.size < w5.heap.size by omega); have hl6 := far (show w4.heap.size < w5.heap.size by omega)))
  go_wp2_with fail
  refine bodyPost_ret (v := .tuple #[.agg #[.string x0, .int .i64 a, .int .i64 b, .slice none 0 0], .int .i64 c, .bool hd]) (by simp only [results, Tryd.results82]; go_simp) rfl ⟨x0, a, b, c, by rw [HW.out]; simp, fun _ => HVs.out, by (repeat' (first | (with_reducible exact Below.refl _ _) | (with_reducible assumption) | (with_reducible refine below_drewN ?_ _) | (with_reducible refine Below.drew ?_) | (with_reducible refine Below.alloc ?_ ?_ _) | (with_reducible refine Below.setCell ?_ ?_ _) | (with_reducible refine via (by with_reducible assumption) ?_ ?_) | go_size))⟩
end Go.Proofs.YtaebofpgdonnbaaDoor
