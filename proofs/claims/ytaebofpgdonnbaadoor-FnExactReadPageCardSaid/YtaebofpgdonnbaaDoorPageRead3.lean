/- Contracts: the line of a row read, both sides. -/
import Derived.Test.YtaebofpgdonnbaaDoorPageRead2
set_option linter.unusedVariables false
set_option linter.unusedSimpArgs false
namespace Go.Proofs.YtaebofpgdonnbaaDoor
open Go.RowKit

def rowWs (L : List ByteArray) (arg : Int) : Int × Int :=
  match L with
  | [w0, w1, w2] => if ((rdec w0).2 && (rdec w1).2 && valB (rdec w1).1) = true then (if (rdec w0).1 = arg then (if (w2.toList == (sgn (rdec w1).1).toList) = true then ((rdec w1).1, 0) else (0, 4)) else (0, 3)) else (0, 2)
  | _ => (0, 2)
theorem list3s {L : List ByteArray} (h : L.length = 3) : ∃ a b c, L = [a, b, c] := by
  match L, h with
  | [a, b, c], _ => exact ⟨a, b, c, rfl⟩
theorem rowWs_no {L : List ByteArray} (h : ¬ L.length = 3) (arg : Int) : rowWs L arg = (0, 2) := by
  match L, h with
  | [], _ => rfl
  | [_], _ => rfl
  | [_, _], _ => rfl
  | [_, _, _], h => exact absurd rfl h
  | _ :: _ :: _ :: _ :: _, _ => rfl
theorem ret_2i {a b : Int} {r : Int × Int} (h : r = (a, b)) : Ending.returned (.tuple #[.int .i64 a, .int .i64 b]) = .returned (.tuple #[.int .i64 r.1, .int .i64 r.2]) := by rw [h]
theorem ret_i {b : Int} {r : Int × Int} {a : Int} (h : r = (a, b)) : Ending.returned (.int .i64 b) = .returned (.int .i64 r.2) := by rw [h]

set_option maxRecDepth 100000 in
set_option maxHeartbeats 4000000 in
theorem l18Value_c (s : ByteArray) (arg : Int) (w : World) (hs : s.size ≤ 1048576) :
    Calls Tryd.prog 79 #[.string s, .int .i64 arg] w fun e w' => e = .returned (.tuple #[.int .i64 (rowWs (splL s 32) arg).1, .int .i64 (rowWs (splL s 32) arg).2]) ∧ Below w.heap.size w w' := by
  have HZ := Lib.hid (splL_size s 32)
  have HP := Lib.hid (l01Split_c s 32 w hs)
  generalize splL s 32 = L at *
  go_enter Tryd.func79, Tryd.ntmps79
  go_wp2_with fail
  refine HP.out.mono ?_
  rintro e w1 ⟨v, rfl, hown, hb1⟩
  by_cases hL : L.length = 3
  rotate_left
  · have HF := Lib.hid (rowWs_no hL arg)
    obtain ⟨A, c, rfl, _⟩ := own_form hown
    have q1 : ((L.length : Int) == 3) = false := by rw [beq_eq_false_iff_ne]; omega
    have q2 : ((L.length : Int) != 3) = true := by rw [bne_iff_ne]; omega
    have q3 : (L.length == 3) = false := by rw [beq_eq_false_iff_ne]; exact hL
    have q4 : (L.length != 3) = true := by rw [bne_iff_ne]; exact hL
    generalize L.length = k at *
    go_wp2_with fail
    refine bodyPost_ret (v := .tuple #[.int .i64 0, .int .i64 2]) (by simp only [results, Tryd.results79]; go_simp) rfl ⟨ret_2i HF.out, hb1⟩
  obtain ⟨g, cap, rfl, hgB, hgl, hcell⟩ := words_in hown hL
  obtain ⟨x0, x1, x2, rfl⟩ := list3s hL
  have e0 := hcell 0 x0 rfl
  have e1 := hcell 1 x1 rfl
  have e2 := hcell 2 x2 rfl
  have s0 := HZ.out x0 (by simp)
  have s1 := HZ.out x1 (by simp)
  have s2 := HZ.out x2 (by simp)
  clear hcell hown hL HZ HP
  rcases ha : rdec x0 with ⟨a, oa⟩
  rcases hb : rdec x1 with ⟨v, ov⟩
  have HW := Lib.hid (show rowWs [x0, x1, x2] arg = (if (oa && ov && valB v) = true then (if a = arg then (if (x2.toList == (sgn v).toList) = true then (v, 0) else (0, 4)) else (0, 3)) else (0, 2)) by simp only [rowWs, ha, hb])
  have HA := Lib.hid (fun w' => ha ▸ l01Number_c x0 w' (by unfold maxLen; omega))
  have HB := Lib.hid (fun w' => hb ▸ l01Number_c x1 w' (by unfold maxLen; omega))
  clear ha hb
  go_wp2_with fail
  refine (HA.out _).mono ?_
  rintro e w2 ⟨rfl, hb2⟩
  obtain ⟨hc, _⟩ := bcell hb2
  rw [← hc _ _ hgl] at e0 e1 e2
  have hg2 : g < w2.heap.size := Nat.lt_of_lt_of_le hgl hb2.size
  have hbw2 : Below w.heap.size w w2 := hb1.trans (hb2.mono hb1.size)
  clear hc
  go_wp2_with fail
  refine (HB.out _).mono ?_
  rintro e w3 ⟨rfl, hb3⟩
  obtain ⟨hc, _⟩ := bcell hb3
  rw [← hc _ _ hg2] at e0 e1 e2
  have hg3 : g < w3.heap.size := Nat.lt_of_lt_of_le hg2 hb3.size
  have hbw3 : Below w.heap.size w w3 := hbw2.trans (hb3.mono hbw2.size)
  clear hc hb1 hb2 hb3 hbw2 hgl hg2 hgB
  have hfar := far hg3
  have hbs3 := hbw3.size
  have HV := Lib.hid (fun w' => l17Most_c v w')
  cases oa
  · have HF := Lib.hid (show rowWs [x0, x1, x2] arg = (0, 2) by rw [HW.out]; simp)
    go_wp2_with fail
    refine bodyPost_ret (v := .tuple #[.int .i64 0, .int .i64 2]) (by simp only [results, Tryd.results79]; go_simp) rfl ⟨ret_2i HF.out, by (repeat' (first | (with_reducible exact Below.refl _ _) | (with_reducible assumption) | (with_reducible refine below_drewN ?_ _) | (with_reducible refine Below.drew ?_) | (with_reducible refine Below.alloc ?_ ?_ _) | (with_reducible refine Below.setCell ?_ ?_ _) | (with_reducible refine via (by with_reducible assumption) ?_ ?_) | go_size))⟩
  cases ov
  · have HF := Lib.hid (show rowWs [x0, x1, x2] arg = (0, 2) by rw [HW.out]; simp)
    go_wp2_with fail
    refine bodyPost_ret (v := .tuple #[.int .i64 0, .int .i64 2]) (by simp only [results, Tryd.results79]; go_simp) rfl ⟨ret_2i HF.out, by (repeat' (first | (with_reducible exact Below.refl _ _) | (with_reducible assumption) | (with_reducible refine below_drewN ?_ _) | (with_reducible refine Below.drew ?_) | (with_reducible refine Below.alloc ?_ ?_ _) | (with_reducible refine Below.setCell ?_ ?_ _) | (with_reducible refine via (by with_reducible assumption) ?_ ?_) | go_size))⟩
  cases hvv : valB v
  · have HF := Lib.hid (show rowWs [x0, x1, x2] arg = (0, 2) by rw [HW.out, hvv]; simp)
    replace hvv := Lib.hid hvv
    go_wp2_with fail
    refine (retb (HV.out _) hvv.out).mono ?_
    rintro e w4 ⟨rfl, rfl⟩
    go_wp2_with fail
    refine bodyPost_ret (v := .tuple #[.int .i64 0, .int .i64 2]) (by simp only [results, Tryd.results79]; go_simp) rfl ⟨ret_2i HF.out, by (repeat' (first | (with_reducible exact Below.refl _ _) | (with_reducible assumption) | (with_reducible refine below_drewN ?_ _) | (with_reducible refine Below.drew ?_) | (with_reducible refine Below.alloc ?_ ?_ _) | (with_reducible refine Below.setCell ?_ ?_ _) | (with_reducible refine via (by with_reducible assumption) ?_ ?_) | go_size))⟩
  have hvb := valB_iff.1 hvv
  replace hvv := Lib.hid hvv
  go_wp2_with fail
  refine (retb (HV.out _) hvv.out).mono ?_
  rintro e w4 ⟨rfl, rfl⟩
  by_cases haa : a = arg
  rotate_left
  · have HF := Lib.hid (show rowWs [x0, x1, x2] arg = (0, 3) by rw [HW.out, hvv.out, if_pos (by rfl), if_neg haa])
    have q1 : (a == arg) = false := by rw [beq_eq_false_iff_ne]; exact haa
    have q2 : (a != arg) = true := by rw [bne_iff_ne]; exact haa
    go_wp2_with fail
    refine bodyPost_ret (v := .tuple #[.int .i64 0, .int .i64 3]) (by simp only [results, Tryd.results79]; go_simp) rfl ⟨ret_2i HF.out, by (repeat' (first | (with_reducible exact Below.refl _ _) | (with_reducible assumption) | (with_reducible refine below_drewN ?_ _) | (with_reducible refine Below.drew ?_) | (with_reducible refine Below.alloc ?_ ?_ _) | (with_reducible refine Below.setCell ?_ ?_ _) | (with_reducible refine via (by with_reducible assumption) ?_ ?_) | go_size))⟩
  have q1 : (a == arg) = true := by rw [beq_iff_eq]; exact haa
  have q2 : (a != arg) = false := by rw [bne_eq_false_iff_eq]; exact haa
  have HK := Lib.hid (fun w' => l18Check_c v w' hvb)
  have HG := Lib.hid (fun w' => l18Sign_c v w' (chk_range v))
  cases hsg : (x2.toList == (sgn v).toList)
  · have HF := Lib.hid (show rowWs [x0, x1, x2] arg = (0, 4) by rw [HW.out, hvv.out, if_pos (by rfl), if_pos haa, hsg]; rfl)
    generalize sgn v = S at *
    have q3 : (x2.toList != S.toList) = true := by unfold bne; rw [hsg]; rfl
    go_wp2_with fail
    (refine wp_region_quiet_below (by kernel_rfl) (by kernel_rfl) ?_; (repeat (go_big_quiet_step (first | ((go_at_call 104; exact rg_same (fun w' hb => HK.out w'))) | ((go_at_call 103; exact rg_of (fun w' hb => HG.out w')))))); refine wpQuiet_nil ?_; refine qg_end ?_; intro wq hbq)
    go_wp2_with fail
    refine bodyPost_ret (v := .tuple #[.int .i64 0, .int .i64 4]) (by simp only [results, Tryd.results79]; go_simp) rfl ⟨ret_2i HF.out, by (repeat' (first | (with_reducible exact Below.refl _ _) | (with_reducible assumption) | (with_reducible refine below_drewN ?_ _) | (with_reducible refine Below.drew ?_) | (with_reducible refine Below.alloc ?_ ?_ _) | (with_reducible refine Below.setCell ?_ ?_ _) | (with_reducible refine via (by with_reducible assumption) ?_ ?_) | go_size))⟩
  · have HF := Lib.hid (show rowWs [x0, x1, x2] arg = (v, 0) by rw [HW.out, hvv.out, if_pos (by rfl), if_pos haa, hsg]; rfl)
    generalize sgn v = S at *
    have q3 : (x2.toList != S.toList) = false := by unfold bne; rw [hsg]; rfl
    go_wp2_with fail
    (refine wp_region_quiet_below (by kernel_rfl) (by kernel_rfl) ?_; (repeat (go_big_quiet_step (first | ((go_at_call 104; exact rg_same (fun w' hb => HK.out w'))) | ((go_at_call 103; exact rg_of (fun w' hb => HG.out w')))))); refine wpQuiet_nil ?_; refine qg_end ?_; intro wq hbq)
    go_wp2_with fail
    refine bodyPost_ret (v := .tuple #[.int .i64 v, .int .i64 0]) (by simp only [results, Tryd.results79]; go_simp) rfl ⟨ret_2i HF.out, by (repeat' (first | (with_reducible exact Below.refl _ _) | (with_reducible assumption) | (with_reducible refine below_drewN ?_ _) | (with_reducible refine Below.drew ?_) | (with_reducible refine Below.alloc ?_ ?_ _) | (with_reducible refine Below.setCell ?_ ?_ _) | (with_reducible refine via (by with_reducible assumption) ?_ ?_) | go_size))⟩

/-- what the row's line has left: the fault; the page with one more value if there is none -/
def RetRow (b0 : Nat) (nm : ByteArray) (f t : Int) (vs : List Int) (Bv : Nat) (r : Int × Int) (W : World) (e : Ending) (w' : World) : Prop := e = .returned (.int .i64 r.2) ∧
  (¬ r.2 = 0 → Below W.heap.size W w') ∧ (r.2 = 0 → ∃ A' c', PgAt w' b0 nm f t A' (vs.length + 1) c' ∧ w'.ownsRow Bv 2 1 (.slice A' (vs.length + 1) c') (vs.length + 1) ((vs ++ [r.1]).map (Value.int .i64)) ∧ (∀ o, w'.frozen? ⟨b0, o, none⟩ = false) ∧ Below b0 W w' ∧ W.heap.size ≤ w'.heap.size)
set_option maxRecDepth 100000 in
set_option maxHeartbeats 4000000 in
theorem readRow_c (b0 : Nat) (nm : ByteArray) (f t : Int) (A : Option Addr) (c : Nat) (vs : List Int) (Bv : Nat) (s : ByteArray) (w : World) (hs : s.size ≤ 1048576) (hf : -1000000 ≤ f ∧ f ≤ 1000000) (htt : 1 ≤ t ∧ t ≤ 1000) (hvs : vs.length ≤ 60) (hb0 : b0 < Bv) (hBv : Bv ≤ w.heap.size)
    (hp : PgAt w b0 nm f t A vs.length c) (hown0 : w.ownsRow Bv 2 1 (.slice A vs.length c) vs.length (vs.map (Value.int .i64))) (hfz : ∀ o, w.frozen? ⟨b0, o, none⟩ = false) (ht : Tab w) :
    Calls Tryd.prog 83 #[.pointer (some ⟨b0, 0, none⟩), .string s] w (RetRow b0 nm f t vs Bv (rowWs (splL s 32) (f + (vs.length : Int) * t)) w) := by
  obtain ⟨i0, hi0, hy0, hy1, hy2⟩ := info_parts info_i64
  have HT := Lib.hid ht; clear ht
  have HZ := Lib.hid (splL_size s 32)
  have HP := Lib.hid (parts_c s w hs)
  generalize splL s 32 = L at *
  obtain ⟨m, hm⟩ : ∃ m, m = vs.length := ⟨_, rfl⟩
  unfold RetRow
  rw [← hm] at hp hown0 hvs ⊢
  have hmt := rows_bd (n := (m : Int)) (t := t) (by omega) htt
  obtain ⟨arg, harg⟩ : ∃ arg, arg = f + (m : Int) * t := ⟨_, rfl⟩
  rw [← harg]
  have HAR := Lib.hid (fun w' => harg ▸ argument_c nm f t A m c (m : Int) w' hf (by omega))
  unfold pg at HAR
  clear harg hmt hm
  have hlt0 : b0 < w.heap.size := by omega
  go_enter Tryd.func83, Tryd.ntmps83
  go_wp2_with fail
  refine HP.out.mono ?_
  rintro e w1 ⟨v, rfl, hown, hb1⟩
  have HPG1 := Lib.hid (hp.below hb1 hlt0)
  have HOW1 := Lib.hid (own_call hown0 hb1)
  have hlt1 : b0 < w1.heap.size := Nat.lt_of_lt_of_le hlt0 hb1.size
  have HFZ1 := Lib.hid (fun o => ((bcell hb1).2 b0 o hlt0).trans (hfz o))
  clear hp hown0 hfz
  by_cases hL : L.length = 3
  rotate_left
  · have HF := Lib.hid (rowWs_no hL arg)
    obtain ⟨A9, c9, rfl, _⟩ := own_form hown
    have q1 : ((L.length : Int) == 3) = false := by rw [beq_eq_false_iff_ne]; omega
    have q2 : ((L.length : Int) != 3) = true := by rw [bne_iff_ne]; omega
    have q3 : (L.length == 3) = false := by rw [beq_eq_false_iff_ne]; exact hL
    have q4 : (L.length != 3) = true := by rw [bne_iff_ne]; exact hL
    generalize L.length = k at *
    go_wp2_with fail
    go_ret
    exact ⟨ret_i HF.out, fun _ => hb1, fun h => (by rw [HF.out] at h; cases h)⟩
  obtain ⟨g, cap, rfl, hgB, hgl, hcell⟩ := words_in hown hL
  obtain ⟨x0, x1, x2, rfl⟩ := list3s hL
  have e0 := hcell 0 x0 rfl
  have e1 := hcell 1 x1 rfl
  have e2 := hcell 2 x2 rfl
  have s0 := HZ.out x0 (by simp)
  have s1 := HZ.out x1 (by simp)
  have s2 := HZ.out x2 (by simp)
  clear hcell hown hL HZ HP
  rcases ha : rdec x0 with ⟨a, oa⟩
  rcases hb : rdec x1 with ⟨v, ov⟩
  have HW := Lib.hid (show rowWs [x0, x1, x2] arg = (if (oa && ov && valB v) = true then (if a = arg then (if (x2.toList == (sgn v).toList) = true then (v, 0) else (0, 4)) else (0, 3)) else (0, 2)) by simp only [rowWs, ha, hb])
  have HA := Lib.hid (fun w' ht => ha ▸ ReadDecimal_c x0 w' (by unfold maxLen; omega) ht)
  have HB := Lib.hid (fun w' ht => hb ▸ ReadDecimal_c x1 w' (by unfold maxLen; omega) ht)
  clear ha hb
  go_wp2_with fail
  refine (HA.out _ (HT.out.below hb1)).mono ?_
  rintro e w2 ⟨rfl, hb2⟩
  obtain ⟨hc, _⟩ := bcell hb2
  rw [← hc _ _ hgl] at e0 e1 e2
  have hg2 : g < w2.heap.size := Nat.lt_of_lt_of_le hgl hb2.size
  have hbw2 : Below w.heap.size w w2 := hb1.trans (hb2.mono hb1.size)
  have hlt2 : b0 < w2.heap.size := Nat.lt_of_lt_of_le hlt1 hb2.size
  have HPG2 := Lib.hid (HPG1.out.below hb2 hlt1)
  have HOW2 := Lib.hid (own_call HOW1.out hb2)
  have HFZ2 := Lib.hid (fun o => ((bcell hb2).2 b0 o hlt1).trans (HFZ1.out o))
  clear hc HPG1 HOW1 HFZ1
  go_wp2_with fail
  refine (HB.out _ (HT.out.below hbw2)).mono ?_
  rintro e w3 ⟨rfl, hb3⟩
  obtain ⟨hc, _⟩ := bcell hb3
  rw [← hc _ _ hg2] at e0 e1 e2
  have hg3 : g < w3.heap.size := Nat.lt_of_lt_of_le hg2 hb3.size
  have hbw3 : Below w.heap.size w w3 := hbw2.trans (hb3.mono hbw2.size)
  have hlt3 : b0 < w3.heap.size := Nat.lt_of_lt_of_le hlt2 hb3.size
  have HPG3 := Lib.hid (HPG2.out.below hb3 hlt2)
  have HOW3 := Lib.hid (own_call HOW2.out hb3)
  have HFZ3 := Lib.hid (fun o => ((bcell hb3).2 b0 o hlt2).trans (HFZ2.out o))
  clear hc HPG2 HOW2 HFZ2 hb1 hb2 hb3 hbw2 hgl hg2 hlt0 hlt1 hlt2
  have hfar := far hg3
  have hfar0 := far hlt3
  have HV := Lib.hid (fun w' => isValue_c v w')
  cases oa
  · have HF := Lib.hid (show rowWs [x0, x1, x2] arg = (0, 2) by rw [HW.out]; simp)
    go_wp2_with fail
    go_ret
    exact ⟨ret_i HF.out, fun _ => (by (repeat' (first | (with_reducible exact Below.refl _ _) | (with_reducible assumption) | (with_reducible refine below_drewN ?_ _) | (with_reducible refine Below.drew ?_) | (with_reducible refine Below.alloc ?_ ?_ _) | (with_reducible refine Below.setCell ?_ ?_ _) | (with_reducible refine via (by with_reducible assumption) ?_ ?_) | go_size))), fun h => (by rw [HF.out] at h; cases h)⟩
  cases ov
  · have HF := Lib.hid (show rowWs [x0, x1, x2] arg = (0, 2) by rw [HW.out]; simp)
    go_wp2_with fail
    go_ret
    exact ⟨ret_i HF.out, fun _ => (by (repeat' (first | (with_reducible exact Below.refl _ _) | (with_reducible assumption) | (with_reducible refine below_drewN ?_ _) | (with_reducible refine Below.drew ?_) | (with_reducible refine Below.alloc ?_ ?_ _) | (with_reducible refine Below.setCell ?_ ?_ _) | (with_reducible refine via (by with_reducible assumption) ?_ ?_) | go_size))), fun h => (by rw [HF.out] at h; cases h)⟩
  cases hvv : valB v
  · have HF := Lib.hid (show rowWs [x0, x1, x2] arg = (0, 2) by rw [HW.out, hvv]; simp)
    replace hvv := Lib.hid hvv
    go_wp2_with fail
    refine (retb (HV.out _) hvv.out).mono ?_
    rintro e w4 ⟨rfl, rfl⟩
    go_wp2_with fail
    go_ret
    exact ⟨ret_i HF.out, fun _ => (by (repeat' (first | (with_reducible exact Below.refl _ _) | (with_reducible assumption) | (with_reducible refine below_drewN ?_ _) | (with_reducible refine Below.drew ?_) | (with_reducible refine Below.alloc ?_ ?_ _) | (with_reducible refine Below.setCell ?_ ?_ _) | (with_reducible refine via (by with_reducible assumption) ?_ ?_) | go_size))), fun h => (by rw [HF.out] at h; cases h)⟩
  have hvb := valB_iff.1 hvv
  replace hvv := Lib.hid hvv
  go_wp2_with fail
  refine (retb (HV.out _) hvv.out).mono ?_
  rintro e w4 ⟨rfl, rfl⟩
  by_cases haa : a = arg
  rotate_left
  · have HF := Lib.hid (show rowWs [x0, x1, x2] arg = (0, 3) by rw [HW.out, hvv.out, if_pos (by rfl), if_neg haa])
    have q1 : (a == arg) = false := by rw [beq_eq_false_iff_ne]; exact haa
    have q2 : (a != arg) = true := by rw [bne_iff_ne]; exact haa
    obtain ⟨g0, g1, g2, g3⟩ := HPG3.out
    go_wp2_with fail
    (refine wp_region_quiet_below (by kernel_rfl) (by kernel_rfl) ?_; (repeat (go_big_quiet_step (first | ((go_at_call 91; exact rg_of (fun w' hb => HAR.out w')))))); refine wpQuiet_nil ?_; refine qg_end ?_; intro wq hbq)
    go_wp2_with fail
    go_ret
    exact ⟨ret_i HF.out, fun _ => (by (repeat' (first | (with_reducible exact Below.refl _ _) | (with_reducible assumption) | (with_reducible refine below_drewN ?_ _) | (with_reducible refine Below.drew ?_) | (with_reducible refine Below.alloc ?_ ?_ _) | (with_reducible refine Below.setCell ?_ ?_ _) | (with_reducible refine via (by with_reducible assumption) ?_ ?_) | go_size))), fun h => (by rw [HF.out] at h; cases h)⟩
  have q1 : (a == arg) = true := by rw [beq_iff_eq]; exact haa
  have q2 : (a != arg) = false := by rw [bne_eq_false_iff_eq]; exact haa
  have HK := Lib.hid (fun w' ht => checkText_c v w' hvb (chk_range v) ht)
  cases hsg : (x2.toList == (sgn v).toList)
  · have HF := Lib.hid (show rowWs [x0, x1, x2] arg = (0, 4) by rw [HW.out, hvv.out, if_pos (by rfl), if_pos haa, hsg]; rfl)
    generalize sgn v = S at *
    have q3 : (x2.toList != S.toList) = true := by unfold bne; rw [hsg]; rfl
    obtain ⟨g0, g1, g2, g3⟩ := HPG3.out
    go_wp2_with fail
    (refine wp_region_quiet_below (by kernel_rfl) (by kernel_rfl) ?_; (repeat (go_big_quiet_step (first | ((go_at_call 91; exact rg_of (fun w' hb => HAR.out w')))))); refine wpQuiet_nil ?_; refine qg_end ?_; intro wq hbq)
    obtain ⟨w5, rfl⟩ : ∃ u : World, u = wq := ⟨_, rfl⟩
    obtain ⟨hc, _⟩ := bcell hbq
    rw [← hc _ _ hg3] at e0 e1 e2
    have hfar5 := far (Nat.lt_of_lt_of_le hg3 hbq.size)
    have hbw5 : Below w.heap.size w w5 := hbw3.trans (hbq.mono hbw3.size)
    clear hc hbq g0 g1 g2 g3
    go_wp2_with fail
    (refine wp_region_quiet_below (by kernel_rfl) (by kernel_rfl) ?_; (repeat (go_big_quiet_step (first | ((go_at_call 92; exact rg_of (fun w' hb => HK.out w' (HT.out.below (by (repeat' (first | (with_reducible exact Below.refl _ _) | (with_reducible assumption) | (with_reducible refine below_drewN ?_ _) | (with_reducible refine Below.drew ?_) | (with_reducible refine Below.alloc ?_ ?_ _) | (with_reducible refine Below.setCell ?_ ?_ _) | (with_reducible refine via (by with_reducible assumption) ?_ ?_) | go_size)))))))))); refine wpQuiet_nil ?_; refine qg_end ?_; intro wq hbq)
    go_wp2_with fail
    go_ret
    exact ⟨ret_i HF.out, fun _ => (by (repeat' (first | (with_reducible exact Below.refl _ _) | (with_reducible assumption) | (with_reducible refine below_drewN ?_ _) | (with_reducible refine Below.drew ?_) | (with_reducible refine Below.alloc ?_ ?_ _) | (with_reducible refine Below.setCell ?_ ?_ _) | (with_reducible refine via (by with_reducible assumption) ?_ ?_) | go_size))), fun h => (by rw [HF.out] at h; cases h)⟩
  · have HF := Lib.hid (show rowWs [x0, x1, x2] arg = (v, 0) by rw [HW.out, hvv.out, if_pos (by rfl), if_pos haa, hsg]; rfl)
    generalize sgn v = S at *
    have q3 : (x2.toList != S.toList) = false := by unfold bne; rw [hsg]; rfl
    obtain ⟨g0, g1, g2, g3⟩ := HPG3.out
    go_wp2_with fail
    (refine wp_region_quiet_below (by kernel_rfl) (by kernel_rfl) ?_; (repeat (go_big_quiet_step (first | ((go_at_call 91; exact rg_of (fun w' hb => HAR.out w')))))); refine wpQuiet_nil ?_; refine qg_end ?_; intro wq hbq)
    obtain ⟨w5, rfl⟩ : ∃ u : World, u = wq := ⟨_, rfl⟩
    obtain ⟨hc, _⟩ := bcell hbq
    rw [← hc _ _ hg3] at e0 e1 e2
    have hg5 := Nat.lt_of_lt_of_le hg3 hbq.size
    have hfar5 := far hg5
    have hbw5 : Below w.heap.size w w5 := hbw3.trans (hbq.mono hbw3.size)
    have HPG5 := Lib.hid (HPG3.out.below hbq hlt3)
    have HOW5 := Lib.hid (own_call HOW3.out hbq)
    have hlt5 := Nat.lt_of_lt_of_le hlt3 hbq.size
    have HFZ5 := Lib.hid (fun o => ((bcell hbq).2 b0 o hlt3).trans (HFZ3.out o))
    clear hc hbq g0 g1 g2 g3 HPG3 HOW3 HFZ3
    go_wp2_with fail
    (refine wp_region_quiet_below (by kernel_rfl) (by kernel_rfl) ?_; (repeat (go_big_quiet_step (first | ((go_at_call 92; exact rg_of (fun w' hb => HK.out w' (HT.out.below (by (repeat' (first | (with_reducible exact Below.refl _ _) | (with_reducible assumption) | (with_reducible refine below_drewN ?_ _) | (with_reducible refine Below.drew ?_) | (with_reducible refine Below.alloc ?_ ?_ _) | (with_reducible refine Below.setCell ?_ ?_ _) | (with_reducible refine via (by with_reducible assumption) ?_ ?_) | go_size)))))))))); refine wpQuiet_nil ?_; refine qg_end ?_; intro wq hbq)
    obtain ⟨w6, rfl⟩ : ∃ u : World, u = wq := ⟨_, rfl⟩
    have hbw6 : Below w.heap.size w w6 := hbw5.trans (hbq.mono hbw5.size)
    have HPG6 := Lib.hid (HPG5.out.below hbq hlt5)
    have hp6 := HPG5.out.below hbq hlt5
    have HOW6 := Lib.hid (own_call HOW5.out hbq)
    have hlt6 := Nat.lt_of_lt_of_le hlt5 hbq.size
    have HFZ6 := Lib.hid (fun o => ((bcell hbq).2 b0 o hlt5).trans (HFZ5.out o))
    have hz6 := hbw6.size
    clear hbq HPG5 HOW5 HFZ5 hbw5 hbw3 e0 e1 e2
    obtain ⟨g0, g1, g2, g3⟩ := hp6
    have hfar6 := far hlt6
    have fz3 := HFZ6.out 3
    go_wp2_with (at_builtin; refine app_list (W := w6) (z := .int .i64 0) (.tmp 64) (.tmp 66) rfl rfl Tryd.underlying29 hi0 hy0 hy1 hy2 rfl (by decide) (by decide) rfl (HOW6.out.alloc _) rfl rfl (news1 (z := .int .i64 v) (by simp [go_sem])) (by simp [Value.oneCell']) (by omega) (by (repeat' (first | (with_reducible exact Below.refl _ _) | (with_reducible assumption) | (with_reducible refine below_drewN ?_ _) | (with_reducible refine Below.drew ?_) | (with_reducible refine Below.alloc ?_ ?_ _) | (with_reducible refine Below.setCell ?_ ?_ _) | (with_reducible refine via (by with_reducible assumption) ?_ ?_) | go_size))) (by omega) ?_; intro v3 w7 hown3 hg7 hblk7 hb7; have h3' : w7.cell? ⟨b0, 3, none⟩ = some (.slice A m c) := (hb7.cell (p := ⟨b0, 3, none⟩) hb0).trans g3; have f3' : w7.frozen? ⟨b0, 3, none⟩ = false := (hb7.frozen (p := ⟨b0, 3, none⟩) hb0).trans fz3; obtain ⟨A7, c7, rfl, _⟩ := own_form hown3)
    go_ret
    refine ⟨ret_i HF.out, fun h => absurd (by rw [HF.out]) h, fun _ => ⟨A7, c7, ?_, ?_, fun o => ?_, ?_, ?_⟩⟩
    · obtain ⟨q0, q1', q2', q3'⟩ := HPG6.out.below hb7 hb0
      have ne : ∀ o', 3 ≠ o' → (⟨b0, 3, none⟩ : Addr) ≠ ⟨b0, o', none⟩ := fun o' h e => h (by injection e)
      exact ⟨by rw [World.cell?_setCell_other (h := ne 0 (by decide))]; exact q0, by rw [World.cell?_setCell_other (h := ne 1 (by decide))]; exact q1', by rw [World.cell?_setCell_other (h := ne 2 (by decide))]; exact q2', by rw [World.cell?_setCell_same (h := q3')]⟩
    · rw [HF.out, List.map_append]
      exact ownsRow_setCell_below hown3 (by simp only; exact hb0) _
    · rw [World.frozen?_setCell, hb7.frozen (p := ⟨b0, o, none⟩) hb0]
      exact HFZ6.out o
    · exact ((hbw6.mono (by omega : b0 ≤ w.heap.size)).trans (hb7.mono (by omega : b0 ≤ Bv))).setCell (Nat.le_refl _) _
    · simp only [World.size_setCell]
      have := hb7.size
      omega

end Go.Proofs.YtaebofpgdonnbaaDoor
