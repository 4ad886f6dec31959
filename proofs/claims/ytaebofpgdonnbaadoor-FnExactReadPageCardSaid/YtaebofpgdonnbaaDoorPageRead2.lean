/- Contracts: the head line of a page read by the reference. -/
import Derived.Test.YtaebofpgdonnbaaDoorPageRead1
set_option linter.unusedVariables false
set_option linter.unusedSimpArgs false
namespace Go.Proofs.YtaebofpgdonnbaaDoor
open Go.RowKit

theorem headB_no {s : ByteArray} {f t n : Int} (h : inB n 1 60 = false) : headB s f t n = false := by unfold headB; rw [h]; simp
theorem pageB_zero (s : ByteArray) (f t : Int) (k : Nat) : pageB s f t (List.replicate k 0) = headB s f t (k : Int) := by
  unfold pageB
  rw [List.length_replicate, List.all_eq_true.2 (fun x hx => by rw [(List.mem_replicate.1 hx).2]; rfl), Bool.and_true]
theorem made_zero (k : Nat) : (madeCells (Value.int .i64 0).cells (k * 1)).toList = (List.replicate k (0 : Int)).map (Value.int .i64) := by
  rw [show (Value.int .i64 0).cells = #[Value.int .i64 0] from rfl, toList_madeCells_one, Nat.mul_one, List.map_replicate]

set_option maxRecDepth 100000 in
set_option maxHeartbeats 4000000 in
theorem l18Head_c (s : ByteArray) (w : World) (hs : s.size ≤ 1048576) :
    Calls Tryd.prog 78 #[.string s] w (RetHead (splL s 32) w) := by
  have HZ := Lib.hid (splL_size s 32)
  have hln := splL_len s 32
  have HP := Lib.hid (fun w' => l01Split_c s 32 w' hs)
  generalize splL s 32 = L at *
  go_enter Tryd.func78, Tryd.ntmps78
  go_wp2_with fail
  refine gen_calls fun V hV => ?_
  have hbV : Below w.heap.size w V := by rw [hV.out]; (repeat' (first | (with_reducible exact Below.refl _ _) | (with_reducible assumption) | (with_reducible refine below_drewN ?_ _) | (with_reducible refine Below.drew ?_) | (with_reducible refine Below.alloc ?_ ?_ _) | (with_reducible refine Below.setCell ?_ ?_ _) | (with_reducible refine via (by with_reducible assumption) ?_ ?_) | go_size))
  have hlt : w.heap.size < V.heap.size := by rw [hV.out]; simp [go_sem]
  have z0 : V.cell? ⟨w.heap.size, 0, none⟩ = some (.string ByteArray.empty) := by rw [hV.out]; simp [go_sem]; rfl
  have z1 : V.cell? ⟨w.heap.size, 1, none⟩ = some (.int .i64 0) := by rw [hV.out]; simp [go_sem]
  have z2 : V.cell? ⟨w.heap.size, 2, none⟩ = some (.int .i64 0) := by rw [hV.out]; simp [go_sem]
  have z3 : V.cell? ⟨w.heap.size, 3, none⟩ = some (.slice none 0 0) := by rw [hV.out]; simp [go_sem]
  have fz : ∀ o, V.frozen? ⟨w.heap.size, o, none⟩ = false := fun o => by rw [hV.out]; simp [go_sem]
  clear hV
  refine (HP.out V).mono ?_
  rintro e w1 ⟨v, rfl, hown, hb1⟩
  have hbw1 : Below w.heap.size w w1 := hbV.trans (hb1.mono hbV.size)
  obtain ⟨hc, hf⟩ := bcell hb1
  rw [← hc _ _ hlt] at z0
  rw [← hc _ _ hlt] at z1
  rw [← hc _ _ hlt] at z2
  rw [← hc _ _ hlt] at z3
  replace fz : ∀ o, w1.frozen? ⟨w.heap.size, o, none⟩ = false := fun o => by rw [hf _ _ hlt]; exact fz o
  have hlt1 : w.heap.size < w1.heap.size := Nat.lt_of_lt_of_le hlt hb1.size
  clear hc hf
  by_cases hL : L.length = 4
  rotate_left
  · have HH := Lib.hid (headWs_no hL)
    obtain ⟨A, c, rfl, _⟩ := own_form hown
    have q1 : ((L.length : Int) == 4) = false := by rw [beq_eq_false_iff_ne]; omega
    have q2 : ((L.length : Int) != 4) = true := by rw [bne_iff_ne]; omega
    have q3 : (L.length == 4) = false := by rw [beq_eq_false_iff_ne]; exact hL
    have q4 : (L.length != 4) = true := by rw [bne_iff_ne]; exact hL
    generalize L.length = k at *
    have fz0 := fz 0
    have fz1 := fz 1
    have fz2 := fz 2
    have fz3 := fz 3
    have hfar := far hlt1
    go_wp2_with fail
    refine bodyPost_ret (v := .tuple #[.agg #[.string ByteArray.empty, .int .i64 0, .int .i64 0, .slice none 0 0], .int .i64 0, .bool false]) (by simp only [results, Tryd.results78]; go_simp; try rfl) rfl ⟨ByteArray.empty, 0, 0, 0, (by rw [HH.out]), fun h => (by rw [HH.out] at h; cases h), by (repeat' (first | (with_reducible exact Below.refl _ _) | (with_reducible assumption) | (with_reducible refine below_drewN ?_ _) | (with_reducible refine Below.drew ?_) | (with_reducible refine Below.alloc ?_ ?_ _) | (with_reducible refine Below.setCell ?_ ?_ _) | (with_reducible refine via (by with_reducible assumption) ?_ ?_) | go_size))⟩
  obtain ⟨g, cap, rfl, hgB, hgl, hcell⟩ := words_in hown hL
  obtain ⟨x0, x1, x2, x3, rfl⟩ := list4s hL
  have e0 := hcell 0 x0 rfl
  have s0 := HZ.out x0 (by simp)
  have e1 := hcell 1 x1 rfl
  have s1 := HZ.out x1 (by simp)
  have e2 := hcell 2 x2 rfl
  have s2 := HZ.out x2 (by simp)
  have e3 := hcell 3 x3 rfl
  have s3 := HZ.out x3 (by simp)
  clear hcell hown hL
  rcases ha : rdec x1 with ⟨a, oa⟩
  rcases hb : rdec x2 with ⟨b, ob⟩
  rcases hc : rdec x3 with ⟨c, oc⟩
  have hcb := rdec_bd x3
  rw [hc] at hcb
  have HW := Lib.hid (show headWs [x0, x1, x2, x3] = (oa && ob && oc && headB x0 a b c) by simp only [headWs, ha, hb, hc])
  have HVs := Lib.hid (show headVs [x0, x1, x2, x3] = (x0, a, b, c) by simp only [headVs, ha, hb, hc])
  have HA := Lib.hid (fun w' => ha ▸ l01Number_c x1 w' (by unfold maxLen; omega))
  have HB := Lib.hid (fun w' => hb ▸ l01Number_c x2 w' (by unfold maxLen; omega))
  have HC := Lib.hid (fun w' => hc ▸ l01Number_c x3 w' (by unfold maxLen; omega))
  clear ha hb hc
  have hg1 := hgl
  go_wp2_with fail
  refine (HA.out _).mono ?_
  rintro e w2 ⟨rfl, hb2⟩
  obtain ⟨hc, hf⟩ := bcell hb2
  rw [← hc _ _ hlt1] at z0
  rw [← hc _ _ hg1] at e0
  rw [← hc _ _ hlt1] at z1
  rw [← hc _ _ hg1] at e1
  rw [← hc _ _ hlt1] at z2
  rw [← hc _ _ hg1] at e2
  rw [← hc _ _ hlt1] at z3
  rw [← hc _ _ hg1] at e3
  replace fz : ∀ o, w2.frozen? ⟨w.heap.size, o, none⟩ = false := fun o => by rw [hf _ _ hlt1]; exact fz o
  have hlt2 : w.heap.size < w2.heap.size := Nat.lt_of_lt_of_le hlt1 hb2.size
  have hg2 : g < w2.heap.size := Nat.lt_of_lt_of_le hg1 hb2.size
  have hbw2 : Below w.heap.size w w2 := hbw1.trans (hb2.mono hbw1.size)
  clear hc hf hb2
  go_wp2_with fail
  refine (HB.out _).mono ?_
  rintro e w3 ⟨rfl, hb3⟩
  obtain ⟨hc, hf⟩ := bcell hb3
  rw [← hc _ _ hlt2] at z0
  rw [← hc _ _ hg2] at e0
  rw [← hc _ _ hlt2] at z1
  rw [← hc _ _ hg2] at e1
  rw [← hc _ _ hlt2] at z2
  rw [← hc _ _ hg2] at e2
  rw [← hc _ _ hlt2] at z3
  rw [← hc _ _ hg2] at e3
  replace fz : ∀ o, w3.frozen? ⟨w.heap.size, o, none⟩ = false := fun o => by rw [hf _ _ hlt2]; exact fz o
  have hlt3 : w.heap.size < w3.heap.size := Nat.lt_of_lt_of_le hlt2 hb3.size
  have hg3 : g < w3.heap.size := Nat.lt_of_lt_of_le hg2 hb3.size
  have hbw3 : Below w.heap.size w w3 := hbw2.trans (hb3.mono hbw2.size)
  clear hc hf hb3
  go_wp2_with fail
  refine (HC.out _).mono ?_
  rintro e w4 ⟨rfl, hb4⟩
  obtain ⟨hc, hf⟩ := bcell hb4
  rw [← hc _ _ hlt3] at z0
  rw [← hc _ _ hg3] at e0
  rw [← hc _ _ hlt3] at z1
  rw [← hc _ _ hg3] at e1
  rw [← hc _ _ hlt3] at z2
  rw [← hc _ _ hg3] at e2
  rw [← hc _ _ hlt3] at z3
  rw [← hc _ _ hg3] at e3
  replace fz : ∀ o, w4.frozen? ⟨w.heap.size, o, none⟩ = false := fun o => by rw [hf _ _ hlt3]; exact fz o
  have hlt4 : w.heap.size < w4.heap.size := Nat.lt_of_lt_of_le hlt3 hb4.size
  have hg4 : g < w4.heap.size := Nat.lt_of_lt_of_le hg3 hb4.size
  have hbw4 : Below w.heap.size w w4 := hbw3.trans (hb4.mono hbw3.size)
  clear hc hf hb4
  have fz0 := fz 0
  have fz1 := fz 1
  have fz2 := fz 2
  have fz3 := fz 3
  have hfar := far hlt4
  have hfg := far hg4
  obtain ⟨i0, hi0, hy0, hy1, hy2⟩ := info_parts info_i64
  have hsx : x0.size ≤ 1048576 := by omega
  clear hlt hlt1 hlt2 hlt3 hg1 hg2 hg3 hgl hbw1 hbw2 hbw3 hbV hb1 hgB HZ hln fz
  have HIC := Lib.hid (fun w' => l00In_c c 1 60 w')
  cases oa
  · have HF := Lib.hid (show headWs [x0, x1, x2, x3] = false by rw [HW.out]; simp)
    go_wp2_with fail
    refine bodyPost_ret (v := .tuple #[.agg #[.string ByteArray.empty, .int .i64 0, .int .i64 0, .slice none 0 0], .int .i64 0, .bool false]) (by simp only [results, Tryd.results78]; go_simp; try rfl) rfl ⟨ByteArray.empty, 0, 0, 0, (by rw [HF.out]), fun h => (by rw [HF.out] at h; cases h), by (repeat' (first | (with_reducible exact Below.refl _ _) | (with_reducible assumption) | (with_reducible refine below_drewN ?_ _) | (with_reducible refine Below.drew ?_) | (with_reducible refine Below.alloc ?_ ?_ _) | (with_reducible refine Below.setCell ?_ ?_ _) | (with_reducible refine via (by with_reducible assumption) ?_ ?_) | go_size))⟩
  cases ob
  · have HF := Lib.hid (show headWs [x0, x1, x2, x3] = false by rw [HW.out]; simp)
    go_wp2_with fail
    refine bodyPost_ret (v := .tuple #[.agg #[.string ByteArray.empty, .int .i64 0, .int .i64 0, .slice none 0 0], .int .i64 0, .bool false]) (by simp only [results, Tryd.results78]; go_simp; try rfl) rfl ⟨ByteArray.empty, 0, 0, 0, (by rw [HF.out]), fun h => (by rw [HF.out] at h; cases h), by (repeat' (first | (with_reducible exact Below.refl _ _) | (with_reducible assumption) | (with_reducible refine below_drewN ?_ _) | (with_reducible refine Below.drew ?_) | (with_reducible refine Below.alloc ?_ ?_ _) | (with_reducible refine Below.setCell ?_ ?_ _) | (with_reducible refine via (by with_reducible assumption) ?_ ?_) | go_size))⟩
  cases oc
  · have HF := Lib.hid (show headWs [x0, x1, x2, x3] = false by rw [HW.out]; simp)
    go_wp2_with fail
    refine bodyPost_ret (v := .tuple #[.agg #[.string ByteArray.empty, .int .i64 0, .int .i64 0, .slice none 0 0], .int .i64 0, .bool false]) (by simp only [results, Tryd.results78]; go_simp; try rfl) rfl ⟨ByteArray.empty, 0, 0, 0, (by rw [HF.out]), fun h => (by rw [HF.out] at h; cases h), by (repeat' (first | (with_reducible exact Below.refl _ _) | (with_reducible assumption) | (with_reducible refine below_drewN ?_ _) | (with_reducible refine Below.drew ?_) | (with_reducible refine Below.alloc ?_ ?_ _) | (with_reducible refine Below.setCell ?_ ?_ _) | (with_reducible refine via (by with_reducible assumption) ?_ ?_) | go_size))⟩
  cases hin : inB c 1 60
  · have HF := Lib.hid (show headWs [x0, x1, x2, x3] = false by rw [HW.out, headB_no hin]; simp)
    replace hin := Lib.hid hin
    go_wp2_with fail
    refine (retb (HIC.out _) hin.out).mono ?_
    rintro e w5 ⟨rfl, rfl⟩
    go_wp2_with fail
    refine bodyPost_ret (v := .tuple #[.agg #[.string ByteArray.empty, .int .i64 0, .int .i64 0, .slice none 0 0], .int .i64 0, .bool false]) (by simp only [results, Tryd.results78]; go_simp; try rfl) rfl ⟨ByteArray.empty, 0, 0, 0, (by rw [HF.out]), fun h => (by rw [HF.out] at h; cases h), by (repeat' (first | (with_reducible exact Below.refl _ _) | (with_reducible assumption) | (with_reducible refine below_drewN ?_ _) | (with_reducible refine Below.drew ?_) | (with_reducible refine Below.alloc ?_ ?_ _) | (with_reducible refine Below.setCell ?_ ?_ _) | (with_reducible refine via (by with_reducible assumption) ?_ ?_) | go_size))⟩
  have hcb := inB_iff.1 hin
  obtain ⟨k, rfl⟩ := Int.eq_ofNat_of_zero_le (by omega : 0 ≤ c)
  replace hin := Lib.hid hin
  have hk1 : 1 ≤ k := by omega
  have hk2 : k ≤ 60 := by omega
  go_wp2_with fail
  refine (retb (HIC.out _) hin.out).mono ?_
  rintro e w5 ⟨rfl, rfl⟩
  go_upto_region 11 with fail
  refine gen_world fun W hW => ?_
  have hbW : Below w.heap.size w W := by rw [hW.out]; (repeat' (first | (with_reducible exact Below.refl _ _) | (with_reducible assumption) | (with_reducible refine below_drewN ?_ _) | (with_reducible refine Below.drew ?_) | (with_reducible refine Below.alloc ?_ ?_ _) | (with_reducible refine Below.setCell ?_ ?_ _) | (with_reducible refine via (by with_reducible assumption) ?_ ?_) | go_size))
  have hb4W : Below w4.heap.size w4 W := by rw [hW.out]; (repeat' (first | (with_reducible exact Below.refl _ _) | (with_reducible assumption) | (with_reducible refine below_drewN ?_ _) | (with_reducible refine Below.drew ?_) | (with_reducible refine Below.alloc ?_ ?_ _) | (with_reducible refine Below.setCell ?_ ?_ _) | (with_reducible refine via (by with_reducible assumption) ?_ ?_) | go_size))
  have P12 : PgAt W w4.heap.size x0 a b none 0 0 := by rw [hW.out]; unfold PgAt; simp [go_sem]
  have P13 : PgAt W (w4.heap.size + 1) x0 a b none 0 0 := by rw [hW.out]; unfold PgAt; simp [go_sem]
  have f13 : W.frozen? ⟨w4.heap.size + 1, 3, none⟩ = false := by rw [hW.out]; simp [go_sem]
  have hzW : W.heap.size = w4.heap.size + 1 + 1 := by rw [hW.out]; simp [go_sem]
  obtain ⟨hc, hf⟩ := bcell hb4W
  rw [← hc _ _ hlt4] at z0
  rw [← hf _ _ hlt4] at fz0
  rw [← hc _ _ hlt4] at z1
  rw [← hf _ _ hlt4] at fz1
  rw [← hc _ _ hlt4] at z2
  rw [← hf _ _ hlt4] at fz2
  rw [← hc _ _ hlt4] at z3
  rw [← hf _ _ hlt4] at fz3
  clear hW hc hf e0 e1 e2 e3
  have hl0 := far (show w.heap.size < W.heap.size by omega)
  have hl1 := far (show w4.heap.size < W.heap.size by omega)
  have hl2 := far (show w4.heap.size + 1 < W.heap.size by omega)
  have n1 : ¬ w4.heap.size + 1 = w4.heap.size := by omega
  have n2 : ¬ w4.heap.size + 1 = w.heap.size := by omega
  have n3 : ¬ w.heap.size = w4.heap.size := by omega
  have c13 := P13.2.2.2
  have HP13 := Lib.hid P13
  have HP12 := Lib.hid P12
  clear P12 P13
  go_upto_region 12 with (at_make; refine wpList_make_full _ rfl _ _ 29 rfl W.heap.size 2 i0 _ 1 Tryd.underlying29 hi0 hy0 hy1 _ _ _ _ k rfl rfl rfl rfl (by rw [hy2]; omega) (by unfold maxLen; omega) (Nat.le_refl _) ?_; intro w6 hown hg6; have hb6 : Below W.heap.size W w6 := (Below.refl _ _).grown hg6 (Nat.le_refl _) (fun k hk => by cases hk); have hz6 := hb6.size; have hgl6 := (hown.lt _ rfl).2; obtain ⟨hc6, hf6⟩ := bcell hb6; clear hg6; (rw [← hc6 _ _ hl2.1] at c13); (rw [← hf6 _ _ hl2.1] at f13))
  rw [made_zero] at hown
  refine gen_world fun V6 hV6 => ?_
  have HO : V6.ownsRow W.heap.size 2 1 (.slice (some ⟨W.heap.size, 0, none⟩) k k) k ((List.replicate k (0 : Int)).map (Value.int .i64)) := by rw [hV6.out]; exact ownsRow_setCell_below hown (by simp only; omega) _
  have hbV6 : Below w.heap.size w V6 := by rw [hV6.out]; exact (hbW.trans (hb6.mono hbW.size)).setCell (by simp only; omega) _
  have P12 : PgAt V6 w4.heap.size x0 a b none 0 0 := by rw [hV6.out]; exact pgAt_set (HP12.out.below hb6 hl1.1) n1
  have hs6 : V6.heap.size = w6.heap.size := by rw [hV6.out]; simp only [World.size_setCell]
  have P13 : PgAt V6 (w4.heap.size + 1) x0 a b (some ⟨W.heap.size, 0, none⟩) k k := by
    obtain ⟨q0, q1, q2, q3⟩ := HP13.out.below hb6 hl2.1
    rw [hV6.out]
    have ne : ∀ o', 3 ≠ o' → (⟨w4.heap.size + 1, 3, none⟩ : Addr) ≠ ⟨w4.heap.size + 1, o', none⟩ := fun o' h e => h (by injection e)
    exact ⟨by rw [World.cell?_setCell_other (h := ne 0 (by decide))]; exact q0, by rw [World.cell?_setCell_other (h := ne 1 (by decide))]; exact q1, by rw [World.cell?_setCell_other (h := ne 2 (by decide))]; exact q2, by rw [World.cell?_setCell_same (h := q3), hzW]⟩
  have y0 : V6.cell? ⟨w.heap.size, 0, none⟩ = some (.string ByteArray.empty) := by rw [hV6.out, World.cell?_setCell_far _ _ _ _ (by simp only; exact n2)]; rw [hc6 _ _ hl0.1]; exact z0
  have g0 : V6.frozen? ⟨w.heap.size, 0, none⟩ = false := by rw [hV6.out, World.frozen?_setCell, hf6 _ _ hl0.1]; exact fz0
  have y1 : V6.cell? ⟨w.heap.size, 1, none⟩ = some (.int .i64 0) := by rw [hV6.out, World.cell?_setCell_far _ _ _ _ (by simp only; exact n2)]; rw [hc6 _ _ hl0.1]; exact z1
  have g1 : V6.frozen? ⟨w.heap.size, 1, none⟩ = false := by rw [hV6.out, World.frozen?_setCell, hf6 _ _ hl0.1]; exact fz1
  have y2 : V6.cell? ⟨w.heap.size, 2, none⟩ = some (.int .i64 0) := by rw [hV6.out, World.cell?_setCell_far _ _ _ _ (by simp only; exact n2)]; rw [hc6 _ _ hl0.1]; exact z2
  have g2 : V6.frozen? ⟨w.heap.size, 2, none⟩ = false := by rw [hV6.out, World.frozen?_setCell, hf6 _ _ hl0.1]; exact fz2
  have y3 : V6.cell? ⟨w.heap.size, 3, none⟩ = some (.slice none 0 0) := by rw [hV6.out, World.cell?_setCell_far _ _ _ _ (by simp only; exact n2)]; rw [hc6 _ _ hl0.1]; exact z3
  have g3 : V6.frozen? ⟨w.heap.size, 3, none⟩ = false := by rw [hV6.out, World.frozen?_setCell, hf6 _ _ hl0.1]; exact fz3
  have HOK := Lib.hid (fun w' (h : Below V6.heap.size V6 w') => l18Ok_c (w4.heap.size + 1) x0 a b (some ⟨W.heap.size, 0, none⟩) k k (List.replicate k 0) w'.heap.size w' (by unfold maxLen; omega) List.length_replicate (by omega) (rd_own (own_call HO h)) (P13.below h (by omega)))
  rw [pageB_zero] at HOK
  obtain ⟨c0, c1, c2, c3⟩ := P12
  have hlv0 := far (show w.heap.size < V6.heap.size by omega)
  have hlv1 := far (show w4.heap.size < V6.heap.size by omega)
  clear hV6 HO P13 HP13 HP12 hown hc6 hf6 c13 f13 z0 z1 z2 z3 fz0 fz1 fz2 fz3
  generalize headB x0 a b (k : Int) = hd at *
  go_region_with (go_at_call 51; refine (HOK.out _ (by (repeat' (first | (with_reducible exact Below.refl _ _) | (with_reducible assumption) | (with_reducible refine below_drewN ?_ _) | (with_reducible refine Below.drew ?_) | (with_reducible refine Below.alloc ?_ ?_ _) | (with_reducible refine Below.setCell ?_ ?_ _) | (with_reducible refine via (by with_reducible assumption) ?_ ?_) | go_size)))).mono ?_; rintro e w7 ⟨rfl, mm, rfl⟩)
  all_goals
    go_wp2_with fail
    refine bodyPost_ret (v := .tuple #[.agg #[.string x0, .int .i64 a, .int .i64 b, .slice none 0 0], .int .i64 (k : Int), .bool hd]) (by simp only [results, Tryd.results78]; go_simp) rfl ⟨x0, a, b, (k : Int), by rw [HW.out]; simp, fun _ => HVs.out, by (repeat' (first | (with_reducible exact Below.refl _ _) | (with_reducible assumption) | (with_reducible refine below_drewN ?_ _) | (with_reducible refine Below.drew ?_) | (with_reducible refine Below.alloc ?_ ?_ _) | (with_reducible refine Below.setCell ?_ ?_ _) | (with_reducible refine via (by with_reducible assumption) ?_ ?_) | go_size))⟩

end Go.Proofs.YtaebofpgdonnbaaDoor
