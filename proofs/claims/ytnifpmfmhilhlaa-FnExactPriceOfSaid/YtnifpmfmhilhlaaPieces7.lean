/- Contracts: what lies under a piece; both sides. -/
import Derived.Test.YtnifpmfmhilhlaaPieces6
import Derived.Laws.OwnMore
set_option linter.unusedVariables false
set_option linter.unusedSimpArgs false
namespace Go.Proofs.Ytnifpmfmhilhlaa
open Go.RowKit

/-- the marks when index m has been reached -/
def upto (l : List PieceD) (k m : Nat) (j : Nat) : Value := .bool (decide (j < m) && uB l k j)
theorem upto_start (l : List PieceD) (n k : Nat) : (fl n (fun _ => Value.bool false)).set k (.bool true) = fl n (upto l k (k + 1)) := by
  apply fl_set_eq
  intro j hj
  unfold upto
  by_cases h : j = k
  · subst h; rw [if_pos rfl, uB_self]; simp
  · rw [if_neg h]
    by_cases h2 : j < k
    · rw [uB_low l h2]; simp
    · rw [decide_eq_false (by omega)]; rfl
theorem upto_yes {l : List PieceD} {n k m : Nat} (hu : uB l k m = true) : (fl n (upto l k m)).set m (.bool true) = fl n (upto l k (m + 1)) := by
  apply fl_set_eq
  intro j hj
  unfold upto
  by_cases h : j = m
  · subst h; rw [if_pos rfl, hu]; simp
  · rw [if_neg h]
    by_cases h2 : j < m
    · rw [decide_eq_true h2, decide_eq_true (by omega)]
    · rw [decide_eq_false h2, decide_eq_false (by omega)]
theorem upto_any {l : List PieceD} {n k m : Nat} : (fl n (upto l k m)).set m (.bool (uB l k m)) = fl n (upto l k (m + 1)) := by
  apply fl_set_eq
  intro j hj
  unfold upto
  by_cases h : j = m
  · subst h; rw [if_pos rfl]; simp
  · rw [if_neg h]
    by_cases h2 : j < m
    · rw [decide_eq_true h2, decide_eq_true (by omega)]
    · rw [decide_eq_false h2, decide_eq_false (by omega)]
theorem upto_no {l : List PieceD} {n k m : Nat} (hu : uB l k m = false) : fl n (upto l k m) = fl n (upto l k (m + 1)) := by
  apply fl_congr
  intro j hj
  unfold upto
  by_cases h : j = m
  · subst h; rw [hu]; simp
  · by_cases h2 : j < m
    · rw [decide_eq_true h2, decide_eq_true (by omega)]
    · rw [decide_eq_false h2, decide_eq_false (by omega)]
theorem upto_get {l : List PieceD} {n k m p : Nat} (hp : p < m) (hm : m ≤ n) : (fl n (upto l k m))[p]? = some (.bool (uB l k p)) := by
  rw [fl_get (by omega)]
  unfold upto
  rw [decide_eq_true hp]; rfl

set_option maxHeartbeats 2000000 in
theorem under_c (A : Option Addr) (n c : Nat) (l : List PieceD) (k : Nat) (w : World) (hn : l.length = n) (hm : n ≤ 1048576) (hr : Rd w w.heap.size 4 pcell A l) (hv : validS l = true) (hk : k < n) :
    Calls Try.prog 56 #[.slice A n c, .int .i64 (k : Int)] w fun e w' => ∃ v, e = .returned v ∧ w'.ownsRow w.heap.size 2 1 v (undL l k n).length ((undL l k n).map (Value.int .i64)) ∧ Below w.heap.size w w' := by
  obtain ⟨i0, hi0, hz0, hz1, hz2⟩ := info_parts info_i64
  obtain ⟨ib, hib, hzb0, hzb1, hzb2⟩ := info_parts info_bool
  have HN := Lib.hid hn; clear hn
  obtain ⟨_, h40, hS, _⟩ := valid_all hv
  rw [HN.out] at hS h40
  have HS := Lib.hid hS; clear hS
  have HV := Lib.hid hv; clear hv
  obtain ⟨b1, off, rfl, hbl, hc⟩ := hr.piece (by rw [HN.out]; omega)
  have HC := Lib.hid hc; clear hc
  have p1 : (0 : Int) ≤ (k : Int) := by omega
  have p2 : (k : Int) < (n : Int) := by omega
  go_enter Try.func56, Try.ntmps56
  go_upto_region 2 with (at_make; refine wpList_make_full _ rfl _ _ 60 rfl w.heap.size 4 ib _ 1 Try.underlying60 hib hzb0 hzb1 _ _ _ _ n rfl rfl rfl rfl (by rw [hzb2]; omega) (by unfold maxLen; omega) (Nat.le_refl _) ?_; intro w1 hown hg)
  rw [fl_made n (.bool false) rfl] at hown
  have hb1 : Below w.heap.size w w1 := (Below.refl _ _).grown hg (Nat.le_refl _) (fun k hk => by cases hk)
  have hlt1 : w.heap.size < w1.heap.size := (hown.lt w.heap.size rfl).2
  have hx0 : (w1.alloc (.cells #[] 2)).ownsRow w1.heap.size 2 1 (.slice (some ⟨w1.heap.size, 0, none⟩) 0 0) 0 [] := World.ownsRow_made w1 #[] 0 (Nat.le_refl _) (by simp [maxLen]) (by simp)
  have hbr0 := hown.alloc (.cells #[] 2)
  have HB0 := Lib.hid hbr0
  have c0 : (w1.alloc (.cells #[] 2)).cell? ⟨w.heap.size, k, none⟩ = some (.bool false) := by rw [hbr0.cellAt k (by omega), fl_get hk]
  have f0 : (w1.alloc (.cells #[] 2)).frozen? ⟨w.heap.size, k, none⟩ = false := hbr0.frozenAt k
  have HX0 := Lib.hid hx0; clear hx0
  clear hown hg hbr0
  refine gen_world fun W hW => ?_
  rw [← hW.out] at c0 f0 HB0 HX0
  have hbW : Below w.heap.size w W := by rw [hW.out]; (repeat' (first | (with_reducible exact Below.refl _ _) | (with_reducible assumption) | (with_reducible refine below_drewN ?_ _) | (with_reducible refine Below.drew ?_) | (with_reducible refine Below.alloc ?_ ?_ _) | (with_reducible refine Below.setCell ?_ ?_ _) | (with_reducible refine via (by with_reducible assumption) ?_ ?_) | go_size))
  have hb1W : Below w1.heap.size w1 W := by rw [hW.out]; (repeat' (first | (with_reducible exact Below.refl _ _) | (with_reducible assumption) | (with_reducible refine below_drewN ?_ _) | (with_reducible refine Below.drew ?_) | (with_reducible refine Below.alloc ?_ ?_ _) | (with_reducible refine Below.setCell ?_ ?_ _) | (with_reducible refine via (by with_reducible assumption) ?_ ?_) | go_size))
  have hsW := hb1W.size
  clear hW
  go_wp2_with fail
  have st := HB0.out.stored k (.bool true)
  rw [upto_start l n k] at st
  obtain ⟨st1, st2⟩ := st
  have hx1 := own_ne HX0.out st2 (fun q hq hc => by have := (HX0.out.lt q hq).1; injection hc with hc; omega)
  have hb2 : Below w.heap.size w (W.setCell ⟨w.heap.size, k, none⟩ (.bool true)) := by (repeat' (first | (with_reducible exact Below.refl _ _) | (with_reducible assumption) | (with_reducible refine below_drewN ?_ _) | (with_reducible refine Below.drew ?_) | (with_reducible refine Below.alloc ?_ ?_ _) | (with_reducible refine Below.setCell ?_ ?_ _) | (with_reducible refine via (by with_reducible assumption) ?_ ?_) | go_size))
  have hs2 : w1.heap.size ≤ (W.setCell ⟨w.heap.size, k, none⟩ (.bool true)).heap.size := by simp only [World.size_setCell]; exact hsW
  clear c0 f0 st2 hbW hb1W hsW HB0 HX0
  go_loopw [6, 7] (fun o i wr => ∃ (m : Nat), k + 1 ≤ m ∧ m ≤ n ∧ i = .int .i64 m ∧ Below w.heap.size w wr ∧ w1.heap.size ≤ wr.heap.size ∧ wr.ownsRow w.heap.size 4 1 (.slice (some ⟨w.heap.size, 0, none⟩) n n) n (fl n (upto l k m)) ∧ wr.ownsRow w1.heap.size 2 1 o (undL l k m).length ((undL l k m).map (Value.int .i64))) (fun _ i _ => n - (intOf i).toNat)
  case atStart => exact ⟨k + 1, Nat.le_refl _, by omega, by go_num, hb2, hs2, st1, by rw [undL_start l k (k + 1) (by omega)]; exact hx1⟩
  case round =>
    clear hb1 hb2 hs2 st1 hx1
    obtain ⟨m, hm1, hm2, rfl, hb, hs, hB, hX⟩ := hrel
    have HX := Lib.hid hX; clear hX
    have HB := Lib.hid hB; clear hB
    by_cases hlt : m < n
    · obtain ⟨d, hd⟩ := get_ex l m (by rw [HN.out]; omega)
      have g1 := (HC.out m d hd).2.1
      rw [← hb.cell (p := ⟨b1, off + m * 4 + 1, none⟩) hbl] at g1
      obtain ⟨p, hp, hpm⟩ := parent_of HV.out (by rw [HN.out]; exact hlt) (show 0 < m by omega)
      have huu := uB_up (k := k) HS.out hlt (show k < m by omega) (by rw [hp]; omega)
      rw [hp, Int.toNat_natCast] at huu
      rw [getP_eq hd] at hp
      have HUU := Lib.hid huu; clear huu hd
      rw [hp] at g1
      clear hp d
      have c1 : wr.cell? ⟨w.heap.size, p, none⟩ = some (.bool (uB l k p)) := by rw [HB.out.cellAt p (by omega)]; exact upto_get hpm hm2
      have p3 : (0 : Int) ≤ (m : Int) := by omega
      have p4 : (m : Int) < (n : Int) := by omega
      have p5 : (0 : Int) ≤ (p : Int) := by omega
      have p6 : (p : Int) < (n : Int) := by omega
      cases hu : uB l k p
      · have HU := Lib.hid (show uB l k m = false by rw [HUU.out]; exact hu)
        have hx2 := undL_no HU.out
        have hb2 := upto_no (n := n) HU.out
        have HX2 := Lib.hid hx2; clear hx2
        have HB2 := Lib.hid hb2; clear hb2
        go_wp2_with fail
        (first | (refine ⟨?_, ?_⟩; rotate_left; (simp [intOf]; omega); (repeat apply Exists.intro); refine ⟨?_, rfl⟩; exact ⟨m + 1, by omega, by omega, by go_num, hb, hs, by rw [← HB2.out]; exact HB.out, by rw [HX2.out]; exact HX.out⟩) | exact ⟨⟨m + 1, by omega, by omega, by go_num, hb, hs, by rw [← HB2.out]; exact HB.out, by rw [HX2.out]; exact HX.out⟩, by simp [intOf]; omega⟩)
      · have HU := Lib.hid (show uB l k m = true by rw [HUU.out]; exact hu)
        have HX2 := Lib.hid (undL_yes (show k < m by omega) HU.out)
        have HB2 := Lib.hid (upto_yes (n := n) HU.out)
        have c2 : wr.cell? ⟨w.heap.size, m, none⟩ = some (upto l k m m) := by rw [HB.out.cellAt m (by omega), fl_get hlt]
        have f2 : wr.frozen? ⟨w.heap.size, m, none⟩ = false := HB.out.frozenAt m
        have st := HB.out.stored m (.bool true)
        rw [HB2.out] at st
        obtain ⟨st1, st2⟩ := st
        have hx1 := own_ne HX.out st2 (fun q hq hc => by have := (HX.out.lt q hq).1; injection hc with hc; omega)
        have hb1 : Below w.heap.size w (wr.setCell ⟨w.heap.size, m, none⟩ (.bool true)) := by (repeat' (first | (with_reducible exact Below.refl _ _) | (with_reducible assumption) | (with_reducible refine below_drewN ?_ _) | (with_reducible refine Below.drew ?_) | (with_reducible refine Below.alloc ?_ ?_ _) | (with_reducible refine Below.setCell ?_ ?_ _) | (with_reducible refine via (by with_reducible assumption) ?_ ?_) | go_size))
        have ST1 := Lib.hid st1; clear st1
        have HX1 := Lib.hid hx1; clear hx1 st2
        have ul := undL_len l k m
        obtain ⟨q, hq⟩ : ∃ q, q = (undL l k m).length := ⟨_, rfl⟩
        rw [← hq] at HX1 ul
        have HQ := Lib.hid hq; clear hq
        go_upto_region 8 with fail
        refine gen_world fun V hV => ?_
        rw [← hV.out] at ST1 HX1 hb1
        have hsV : w1.heap.size ≤ V.heap.size := by rw [hV.out]; simp only [World.size_setCell]; exact hs
        clear hV c1 c2 f2 g1
        go_wp2_with (at_builtin; refine app_list (W := V) (z := .int .i64 0) (.tmp 34) (.tmp 36) rfl rfl Try.underlying35 hi0 hz0 hz1 hz2 rfl (by decide) (by decide) rfl (HX1.out.alloc _) rfl rfl (news1 (z := .int .i64 (m : Int)) (by simp [go_sem])) (by simp [Value.oneCell']) (by omega) (by (repeat' (first | (with_reducible exact Below.refl _ _) | (with_reducible assumption) | (with_reducible refine below_drewN ?_ _) | (with_reducible refine Below.drew ?_) | (with_reducible refine Below.alloc ?_ ?_ _) | (with_reducible refine Below.setCell ?_ ?_ _) | (with_reducible refine via (by with_reducible assumption) ?_ ?_) | go_size))) hsV ?_; intro v2 w2 hown2 hg2 hblk2 hb2)
        have hB3 := own_ne (ST1.out.alloc _) hg2 (fun q hq hc => by have h1 := (HX1.out.lt q hc.symm).1; simp only [Value.ownBlock, Option.some.injEq] at hq; omega)
        have hb3 : Below w.heap.size w w2 := hb1.trans (hb2.mono (by omega))
        have HO := Lib.hid hown2; clear hown2 hg2 hblk2
        have HB3 := Lib.hid hB3; clear hB3
        have hs3 := hb2.size
        (first | (refine ⟨?_, ?_⟩; rotate_left; (simp [intOf]; omega); (repeat apply Exists.intro); refine ⟨?_, rfl⟩; exact ⟨m + 1, by omega, by omega, by go_num, hb3, by omega, HB3.out, by rw [HX2.out, List.length_append, ← HQ.out, List.map_append]; simpa using HO.out⟩) | exact ⟨⟨m + 1, by omega, by omega, by go_num, hb3, by omega, HB3.out, by rw [HX2.out, List.length_append, ← HQ.out, List.map_append]; simpa using HO.out⟩, by simp [intOf]; omega⟩)
    · have hmn : m = n := by omega
      subst hmn
      have hf := own_form HX.out
      obtain ⟨vA, vc, rfl, _⟩ := hf
      go_wp2_with fail
      refine bodyPost_ret (v := .slice vA (undL l k m).length vc) (by simp only [results, Try.results56]; go_simp) rfl ⟨_, rfl, Go.Joins.ownsRow_le HX.out (by omega), hb⟩

set_option maxHeartbeats 2000000 in
theorem l21Under_c (A : Option Addr) (n c : Nat) (l : List PieceD) (k : Nat) (w : World) (hn : l.length = n) (hm : n ≤ 1048576) (hr : Rd w w.heap.size 4 pcell A l) (hv : validS l = true) (hk : k < n) :
    Calls Try.prog 55 #[.slice A n c, .int .i64 (k : Int)] w fun e w' => e = .returned (.slice (some ⟨w.heap.size, 0, none⟩) n n) ∧ w'.ownsRow w.heap.size 4 1 (.slice (some ⟨w.heap.size, 0, none⟩) n n) n (fl n (upto l k n)) ∧ Below w.heap.size w w' := by
  obtain ⟨ib, hib, hzb0, hzb1, hzb2⟩ := info_parts info_bool
  have HN := Lib.hid hn; clear hn
  obtain ⟨_, h40, hS, _⟩ := valid_all hv
  rw [HN.out] at hS h40
  have HS := Lib.hid hS; clear hS
  have HV := Lib.hid hv; clear hv
  obtain ⟨b1, off, rfl, hbl, hc⟩ := hr.piece (by rw [HN.out]; omega)
  have HC := Lib.hid hc; clear hc
  have p1 : (0 : Int) ≤ (k : Int) := by omega
  have p2 : (k : Int) < (n : Int) := by omega
  go_enter Try.func55, Try.ntmps55
  go_upto_region 2 with (at_make; refine wpList_make_full _ rfl _ _ 60 rfl w.heap.size 4 ib _ 1 Try.underlying60 hib hzb0 hzb1 _ _ _ _ n rfl rfl rfl rfl (by rw [hzb2]; omega) (by unfold maxLen; omega) (Nat.le_refl _) ?_; intro w1 hown hg)
  rw [fl_made n (.bool false) rfl] at hown
  have hb1 : Below w.heap.size w w1 := (Below.refl _ _).grown hg (Nat.le_refl _) (fun k hk => by cases hk)
  have c0 : w1.cell? ⟨w.heap.size, k, none⟩ = some (.bool false) := by rw [hown.cellAt k (by omega), fl_get hk]
  have f0 : w1.frozen? ⟨w.heap.size, k, none⟩ = false := hown.frozenAt k
  have st := (hown.stored k (.bool true)).1
  rw [upto_start l n k] at st
  have ST := Lib.hid st; clear st hown hg
  go_wp2_with fail
  have hb2 : Below w.heap.size w (w1.setCell ⟨w.heap.size, k, none⟩ (.bool true)) := by (repeat' (first | (with_reducible exact Below.refl _ _) | (with_reducible assumption) | (with_reducible refine below_drewN ?_ _) | (with_reducible refine Below.drew ?_) | (with_reducible refine Below.alloc ?_ ?_ _) | (with_reducible refine Below.setCell ?_ ?_ _) | (with_reducible refine via (by with_reducible assumption) ?_ ?_) | go_size))
  clear c0 f0
  go_loopw [6] (fun i wr => ∃ (m : Nat), k + 1 ≤ m ∧ m ≤ n ∧ i = .int .i64 m ∧ Below w.heap.size w wr ∧ wr.ownsRow w.heap.size 4 1 (.slice (some ⟨w.heap.size, 0, none⟩) n n) n (fl n (upto l k m))) (fun i _ => n - (intOf i).toNat)
  case atStart => exact ⟨k + 1, Nat.le_refl _, by omega, by go_num, hb2, ST.out⟩
  case round =>
    clear hb1 hb2
    obtain ⟨m, hm1, hm2, rfl, hb, hB⟩ := hrel
    have HB := Lib.hid hB; clear hB
    by_cases hlt : m < n
    · obtain ⟨d, hd⟩ := get_ex l m (by rw [HN.out]; omega)
      have g1 := (HC.out m d hd).2.1
      rw [← hb.cell (p := ⟨b1, off + m * 4 + 1, none⟩) hbl] at g1
      obtain ⟨p, hp, hpm⟩ := parent_of HV.out (by rw [HN.out]; exact hlt) (show 0 < m by omega)
      have huu := uB_up (k := k) HS.out hlt (show k < m by omega) (by rw [hp]; omega)
      rw [hp, Int.toNat_natCast] at huu
      rw [getP_eq hd] at hp
      rw [hp] at g1
      clear hp hd d
      have c1 : wr.cell? ⟨w.heap.size, p, none⟩ = some (.bool (uB l k p)) := by rw [HB.out.cellAt p (by omega)]; exact upto_get hpm hm2
      rw [← huu] at c1
      clear huu
      have p3 : (0 : Int) ≤ (m : Int) := by omega
      have p4 : (m : Int) < (n : Int) := by omega
      have p5 : (0 : Int) ≤ (p : Int) := by omega
      have p6 : (p : Int) < (n : Int) := by omega
      have c2 : wr.cell? ⟨w.heap.size, m, none⟩ = some (upto l k m m) := by rw [HB.out.cellAt m (by omega), fl_get hlt]
      have f2 : wr.frozen? ⟨w.heap.size, m, none⟩ = false := HB.out.frozenAt m
      have st := (HB.out.stored m (.bool (uB l k m))).1
      rw [upto_any] at st
      have ST2 := Lib.hid st; clear st
      generalize uB l k m = ub at *
      go_wp2_with fail
      (first | (refine ⟨?_, ?_⟩; rotate_left; (simp [intOf]; omega); (repeat apply Exists.intro); refine ⟨?_, rfl⟩; exact ⟨m + 1, by omega, by omega, by go_num, by (repeat' (first | (with_reducible exact Below.refl _ _) | (with_reducible assumption) | (with_reducible refine below_drewN ?_ _) | (with_reducible refine Below.drew ?_) | (with_reducible refine Below.alloc ?_ ?_ _) | (with_reducible refine Below.setCell ?_ ?_ _) | (with_reducible refine via (by with_reducible assumption) ?_ ?_) | go_size)), ST2.out⟩) | exact ⟨⟨m + 1, by omega, by omega, by go_num, by (repeat' (first | (with_reducible exact Below.refl _ _) | (with_reducible assumption) | (with_reducible refine below_drewN ?_ _) | (with_reducible refine Below.drew ?_) | (with_reducible refine Below.alloc ?_ ?_ _) | (with_reducible refine Below.setCell ?_ ?_ _) | (with_reducible refine via (by with_reducible assumption) ?_ ?_) | go_size)), ST2.out⟩, by simp [intOf]; omega⟩)
    · have hmn : m = n := by omega
      subst hmn
      go_wp2_with fail
      go_ret
      exact ⟨rfl, HB.out, hb⟩

set_option maxHeartbeats 2000000 in
theorem PiecesUnderI_c (A : Option Addr) (n c : Nat) (l : List PieceD) (k : Int) (w : World) (hn : l.length = n) (hm : n ≤ 1048576) (hr : Rd w w.heap.size 4 pcell A l) (ok : ∀ d ∈ l, okP d) :
    Calls Try.prog 33 #[.slice A n c, .int .i64 k] w fun e w' => ∃ v, e = .returned (.tuple #[v, .int .i64 (underR l k).2]) ∧ w'.ownsRow w.heap.size 2 1 v (underR l k).1.length ((underR l k).1.map (Value.int .i64)) ∧ Below w.heap.size w w' := by
  obtain ⟨i0, hi0, hz0, hz1, hz2⟩ := info_parts info_i64
  have HN := Lib.hid hn; clear hn
  generalize hq : codeR l k = q
  have cb := codeR_bd l k
  rw [hq] at cb
  by_cases h0 : q = 0
  rotate_left
  · have HR := Lib.hid (show underR l k = ([], q) by unfold underR; rw [hq, if_neg h0])
    have HQ := Lib.hid hq; clear hq
    have q1 : (q == 0) = false := by simpa using h0
    have q2 : (q != 0) = true := by simpa using h0
    go_enter Try.func33, Try.ntmps33
    go_wp2_with fail
    refine (pieceCode_c A n c l k _ HN.out hm hr ok).mono ?_
    rw [HQ.out]
    rintro e w1 ⟨rfl, hb1⟩
    go_wp2_with fail
    refine bodyPost_ret (v := .tuple #[.slice none 0 0, .int .i64 q]) (by simp only [results, Try.results33]; go_simp) rfl ⟨.slice none 0 0, by rw [HR.out], no_ints (by rw [HR.out]), hb1⟩
  subst h0
  obtain ⟨hv, k0, kn⟩ := codeR_zero hq
  obtain ⟨_, h40, hS, _⟩ := valid_all hv
  rw [HN.out] at hS kn h40
  have HS := Lib.hid hS; clear hS
  have HV := Lib.hid hv; clear hv
  have HQ := Lib.hid hq; clear hq

  obtain ⟨q, rfl⟩ := Int.eq_ofNat_of_zero_le k0
  have HR := Lib.hid (show underR l (q : Int) = (undL l q n, 0) by unfold underR; rw [if_pos HQ.out, HN.out, Int.toNat_natCast])
  go_enter Try.func33, Try.ntmps33
  go_wp2_with fail
  refine (pieceCode_c A n c l _ _ HN.out hm hr ok).mono ?_
  rw [HQ.out]
  rintro e w1 ⟨rfl, hb1⟩
  have hb1s := hb1.size
  have hr1 := (hr.below hb1).mono hb1s
  go_wp2_with fail
  refine (under_c A n c l q _ HN.out hm hr1 HV.out (by omega)).mono ?_
  rintro e w2 ⟨v, rfl, hx, hb2⟩
  have HX := Lib.hid hx
  have hf := own_form hx
  obtain ⟨vA, vc, rfl, _⟩ := hf
  clear hx
  go_wp2_with fail
  refine bodyPost_ret (v := .tuple #[.slice vA (undL l q n).length vc, .int .i64 0]) (by simp only [results, Try.results33]; go_simp) rfl ⟨_, by rw [HR.out], by rw [HR.out]; exact Go.Joins.ownsRow_le HX.out hb1s, by (repeat' (first | (with_reducible exact Below.refl _ _) | (with_reducible assumption) | (with_reducible refine below_drewN ?_ _) | (with_reducible refine Below.drew ?_) | (with_reducible refine Below.alloc ?_ ?_ _) | (with_reducible refine Below.setCell ?_ ?_ _) | (with_reducible refine via (by with_reducible assumption) ?_ ?_) | go_size))⟩

set_option maxHeartbeats 2000000 in
theorem PiecesUnderS_c (A : Option Addr) (n c : Nat) (l : List PieceD) (k : Int) (w : World) (hn : l.length = n) (hm : n ≤ 1048576) (hr : Rd w w.heap.size 4 pcell A l) (ok : ∀ d ∈ l, okP d) :
    Calls Try.prog 32 #[.slice A n c, .int .i64 k] w fun e w' => ∃ v, e = .returned (.tuple #[v, .int .i64 (underR l k).2]) ∧ w'.ownsRow w.heap.size 2 1 v (underR l k).1.length ((underR l k).1.map (Value.int .i64)) ∧ Below w.heap.size w w' := by
  obtain ⟨i0, hi0, hz0, hz1, hz2⟩ := info_parts info_i64
  have HN := Lib.hid hn; clear hn
  generalize hq : codeR l k = q
  have cb := codeR_bd l k
  rw [hq] at cb
  by_cases h0 : q = 0
  rotate_left
  · have HR := Lib.hid (show underR l k = ([], q) by unfold underR; rw [hq, if_neg h0])
    have HQ := Lib.hid hq; clear hq
    have q1 : (q == 0) = false := by simpa using h0
    have q2 : (q != 0) = true := by simpa using h0
    go_enter Try.func32, Try.ntmps32
    go_wp2_with fail
    refine (l21Code_c A n c l k _ HN.out hm hr ok).mono ?_
    rw [HQ.out]
    rintro e w1 ⟨rfl, hb1⟩
    go_wp2_with fail
    refine bodyPost_ret (v := .tuple #[.slice none 0 0, .int .i64 q]) (by simp only [results, Try.results32]; go_simp) rfl ⟨.slice none 0 0, by rw [HR.out], no_ints (by rw [HR.out]), hb1⟩
  subst h0
  obtain ⟨hv, k0, kn⟩ := codeR_zero hq
  obtain ⟨_, h40, hS, _⟩ := valid_all hv
  rw [HN.out] at hS kn h40
  have HS := Lib.hid hS; clear hS
  have HV := Lib.hid hv; clear hv
  have HQ := Lib.hid hq; clear hq

  obtain ⟨k, rfl⟩ := Int.eq_ofNat_of_zero_le k0
  have HR := Lib.hid (show underR l (k : Int) = (undL l k n, 0) by unfold underR; rw [if_pos HQ.out, HN.out, Int.toNat_natCast])
  go_enter Try.func32, Try.ntmps32
  go_wp2_with fail
  refine (l21Code_c A n c l _ _ HN.out hm hr ok).mono ?_
  rw [HQ.out]
  rintro e w1 ⟨rfl, hb1⟩
  have hb1s := hb1.size
  have hr1 := (hr.below hb1).mono hb1s
  go_wp2_with fail
  refine (l21Under_c A n c l k _ HN.out hm hr1 HV.out (by omega)).mono ?_
  rintro e w2 ⟨rfl, hB2, hb2⟩
  have hlt2 : w1.heap.size < w2.heap.size := (hB2.lt w1.heap.size rfl).2
  have HB := Lib.hid hB2; clear hB2
  have hb2w : Below w.heap.size w w2 := hb1.trans (hb2.mono hb1s)
  have p1 : (0 : Int) ≤ (k : Int) := by omega
  go_wp2_with fail
  have hx0 : (w2.alloc (.cells #[] 2)).ownsRow w2.heap.size 2 1 (.slice (some ⟨w2.heap.size, 0, none⟩) 0 0) 0 [] := World.ownsRow_made w2 #[] 0 (Nat.le_refl _) (by simp [maxLen]) (by simp)
  have hB0 := HB.out.alloc (.cells #[] 2)
  go_loopw [8, 9] (fun o i wr => ∃ (m : Nat), k + 1 ≤ m ∧ m ≤ n ∧ i = .int .i64 m ∧ Below w2.heap.size w2 wr ∧ wr.ownsRow w1.heap.size 4 1 (.slice (some ⟨w1.heap.size, 0, none⟩) n n) n (fl n (upto l k n)) ∧ wr.ownsRow w2.heap.size 2 1 o (undL l k m).length ((undL l k m).map (Value.int .i64))) (fun _ i _ => n - (intOf i).toNat)
  case atStart => exact ⟨k + 1, Nat.le_refl _, by omega, by go_num, by (repeat' (first | (with_reducible exact Below.refl _ _) | (with_reducible assumption) | (with_reducible refine below_drewN ?_ _) | (with_reducible refine Below.drew ?_) | (with_reducible refine Below.alloc ?_ ?_ _) | (with_reducible refine Below.setCell ?_ ?_ _) | (with_reducible refine via (by with_reducible assumption) ?_ ?_) | go_size)), hB0, by rw [undL_start l k (k + 1) (by omega)]; exact hx0⟩
  case round =>
    clear hx0 hB0
    obtain ⟨m, hm1, hm2, rfl, hb, hB, hX⟩ := hrel
    have HX := Lib.hid hX; clear hX
    have HB := Lib.hid hB; clear hB
    have hbs := hb.size
    by_cases hlt : m < n
    · have c1 : wr.cell? ⟨w1.heap.size, m, none⟩ = some (.bool (uB l k m)) := by rw [HB.out.cellAt m (by omega)]; exact upto_get hlt (Nat.le_refl _)
      have p3 : (0 : Int) ≤ (m : Int) := by omega
      have p4 : (m : Int) < (n : Int) := by omega
      cases hu : uB l k m
      · have HX2 := Lib.hid (undL_no hu)
        go_wp2_with fail
        (first | (refine ⟨?_, ?_⟩; rotate_left; (simp [intOf]; omega); (repeat apply Exists.intro); refine ⟨?_, rfl⟩; exact ⟨m + 1, by omega, by omega, by go_num, hb, HB.out, by rw [HX2.out]; exact HX.out⟩) | exact ⟨⟨m + 1, by omega, by omega, by go_num, hb, HB.out, by rw [HX2.out]; exact HX.out⟩, by simp [intOf]; omega⟩)
      · have HX2 := Lib.hid (undL_yes (show k < m by omega) hu)
        have ul := undL_len l k m
        obtain ⟨q, hq⟩ : ∃ q, q = (undL l k m).length := ⟨_, rfl⟩
        rw [← hq] at HX ul
        have HQ2 := Lib.hid hq; clear hq
        go_wp2_with (at_builtin; refine app_list (W := w2) (z := .int .i64 0) (.tmp 32) (.tmp 34) rfl rfl Try.underlying35 hi0 hz0 hz1 hz2 rfl (by decide) (by decide) rfl (HX.out.alloc _) rfl rfl (news1 (z := .int .i64 (m : Int)) (by simp [go_sem])) (by simp [Value.oneCell']) (by omega) (by (repeat' (first | (with_reducible exact Below.refl _ _) | (with_reducible assumption) | (with_reducible refine below_drewN ?_ _) | (with_reducible refine Below.drew ?_) | (with_reducible refine Below.alloc ?_ ?_ _) | (with_reducible refine Below.setCell ?_ ?_ _) | (with_reducible refine via (by with_reducible assumption) ?_ ?_) | go_size))) (Nat.le_refl _) ?_; intro v2 w3 hown2 hg2 hblk2 hb3)
        have hB3 := own_ne (HB.out.alloc _) hg2 (fun q hq hc => by have h1 := (HX.out.lt q hc.symm).1; simp only [Value.ownBlock, Option.some.injEq] at hq; omega)
        have HO := Lib.hid hown2; clear hown2 hg2 hblk2
        have HB3 := Lib.hid hB3; clear hB3
        (first | (refine ⟨?_, ?_⟩; rotate_left; (simp [intOf]; omega); (repeat apply Exists.intro); refine ⟨?_, rfl⟩; exact ⟨m + 1, by omega, by omega, by go_num, hb3, HB3.out, by rw [HX2.out, List.length_append, ← HQ2.out, List.map_append]; simpa using HO.out⟩) | exact ⟨⟨m + 1, by omega, by omega, by go_num, hb3, HB3.out, by rw [HX2.out, List.length_append, ← HQ2.out, List.map_append]; simpa using HO.out⟩, by simp [intOf]; omega⟩)
    · have hmn : m = n := by omega
      subst hmn
      have hf := own_form HX.out
      obtain ⟨vA, vc, rfl, _⟩ := hf
      go_wp2_with fail
      refine bodyPost_ret (v := .tuple #[.slice vA (undL l k m).length vc, .int .i64 0]) (by simp only [results, Try.results32]; go_simp) rfl ⟨_, by rw [HR.out], by rw [HR.out]; exact Go.Joins.ownsRow_le HX.out (by omega), by (repeat' (first | (with_reducible exact Below.refl _ _) | (with_reducible assumption) | (with_reducible refine below_drewN ?_ _) | (with_reducible refine Below.drew ?_) | (with_reducible refine Below.alloc ?_ ?_ _) | (with_reducible refine Below.setCell ?_ ?_ _) | (with_reducible refine via (by with_reducible assumption) ?_ ?_) | go_size))⟩

end Go.Proofs.Ytnifpmfmhilhlaa
