/- Contracts: the most machines; both sides. -/
import Derived.Test.YtnifpmfmhilhlaaPieces8
import Derived.Test.YtnifpmfmhilhlaaPieceMath4
set_option linter.unusedVariables false
set_option linter.unusedSimpArgs false
namespace Go.Proofs.Ytnifpmfmhilhlaa
open Go.RowKit

/-- list[1:]: where it lies -/
theorem tail1_at (b1 off n c : Nat) (hn : 1 ≤ n) (hcap : n ≤ c) (hm : n ≤ 1048576) : ∃ off2 : Nat, (∀ W : World, Sem.run Try.prog (Instr.slice 25 (.slice (some ⟨b1, off, none⟩) n c) (some (.int .i64 1)) none none) W = .ok (.slice (some ⟨b1, off2, none⟩) (n - 1) (c - 1)) W) ∧
    ∀ i, i + 1 < n → off2 + i * 4 = off + (i + 1) * 4 := by
  by_cases h : c = 1
  · refine ⟨off, fun W => ?_, fun i hi => by omega⟩
    have h1 : n = 1 := by omega
    subst h1
    simp [go_sem, h]
  · refine ⟨off + 4, fun W => ?_, fun i hi => by omega⟩
    have e1 : (1 : Int) ≤ (n : Int) := by omega
    have e2 : 1 ≤ n := hn
    have e3 : ¬ c = 1 := h
    simp [go_sem, e1, e2, e3]

theorem miss_nonneg {l : List PieceD} {s : List Int} {m : Int} (hv : validS l = true) (hs : stockB s = true) (hsl : s.length = l.length) (h0 : 0 ≤ m) (h1 : m ≤ 1000000) {n i : Nat} (hi : i < n) (hn : n = l.length) : 0 ≤ (missL l s m n).getD i 0 := by
  rw [missL_get l s m n i hi]
  exact (need_bd hv hs hsl h0 h1 i (by omega)).2.2.1

set_option maxHeartbeats 4000000 in
theorem l21Makes_c (A : Option Addr) (n c : Nat) (l : List PieceD) (A2 : Option Addr) (c2 : Nat) (s : List Int) (m : Int) (w : World) (hn : l.length = n) (hm : n ≤ 1048576) (hr : Rd w w.heap.size 4 pcell A l) (hn2 : s.length = n) (hr2 : Rd w w.heap.size 1 icell A2 s) (hv : validS l = true) (hs : stockB s = true) (h0 : 0 ≤ m) (h1 : m ≤ 1000000) :
    Calls Try.prog 58 #[.slice A n c, .slice A2 n c2, .int .i64 m] w fun e w' => e = .returned (.bool (enB l s m n n)) ∧ Below w.heap.size w w' := by
  obtain ⟨ib, hib, hzb0, hzb1, hzb2⟩ := info_parts info_bool
  have HN := Lib.hid hn; clear hn
  have HN2 := Lib.hid hn2; clear hn2
  have h40 := (valid_all hv).2.1
  have hn1 := (valid_all hv).1
  rw [HN.out] at h40 hn1
  have HV := Lib.hid hv; clear hv
  have HST := Lib.hid hs; clear hs
  have HNN := Lib.hid (show ∀ i, i < n → 0 ≤ (missL l s m n).getD i 0 from fun i hi => miss_nonneg HV.out HST.out (by rw [HN.out, HN2.out]) h0 h1 hi HN.out.symm)
  go_enter Try.func58, Try.ntmps58
  go_wp2_with fail
  refine (l21Missing_c A n c l A2 c2 s m w HN.out hm hr HN2.out hr2 HV.out HST.out h0 h1).mono ?_
  rintro e w1 ⟨v, rfl, hx, hb1⟩
  have hb1s := hb1.size
  have hl := missL_len l s m n
  have HX := Lib.hid hx; clear hx
  obtain ⟨vA, vc, rfl, _⟩ := own_form HX.out
  rw [hl] at HX ⊢
  have HL := Lib.hid hl; clear hl
  have hr1 := hr.below hb1
  obtain ⟨b1, off, rfl, hbl, hc⟩ := hr1.piece (by rw [HN.out]; omega)
  have HC := Lib.hid hc; clear hc
  go_wp2_with (at_make; refine wpList_make_full _ rfl _ _ 60 rfl w1.heap.size 4 ib _ 1 Try.underlying60 hib hzb0 hzb1 _ _ _ _ n rfl rfl rfl rfl (by rw [hzb2]; omega) (by unfold maxLen; omega) (Nat.le_refl _) ?_; intro w2 hown hg)
  rw [fl_made n (.bool false) rfl, parV_start l] at hown
  have hb2 : Below w1.heap.size w1 w2 := (Below.refl _ _).grown hg (Nat.le_refl _) (fun k hk => by cases hk)
  have HOW := Lib.hid hown; clear hown hg
  go_loopw [9] (fun i wr => ∃ (k : Nat), 1 ≤ k ∧ k ≤ n ∧ i = .int .i64 k ∧ Below w1.heap.size w1 wr ∧ wr.ownsRow w1.heap.size 4 1 (.slice (some ⟨w1.heap.size, 0, none⟩) n n) n (fl n (parV l k))) (fun i _ => n - (intOf i).toNat)
  case atStart => exact ⟨1, Nat.le_refl _, by omega, rfl, hb2, HOW.out⟩
  case round =>
    clear hb2
    obtain ⟨k, hk1, hk, rfl, hb, hB⟩ := hrel
    have HB := Lib.hid hB; clear hB
    have hbs := hb.size
    by_cases hlt : k < n
    · obtain ⟨d, hd⟩ := get_ex l k (by rw [HN.out]; omega)
      have g1 := (HC.out k d hd).2.1
      rw [← hb.cell (p := ⟨b1, off + k * 4 + 1, none⟩) (by exact Nat.lt_of_lt_of_le hbl hb1s)] at g1
      obtain ⟨p, hp, hpm⟩ := parent_of HV.out (by rw [HN.out]; exact hlt) (show 0 < k by omega)
      have st := HB.out.stored p (.bool true)
      rw [parV_set (show 0 < k by omega) hp] at st
      have ST := Lib.hid st.1; clear st
      rw [getP_eq hd] at hp
      rw [hp] at g1
      clear hp hd d
      have p3 : (0 : Int) ≤ (k : Int) := by omega
      have p4 : (k : Int) < (n : Int) := by omega
      have p5 : (0 : Int) ≤ (p : Int) := by omega
      have p6 : (p : Int) < (n : Int) := by omega
      have c2' : wr.cell? ⟨w1.heap.size, p, none⟩ = some (parV l k p) := by rw [HB.out.cellAt p (by omega), fl_get (by omega)]
      have f2 : wr.frozen? ⟨w1.heap.size, p, none⟩ = false := HB.out.frozenAt p
      have hb3 : Below w1.heap.size w1 (wr.setCell ⟨w1.heap.size, p, none⟩ (.bool true)) := by (repeat' (first | (with_reducible exact Below.refl _ _) | (with_reducible assumption) | (with_reducible refine below_drewN ?_ _) | (with_reducible refine Below.drew ?_) | (with_reducible refine Below.alloc ?_ ?_ _) | (with_reducible refine Below.setCell ?_ ?_ _) | (with_reducible refine via (by with_reducible assumption) ?_ ?_) | go_size))
      go_wp2_with fail
      (first | (refine ⟨?_, ?_⟩; rotate_left; (simp [intOf]; omega); (repeat apply Exists.intro); refine ⟨?_, rfl⟩; exact ⟨k + 1, by omega, by omega, by go_num, hb3, ST.out⟩) | exact ⟨⟨k + 1, by omega, by omega, by go_num, hb3, ST.out⟩, by simp [intOf]; omega⟩)
    · have hkn : k = n := by omega
      subst hkn
      have hxw := own_call HX.out (hb)
      have HXW := Lib.hid hxw; clear hxw
      go_wp2_with fail
      obtain ⟨wo, rfl⟩ : ∃ w' : World, w' = wr := ⟨_, rfl⟩
      go_loop [10] (fun i => ∃ (j : Nat), j ≤ k ∧ i = .int .i64 j ∧ enB l s m k j = true) (fun i => k - (intOf i).toNat)
      case atStart => exact ⟨0, Nat.zero_le _, rfl, rfl⟩
      case round =>
        obtain ⟨j, hj, rfl, ha⟩ := hrel
        have HA := Lib.hid ha; clear ha
        by_cases hjt : j < k
        · obtain ⟨y, hy⟩ := get_ex (missL l s m k) j (by rw [HL.out]; exact hjt)
          have hrdd := rd_own HXW.out
          obtain ⟨g, go, rfl, hgl, hgc⟩ := hrdd.ints' (by rw [HL.out]; omega)
          have g5 := hgc j y hy
          have hnn := HNN.out j hjt
          have HSU := Lib.hid (enB_succ l s m k j)
          have HNO := Lib.hid (show (parU l k j || (missL l s m k).getD j 0 == 0) = false → enB l s m k k = false from fun h => enB_no hjt h)
          rw [getD_eq hy] at hnn HSU HNO
          clear hy hgc hrdd
          have c2' : wo.cell? ⟨w1.heap.size, j, none⟩ = some (.bool (parU l k j)) := by rw [HB.out.cellAt j (by omega), fl_get hjt]; rfl
          have p3 : (0 : Int) ≤ (j : Int) := by omega
          have p4 : (j : Int) < (k : Int) := by omega
          cases h2 : parU l k j
          · by_cases h3 : y = 0
            · have HS := Lib.hid (show enB l s m k (j + 1) = true by rw [HSU.out, HA.out, h2, h3]; rfl)
              have q1 : decide (0 < y) = false := by simp; omega
              have H3 := Lib.hid h3; clear h3
              go_wp2_with fail
              (first | (refine ⟨⟨(by first | trivial | rfl), ?_⟩, ?_⟩; rotate_left; (simp [intOf]; omega); (repeat apply Exists.intro); refine ⟨?_, rfl⟩; exact ⟨j + 1, by omega, by go_num, HS.out⟩) | exact ⟨⟨j + 1, by omega, by go_num, HS.out⟩, by simp [intOf]; omega⟩)
            · have HO := Lib.hid (HNO.out (by rw [h2]; simpa using h3))
              have q1 : decide (0 < y) = true := by simp; omega
              have q2 : 0 < y := by omega
              go_wp2_with fail
              go_ret
              exact ⟨ret_bool HO.out.symm, by (repeat' (first | (with_reducible exact Below.refl _ _) | (with_reducible assumption) | (with_reducible refine below_drewN ?_ _) | (with_reducible refine Below.drew ?_) | (with_reducible refine Below.alloc ?_ ?_ _) | (with_reducible refine Below.setCell ?_ ?_ _) | (with_reducible refine via (by with_reducible assumption) ?_ ?_) | go_size))⟩
          · have HS := Lib.hid (show enB l s m k (j + 1) = true by rw [HSU.out, HA.out, h2]; rfl)
            go_wp2_with fail
            (first | (refine ⟨⟨(by first | trivial | rfl), ?_⟩, ?_⟩; rotate_left; (simp [intOf]; omega); (repeat apply Exists.intro); refine ⟨?_, rfl⟩; exact ⟨j + 1, by omega, by go_num, HS.out⟩) | exact ⟨⟨j + 1, by omega, by go_num, HS.out⟩, by simp [intOf]; omega⟩)
        · have hjk : j = k := by omega
          subst hjk
          have HO := Lib.hid HA.out
          go_wp2_with fail
          go_ret
          exact ⟨ret_bool HA.out.symm, by (repeat' (first | (with_reducible exact Below.refl _ _) | (with_reducible assumption) | (with_reducible refine below_drewN ?_ _) | (with_reducible refine Below.drew ?_) | (with_reducible refine Below.alloc ?_ ?_ _) | (with_reducible refine Below.setCell ?_ ?_ _) | (with_reducible refine via (by with_reducible assumption) ?_ ?_) | go_size))⟩

set_option maxRecDepth 100000 in
set_option maxHeartbeats 4000000 in
theorem MostMachinesS_c (A : Option Addr) (n c : Nat) (l : List PieceD) (A2 : Option Addr) (n2 c2 : Nat) (s : List Int) (w : World) (hn : l.length = n) (hm : n ≤ 1048576) (hcap : n ≤ c) (hr : Rd w w.heap.size 4 pcell A l) (ok : ∀ d ∈ l, okP d) (hn2 : s.length = n2) (hm2 : n2 ≤ 1048576) (hcap2 : n2 ≤ c2) (hr2 : Rd w w.heap.size 1 icell A2 s) :
    Calls Try.prog 34 #[.slice A n c, .slice A2 n2 c2] w fun e w' => e = .returned (.tuple #[.int .i64 (mostR l s).1, .int .i64 (mostR l s).2]) ∧ Below w.heap.size w w' := by
  obtain ⟨ib, hib, hzb0, hzb1, hzb2⟩ := info_parts info_bool
  have HN := Lib.hid hn; clear hn
  have HN2 := Lib.hid hn2; clear hn2
  generalize hq : stockR l s = q
  have cb := stockR_bd l s
  rw [hq] at cb
  by_cases h0 : q = 0
  rotate_left
  · have HR := Lib.hid (show mostR l s = (0, q) by unfold mostR; rw [hq, if_neg h0])
    have HQ := Lib.hid hq; clear hq
    have q1 : (q == 0) = false := by simpa using h0
    have q2 : (q != 0) = true := by simpa using h0
    go_enter Try.func34, Try.ntmps34
    go_wp2_with fail
    refine (l21Stock_c A n c l A2 n2 c2 s w HN.out hm hr ok HN2.out hm2 hr2).mono ?_
    rw [HQ.out]
    rintro e w1 ⟨rfl, hb1⟩
    go_wp2_with fail
    go_ret2
    exact ⟨ret_two HR.out.symm, hb1⟩
  subst h0
  obtain ⟨hv, hst, hsl⟩ := stockR_zero hq
  rw [HN.out, HN2.out] at hsl
  subst hsl
  have h40 := (valid_all hv).2.1
  have hn1 := (valid_all hv).1
  rw [HN.out] at h40 hn1
  have HST := Lib.hid hst; clear hst
  have HV := Lib.hid hv; clear hv
  have HQ := Lib.hid hq; clear hq
  obtain ⟨P, hP⟩ : ∃ P : Int → Bool, P = fun m => enB l s m n2 n2 := ⟨_, rfl⟩
  have HP := Lib.hid (show ∀ m, enB l s m n2 n2 = P m by rw [hP]; intro m; rfl)
  have HR := Lib.hid (show mostR l s = (bsr P 1000001 0 1000000, 0) by unfold mostR; rw [if_pos HQ.out, HN.out, hP])
  clear hP
  obtain ⟨R, hRR⟩ : ∃ R, bsr P 1000001 0 1000000 = R := ⟨_, rfl⟩
  rw [hRR] at HR
  have HRR := Lib.hid hRR; clear hRR
  go_enter Try.func34, Try.ntmps34
  go_wp2_with fail
  refine (l21Stock_c A n2 c l A2 n2 c2 s w HN.out hm hr ok HN2.out hm2 hr2).mono ?_
  rw [HQ.out]
  rintro e w1 ⟨rfl, hb1⟩
  have hb1s := hb1.size
  have hr1 := (hr.below hb1).mono hb1s
  have hr21 := (hr2.below hb1).mono hb1s

  go_wp2_with fail
  go_loopw [7, 8] (fun x y wr => ∃ (lo hi : Int) (f : Nat), 0 ≤ lo ∧ lo ≤ hi ∧ hi ≤ 1000000 ∧ hi - lo < (f : Int) ∧ x = .int .i64 lo ∧ y = .int .i64 (hi + 1) ∧ bsr P f lo hi = R ∧ Below w1.heap.size w1 wr) (fun x y _ => (intOf y - intOf x).toNat)
  case atStart => exact ⟨0, 1000000, 1000001, by omega, by omega, by omega, by omega, rfl, rfl, HRR.out, Below.refl _ _⟩
  case round =>
    obtain ⟨lo, hi, f, l0, l1, l2, l3, rfl, rfl, ha, hb⟩ := hrel
    have HA := Lib.hid ha; clear ha
    have hbs := hb.size
    have ew : hi + 1 - lo ≤ 1000001 := by omega
    by_cases hlt : lo < hi
    · obtain ⟨g, rfl⟩ : ∃ g, f = g + 1 := ⟨f - 1, by omega⟩
      obtain ⟨mid, hmid⟩ : ∃ mid, (lo + hi + 1) / 2 = mid := ⟨_, rfl⟩
      have hmd : lo < mid ∧ mid ≤ hi := by omega
      obtain ⟨hmd1, hmd2⟩ := hmd
      have HM := Lib.hid (show (lo + (hi + 1)) / 2 = mid by rw [← hmid]; congr 1; omega)
      have HY := Lib.hid (show P mid = true → bsr P g mid hi = R from fun h => by rw [← HA.out, bsr_yes hlt (by rw [hmid]; exact h), hmid])
      have HNo := Lib.hid (show P mid = false → bsr P g lo (mid - 1) = R from fun h => by rw [← HA.out, bsr_no hlt (by rw [hmid]; exact h), hmid])
      clear hmid
      have q1 : decide (1 < hi + 1 - lo) = true := by simp; omega
      have q2 : 1 < hi + 1 - lo := by omega
      go_wp2_with fail
      rw [HM.out]
      refine (l21Makes_c _ n2 c l _ c2 s mid wr HN.out hm ((hr1.below hb).mono hbs) HN2.out ((hr21.below hb).mono hbs) HV.out HST.out (by omega) (by omega)).mono ?_
      rw [HP.out]
      rintro e w3 ⟨rfl, hb3⟩
      cases hp : P mid
      · have HS := Lib.hid (HNo.out hp)
        go_wp2_with fail
        (first | (refine ⟨?_, ?_⟩; rotate_left; (simp [intOf]; omega); (repeat apply Exists.intro); refine ⟨?_, rfl⟩; exact ⟨lo, mid - 1, g, by omega, by omega, by omega, by omega, rfl, ret_val (by omega), HS.out, by (repeat' (first | (with_reducible exact Below.refl _ _) | (with_reducible assumption) | (with_reducible refine below_drewN ?_ _) | (with_reducible refine Below.drew ?_) | (with_reducible refine Below.alloc ?_ ?_ _) | (with_reducible refine Below.setCell ?_ ?_ _) | (with_reducible refine via (by with_reducible assumption) ?_ ?_) | go_size))⟩) | exact ⟨⟨lo, mid - 1, g, by omega, by omega, by omega, by omega, rfl, ret_val (by omega), HS.out, by (repeat' (first | (with_reducible exact Below.refl _ _) | (with_reducible assumption) | (with_reducible refine below_drewN ?_ _) | (with_reducible refine Below.drew ?_) | (with_reducible refine Below.alloc ?_ ?_ _) | (with_reducible refine Below.setCell ?_ ?_ _) | (with_reducible refine via (by with_reducible assumption) ?_ ?_) | go_size))⟩, by simp [intOf]; omega⟩)
      · have HS := Lib.hid (HY.out hp)
        go_wp2_with fail
        (first | (refine ⟨?_, ?_⟩; rotate_left; (simp [intOf]; omega); (repeat apply Exists.intro); refine ⟨?_, rfl⟩; exact ⟨mid, hi, g, by omega, by omega, by omega, by omega, rfl, rfl, HS.out, by (repeat' (first | (with_reducible exact Below.refl _ _) | (with_reducible assumption) | (with_reducible refine below_drewN ?_ _) | (with_reducible refine Below.drew ?_) | (with_reducible refine Below.alloc ?_ ?_ _) | (with_reducible refine Below.setCell ?_ ?_ _) | (with_reducible refine via (by with_reducible assumption) ?_ ?_) | go_size))⟩) | exact ⟨⟨mid, hi, g, by omega, by omega, by omega, by omega, rfl, rfl, HS.out, by (repeat' (first | (with_reducible exact Below.refl _ _) | (with_reducible assumption) | (with_reducible refine below_drewN ?_ _) | (with_reducible refine Below.drew ?_) | (with_reducible refine Below.alloc ?_ ?_ _) | (with_reducible refine Below.setCell ?_ ?_ _) | (with_reducible refine via (by with_reducible assumption) ?_ ?_) | go_size))⟩, by simp [intOf]; omega⟩)
    · have q1 : decide (1 < hi + 1 - lo) = false := by simp; omega
      have q2 : ¬ 1 < hi + 1 - lo := by omega
      have HF := Lib.hid (show lo = R by rw [← HA.out, bsr_end hlt])
      go_wp2_with fail
      go_ret2
      exact ⟨ret_two (by rw [HR.out, HF.out]), by (repeat' (first | (with_reducible exact Below.refl _ _) | (with_reducible assumption) | (with_reducible refine below_drewN ?_ _) | (with_reducible refine Below.drew ?_) | (with_reducible refine Below.alloc ?_ ?_ _) | (with_reducible refine Below.setCell ?_ ?_ _) | (with_reducible refine via (by with_reducible assumption) ?_ ?_) | go_size))⟩

set_option maxRecDepth 100000 in
set_option maxHeartbeats 4000000 in
theorem MostMachinesI_c (A : Option Addr) (n c : Nat) (l : List PieceD) (A2 : Option Addr) (n2 c2 : Nat) (s : List Int) (w : World) (hn : l.length = n) (hm : n ≤ 1048576) (hcap : n ≤ c) (hr : Rd w w.heap.size 4 pcell A l) (ok : ∀ d ∈ l, okP d) (hn2 : s.length = n2) (hm2 : n2 ≤ 1048576) (hcap2 : n2 ≤ c2) (hr2 : Rd w w.heap.size 1 icell A2 s) :
    Calls Try.prog 36 #[.slice A n c, .slice A2 n2 c2] w fun e w' => e = .returned (.tuple #[.int .i64 (mostR l s).1, .int .i64 (mostR l s).2]) ∧ Below w.heap.size w w' := by
  obtain ⟨ib, hib, hzb0, hzb1, hzb2⟩ := info_parts info_bool
  have HN := Lib.hid hn; clear hn
  have HN2 := Lib.hid hn2; clear hn2
  generalize hq : stockR l s = q
  have cb := stockR_bd l s
  rw [hq] at cb
  by_cases h0 : q = 0
  rotate_left
  · have HR := Lib.hid (show mostR l s = (0, q) by unfold mostR; rw [hq, if_neg h0])
    have HQ := Lib.hid hq; clear hq
    have q1 : (q == 0) = false := by simpa using h0
    have q2 : (q != 0) = true := by simpa using h0
    go_enter Try.func36, Try.ntmps36
    go_wp2_with fail
    refine (stockCode_c A n c l A2 n2 c2 s w HN.out hm hr ok HN2.out hm2 hr2).mono ?_
    rw [HQ.out]
    rintro e w1 ⟨rfl, hb1⟩
    go_wp2_with fail
    go_ret2
    exact ⟨ret_two HR.out.symm, hb1⟩
  subst h0
  obtain ⟨hv, hst, hsl⟩ := stockR_zero hq
  rw [HN.out, HN2.out] at hsl
  subst hsl
  have h40 := (valid_all hv).2.1
  have hn1 := (valid_all hv).1
  rw [HN.out] at h40 hn1
  have HST := Lib.hid hst; clear hst
  have HV := Lib.hid hv; clear hv
  have HQ := Lib.hid hq; clear hq
  obtain ⟨P, hP⟩ : ∃ P : Int → Bool, P = fun m => enB l s m n2 n2 := ⟨_, rfl⟩
  have HP := Lib.hid (show ∀ m, enB l s m n2 n2 = P m by rw [hP]; intro m; rfl)
  have HR := Lib.hid (show mostR l s = (bsr P 1000001 0 1000000, 0) by unfold mostR; rw [if_pos HQ.out, HN.out, hP])
  clear hP
  obtain ⟨R, hRR⟩ : ∃ R, bsr P 1000001 0 1000000 = R := ⟨_, rfl⟩
  rw [hRR] at HR
  have HRR := Lib.hid hRR; clear hRR
  go_enter Try.func36, Try.ntmps36
  go_wp2_with fail
  refine (stockCode_c A n2 c l A2 n2 c2 s w HN.out hm hr ok HN2.out hm2 hr2).mono ?_
  rw [HQ.out]
  rintro e w1 ⟨rfl, hb1⟩
  have hb1s := hb1.size
  have hr1 := (hr.below hb1).mono hb1s
  have hr21 := (hr2.below hb1).mono hb1s

  obtain ⟨b1, off, rfl, hbl, hc⟩ := hr1.piece (by rw [HN.out]; omega)
  have HC := Lib.hid hc; clear hc
  obtain ⟨off2, hsl, hoff⟩ := tail1_at b1 off n2 c hn1 hcap hm
  have HOFF := Lib.hid hoff; clear hoff
  go_wp2_with (at_make; refine wpList_make_full _ rfl _ _ 60 rfl w1.heap.size 4 ib _ 1 Try.underlying60 hib hzb0 hzb1 _ _ _ _ n2 rfl rfl rfl rfl (by rw [hzb2]; omega) (by unfold maxLen; omega) (Nat.le_refl _) ?_; intro w2 hown hg)
  rw [fl_made n2 (.bool false) rfl, parV_start l] at hown
  have hb2 : Below w1.heap.size w1 w2 := (Below.refl _ _).grown hg (Nat.le_refl _) (fun k hk => by cases hk)
  have HOW := Lib.hid hown; clear hown hg
  clear hsl
  go_loopw [28] (fun i wr => ∃ (k : Nat), k + 1 ≤ n2 ∧ i = .int .i64 k ∧ Below w1.heap.size w1 wr ∧ wr.ownsRow w1.heap.size 4 1 (.slice (some ⟨w1.heap.size, 0, none⟩) n2 n2) n2 (fl n2 (parV l (k + 1)))) (fun i _ => n2 - (intOf i).toNat)
  case atStart => exact ⟨0, by omega, rfl, hb2, HOW.out⟩
  case round =>
    clear hb2
    obtain ⟨k, hk, rfl, hb, hB⟩ := hrel
    have HB := Lib.hid hB; clear hB
    have hbs := hb.size
    by_cases hlt : k + 1 < n2
    · obtain ⟨d, hd⟩ := get_ex l (k + 1) (by rw [HN.out]; omega)
      obtain ⟨g0, g1, g2, g3⟩ := HC.out (k + 1) d hd
      have he := HOFF.out k hlt
      rw [← he] at g0 g1 g2 g3
      have hbl1 : b1 < w1.heap.size := hbl
      rw [← hb.cell (p := ⟨b1, off2 + k * 4, none⟩) hbl1] at g0
      rw [← hb.cell (p := ⟨b1, off2 + k * 4 + 1, none⟩) hbl1] at g1
      rw [← hb.cell (p := ⟨b1, off2 + k * 4 + 2, none⟩) hbl1] at g2
      rw [← hb.cell (p := ⟨b1, off2 + k * 4 + 3, none⟩) hbl1] at g3
      obtain ⟨p, hp, hpm⟩ := parent_of HV.out (by rw [HN.out]; exact hlt) (show 0 < k + 1 by omega)
      have st := HB.out.stored p (.bool true)
      rw [parV_set (show 0 < k + 1 by omega) hp] at st
      rw [getP_eq hd] at hp
      rw [hp] at g1
      have ST := Lib.hid st.1; clear st
      have hf1 := far (show b1 < wr.heap.size by omega)
      have hf2 := far (show w1.heap.size < wr.heap.size from (HB.out.lt w1.heap.size rfl).2)
      clear hd he
      generalize d.parent = dp at *
      subst hp
      have p3 : (0 : Int) ≤ (k : Int) := by omega
      have p4 : (k : Int) < ((n2 - 1 : Nat) : Int) := by omega
      have p4' : k < n2 - 1 := by omega
      have p5 : (0 : Int) ≤ (p : Int) := by omega
      have p6 : (p : Int) < (n2 : Int) := by omega
      have c2' : wr.cell? ⟨w1.heap.size, p, none⟩ = some (parV l (k + 1) p) := by rw [HB.out.cellAt p (by omega), fl_get (by omega)]
      have f2 : wr.frozen? ⟨w1.heap.size, p, none⟩ = false := HB.out.frozenAt p
      go_wp2_with fail
      (first | (refine ⟨?_, ?_⟩; rotate_left; (simp [intOf]; omega); (repeat apply Exists.intro); refine ⟨?_, rfl⟩; exact ⟨k + 1, by omega, by go_num, by (repeat' (first | (with_reducible exact Below.refl _ _) | (with_reducible assumption) | (with_reducible refine below_drewN ?_ _) | (with_reducible refine Below.drew ?_) | (with_reducible refine Below.alloc ?_ ?_ _) | (with_reducible refine Below.setCell ?_ ?_ _) | (with_reducible refine via (by with_reducible assumption) ?_ ?_) | go_size)), ST.out.alloc _⟩) | exact ⟨⟨k + 1, by omega, by go_num, by (repeat' (first | (with_reducible exact Below.refl _ _) | (with_reducible assumption) | (with_reducible refine below_drewN ?_ _) | (with_reducible refine Below.drew ?_) | (with_reducible refine Below.alloc ?_ ?_ _) | (with_reducible refine Below.setCell ?_ ?_ _) | (with_reducible refine via (by with_reducible assumption) ?_ ?_) | go_size)), ST.out.alloc _⟩, by simp [intOf]; omega⟩)
    · have hkn : k + 1 = n2 := by omega
      have p4 : ¬ (k : Int) < ((n2 - 1 : Nat) : Int) := by omega
      have p4' : ¬ k < n2 - 1 := by omega
      have HBN := Lib.hid (show wr.ownsRow w1.heap.size 4 1 (.slice (some ⟨w1.heap.size, 0, none⟩) n2 n2) n2 (fl n2 (parV l n2)) by have := HB.out; rwa [hkn] at this)
      have p5 : k = n2 - 1 := by omega
      clear hkn HB
      have HP5 := Lib.hid p5; clear p5
      go_wp2_with fail
      obtain ⟨wo, rfl⟩ : ∃ w' : World, w' = wr := ⟨_, rfl⟩
      have hbo : Below w.heap.size w wo := hb1.trans (hb.mono hb1s)
      have hros := hbo.size
      go_loopw [10, 11] (fun x y wr => ∃ (lo hi : Int) (f : Nat), 0 ≤ lo ∧ lo ≤ hi ∧ hi ≤ 1000000 ∧ hi - lo < (f : Int) ∧ x = .int .i64 lo ∧ y = .int .i64 hi ∧ bsr P f lo hi = R ∧ Below wo.heap.size wo wr) (fun x y _ => (intOf y - intOf x).toNat)
      case atStart => exact ⟨0, 1000000, 1000001, by omega, by omega, by omega, by omega, rfl, rfl, HRR.out, Below.refl _ _⟩
      case round =>
        obtain ⟨lo, hi, f, l0, l1, l2, l3, rfl, rfl, ha, hbi⟩ := hrel
        have HA := Lib.hid ha; clear ha
        have hbis := hbi.size
        by_cases hlt2 : lo < hi
        · obtain ⟨g, rfl⟩ : ∃ g, f = g + 1 := ⟨f - 1, by omega⟩
          obtain ⟨mid, hmid⟩ : ∃ mid, (lo + hi + 1) / 2 = mid := ⟨_, rfl⟩
          have hmd : lo < mid ∧ mid ≤ hi := by omega
          obtain ⟨hmd1, hmd2⟩ := hmd
          have HM := Lib.hid hmid
          have HY := Lib.hid (show P mid = true → bsr P g mid hi = R from fun h => by rw [← HA.out, bsr_yes hlt2 (by rw [hmid]; exact h), hmid])
          have HNo := Lib.hid (show P mid = false → bsr P g lo (mid - 1) = R from fun h => by rw [← HA.out, bsr_no hlt2 (by rw [hmid]; exact h), hmid])
          clear hmid
          have hri := hbo.trans (hbi.mono hros)
          go_upto_region 14 with fail
          rw [HM.out]
          go_wp2_with fail
          refine (missing_c (some ⟨b1, off, none⟩) n2 c l A2 c2 s mid wr HN.out hm ((hr.below hri).mono hri.size) HN2.out ((hr2.below hri).mono hri.size) HV.out HST.out (by omega) (by omega)).mono ?_
          rintro e w3 ⟨v, rfl, hx, hb3⟩
          have hl := missL_len l s mid n2
          have HX := Lib.hid hx; clear hx
          obtain ⟨vA, vc, rfl, _⟩ := own_form HX.out
          rw [hl] at HX ⊢
          have HL := Lib.hid hl; clear hl
          have HBW := Lib.hid (own_call (own_call HBN.out hbi) hb3)
          go_wp2_with fail
          obtain ⟨wp, rfl⟩ : ∃ w' : World, w' = wr := ⟨_, rfl⟩
          go_loop [13, 50] (fun q i => ∃ (j : Nat) (b : Bool), j ≤ n2 ∧ i = .int .i64 j ∧ q = .bool b ∧ b = enB l s mid n2 j) (fun _ i => n2 - (intOf i).toNat)
          case atStart => exact ⟨0, true, Nat.zero_le _, rfl, rfl, rfl⟩
          case round =>
            obtain ⟨j, b, hj, rfl, rfl, ha⟩ := hrel
            have HA2 := Lib.hid ha; clear ha
            by_cases hjt : j < n2
            · obtain ⟨y, hy⟩ := get_ex (missL l s mid n2) j (by rw [HL.out]; exact hjt)
              have hrdd := rd_own HX.out
              obtain ⟨g', go, rfl, hgl, hgc⟩ := hrdd.ints' (by rw [HL.out]; omega)
              have g5 := hgc j y hy
              have HSU := Lib.hid (enB_succ l s mid n2 j)
              rw [getD_eq hy] at HSU
              clear hy hgc hrdd
              have c2' : w3.cell? ⟨w1.heap.size, j, none⟩ = some (.bool (parU l n2 j)) := by rw [HBW.out.cellAt j (by omega), fl_get hjt]; rfl
              have p7 : (0 : Int) ≤ (j : Int) := by omega
              have p8 : (j : Int) < (n2 : Int) := by omega
              cases b
              · have HS := Lib.hid (show false = enB l s mid n2 (j + 1) by rw [HSU.out, ← HA2.out]; rfl)
                go_wp2_with fail
                (first | (refine ⟨⟨(by first | trivial | rfl), ?_⟩, ?_⟩; rotate_left; (simp [intOf]; omega); (repeat apply Exists.intro); refine ⟨?_, rfl⟩; exact ⟨j + 1, false, by omega, by go_num, rfl, HS.out⟩) | exact ⟨⟨j + 1, false, by omega, by go_num, rfl, HS.out⟩, by simp [intOf]; omega⟩)
              · cases h2 : parU l n2 j
                · by_cases h3 : y = 0
                  · have HS := Lib.hid (show true = enB l s mid n2 (j + 1) by rw [HSU.out, ← HA2.out, h2, h3]; rfl)
                    have q1 : (y == 0) = true := by simpa using h3
                    have H3 := Lib.hid h3; clear h3
                    go_wp2_with fail
                    (first | (refine ⟨⟨(by first | trivial | rfl), ?_⟩, ?_⟩; rotate_left; (simp [intOf]; omega); (repeat apply Exists.intro); refine ⟨?_, rfl⟩; exact ⟨j + 1, true, by omega, by go_num, rfl, HS.out⟩) | exact ⟨⟨j + 1, true, by omega, by go_num, rfl, HS.out⟩, by simp [intOf]; omega⟩)
                  · have HS := Lib.hid (show false = enB l s mid n2 (j + 1) by rw [HSU.out, ← HA2.out, h2]; simpa using h3)
                    have q1 : (y == 0) = false := by simpa using h3
                    go_wp2_with fail
                    (first | (refine ⟨⟨(by first | trivial | rfl), ?_⟩, ?_⟩; rotate_left; (simp [intOf]; omega); (repeat apply Exists.intro); refine ⟨?_, rfl⟩; exact ⟨j + 1, false, by omega, by go_num, rfl, HS.out⟩) | exact ⟨⟨j + 1, false, by omega, by go_num, rfl, HS.out⟩, by simp [intOf]; omega⟩)
                · have HS := Lib.hid (show true = enB l s mid n2 (j + 1) by rw [HSU.out, ← HA2.out, h2]; rfl)
                  go_wp2_with fail
                  (first | (refine ⟨⟨(by first | trivial | rfl), ?_⟩, ?_⟩; rotate_left; (simp [intOf]; omega); (repeat apply Exists.intro); refine ⟨?_, rfl⟩; exact ⟨j + 1, true, by omega, by go_num, rfl, HS.out⟩) | exact ⟨⟨j + 1, true, by omega, by go_num, rfl, HS.out⟩, by simp [intOf]; omega⟩)
            · have hjk : j = n2 := by omega
              subst hjk
              have hb4 : Below wo.heap.size wo w3 := hbi.trans (hb3.mono hbis)
              have HPM := Lib.hid (show b = P mid by rw [HA2.out, HP.out])
              cases b
              · have HS := Lib.hid (HNo.out HPM.out.symm)
                go_wp2_with fail
                (first | (refine ⟨?_, ?_⟩; rotate_left; (simp [intOf]; omega); (repeat apply Exists.intro); refine ⟨?_, rfl⟩; exact ⟨lo, mid - 1, g, by omega, by omega, by omega, by omega, rfl, rfl, HS.out, hb4⟩) | exact ⟨⟨lo, mid - 1, g, by omega, by omega, by omega, by omega, rfl, rfl, HS.out, hb4⟩, by simp [intOf]; omega⟩)
              · have HS := Lib.hid (HY.out HPM.out.symm)
                go_wp2_with fail
                (first | (refine ⟨?_, ?_⟩; rotate_left; (simp [intOf]; omega); (repeat apply Exists.intro); refine ⟨?_, rfl⟩; exact ⟨mid, hi, g, by omega, by omega, by omega, by omega, rfl, rfl, HS.out, hb4⟩) | exact ⟨⟨mid, hi, g, by omega, by omega, by omega, by omega, rfl, rfl, HS.out, hb4⟩, by simp [intOf]; omega⟩)
        · have HF := Lib.hid (show lo = R by rw [← HA.out, bsr_end hlt2])
          go_wp2_with fail
          go_ret2
          exact ⟨ret_two (by rw [HR.out, HF.out]), by (repeat' (first | (with_reducible exact Below.refl _ _) | (with_reducible assumption) | (with_reducible refine below_drewN ?_ _) | (with_reducible refine Below.drew ?_) | (with_reducible refine Below.alloc ?_ ?_ _) | (with_reducible refine Below.setCell ?_ ?_ _) | (with_reducible refine via (by with_reducible assumption) ?_ ?_) | go_size))⟩

end Go.Proofs.Ytnifpmfmhilhlaa
