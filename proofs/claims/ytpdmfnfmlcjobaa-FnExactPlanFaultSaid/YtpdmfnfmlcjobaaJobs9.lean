/- Contracts: the first job of a plan that begins wrongly; both sides. -/
import Derived.Test.YtpdmfnfmlcjobaaJobs8
set_option linter.unusedVariables false
set_option linter.unusedSimpArgs false
namespace Go.Proofs.Ytpdmfnfmlcjobaa
open Go.RowKit

def faultAt (l : List JobD) (s : List Int) (wk : Int) (k : Nat) : Bool := !doneB l s (getJ l k).needs (s.getD k 0) || decide (wk < busyM l s (s.getD k 0) l.length)
def faultM (l : List JobD) (s : List Int) (wk : Int) : Int := match (List.range l.length).find? (faultAt l s wk) with
  | some i => (i : Int)
  | none => -1
theorem faultM_yes {l : List JobD} {s : List Int} {wk : Int} {k : Nat} (hk : k < l.length) (h0 : ((List.range k).all fun i => !faultAt l s wk i) = true) (h1 : faultAt l s wk k = true) : faultM l s wk = (k : Int) := by
  have : (List.range l.length).find? (faultAt l s wk) = some k := by
    rw [List.find?_range_eq_some]
    exact ⟨h1, List.mem_range.2 hk, fun j hj => List.all_eq_true.1 h0 j (List.mem_range.2 hj)⟩
  unfold faultM
  rw [this]
theorem faultM_no {l : List JobD} {s : List Int} {wk : Int} (h0 : ((List.range l.length).all fun i => !faultAt l s wk i) = true) : faultM l s wk = -1 := by
  have : (List.range l.length).find? (faultAt l s wk) = none := by
    rw [List.find?_range_eq_none]
    exact fun j hj => List.all_eq_true.1 h0 j (List.mem_range.2 hj)
  unfold faultM
  rw [this]
def faultR (l : List JobD) (s : List Int) (wk : Int) : Int × Int := if validS l = true then (if (startsB l.length s && inB wk 1 30) = true then (faultM l s wk, 0) else (0, 2)) else (0, 1)
theorem sOk_of {n : Nat} {s : List Int} (h : startsB n s = true) : sOk s := fun i x hx => by have := starts_at h hx; omega
theorem needs_of {l : List JobD} (hv : validS l = true) {k : Nat} (hk : k < l.length) : ∀ (i : Nat) (x : Int), (getJ l k).needs[i]? = some x → ∃ p : Nat, x = (p : Int) ∧ p < l.length := fun i x hx => by
  obtain ⟨j, h1, h2, _⟩ := need_at hv hk hx
  exact ⟨j, h1, by omega⟩

set_option maxRecDepth 100000 in
set_option maxHeartbeats 4000000 in
theorem PlanFaultI_c (A : Option Addr) (n c : Nat) (l : List JobD) (A2 : Option Addr) (n2 c2 : Nat) (s : List Int) (wk : Int) (w : World) (hn : l.length = n) (hm : n ≤ 1048576) (hr : JRd w w.heap.size A l) (ok : ∀ d ∈ l, okJD d) (hkk : ∀ (i : Nat) (d : JobD), l[i]? = some d → d.needs.length ≤ 1048576) (hn2 : s.length = n2) (hm2 : n2 ≤ 1048576) (hr2 : Rd w w.heap.size 1 icell A2 s) :
    Calls Try.prog 34 #[.slice A n c, .slice A2 n2 c2, .int .i64 wk] w fun e w' => e = .returned (.tuple #[.int .i64 (faultR l s wk).1, .int .i64 (faultR l s wk).2]) ∧ Below w.heap.size w w' := by
  have HN := Lib.hid hn; clear hn
  have HN2 := Lib.hid hn2; clear hn2
  have HKK := Lib.hid hkk; clear hkk
  generalize hq : planR l s = q
  have cb := planR_bd l s
  rw [hq] at cb
  by_cases h0 : q = 0
  rotate_left
  · have HR := Lib.hid (show faultR l s wk = (0, q) by
      unfold faultR
      unfold planR at hq
      cases hv : validS l
      · rw [hv] at hq; rw [← hq]; rfl
      · rw [hv, if_pos rfl] at hq
        cases hs : startsB l.length s
        · rw [hs] at hq; rw [← hq]; rfl
        · rw [hs, if_pos rfl] at hq; exact absurd hq.symm h0)
    have HQ := Lib.hid hq; clear hq
    have q1 : (q == 0) = false := by simpa using h0
    have q2 : (q != 0) = true := by simpa using h0
    go_enter Try.func34, Try.ntmps34
    go_wp2_with fail
    refine (planCode_c A n c l A2 n2 c2 s w HN.out hm hr ok HKK.out HN2.out hm2 hr2).mono ?_
    rw [HQ.out]
    rintro e w1 ⟨rfl, hb1⟩
    go_wp2_with fail
    go_ret2
    exact ⟨ret_two HR.out.symm, hb1⟩
  subst h0
  obtain ⟨hv, hst⟩ := planR_zero hq
  rw [HN.out] at hst
  have HQ := Lib.hid hq; clear hq
  cases hw1 : inB wk 1 30
  · have HR := Lib.hid (show faultR l s wk = (0, 2) by unfold faultR; rw [hv, HN.out, hst, hw1]; rfl)
    go_enter Try.func34, Try.ntmps34
    go_wp2_with fail
    refine (planCode_c A n c l A2 n2 c2 s w HN.out hm hr ok HKK.out HN2.out hm2 hr2).mono ?_
    rw [HQ.out]
    rintro e w1 ⟨rfl, hb1⟩
    go_wp2_with (go_at_call 48; refine (between_c _ _ _ _).mono ?_; rintro e w' ⟨rfl, rfl⟩)
    go_ret2
    exact ⟨ret_two HR.out.symm, hb1⟩
  have HSL := startsB_len hst
  rw [HN2.out] at HSL
  subst HSL
  have h30 := (valid_all hv).1
  rw [HN.out] at h30
  have HSO := Lib.hid (sOk_of hst)
  have HRR := Lib.hid (show faultR l s wk = (faultM l s wk, 0) by unfold faultR; rw [hv, HN.out, hst, hw1]; rfl)
  have HST := Lib.hid hst; clear hst
  have HV := Lib.hid hv; clear hv
  have HW1 := Lib.hid hw1
  go_enter Try.func34, Try.ntmps34
  go_wp2_with fail
  refine (planCode_c A n2 c l A2 n2 c2 s w HN.out hm hr ok HKK.out HN2.out hm2 hr2).mono ?_
  rw [HQ.out]
  rintro e w1 ⟨rfl, hb1⟩
  have hb1s := hb1.size
  have hr1 := (hr.below hb1).mono hb1s
  have hr21 := (hr2.below hb1).mono hb1s
  go_wp2_with (go_at_call 48; refine (between_c _ _ _ _).mono ?_; rintro e w' ⟨rfl, rfl⟩)
  clear hw1
  go_loopw [22] (fun i wr => ∃ k : Nat, k ≤ n2 ∧ i = .int .i64 k ∧ ((List.range k).all fun i => !faultAt l s wk i) = true ∧ Below w1.heap.size w1 wr) (fun i _ => n2 - (intOf i).toNat)
  case atStart => exact ⟨0, Nat.zero_le _, rfl, by simp, Below.refl _ _⟩
  case round =>
    obtain ⟨k, hk, rfl, ha, hb⟩ := hrel
    have HA := Lib.hid ha; clear ha
    have hbs := hb.size
    by_cases hlt : k < n2
    · have hrw := (hr1.below hb).mono hbs
      have hr2w := (hr21.below hb).mono hbs
      obtain ⟨b1, off, rfl, hbl, hc⟩ := hrw (by rw [HN.out]; omega)
      obtain ⟨b2, off2, rfl, hbl2, hc2⟩ := hr2w.ints' (by rw [HN2.out]; omega)
      obtain ⟨d, hd⟩ := get_ex l k (by rw [HN.out]; omega)
      obtain ⟨y, hy⟩ := get_ex s k (by rw [HN2.out]; omega)
      obtain ⟨g0, g1, g2, An, cn, g3, g4⟩ := hc k d hd
      have e4 := hc2 k y hy
      have HFA := Lib.hid (show faultAt l s wk k = (!doneB l s d.needs y || decide (wk < busyM l s y n2)) by unfold faultAt; rw [getD_eq hy, getJ_eq hd, HN.out])
      have hnb := needs_of HV.out (k := k) (by rw [HN.out]; exact hlt)
      rw [getJ_eq hd, HN.out] at hnb
      have HNB := Lib.hid hnb; clear hnb
      have hkd := HKK.out k d hd
      have HGD := Lib.hid (getJ_eq hd)
      have HRW := Lib.hid hrw; clear hrw
      have HR2W := Lib.hid hr2w; clear hr2w
      have HG4 := Lib.hid g4; clear g4 hd hy hc hc2
      have hf1 := far (show b1 < wr.heap.size by omega)
      have hf2 := far (show b2 < wr.heap.size by omega)
      have p1 : (0 : Int) ≤ (k : Int) := by omega
      have p2 : (k : Int) < (n2 : Int) := by omega
      obtain ⟨nd, hnd⟩ : ∃ nd, d.needs = nd := ⟨_, rfl⟩
      obtain ⟨nl, hnl⟩ : ∃ nl, nd.length = nl := ⟨_, rfl⟩
      rw [hnd] at HG4 HNB hkd HFA g3
      rw [hnl] at hkd g3
      have HND := Lib.hid hnd
      have HNL := Lib.hid hnl; clear hnd hnl
      go_upto_region 9 with fail
      refine gen_world fun W hW => ?_
      have hbW : Below wr.heap.size wr W := by rw [hW.out]; (repeat' (first | (with_reducible exact Below.refl _ _) | (with_reducible assumption) | (with_reducible refine below_drewN ?_ _) | (with_reducible refine Below.drew ?_) | (with_reducible refine Below.alloc ?_ ?_ _) | (with_reducible refine Below.setCell ?_ ?_ _) | (with_reducible refine via (by with_reducible assumption) ?_ ?_) | go_size))
      have hbWs := hbW.size
      have x3 : W.cell? ⟨wr.heap.size, 3, none⟩ = some (.slice An nl cn) := by rw [hW.out]; simp [go_sem]
      have xl : wr.heap.size < W.heap.size := by rw [hW.out]; simp [go_sem]
      rw [← hbW.cell (p := ⟨b2, off2 + k, none⟩) hbl2] at e4
      clear hW g0 g1 g2 g3
      have hbl2' : b2 < W.heap.size := by omega
      have HRW2 := Lib.hid ((HRW.out.below hbW).mono hbWs)
      have HR2W2 := Lib.hid ((HR2W.out.below hbW).mono hbWs)
      have HG42 := Lib.hid ((HG4.out.below hbW).mono hbWs)
      cases h1 : doneB l s nd y
      · have HF := Lib.hid (faultM_yes (l := l) (s := s) (wk := wk) (k := k) (by rw [HN.out]; exact hlt) HA.out (by rw [HFA.out, h1]; rfl))
        (refine wp_region_quiet_below (by kernel_rfl) (by kernel_rfl) ?_; (repeat (go_big_quiet_step (first | ((go_at_call 59; exact rg_drawn (fun w' hb => retb (areDone_c (some ⟨b1, off, none⟩) n2 c l (some ⟨b2, off2, none⟩) c2 s An nl cn nd y W.heap.size w' HN.out hm (HRW2.out.below hb) HV.out HN2.out (HR2W2.out.below hb) HSO.out HNL.out hkd (HG42.out.below hb) HNB.out) h1)))))); refine wpQuiet_nil ?_; refine qg_end ?_; intro wq hbq)
        go_wp2_with fail
        go_ret2
        exact ⟨ret_two (by rw [HRR.out, HF.out]), by (repeat' (first | (with_reducible exact Below.refl _ _) | (with_reducible assumption) | (with_reducible refine below_drewN ?_ _) | (with_reducible refine Below.drew ?_) | (with_reducible refine Below.alloc ?_ ?_ _) | (with_reducible refine Below.setCell ?_ ?_ _) | (with_reducible refine via (by with_reducible assumption) ?_ ?_) | go_size))⟩
      · obtain ⟨bm, hbm⟩ : ∃ bm, busyM l s y n2 = bm := ⟨_, rfl⟩
        have HBM := Lib.hid hbm; clear hbm
        cases h2 : decide (wk < bm)
        · have HS := Lib.hid (all_range_succ _ k HA.out (show (!faultAt l s wk k) = true by rw [HFA.out, h1, HBM.out, h2]; rfl))
          (refine wp_region_quiet_below (by kernel_rfl) (by kernel_rfl) ?_; (repeat (go_big_quiet_step (first | ((go_at_call 59; exact rg_drawn (fun w' hb => retb (areDone_c (some ⟨b1, off, none⟩) n2 c l (some ⟨b2, off2, none⟩) c2 s An nl cn nd y W.heap.size w' HN.out hm (HRW2.out.below hb) HV.out HN2.out (HR2W2.out.below hb) HSO.out HNL.out hkd (HG42.out.below hb) HNB.out) h1))) | ((go_at_call 60; exact rg_of (fun w' hb => HBM.out ▸ running_c (some ⟨b1, off, none⟩) n2 c l (some ⟨b2, off2, none⟩) c2 s y w' HN.out hm ((HRW2.out.below hb).mono hb.size) HV.out HN2.out ((HR2W2.out.below hb).mono hb.size) HSO.out)))))); refine wpQuiet_nil ?_; refine qg_end ?_; intro wq hbq)
          go_wp2_with fail
          (first | (refine ⟨?_, ?_⟩; rotate_left; (first | (simp [intOf]; done) | (simp [intOf]; omega)); (repeat apply Exists.intro); refine ⟨?_, rfl⟩; exact ⟨k + 1, by omega, by go_num, HS.out, by (repeat' (first | (with_reducible exact Below.refl _ _) | (with_reducible assumption) | (with_reducible refine below_drewN ?_ _) | (with_reducible refine Below.drew ?_) | (with_reducible refine Below.alloc ?_ ?_ _) | (with_reducible refine Below.setCell ?_ ?_ _) | (with_reducible refine via (by with_reducible assumption) ?_ ?_) | go_size))⟩) | exact ⟨⟨k + 1, by omega, by go_num, HS.out, by (repeat' (first | (with_reducible exact Below.refl _ _) | (with_reducible assumption) | (with_reducible refine below_drewN ?_ _) | (with_reducible refine Below.drew ?_) | (with_reducible refine Below.alloc ?_ ?_ _) | (with_reducible refine Below.setCell ?_ ?_ _) | (with_reducible refine via (by with_reducible assumption) ?_ ?_) | go_size))⟩, by first | (simp [intOf]; done) | (simp [intOf]; omega)⟩)
        · have HF := Lib.hid (faultM_yes (l := l) (s := s) (wk := wk) (k := k) (by rw [HN.out]; exact hlt) HA.out (by rw [HFA.out, h1, HBM.out, h2]; rfl))
          (refine wp_region_quiet_below (by kernel_rfl) (by kernel_rfl) ?_; (repeat (go_big_quiet_step (first | ((go_at_call 59; exact rg_drawn (fun w' hb => retb (areDone_c (some ⟨b1, off, none⟩) n2 c l (some ⟨b2, off2, none⟩) c2 s An nl cn nd y W.heap.size w' HN.out hm (HRW2.out.below hb) HV.out HN2.out (HR2W2.out.below hb) HSO.out HNL.out hkd (HG42.out.below hb) HNB.out) h1))) | ((go_at_call 60; exact rg_of (fun w' hb => HBM.out ▸ running_c (some ⟨b1, off, none⟩) n2 c l (some ⟨b2, off2, none⟩) c2 s y w' HN.out hm ((HRW2.out.below hb).mono hb.size) HV.out HN2.out ((HR2W2.out.below hb).mono hb.size) HSO.out)))))); refine wpQuiet_nil ?_; refine qg_end ?_; intro wq hbq)
          go_wp2_with fail
          go_ret2
          exact ⟨ret_two (by rw [HRR.out, HF.out]), by (repeat' (first | (with_reducible exact Below.refl _ _) | (with_reducible assumption) | (with_reducible refine below_drewN ?_ _) | (with_reducible refine Below.drew ?_) | (with_reducible refine Below.alloc ?_ ?_ _) | (with_reducible refine Below.setCell ?_ ?_ _) | (with_reducible refine via (by with_reducible assumption) ?_ ?_) | go_size))⟩
    · have hkn : k = n2 := by omega
      have HF := Lib.hid (faultM_no (l := l) (s := s) (wk := wk) (by rw [HN.out, ← hkn]; exact HA.out)); clear hkn
      go_wp2_with fail
      go_ret2
      exact ⟨ret_two (by rw [HRR.out, HF.out]), by (repeat' (first | (with_reducible exact Below.refl _ _) | (with_reducible assumption) | (with_reducible refine below_drewN ?_ _) | (with_reducible refine Below.drew ?_) | (with_reducible refine Below.alloc ?_ ?_ _) | (with_reducible refine Below.setCell ?_ ?_ _) | (with_reducible refine via (by with_reducible assumption) ?_ ?_) | go_size))⟩

theorem l22Workers_c (A : Option Addr) (n c : Nat) (l : List JobD) (wk : Int) (w : World) (hn : l.length = n) (hm : n ≤ 1048576) (hr : JRd w w.heap.size A l) (ok : ∀ d ∈ l, okJD d) (hkk : ∀ (i : Nat) (d : JobD), l[i]? = some d → d.needs.length ≤ 1048576) :
    Calls Try.prog 56 #[.slice A n c, .int .i64 wk] w fun e w' => e = .returned (.int .i64 (if validS l = true then (if inB wk 1 30 = true then 0 else 2) else 1)) ∧ Below w.heap.size w w' := by
  cases hv : validS l
  · go_enter Try.func56, Try.ntmps56
    go_wp2_with fail
    refine (retb (l22OkB_c A n c l _ hn hm hr ok hkk) hv).mono ?_
    rintro e w1 ⟨rfl, hb1⟩
    go_wp2_with fail
    go_ret
    exact ⟨rfl, hb1⟩
  · cases h2 : inB wk 1 30
    all_goals
      go_enter Try.func56, Try.ntmps56
      go_wp2_with fail
      refine (retb (l22OkB_c A n c l _ hn hm hr ok hkk) hv).mono ?_
      rintro e w1 ⟨rfl, hb1⟩
      go_wp2_with (go_at_call 55; refine (l00In_c _ _ _ _).mono ?_; rintro e w' ⟨rfl, rfl⟩)
      go_ret
      exact ⟨rfl, hb1⟩

set_option maxRecDepth 100000 in
set_option maxHeartbeats 4000000 in
theorem PlanFaultS_c (A : Option Addr) (n c : Nat) (l : List JobD) (A2 : Option Addr) (n2 c2 : Nat) (s : List Int) (wk : Int) (w : World) (hn : l.length = n) (hm : n ≤ 1048576) (hr : JRd w w.heap.size A l) (ok : ∀ d ∈ l, okJD d) (hkk : ∀ (i : Nat) (d : JobD), l[i]? = some d → d.needs.length ≤ 1048576) (hn2 : s.length = n2) (hm2 : n2 ≤ 1048576) (hr2 : Rd w w.heap.size 1 icell A2 s) :
    Calls Try.prog 33 #[.slice A n c, .slice A2 n2 c2, .int .i64 wk] w fun e w' => e = .returned (.tuple #[.int .i64 (faultR l s wk).1, .int .i64 (faultR l s wk).2]) ∧ Below w.heap.size w w' := by
  have HN := Lib.hid hn; clear hn
  have HN2 := Lib.hid hn2; clear hn2
  have HKK := Lib.hid hkk; clear hkk
  cases hv : validS l
  · have HR := Lib.hid (show faultR l s wk = (0, 1) by unfold faultR; rw [hv]; rfl)
    have HQ := Lib.hid (show (if validS l = true then (if inB wk 1 30 = true then 0 else 2) else 1 : Int) = 1 by rw [hv]; rfl)
    go_enter Try.func33, Try.ntmps33
    go_wp2_with fail
    refine (l22Workers_c A n c l wk w HN.out hm hr ok HKK.out).mono ?_
    rw [HQ.out]
    rintro e w1 ⟨rfl, hb1⟩
    go_wp2_with fail
    go_ret2
    exact ⟨ret_two HR.out.symm, hb1⟩
  cases hw1 : inB wk 1 30
  · have HR := Lib.hid (show faultR l s wk = (0, 2) by unfold faultR; rw [hv, hw1, Bool.and_false]; rfl)
    have HQ := Lib.hid (show (if validS l = true then (if inB wk 1 30 = true then 0 else 2) else 1 : Int) = 2 by rw [hv, hw1]; rfl)
    go_enter Try.func33, Try.ntmps33
    go_wp2_with fail
    refine (l22Workers_c A n c l wk w HN.out hm hr ok HKK.out).mono ?_
    rw [HQ.out]
    rintro e w1 ⟨rfl, hb1⟩
    go_wp2_with fail
    go_ret2
    exact ⟨ret_two HR.out.symm, hb1⟩
  have HQ := Lib.hid (show (if validS l = true then (if inB wk 1 30 = true then 0 else 2) else 1 : Int) = 0 by rw [hv, hw1]; rfl)
  cases hst : startsB n s
  · have HR := Lib.hid (show faultR l s wk = (0, 2) by unfold faultR; rw [hv, HN.out, hst, hw1]; rfl)
    go_enter Try.func33, Try.ntmps33
    go_wp2_with fail
    refine (l22Workers_c A n c l wk w HN.out hm hr ok HKK.out).mono ?_
    rw [HQ.out]
    rintro e w1 ⟨rfl, hb1⟩
    go_wp2_with fail
    refine (retb (l22Starts_c A n c A2 n2 c2 s _ w1 hm HN2.out hm2 ((hr2.below hb1).mono hb1.size)) hst).mono ?_
    rintro e w' ⟨rfl, rfl⟩
    go_wp2_with fail
    go_ret2
    exact ⟨ret_two HR.out.symm, hb1⟩
  have HSL := startsB_len hst
  rw [HN2.out] at HSL
  subst HSL
  have h30 := (valid_all hv).1
  rw [HN.out] at h30
  have HSO := Lib.hid (sOk_of hst)
  have HRR := Lib.hid (show faultR l s wk = (faultM l s wk, 0) by unfold faultR; rw [hv, HN.out, hst, hw1]; rfl)
  have HST := Lib.hid hst; clear hst
  have HV := Lib.hid hv; clear hv
  have HW1 := Lib.hid hw1
  go_enter Try.func33, Try.ntmps33
  go_wp2_with fail
  refine (l22Workers_c A n2 c l wk w HN.out hm hr ok HKK.out).mono ?_
  rw [HQ.out]
  rintro e w1 ⟨rfl, hb1⟩
  have hb1s := hb1.size
  have hr1 := (hr.below hb1).mono hb1s
  have hr21 := (hr2.below hb1).mono hb1s
  go_wp2_with fail
  refine (retb (l22Starts_c A n2 c A2 n2 c2 s _ w1 hm HN2.out hm2 hr21) HST.out).mono ?_
  rintro e w' ⟨rfl, rfl⟩
  go_wp2_with fail
  clear hw1
  go_loopw [9] (fun i wr => ∃ k : Nat, k ≤ n2 ∧ i = .int .i64 k ∧ ((List.range k).all fun i => !faultAt l s wk i) = true ∧ Below w1.heap.size w1 wr) (fun i _ => n2 - (intOf i).toNat)
  case atStart => exact ⟨0, Nat.zero_le _, rfl, by simp, Below.refl _ _⟩
  case round =>
    obtain ⟨k, hk, rfl, ha, hb⟩ := hrel
    have HA := Lib.hid ha; clear ha
    have hbs := hb.size
    by_cases hlt : k < n2
    · have hrw := (hr1.below hb).mono hbs
      have hr2w := (hr21.below hb).mono hbs
      obtain ⟨b1, off, rfl, hbl, hc⟩ := hrw (by rw [HN.out]; omega)
      obtain ⟨b2, off2, rfl, hbl2, hc2⟩ := hr2w.ints' (by rw [HN2.out]; omega)
      obtain ⟨d, hd⟩ := get_ex l k (by rw [HN.out]; omega)
      obtain ⟨y, hy⟩ := get_ex s k (by rw [HN2.out]; omega)
      obtain ⟨g0, g1, g2, An, cn, g3, g4⟩ := hc k d hd
      have e4 := hc2 k y hy
      have HFA := Lib.hid (show faultAt l s wk k = (!doneB l s d.needs y || decide (wk < busyM l s y n2)) by unfold faultAt; rw [getD_eq hy, getJ_eq hd, HN.out])
      have hnb := needs_of HV.out (k := k) (by rw [HN.out]; exact hlt)
      rw [getJ_eq hd, HN.out] at hnb
      have HNB := Lib.hid hnb; clear hnb
      have hkd := HKK.out k d hd
      have HGD := Lib.hid (getJ_eq hd)
      have HRW := Lib.hid hrw; clear hrw
      have HR2W := Lib.hid hr2w; clear hr2w
      have HG4 := Lib.hid g4; clear g4 hd hy hc hc2
      have hf1 := far (show b1 < wr.heap.size by omega)
      have hf2 := far (show b2 < wr.heap.size by omega)
      have p1 : (0 : Int) ≤ (k : Int) := by omega
      have p2 : (k : Int) < (n2 : Int) := by omega
      obtain ⟨nd, hnd⟩ : ∃ nd, d.needs = nd := ⟨_, rfl⟩
      obtain ⟨nl, hnl⟩ : ∃ nl, nd.length = nl := ⟨_, rfl⟩
      rw [hnd] at HG4 HNB hkd HFA g3
      rw [hnl] at hkd g3
      have HND := Lib.hid hnd
      have HNL := Lib.hid hnl; clear hnd hnl
      cases h1 : doneB l s nd y
      · have HF := Lib.hid (faultM_yes (l := l) (s := s) (wk := wk) (k := k) (by rw [HN.out]; exact hlt) HA.out (by rw [HFA.out, h1]; rfl))
        go_wp2_with fail
        refine (retb (l22Ready_c (some ⟨b1, off, none⟩) n2 c l (some ⟨b2, off2, none⟩) c2 s k nl nd y wr.heap.size wr HN.out hm HRW.out HV.out HN2.out HR2W.out HSO.out hlt HNL.out hkd (by rw [HGD.out, HND.out]) HNB.out) h1).mono ?_
        rintro e w2 ⟨rfl, mm, rfl⟩
        go_wp2_with fail
        go_ret2
        exact ⟨ret_two (by rw [HRR.out, HF.out]), by (repeat' (first | (with_reducible exact Below.refl _ _) | (with_reducible assumption) | (with_reducible refine below_drewN ?_ _) | (with_reducible refine Below.drew ?_) | (with_reducible refine Below.alloc ?_ ?_ _) | (with_reducible refine Below.setCell ?_ ?_ _) | (with_reducible refine via (by with_reducible assumption) ?_ ?_) | go_size))⟩
      · obtain ⟨bm, hbm⟩ : ∃ bm, busyM l s y n2 = bm := ⟨_, rfl⟩
        have HBM := Lib.hid hbm; clear hbm
        cases h2 : decide (wk < bm)
        · have HS := Lib.hid (all_range_succ _ k HA.out (show (!faultAt l s wk k) = true by rw [HFA.out, h1, HBM.out, h2]; rfl))
          go_wp2_with fail
          refine (retb (l22Ready_c (some ⟨b1, off, none⟩) n2 c l (some ⟨b2, off2, none⟩) c2 s k nl nd y wr.heap.size wr HN.out hm HRW.out HV.out HN2.out HR2W.out HSO.out hlt HNL.out hkd (by rw [HGD.out, HND.out]) HNB.out) h1).mono ?_
          rintro e w2 ⟨rfl, mm, rfl⟩
          go_wp2_with fail
          refine (l22Busy_c (some ⟨b1, off, none⟩) n2 c l (some ⟨b2, off2, none⟩) c2 s y (wr.drewN mm) HN.out hm HRW.out HV.out HN2.out HR2W.out HSO.out).mono ?_
          rw [HBM.out]
          rintro e w3 ⟨rfl, hb3⟩
          have hb3' : Below wr.heap.size wr w3 := (below_drewN (Below.refl _ _) mm).trans hb3
          clear hb3
          go_wp2_with fail
          (first | (refine ⟨?_, ?_⟩; rotate_left; (first | (simp [intOf]; done) | (simp [intOf]; omega)); (repeat apply Exists.intro); refine ⟨?_, rfl⟩; exact ⟨k + 1, by omega, by go_num, HS.out, hb.trans (hb3'.mono hbs)⟩) | exact ⟨⟨k + 1, by omega, by go_num, HS.out, hb.trans (hb3'.mono hbs)⟩, by first | (simp [intOf]; done) | (simp [intOf]; omega)⟩)
        · have HF := Lib.hid (faultM_yes (l := l) (s := s) (wk := wk) (k := k) (by rw [HN.out]; exact hlt) HA.out (by rw [HFA.out, h1, HBM.out, h2]; rfl))
          go_wp2_with fail
          refine (retb (l22Ready_c (some ⟨b1, off, none⟩) n2 c l (some ⟨b2, off2, none⟩) c2 s k nl nd y wr.heap.size wr HN.out hm HRW.out HV.out HN2.out HR2W.out HSO.out hlt HNL.out hkd (by rw [HGD.out, HND.out]) HNB.out) h1).mono ?_
          rintro e w2 ⟨rfl, mm, rfl⟩
          go_wp2_with fail
          refine (l22Busy_c (some ⟨b1, off, none⟩) n2 c l (some ⟨b2, off2, none⟩) c2 s y (wr.drewN mm) HN.out hm HRW.out HV.out HN2.out HR2W.out HSO.out).mono ?_
          rw [HBM.out]
          rintro e w3 ⟨rfl, hb3⟩
          have hb3' : Below wr.heap.size wr w3 := (below_drewN (Below.refl _ _) mm).trans hb3
          clear hb3
          go_wp2_with fail
          go_ret2
          exact ⟨ret_two (by rw [HRR.out, HF.out]), hb1.trans ((hb.trans (hb3'.mono hbs)).mono hb1s)⟩
    · have hkn : k = n2 := by omega
      have HF := Lib.hid (faultM_no (l := l) (s := s) (wk := wk) (by rw [HN.out, ← hkn]; exact HA.out)); clear hkn
      go_wp2_with fail
      go_ret2
      exact ⟨ret_two (by rw [HRR.out, HF.out]), by (repeat' (first | (with_reducible exact Below.refl _ _) | (with_reducible assumption) | (with_reducible refine below_drewN ?_ _) | (with_reducible refine Below.drew ?_) | (with_reducible refine Below.alloc ?_ ?_ _) | (with_reducible refine Below.setCell ?_ ?_ _) | (with_reducible refine via (by with_reducible assumption) ?_ ?_) | go_size))⟩

end Go.Proofs.Ytpdmfnfmlcjobaa
