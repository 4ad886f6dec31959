/- Contracts: what is a list of jobs; both sides. -/
import Derived.Test.YtaebofpgdonnbaaDoorJobMath
import Derived.Test.YtaebofpgdonnbaaDoorNameMap
import Derived.Deep.DeepCutAuto
import Derived.Carry
set_option linter.unusedVariables false
set_option linter.unusedSimpArgs false
namespace Go.Proofs.YtaebofpgdonnbaaDoor
open Go.RowKit

def nmJ (l : List JobD) (k : Nat) : ByteArray := (getJ l k).name
theorem newJ_eq (l : List JobD) (k : Nat) : newJ l k = !seenB (nmJ l) k (getJ l k).name := by
  unfold newJ seenB nmJ
  rw [List.all_eq_not_any_not]
  simp

set_option maxHeartbeats 1000000 in
theorem l00Rises_c (A : Option Addr) (n c : Nat) (l : List Int) (lo hi : Int) (B : Nat) (w : World) (hn : l.length = n) (hm : n ≤ 1048576) (hr : Rd w B 1 icell A l) :
    Calls Tryd.prog 102 #[.slice A n c, .int .i64 lo, .int .i64 hi] w fun e w' => e = .returned (.bool (risesB l lo hi)) ∧ ∃ m, w' = w.drewN m := by
  have HN := Lib.hid hn; clear hn
  go_enter Tryd.func102, Tryd.ntmps102
  go_wp2_with fail
  go_loopw [7] (fun i wr => ∃ k : Nat, k ≤ n ∧ i = .int .i64 k ∧ (List.range k).all (risesAt l lo hi) = true ∧ ∃ m, wr = w.drewN m) (fun i _ => n - (intOf i).toNat)
  case atStart => exact ⟨0, Nat.zero_le _, rfl, by simp, 0, rfl⟩
  case round =>
    obtain ⟨k, hk, rfl, ha, m, hw⟩ := hrel
    have HA := Lib.hid ha; clear ha
    have hr1 : Rd wr B 1 icell A l := by rw [hw]; exact hr
    have HW := Lib.hid hw; clear hw
    by_cases hlt : k < n
    · obtain ⟨b, off, rfl, _, hc⟩ := hr1.ints' (by rw [HN.out]; omega)
      obtain ⟨x, hx⟩ := get_ex l k (by rw [HN.out]; omega)
      have g1 := hc k x hx
      have HX := Lib.hid (getD_eq hx); clear hx
      have HC := Lib.hid hc; clear hc
      have p1 : (0 : Int) ≤ (k : Int) := by omega
      have p2 : (k : Int) < (n : Int) := by omega
      cases h1 : inB x lo hi
      · have HF := Lib.hid (risesB_no (l := l) (lo := lo) (hi := hi) (i := k) (by rw [HN.out]; exact hlt) (by unfold risesAt; rw [HX.out, h1]; rfl))
        go_wp2_with fail
        go_quiet (((go_at_call 86; exact quiet_eq (retb (l00In_c _ _ _ _) h1))))
        go_wp2_with fail
        go_ret
        exact ⟨ret_bool HF.out.symm, m + nq, by rw [HW.out, World.drewN_drewN]⟩
      · by_cases h0 : k = 0
        · have HS := Lib.hid (all_range_succ _ k HA.out (show risesAt l lo hi k = true by unfold risesAt; rw [HX.out, h1, decide_eq_true h0]; rfl))
          have q1 : decide (0 < k) = false := by simp [h0]
          have q2 : ¬ 0 < k := by omega
          have H0 := Lib.hid h0; clear h0
          go_wp2_with fail
          go_quiet (((go_at_call 86; exact quiet_eq (retb (l00In_c _ _ _ _) h1))))
          go_wp2_with fail
          (first | (refine ⟨?_, ?_⟩; rotate_left; (first | (simp [intOf]; done) | (simp [intOf]; omega)); (repeat apply Exists.intro); refine ⟨?_, rfl⟩; exact ⟨k + 1, by omega, by go_num, HS.out, m + nq, by rw [HW.out, World.drewN_drewN]⟩) | exact ⟨⟨k + 1, by omega, by go_num, HS.out, m + nq, by rw [HW.out, World.drewN_drewN]⟩, by first | (simp [intOf]; done) | (simp [intOf]; omega)⟩)
        · obtain ⟨y, hy⟩ := get_ex l (k - 1) (by rw [HN.out]; omega)
          have g2 := HC.out (k - 1) y hy
          have HY := Lib.hid (getD_eq hy); clear hy
          have q1 : decide (0 < k) = true := by simp; omega
          have q2 : 0 < k := by omega
          have e1 : IntKind.i64.wrap ((k : Int) - 1) = (k : Int) - 1 := IntWalk.i64_in _ (by omega)
          have e2 : ((k : Int) - 1).toNat = k - 1 := by omega
          have e3 : (0 : Int) ≤ (k : Int) - 1 := by omega
          have e4 : (1 : Int) ≤ (k : Int) := by omega
          have e5 : (k : Int) - 1 < (n : Int) := by omega
          have e6 : k - 1 < n := by omega
          cases h2 : decide (x ≤ y)
          · have HS := Lib.hid (all_range_succ _ k HA.out (show risesAt l lo hi k = true by unfold risesAt; rw [HX.out, h1, HY.out, decide_eq_false h0]; simp at h2 ⊢; omega))
            go_wp2_with fail
            go_quiet (((go_at_call 86; exact quiet_eq (retb (l00In_c _ _ _ _) h1))))
            clear e1 e2 e3 e4 e5 e6
            go_wp2_with fail
            (first | (refine ⟨?_, ?_⟩; rotate_left; (first | (simp [intOf]; done) | (simp [intOf]; omega)); (repeat apply Exists.intro); refine ⟨?_, rfl⟩; exact ⟨k + 1, by omega, by go_num, HS.out, m + nq, by rw [HW.out, World.drewN_drewN]⟩) | exact ⟨⟨k + 1, by omega, by go_num, HS.out, m + nq, by rw [HW.out, World.drewN_drewN]⟩, by first | (simp [intOf]; done) | (simp [intOf]; omega)⟩)
          · have HF := Lib.hid (risesB_no (l := l) (lo := lo) (hi := hi) (i := k) (by rw [HN.out]; exact hlt) (by unfold risesAt; rw [HX.out, h1, HY.out, decide_eq_false h0]; simp at h2 ⊢; omega))
            go_wp2_with fail
            go_quiet (((go_at_call 86; exact quiet_eq (retb (l00In_c _ _ _ _) h1))))
            go_wp2_with fail
            go_ret
            exact ⟨ret_bool HF.out.symm, m + nq, by rw [HW.out, World.drewN_drewN]⟩
    · have hkn : k = n := by omega
      have HF := Lib.hid (show risesB l lo hi = true by unfold risesB; rw [HN.out, ← hkn]; exact HA.out)
      clear hkn
      go_wp2_with fail
      go_ret
      exact ⟨ret_bool HF.out.symm, m, HW.out⟩

set_option maxRecDepth 100000 in
set_option maxHeartbeats 4000000 in
theorem l22Ok_c (A : Option Addr) (n c : Nat) (l : List JobD) (B : Nat) (w : World) (hn : l.length = n) (hm : n ≤ 1048576) (hr : JRd w B A l) (ok : ∀ d ∈ l, okJD d) (hkk : ∀ (i : Nat) (d : JobD), l[i]? = some d → d.needs.length ≤ 1048576) :
    Calls Tryd.prog 72 #[.slice A n c] w fun e w' => e = .returned (.bool (validS l)) ∧ ∃ m, w' = w.drewN m := by
  have HN := Lib.hid hn; clear hn
  have HKK := Lib.hid hkk; clear hkk
  go_enter Tryd.func72, Tryd.ntmps72
  go_wp2_with fail
  go_loopw [3, 4] (fun s i wr => ∃ (k : Nat) (q : Int), k ≤ n ∧ i = .int .i64 k ∧ s = .int .i64 q ∧ q = sumD l k ∧ (List.range k).all (okS l) = true ∧ ∃ m, wr = w.drewN m) (fun _ i _ => n - (intOf i).toNat)
  case atStart => exact ⟨0, 0, Nat.zero_le _, rfl, rfl, rfl, by simp, 0, rfl⟩
  case round =>
    obtain ⟨k, q, hk, rfl, rfl, hq, ha, m, hw⟩ := hrel
    obtain ⟨wk, rfl⟩ : ∃ w' : World, w' = wr := ⟨_, rfl⟩
    have hsb := sum_bd ha
    rw [← hq] at hsb
    obtain ⟨hsb1, hsb2⟩ := hsb
    have HQ := Lib.hid hq; clear hq
    have HA := Lib.hid ha; clear ha
    have hrw : JRd wk B A l := by rw [hw]; exact hr
    have HW := Lib.hid hw; clear hw
    by_cases hlt : k < n
    · obtain ⟨b1, off, rfl, _, hc⟩ := hrw (by rw [HN.out]; omega)
      obtain ⟨d, hd⟩ := get_ex l k (by rw [HN.out]; omega)
      obtain ⟨g0, g1, g2, An, cn, g3, g4⟩ := hc k d hd
      have k1 := (ok d (List.mem_of_getElem? hd)).1
      have k2 := HKK.out k d hd
      have HG4 := Lib.hid g4; clear g4
      have HG := Lib.hid (getJ_eq hd)
      have HC := Lib.hid hc; clear hd hc
      have p1 : (0 : Int) ≤ (k : Int) := by omega
      have p2 : (k : Int) < (n : Int) := by omega
      go_upto_region 6 with fail
      obtain ⟨bad, hbad⟩ : ∃ bad : Bool, bad = !(jobB d && risesB d.needs 0 ((k : Int) - 1)) := ⟨_, rfl⟩
      have HBAD := Lib.hid hbad; clear hbad
      go_cut [47] (fun v wx => v = .bool bad ∧ ∃ m2, wx = wk.drewN m2)
      case first =>
        cases h1 : nameB d.name <;> cases h3 : inB d.days 1 60 <;> cases h4 : inB d.cost 0 1000000
        all_goals
          go_wp2_with (first | (go_at_call 84; refine (IsNameS_c d.name _ k1).mono ?_; rintro e w' ⟨rfl, rfl⟩) | (go_at_call 86; refine (l00In_c _ _ _ _).mono ?_; rintro e w' ⟨rfl, rfl⟩))
          try (
            refine (l00Rises_c An d.needs.length cn d.needs 0 ((k : Int) - 1) B _ rfl k2 HG4.out).mono ?_
            rintro e w' ⟨rfl, m2, rfl⟩
            cases h5 : risesB d.needs 0 ((k : Int) - 1)
            all_goals go_wp2_with fail)
          all_goals
            (go_wp2_with fail; refine Met.intro ?_; apply_assumption; (repeat apply Exists.intro); refine ⟨?_, rfl⟩)
            first | exact ⟨by rw [HBAD.out]; unfold jobB; rw [h1, h3, h4]; rfl, 0, rfl⟩ | exact ⟨by rw [HBAD.out]; unfold jobB; rw [h1, h3, h4, h5]; rfl, m2, rfl⟩
      case rest =>
        obtain ⟨rfl, m2, hw2⟩ := hcut
        obtain ⟨wd, rfl⟩ : ∃ w' : World, w' = wc := ⟨_, rfl⟩
        have cw : ∀ b o, wd.cell? ⟨b, o, none⟩ = wk.cell? ⟨b, o, none⟩ := fun b o => by rw [hw2]; rfl
        have HW2 := Lib.hid hw2; clear hw2
        have g0' : wd.cell? ⟨b1, off + k * 4, none⟩ = some (.string d.name) := by rw [cw]; exact g0
        have g1' : wd.cell? ⟨b1, off + k * 4 + 1, none⟩ = some (.int .i64 d.days) := by rw [cw]; exact g1
        have HCW := Lib.hid cw; clear cw g0 g1 g2 g3
        cases bad
        · have hok : jobB d = true ∧ risesB d.needs 0 ((k : Int) - 1) = true := by
            have h7 := HBAD.out
            cases h8 : jobB d <;> cases h9 : risesB d.needs 0 ((k : Int) - 1) <;> rw [h8, h9] at h7 <;> first | exact ⟨rfl, rfl⟩ | cases h7
          have hdb := hok.1
          unfold jobB at hdb
          simp only [Bool.and_eq_true] at hdb
          have hdb2 := inB_iff.1 hdb.1.2
          obtain ⟨hd1, hd2⟩ := hdb2
          have HOK := Lib.hid hok; clear hok hdb
          go_wp2_with fail
          obtain ⟨wo, rfl⟩ : ∃ wo : World, wo = wd := ⟨_, rfl⟩
          go_loopw [6] (fun i wi => ∃ j : Nat, j ≤ k ∧ i = .int .i64 j ∧ (List.range j).all (fun q => !((getJ l q).name.toList == (getJ l k).name.toList)) = true ∧ ∃ m3, wi = wo.drewN m3) (fun i _ => k - (intOf i).toNat)
          case atStart => exact ⟨0, Nat.zero_le _, rfl, by simp, 0, rfl⟩
          case round =>
            obtain ⟨j, hj, rfl, hja, m3, hw3⟩ := hrel
            have HJ := Lib.hid hja; clear hja
            have HW3 := Lib.hid hw3
            by_cases hjt : j < k
            · obtain ⟨d1, ed1⟩ := get_ex l j (by rw [HN.out]; omega)
              have m0 := (HC.out j d1 ed1).1
              have m0' : wr.cell? ⟨b1, off + j * 4, none⟩ = some (.string d1.name) := by rw [hw3]; show wo.cell? _ = _; rw [HCW.out]; exact m0
              have g0'' : wr.cell? ⟨b1, off + k * 4, none⟩ = some (.string d.name) := by rw [hw3]; exact g0'
              have HG1 := Lib.hid (getJ_eq ed1)
              clear ed1 m0 hw3
              have p3 : (0 : Int) ≤ (j : Int) := by omega
              have p4 : (j : Int) < (n : Int) := by omega
              have p5 : (j : Int) < (k : Int) := by omega
              cases h3 : (d1.name.toList == d.name.toList)
              · go_wp2_with fail
                go_quiet (fail)
                go_wp2_with fail
                have HS := Lib.hid (all_range_succ _ _ HJ.out (show (!((getJ l j).name.toList == (getJ l k).name.toList)) = true by rw [HG1.out, HG.out, h3]; rfl))
                (first | (refine ⟨?_, ?_⟩; rotate_left; (first | (simp [intOf]; done) | (simp [intOf]; omega)); (repeat apply Exists.intro); refine ⟨?_, rfl⟩; exact ⟨j + 1, by omega, by go_num, HS.out, m3 + nq, by rw [HW3.out, World.drewN_drewN]⟩) | exact ⟨⟨j + 1, by omega, by go_num, HS.out, m3 + nq, by rw [HW3.out, World.drewN_drewN]⟩, by first | (simp [intOf]; done) | (simp [intOf]; omega)⟩)
              · have HO := Lib.hid (validS_no (l := l) (k := k) (by rw [HN.out]; exact hlt) (by unfold okS newJ; rw [all_range_no _ k j hjt (by rw [HG1.out, HG.out, h3]; rfl), Bool.and_false]))
                go_wp2_with fail
                go_quiet (fail)
                go_wp2_with fail
                go_ret
                exact ⟨ret_bool HO.out.symm, m + (m2 + (m3 + nq)), by rw [HW3.out, HW2.out, HW.out, World.drewN_drewN, World.drewN_drewN, World.drewN_drewN]⟩
            · have hjk : j = k := by omega
              have p5 : ¬ (j : Int) < (k : Int) := by omega
              have HS := Lib.hid (all_range_succ (okS l) k HA.out (by have h6 := HJ.out; rw [hjk] at h6; unfold okS newJ risesJ; rw [h6, HG.out, HOK.out.1, HOK.out.2]; rfl))
              have HQ2 := Lib.hid (show q + d.days = sumD l (k + 1) by show _ = sumD l k + (getJ l k).days; rw [HG.out, ← HQ.out])
              clear hjk hw3
              go_wp2_with fail
              (first | (refine ⟨?_, ?_⟩; rotate_left; (first | (simp [intOf]; done) | (simp [intOf]; omega)); (repeat apply Exists.intro); refine ⟨?_, rfl⟩; exact ⟨k + 1, _, by omega, by go_num, rfl, HQ2.out, HS.out, m + (m2 + m3), by rw [HW3.out, HW2.out, HW.out, World.drewN_drewN, World.drewN_drewN]⟩) | exact ⟨⟨k + 1, _, by omega, by go_num, rfl, HQ2.out, HS.out, m + (m2 + m3), by rw [HW3.out, HW2.out, HW.out, World.drewN_drewN, World.drewN_drewN]⟩, by first | (simp [intOf]; done) | (simp [intOf]; omega)⟩)
        · have HO := Lib.hid (validS_no (l := l) (k := k) (by rw [HN.out]; exact hlt) (by
            have h7 := HBAD.out
            unfold okS risesJ
            rw [HG.out]
            cases h8 : jobB d <;> cases h9 : risesB d.needs 0 ((k : Int) - 1) <;> rw [h8, h9] at h7 <;> first | rfl | cases h7))
          go_wp2_with fail
          go_ret
          exact ⟨ret_bool HO.out.symm, m + m2, by rw [HW2.out, HW.out, World.drewN_drewN]⟩
    · have hkn : k = n := by omega
      have HO := Lib.hid (show validS l = (decide (n ≤ 30) && decide (q ≤ 400)) by unfold validS; rw [HQ.out, HN.out, ← hkn, HA.out]; rfl)
      clear hkn
      by_cases h30 : n ≤ 30
      · cases h4 : decide (q ≤ 400)
        all_goals
          have hF := Lib.hid (show validS l = decide (q ≤ 400) by rw [HO.out, decide_eq_true h30]; rfl)
          go_wp2_with fail
          go_ret
          exact ⟨ret_bool (by rw [hF.out, h4]), m, HW.out⟩
      · have hF := Lib.hid (show validS l = false by rw [HO.out, decide_eq_false h30]; rfl)
        go_wp2_with fail
        go_ret
        exact ⟨ret_bool hF.out.symm, m, HW.out⟩
end Go.Proofs.YtaebofpgdonnbaaDoor
