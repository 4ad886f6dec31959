/- Contracts: what is a list of jobs, the program's side. -/
import Derived.Test.YtaebofpgdonnbaaDoorJobs4
set_option linter.unusedVariables false
set_option linter.unusedSimpArgs false
namespace Go.Proofs.YtaebofpgdonnbaaDoor
open Go.RowKit

set_option maxRecDepth 100000 in
set_option maxHeartbeats 4000000 in
theorem ValidJobsI_c (A : Option Addr) (n c : Nat) (l : List JobD) (w : World) (hn : l.length = n) (hm : n ≤ 1048576) (hr : JRd w w.heap.size A l) (ok : ∀ d ∈ l, okJD d) (hkk : ∀ (i : Nat) (d : JobD), l[i]? = some d → d.needs.length ≤ 1048576) :
    Calls Tryd.prog 75 #[.slice A n c] w fun e w' => e = .returned (.bool (validS l)) ∧ Below w.heap.size w w' := by
  rw [← valid_eq]
  have HN := Lib.hid hn; clear hn
  have HKK := Lib.hid hkk; clear hkk
  have hmm := @run_makeMap Tryd.prog
  by_cases h30 : n ≤ 30
  rotate_left
  · have HF := Lib.hid (show validI l = false by unfold validI; rw [HN.out, decide_eq_false h30]; rfl)
    go_enter Tryd.func75, Tryd.ntmps75
    go_wp2_with fail
    go_ret
    exact ⟨ret_bool HF.out.symm, Below.refl _ _⟩
  have HV := Lib.hid (show validI l = ((List.range n).all (okI l) && decide (sumD l n ≤ 400)) by unfold validI; rw [HN.out, decide_eq_true h30]; rfl)
  go_enter Tryd.func75, Tryd.ntmps75
  go_wp2_with fail
  go_loopw [4, 15] (fun s i wr => ∃ (k : Nat) (q : Int), k ≤ n ∧ i = .int .i64 k ∧ s = .int .i64 q ∧ q = sumD l k ∧ (List.range k).all (okI l) = true ∧ Below w.heap.size w wr ∧ NMap wr w.heap.size k (nmJ l)) (fun _ i _ => n - (intOf i).toNat)
  case atStart => exact ⟨0, 0, Nat.zero_le _, rfl, rfl, rfl, by simp, by (repeat' (first | (with_reducible exact Below.refl _ _) | (with_reducible assumption) | (with_reducible refine below_drewN ?_ _) | (with_reducible refine Below.drew ?_) | (with_reducible refine Below.alloc ?_ ?_ _) | (with_reducible refine Below.setCell ?_ ?_ _) | (with_reducible refine via (by with_reducible assumption) ?_ ?_) | go_size)), NMap.made w _⟩
  case round =>
    obtain ⟨k, q, hk, rfl, rfl, hq, ha, hb, hN⟩ := hrel
    obtain ⟨wk, rfl⟩ : ∃ w' : World, w' = wr := ⟨_, rfl⟩
    have hsb := sum_bd (l := l) (k := k) (by rw [← show okI l = okS l from funext (ok_eq l)]; exact ha)
    rw [← hq] at hsb
    obtain ⟨hsb1, hsb2⟩ := hsb
    have HQ := Lib.hid hq; clear hq
    have HA := Lib.hid ha; clear ha
    have hbs := hb.size
    have hNl := hN.lt
    have HM := Lib.hid hN; clear hN
    by_cases hlt : k < n
    · obtain ⟨b1, off, rfl, hbl, hc⟩ := (hr.below hb) (by rw [HN.out]; omega)
      obtain ⟨d, hd⟩ := get_ex l k (by rw [HN.out]; omega)
      obtain ⟨g0, g1, g2, An, cn, g3, g4⟩ := hc k d hd
      have k1 := (ok d (List.mem_of_getElem? hd)).1
      have k2 := HKK.out k d hd
      have HG4 := Lib.hid g4; clear g4
      have hf1 := far (show b1 < wk.heap.size by omega)
      have HG := Lib.hid (getJ_eq hd); clear hd hc
      have p1 : (0 : Int) ≤ (k : Int) := by omega
      have p2 : (k : Int) < (n : Int) := by omega
      go_upto_region 7 with fail
      refine gen_world fun W hW => ?_
      have hbW : Below wk.heap.size wk W := by rw [hW.out]; (repeat' (first | (with_reducible exact Below.refl _ _) | (with_reducible assumption) | (with_reducible refine below_drewN ?_ _) | (with_reducible refine Below.drew ?_) | (with_reducible refine Below.alloc ?_ ?_ _) | (with_reducible refine Below.setCell ?_ ?_ _) | (with_reducible refine via (by with_reducible assumption) ?_ ?_) | go_size))
      have x0 : W.cell? ⟨wk.heap.size, 0, none⟩ = some (.string d.name) := by rw [hW.out]; simp [go_sem]
      have x1 : W.cell? ⟨wk.heap.size, 1, none⟩ = some (.int .i64 d.days) := by rw [hW.out]; simp [go_sem]
      have x2 : W.cell? ⟨wk.heap.size, 2, none⟩ = some (.int .i64 d.cost) := by rw [hW.out]; simp [go_sem]
      have x3 : W.cell? ⟨wk.heap.size, 3, none⟩ = some (.slice An d.needs.length cn) := by rw [hW.out]; simp [go_sem]
      have xl : wk.heap.size < W.heap.size := by rw [hW.out]; simp [go_sem]
      have hMW := HM.out.keep hbW
      have HMW := Lib.hid hMW
      have hlook := hMW.look k1
      clear hW g0 g1 g2 g3 hMW
      obtain ⟨bad, hbad⟩ : ∃ bad : Bool, bad = !(jobB d && newJ l k) := ⟨_, rfl⟩
      have HBAD := Lib.hid (show bad = !((nameB d.name && inB d.days 1 60 && inB d.cost 0 1000000) && !seenB (nmJ l) k d.name) by rw [hbad, newJ_eq, HG.out]; rfl)
      have HBAD0 := Lib.hid hbad; clear hbad
      go_cut [41] (fun v wx => v = .bool bad ∧ W = wx)
      case first =>
        cases h1 : nameB d.name <;> cases h2 : seenB (nmJ l) k d.name <;> cases h3 : inB d.days 1 60 <;> cases h4 : inB d.cost 0 1000000
        all_goals
          go_wp2_with (first | (go_at_call 96; refine (IsName_c d.name _ k1).mono ?_; rintro e w' ⟨rfl, rfl⟩) | (go_at_call 95; refine (between_c _ _ _ _).mono ?_; rintro e w' ⟨rfl, rfl⟩))
          (go_wp2_with fail; refine Met.intro ?_; apply_assumption; (repeat apply Exists.intro); refine ⟨?_, rfl⟩)
          exact ⟨by rw [HBAD.out, h1, h2, h3, h4]; rfl, rfl⟩
      case rest =>
        obtain ⟨rfl, rfl⟩ := hcut
        clear hlook
        cases bad
        · have hok : jobB d = true ∧ newJ l k = true := by
            have h7 := HBAD0.out
            cases h8 : jobB d <;> cases h9 : newJ l k <;> rw [h8, h9] at h7 <;> first | exact ⟨rfl, rfl⟩ | cases h7
          have hdb := hok.1
          unfold jobB at hdb
          simp only [Bool.and_eq_true] at hdb
          have hdb2 := inB_iff.1 hdb.1.2
          obtain ⟨hd1, hd2⟩ := hdb2
          have HOK := Lib.hid hok; clear hok hdb
          have hnm : (nmJ l k).size ≤ maxLen := by unfold nmJ; rw [HG.out]; exact k1
          have HNM := Lib.hid (show Value.string d.name = Value.string (nmJ l k) by unfold nmJ; rw [HG.out])
          go_upto_region 10 with (at_mapUpdate; refine wpList_put _ rfl _ _ _ rfl w.heap.size k (nmJ l) HMW.out (by omega) hnm rfl HNM.out rfl ?_; intro w1 hN1 hg1)
          have hbw1 : Below w.heap.size w w1 := Below.grown (hb.trans (hbW.mono hbs)) hg1 (by omega) (fun q hq => by injection hq with hq; omega)
          have hb1w : ∀ o, w1.cell? ⟨wk.heap.size, o, none⟩ = W.cell? ⟨wk.heap.size, o, none⟩ := fun o => hg1.cell_far ⟨wk.heap.size, o, none⟩ xl (by simp; omega)
          rw [← hb1w] at x0 x1 x2 x3
          have hrn : Rd w1 w.heap.size 1 icell An d.needs := by
            refine Rd.below (Rd.below HG4.out (hbW.mono (by omega))) ⟨hg1.os, hg1.tape, hg1.output, hg1.size, fun i hi => hg1.block i (by omega) (fun e => by injection e with e; omega)⟩
          have hQ2 : q + d.days = sumD l (k + 1) := by show _ = sumD l k + (getJ l k).days; rw [HG.out, ← HQ.out]
          have HQ2 := Lib.hid hQ2; clear hQ2
          have HN1 := Lib.hid hN1; clear hN1
          have hw1s := hg1.size
          clear hg1 hb1w
          obtain ⟨nl, hnl⟩ : ∃ nl, d.needs.length = nl := ⟨_, rfl⟩
          rw [hnl] at x3 k2
          have HNL := Lib.hid hnl
          obtain ⟨nd, hnd⟩ : ∃ nd, d.needs = nd := ⟨_, rfl⟩
          rw [hnd] at hrn
          have HND := Lib.hid hnd
          have HNL2 := Lib.hid (show nd.length = nl by rw [← hnd, hnl])
          clear hnl hnd
          go_wp2_with fail
          go_loop [52] (fun i => ∃ j : Nat, j ≤ nl ∧ i = .int .i64 j ∧ (List.range j).all (risesAt nd 0 ((k : Int) - 1)) = true) (fun i => nl - (intOf i).toNat)
          case atStart => exact ⟨0, Nat.zero_le _, rfl, by simp⟩
          case round =>
            obtain ⟨j, hj, rfl, hja⟩ := hrel
            have HJ := Lib.hid hja; clear hja
            have HNOR := Lib.hid (show ∀ i, i < nl → risesAt nd 0 ((k : Int) - 1) i = false → validI l = false from fun i hi h => validI_no (l := l) (k := k) (by rw [HN.out]; exact hlt) (by unfold okI risesJ; rw [HG.out, HND.out, risesB_no (by rw [HNL2.out]; exact hi) h, Bool.and_false]))
            by_cases hjt : j < nl
            · obtain ⟨b2, off2, rfl, hbl2, hc2⟩ := hrn.ints' (by rw [HNL2.out]; omega)
              obtain ⟨x, hx⟩ := get_ex nd j (by rw [HNL2.out]; omega)
              have e0 := hc2 j x hx
              have HX := Lib.hid (getD_eq hx); clear hx
              have HC2 := Lib.hid hc2; clear hc2
              have p3 : (0 : Int) ≤ (j : Int) := by omega
              have p4 : (j : Int) < (nl : Int) := by omega
              cases h1 : inB x 0 ((k : Int) - 1)
              · have HO := Lib.hid (HNOR.out j hjt (by unfold risesAt; rw [HX.out, h1]; rfl))
                go_wp2_with (go_at_call 95; refine (between_c _ _ _ _).mono ?_; rintro e w' ⟨rfl, rfl⟩)
                go_ret
                exact ⟨ret_bool HO.out.symm, by (repeat' (first | (with_reducible exact Below.refl _ _) | (with_reducible assumption) | (with_reducible refine below_drewN ?_ _) | (with_reducible refine Below.drew ?_) | (with_reducible refine Below.alloc ?_ ?_ _) | (with_reducible refine Below.setCell ?_ ?_ _) | (with_reducible refine via (by with_reducible assumption) ?_ ?_) | go_size))⟩
              · by_cases h0 : j = 0
                · have HS := Lib.hid (all_range_succ _ j HJ.out (show risesAt nd 0 ((k : Int) - 1) j = true by unfold risesAt; rw [HX.out, h1, decide_eq_true h0]; rfl))
                  have q1 : decide (0 < j) = false := by simp [h0]
                  have q2 : ¬ 0 < j := by omega
                  have H0 := Lib.hid h0; clear h0
                  go_wp2_with (go_at_call 95; refine (between_c _ _ _ _).mono ?_; rintro e w' ⟨rfl, rfl⟩)
                  (first | (refine ⟨⟨(by first | trivial | rfl), ?_⟩, ?_⟩; rotate_left; (first | (simp [intOf]; done) | (simp [intOf]; omega)); (repeat apply Exists.intro); refine ⟨?_, rfl⟩; exact ⟨j + 1, by omega, by go_num, HS.out⟩) | exact ⟨⟨j + 1, by omega, by go_num, HS.out⟩, by first | (simp [intOf]; done) | (simp [intOf]; omega)⟩)
                · obtain ⟨y, hy⟩ := get_ex nd (j - 1) (by rw [HNL2.out]; omega)
                  have e1 := HC2.out (j - 1) y hy
                  have HY := Lib.hid (getD_eq hy); clear hy
                  have q1 : decide (0 < j) = true := by simp; omega
                  have q2 : 0 < j := by omega
                  have e2 : ((j : Int) - 1).toNat = j - 1 := by omega
                  have e3 : (0 : Int) ≤ (j : Int) - 1 := by omega
                  have e5 : (j : Int) - 1 < (nl : Int) := by omega
                  have e6 : j - 1 < nl := by omega
                  have e7 : (1 : Int) ≤ (j : Int) := by omega
                  cases h2 : decide (x ≤ y)
                  · have HS := Lib.hid (all_range_succ _ j HJ.out (show risesAt nd 0 ((k : Int) - 1) j = true by unfold risesAt; rw [HX.out, h1, HY.out, decide_eq_false h0]; simp at h2 ⊢; omega))
                    go_wp2_with (go_at_call 95; refine (between_c _ _ _ _).mono ?_; rintro e w' ⟨rfl, rfl⟩)
                    (first | (refine ⟨⟨(by first | trivial | rfl), ?_⟩, ?_⟩; rotate_left; (first | (simp [intOf]; done) | (simp [intOf]; omega)); (repeat apply Exists.intro); refine ⟨?_, rfl⟩; exact ⟨j + 1, by omega, by go_num, HS.out⟩) | exact ⟨⟨j + 1, by omega, by go_num, HS.out⟩, by first | (simp [intOf]; done) | (simp [intOf]; omega)⟩)
                  · have HO := Lib.hid (HNOR.out j hjt (by unfold risesAt; rw [HX.out, h1, HY.out, decide_eq_false h0]; simp at h2 ⊢; omega))
                    go_wp2_with (go_at_call 95; refine (between_c _ _ _ _).mono ?_; rintro e w' ⟨rfl, rfl⟩)
                    go_ret
                    exact ⟨ret_bool HO.out.symm, by (repeat' (first | (with_reducible exact Below.refl _ _) | (with_reducible assumption) | (with_reducible refine below_drewN ?_ _) | (with_reducible refine Below.drew ?_) | (with_reducible refine Below.alloc ?_ ?_ _) | (with_reducible refine Below.setCell ?_ ?_ _) | (with_reducible refine via (by with_reducible assumption) ?_ ?_) | go_size))⟩
            · have hjk : j = nl := by omega
              have HS := Lib.hid (all_range_succ (okI l) k HA.out (by unfold okI risesJ risesB; rw [HG.out, HOK.out.1, HOK.out.2, HND.out, HNL2.out, ← hjk, HJ.out]; rfl))
              clear hjk
              go_wp2_with fail
              (first | (refine ⟨?_, ?_⟩; rotate_left; (first | (simp [intOf]; done) | (simp [intOf]; omega)); (repeat apply Exists.intro); refine ⟨?_, rfl⟩; exact ⟨k + 1, _, by omega, by go_num, rfl, HQ2.out, HS.out, by (repeat' (first | (with_reducible exact Below.refl _ _) | (with_reducible assumption) | (with_reducible refine below_drewN ?_ _) | (with_reducible refine Below.drew ?_) | (with_reducible refine Below.alloc ?_ ?_ _) | (with_reducible refine Below.setCell ?_ ?_ _) | (with_reducible refine via (by with_reducible assumption) ?_ ?_) | go_size)), HN1.out⟩) | exact ⟨⟨k + 1, _, by omega, by go_num, rfl, HQ2.out, HS.out, by (repeat' (first | (with_reducible exact Below.refl _ _) | (with_reducible assumption) | (with_reducible refine below_drewN ?_ _) | (with_reducible refine Below.drew ?_) | (with_reducible refine Below.alloc ?_ ?_ _) | (with_reducible refine Below.setCell ?_ ?_ _) | (with_reducible refine via (by with_reducible assumption) ?_ ?_) | go_size)), HN1.out⟩, by first | (simp [intOf]; done) | (simp [intOf]; omega)⟩)
        · have HO := Lib.hid (validI_no (l := l) (k := k) (by rw [HN.out]; exact hlt) (by
            have h7 := HBAD0.out
            unfold okI
            rw [HG.out]
            cases h8 : jobB d <;> cases h9 : newJ l k <;> rw [h8, h9] at h7 <;> first | rfl | cases h7))
          go_wp2_with fail
          go_ret
          exact ⟨ret_bool HO.out.symm, by (repeat' (first | (with_reducible exact Below.refl _ _) | (with_reducible assumption) | (with_reducible refine below_drewN ?_ _) | (with_reducible refine Below.drew ?_) | (with_reducible refine Below.alloc ?_ ?_ _) | (with_reducible refine Below.setCell ?_ ?_ _) | (with_reducible refine via (by with_reducible assumption) ?_ ?_) | go_size))⟩
    · have hkn : k = n := by omega
      have HO := Lib.hid (show validI l = decide (q ≤ 400) by rw [HV.out, ← hkn, HA.out, HQ.out]; rfl)
      clear hkn
      cases h4 : decide (q ≤ 400)
      all_goals
        go_wp2_with fail
        go_ret
        exact ⟨ret_bool (by rw [HO.out, h4]), hb⟩

theorem l22OkB_c (A : Option Addr) (n c : Nat) (l : List JobD) (w : World) (hn : l.length = n) (hm : n ≤ 1048576) (hr : JRd w w.heap.size A l) (ok : ∀ d ∈ l, okJD d) (hkk : ∀ (i : Nat) (d : JobD), l[i]? = some d → d.needs.length ≤ 1048576) :
    Calls Tryd.prog 72 #[.slice A n c] w fun e w' => e = .returned (.bool (validS l)) ∧ Below w.heap.size w w' := to_below (l22Ok_c A n c l _ w hn hm hr ok hkk)
end Go.Proofs.YtaebofpgdonnbaaDoor
