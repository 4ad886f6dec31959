/- Contracts: what is an inventory, the reference's side. -/
import Derived.Test.YtaebofpgdonnbaaDoorPieces3
set_option linter.unusedVariables false
set_option linter.unusedSimpArgs false
namespace Go.Proofs.YtaebofpgdonnbaaDoor
open Go.RowKit

set_option maxRecDepth 100000 in
set_option maxHeartbeats 4000000 in
theorem l21Ok_c (A : Option Addr) (n c : Nat) (l : List PieceD) (B : Nat) (w : World) (hn : l.length = n) (hm : n ≤ 1048576) (hr : Rd w B 4 pcell A l) (hs : sizesP l) :
    Calls Tryd.prog 59 #[.slice A n c] w fun e w' => e = .returned (.bool (validS l)) ∧ ∃ m, w' = w.drewN m := by
  have HN := Lib.hid hn; clear hn
  cases hin : inB (n : Int) 1 40
  · have HF := Lib.hid (show validS l = false by unfold validS; rw [HN.out, hin]; rfl)
    go_enter Tryd.func59, Tryd.ntmps59
    go_wp2_with (go_at_call 86; refine (l00In_c _ _ _ _).mono ?_; rintro e w' ⟨rfl, rfl⟩)
    go_ret
    exact ⟨ret_bool HF.out.symm, 0, rfl⟩
  have h40 := inB_iff.1 hin
  obtain ⟨h1n, h40⟩ := h40
  have HIN := Lib.hid hin
  go_enter Tryd.func59, Tryd.ntmps59
  go_wp2_with (go_at_call 86; refine (l00In_c _ _ _ _).mono ?_; rintro e w' ⟨rfl, rfl⟩)
  clear hin
  go_loopw [3] (fun i wr => ∃ k : Nat, k ≤ n ∧ i = .int .i64 k ∧ (List.range k).all (okS l) = true ∧ ∃ m, wr = w.drewN m) (fun i _ => n - (intOf i).toNat)
  case atStart => exact ⟨0, Nat.zero_le _, rfl, by simp, 0, rfl⟩
  case round =>
    obtain ⟨k, hk, rfl, ha, m, hw⟩ := hrel
    obtain ⟨wk, rfl⟩ : ∃ w' : World, w' = wr := ⟨_, rfl⟩
    have HA := Lib.hid ha; clear ha
    have hrw : Rd wk B 4 pcell A l := by rw [hw]; exact hr
    have HW := Lib.hid hw; clear hw
    by_cases hlt : k < n
    · obtain ⟨b1, off, rfl, _, hc⟩ := hrw.piece (by rw [HN.out]; omega)
      obtain ⟨d, hd⟩ := get_ex l k (by rw [HN.out]; omega)
      obtain ⟨g0, g1, g2, g3⟩ := hc k d hd
      have k1 := hs d (List.mem_of_getElem? hd)
      have HG := Lib.hid (getP_eq hd)
      have HC := Lib.hid hc; clear hd hc
      have p1 : (0 : Int) ≤ (k : Int) := by omega
      have p2 : (k : Int) < (n : Int) := by omega
      go_upto_region 7 with fail
      obtain ⟨bad, hbad⟩ : ∃ bad : Bool, bad = !(pieceB d) := ⟨_, rfl⟩
      have HBAD := Lib.hid hbad; clear hbad
      go_cut [40] (fun v wx => v = .bool bad ∧ wk = wx)
      case first =>
        cases h1 : nameB d.name <;> cases h3 : inB d.each 1 100 <;> cases h4 : inB d.price 0 1000000
        all_goals
          go_wp2_with (first | (go_at_call 84; refine (IsNameS_c d.name _ k1).mono ?_; rintro e w' ⟨rfl, rfl⟩) | (go_at_call 86; refine (l00In_c _ _ _ _).mono ?_; rintro e w' ⟨rfl, rfl⟩))
          (go_wp2_with fail; refine Met.intro ?_; apply_assumption; (repeat apply Exists.intro); refine ⟨?_, rfl⟩)
          exact ⟨by rw [HBAD.out]; unfold pieceB; rw [h1, h3, h4]; rfl, rfl⟩
      case rest =>
        obtain ⟨rfl, rfl⟩ := hcut
        cases bad
        · have hok : pieceB d = true := by
            have h7 := HBAD.out
            cases h8 : pieceB d
            · rw [h8] at h7; cases h7
            · rfl
          have HSt := Lib.hid (St_of_okS HA.out)
          have HOK1 := Lib.hid hok; clear hok
          go_upto_region 9 with fail
          obtain ⟨bad, hbad⟩ : ∃ bad : Bool, bad = !(parB k d.parent && decide (TI l k ≤ 1000000)) := ⟨_, rfl⟩
          have HBAD2 := Lib.hid hbad; clear hbad
          go_cut [69] (fun v wx => v = .bool bad ∧ wk = wx)
          case first =>
            by_cases h0 : k = 0
            · have q0 : ((k : Int) == 0) = true := by simpa using h0
              have q1 : decide (0 < k) = false := by simp [h0]
              cases h5 : (d.parent == -1)
              · have HB := Lib.hid (show bad = true by rw [HBAD2.out]; unfold parB; rw [if_pos h0, h5]; rfl)
                have h5' : (d.parent != -1) = true := by unfold bne; rw [h5]; rfl
                have H0 := Lib.hid h0; clear h0
                go_wp2_with (go_at_call 86; refine (l00In_c _ _ _ _).mono ?_; rintro e w' ⟨rfl, rfl⟩)
                (go_wp2_with fail; refine Met.intro ?_; apply_assumption; (repeat apply Exists.intro); refine ⟨?_, rfl⟩)
                exact ⟨by rw [HB.out], rfl⟩
              · have hpar : parB k d.parent = true := by unfold parB; rw [if_pos h0, h5]
                have HS1 := Lib.hid (St_succ HSt.out (by rw [HG.out]; exact HOK1.out) (by rw [HG.out]; exact hpar))
                have HB := Lib.hid (show bad = !decide (TI l k ≤ 1000000) by rw [HBAD2.out, hpar]; rfl); clear hpar
                have h5' : (d.parent != -1) = false := by unfold bne; rw [h5]; rfl
                have H0 := Lib.hid h0; clear h0
                go_wp2_with (go_at_call 86; refine (l00In_c _ _ _ _).mono ?_; rintro e w' ⟨rfl, rfl⟩)
                refine (l21Total_c _ n c l (k + 1) (k : Int) B wk HN.out hm hrw HS1.out (by omega) (by omega) (by omega)).mono ?_
                rintro e w' ⟨r, rfl, hP, r1, r2, rfl⟩
                have hPi := PT_iff hP
                have HP := Lib.hid hPi; clear hPi hP
                cases h1 : decide (1000000 < r)
                all_goals
                  go_wp2_with fail
                  (go_wp2_with fail; refine Met.intro ?_; apply_assumption; (repeat apply Exists.intro); refine ⟨?_, rfl⟩)
                  exact ⟨by rw [HB.out]; have := HP.out; simp at h1 ⊢; omega, rfl⟩
            · have q0 : ((k : Int) == 0) = false := by simpa using h0
              have q1 : decide (0 < k) = true := by simp; omega
              have q2 : 0 < k := by omega
              cases h6 : inB d.parent 0 ((k : Int) - 1)
              · have HB := Lib.hid (show bad = true by rw [HBAD2.out]; unfold parB; rw [if_neg h0, h6]; rfl)
                go_wp2_with (go_at_call 86; refine (l00In_c _ _ _ _).mono ?_; rintro e w' ⟨rfl, rfl⟩)
                (go_wp2_with fail; refine Met.intro ?_; apply_assumption; (repeat apply Exists.intro); refine ⟨?_, rfl⟩)
                exact ⟨by rw [HB.out], rfl⟩
              · have hpar : parB k d.parent = true := by unfold parB; rw [if_neg h0, h6]
                have HS1 := Lib.hid (St_succ HSt.out (by rw [HG.out]; exact HOK1.out) (by rw [HG.out]; exact hpar))
                have HB := Lib.hid (show bad = !decide (TI l k ≤ 1000000) by rw [HBAD2.out, hpar]; rfl); clear hpar
                go_wp2_with (go_at_call 86; refine (l00In_c _ _ _ _).mono ?_; rintro e w' ⟨rfl, rfl⟩)
                refine (l21Total_c _ n c l (k + 1) (k : Int) B wk HN.out hm hrw HS1.out (by omega) (by omega) (by omega)).mono ?_
                rintro e w' ⟨r, rfl, hP, r1, r2, rfl⟩
                have hPi := PT_iff hP
                have HP := Lib.hid hPi; clear hPi hP
                cases h1 : decide (1000000 < r)
                all_goals
                  go_wp2_with fail
                  (go_wp2_with fail; refine Met.intro ?_; apply_assumption; (repeat apply Exists.intro); refine ⟨?_, rfl⟩)
                  exact ⟨by rw [HB.out]; have := HP.out; simp at h1 ⊢; omega, rfl⟩
          case rest =>
            obtain ⟨rfl, rfl⟩ := hcut
            cases bad
            · have HPT := Lib.hid (show (parB k d.parent && decide (TI l k ≤ 1000000)) = true by
                have h7 := HBAD2.out
                cases h8 : (parB k d.parent && decide (TI l k ≤ 1000000))
                · rw [h8] at h7; cases h7
                · rfl)
              go_wp2_with fail
              obtain ⟨wo, rfl⟩ : ∃ wo : World, wo = wk := ⟨_, rfl⟩
              go_loopw [5] (fun i wi => ∃ j : Nat, j ≤ k ∧ i = .int .i64 j ∧ (List.range j).all (fun q => !((getP l q).name.toList == (getP l k).name.toList)) = true ∧ ∃ m2, wi = wo.drewN m2) (fun i _ => k - (intOf i).toNat)
              case atStart => exact ⟨0, Nat.zero_le _, rfl, by simp, 0, rfl⟩
              case round =>
                obtain ⟨j, hj, rfl, hja, m2, hw2⟩ := hrel
                have HJ := Lib.hid hja; clear hja
                have HW2 := Lib.hid hw2
                by_cases hjt : j < k
                · obtain ⟨d1, ed1⟩ := get_ex l j (by rw [HN.out]; omega)
                  obtain ⟨m0, _, _, _⟩ := HC.out j d1 ed1
                  have m0' : wr.cell? ⟨b1, off + j * 4, none⟩ = some (.string d1.name) := by rw [hw2]; exact m0
                  have g0' : wr.cell? ⟨b1, off + k * 4, none⟩ = some (.string d.name) := by rw [hw2]; exact g0
                  have HG1 := Lib.hid (getP_eq ed1)
                  clear ed1 m0 hw2
                  have p3 : (0 : Int) ≤ (j : Int) := by omega
                  have p4 : (j : Int) < (n : Int) := by omega
                  have p5 : (j : Int) < (k : Int) := by omega
                  cases h3 : (d1.name.toList == d.name.toList)
                  · go_wp2_with fail
                    go_quiet (fail)
                    go_wp2_with fail
                    have HS := Lib.hid (all_range_succ _ _ HJ.out (show (!((getP l j).name.toList == (getP l k).name.toList)) = true by rw [HG1.out, HG.out, h3]; rfl))
                    (first | (refine ⟨?_, ?_⟩; rotate_left; (first | (simp [intOf]; done) | (simp [intOf]; omega)); (repeat apply Exists.intro); refine ⟨?_, rfl⟩; exact ⟨j + 1, by omega, by go_num, HS.out, m2 + nq, by rw [HW2.out, World.drewN_drewN]⟩) | exact ⟨⟨j + 1, by omega, by go_num, HS.out, m2 + nq, by rw [HW2.out, World.drewN_drewN]⟩, by first | (simp [intOf]; done) | (simp [intOf]; omega)⟩)
                  · have HO := Lib.hid (validS_no (l := l) (k := k) (by rw [HN.out]; exact hlt) (by unfold okS newB; rw [all_range_no _ k j hjt (by rw [HG1.out, HG.out, h3]; rfl), Bool.and_false]))
                    go_wp2_with fail
                    go_quiet (fail)
                    go_wp2_with fail
                    go_ret
                    exact ⟨ret_bool HO.out.symm, m + (m2 + nq), by rw [HW2.out, HW.out, World.drewN_drewN, World.drewN_drewN]⟩
                · have hjk : j = k := by omega
                  have p5 : ¬ (j : Int) < (k : Int) := by omega
                  have HS := Lib.hid (all_range_succ (okS l) k HA.out (by have h6 := HJ.out; rw [hjk] at h6; unfold okS newB; rw [h6, HG.out, HOK1.out, HPT.out]; rfl))
                  clear hjk hw2
                  go_wp2_with fail
                  (first | (refine ⟨?_, ?_⟩; rotate_left; (first | (simp [intOf]; done) | (simp [intOf]; omega)); (repeat apply Exists.intro); refine ⟨?_, rfl⟩; exact ⟨k + 1, by omega, by go_num, HS.out, m + m2, by rw [HW2.out, HW.out, World.drewN_drewN]⟩) | exact ⟨⟨k + 1, by omega, by go_num, HS.out, m + m2, by rw [HW2.out, HW.out, World.drewN_drewN]⟩, by first | (simp [intOf]; done) | (simp [intOf]; omega)⟩)
            · have HO := Lib.hid (validS_no (l := l) (k := k) (by rw [HN.out]; exact hlt) (by
                have h7 := HBAD2.out
                unfold okS
                rw [HG.out]
                cases h8 : (parB k d.parent && decide (TI l k ≤ 1000000))
                · simp
                · rw [h8] at h7; cases h7))
              go_wp2_with fail
              go_ret
              exact ⟨ret_bool HO.out.symm, m, HW.out⟩
        · have HO := Lib.hid (validS_no (l := l) (k := k) (by rw [HN.out]; exact hlt) (by
            have h7 := HBAD.out
            unfold okS
            rw [HG.out]
            cases h8 : pieceB d
            · rfl
            · rw [h8] at h7; cases h7))
          go_wp2_with fail
          go_ret
          exact ⟨ret_bool HO.out.symm, m, HW.out⟩
    · have hkn : k = n := by omega
      have HO := Lib.hid (show validS l = true by unfold validS; rw [HN.out, HIN.out, ← hkn, HA.out]; rfl)
      clear hkn
      go_wp2_with fail
      go_ret
      exact ⟨ret_bool HO.out.symm, m, HW.out⟩

theorem l21OkB_c (A : Option Addr) (n c : Nat) (l : List PieceD) (w : World) (hn : l.length = n) (hm : n ≤ 1048576) (hr : Rd w w.heap.size 4 pcell A l) (ok : ∀ d ∈ l, okP d) :
    Calls Tryd.prog 59 #[.slice A n c] w fun e w' => e = .returned (.bool (validS l)) ∧ Below w.heap.size w w' := to_below (l21Ok_c A n c l _ w hn hm hr (sizesP_of ok))

end Go.Proofs.YtaebofpgdonnbaaDoor
