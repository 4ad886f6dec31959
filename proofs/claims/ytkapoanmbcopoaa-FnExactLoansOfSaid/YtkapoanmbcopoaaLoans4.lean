/- Contracts: ValidLoans, both sides. -/
import Derived.Test.YtkapoanmbcopoaaLoans3
import Derived.Deep.DeepCutAuto
import Derived.Test.YtkapoanmbcopoaaHush
set_option linter.unusedVariables false
set_option linter.unusedSimpArgs false
namespace Go.Proofs.Ytkapoanmbcopoaa
open Go.RowKit

theorem sizesOk_of {l : List LoanD} (h : ∀ d ∈ l, okL d) : sizesOk l := fun d hd => ⟨(h d hd).1, (h d hd).2.1⟩

set_option maxHeartbeats 4000000 in
theorem ValidLoansI_c (A : Option Addr) (n c : Nat) (l : List LoanD) (w : World) (hn : l.length = n) (hm : n ≤ 1048576) (hcap : n ≤ c) (hr : Rd w w.heap.size 4 lcell A l) (ok : ∀ d ∈ l, okL d) :
    Calls Try.prog 23 #[.slice A n c] w fun e w' => e = .returned (.bool (validS l)) ∧ Below w.heap.size w w' := by
  rw [← valid_eq]
  have hs := sizesOk_of ok
  have HN := Lib.hid hn; clear hn
  go_enter Try.func23, Try.ntmps23
  go_wp2_with fail
  go_loopw [9] (fun i wr => ∃ k : Nat, k ≤ n ∧ i = .int .i64 k ∧ (List.range k).all (okI l) = true ∧ Below w.heap.size w wr) (fun i _ => n - (intOf i).toNat)
  case atStart => exact ⟨0, Nat.zero_le _, rfl, by simp, Below.refl _ _⟩
  case round =>
    obtain ⟨k, hk, rfl, ha, hb⟩ := hrel
    obtain ⟨wk, rfl⟩ : ∃ w' : World, w' = wr := ⟨_, rfl⟩
    have HA := Lib.hid ha; clear ha
    have hbs := hb.size
    by_cases hlt : k < n
    · have hrk := hr.below hb
      obtain ⟨b1, off, rfl, hbl, hc⟩ := hrk.loan (by rw [HN.out]; omega)
      obtain ⟨d, hd⟩ := get_ex l k (by rw [HN.out]; omega)
      obtain ⟨g0, g1, g2, g3⟩ := hc k d hd
      obtain ⟨k1, k2⟩ := hs d (List.mem_of_getElem? hd)
      have hf1 := far (show b1 < wk.heap.size by omega)
      have HG := Lib.hid (getL_eq hd)
      have HC := Lib.hid hc; clear hc hd
      go_upto_region 4 with fail
      refine gen_world fun W hW => ?_
      have hbW : Below wk.heap.size wk W := by rw [hW.out]; (repeat' (first | (with_reducible exact Below.refl _ _) | (with_reducible assumption) | (with_reducible refine below_drewN ?_ _) | (with_reducible refine Below.drew ?_) | (with_reducible refine Below.alloc ?_ ?_ _) | (with_reducible refine Below.setCell ?_ ?_ _) | (with_reducible refine via (by with_reducible assumption) ?_ ?_) | go_size))
      have x0 : W.cell? ⟨wk.heap.size, 0, none⟩ = some (.string d.ex) := by rw [hW.out]; simp [go_sem]
      have x1 : W.cell? ⟨wk.heap.size, 1, none⟩ = some (.string d.bo) := by rw [hW.out]; simp [go_sem]
      have x2 : W.cell? ⟨wk.heap.size, 2, none⟩ = some (.int .i64 d.fr) := by rw [hW.out]; simp [go_sem]
      have x3 : W.cell? ⟨wk.heap.size, 3, none⟩ = some (.int .i64 d.to) := by rw [hW.out]; simp [go_sem]
      have xl := far (show wk.heap.size < W.heap.size by rw [hW.out]; simp [go_sem])
      clear hW g0 g1 g2 g3
      have bad : ∃ bad : Bool, bad = !(loanB d && (k == 0 || !aheadB d (getL l (k - 1)))) := ⟨_, rfl⟩
      obtain ⟨bad, hbad⟩ := bad
      have HBAD := Lib.hid hbad; clear hbad
      have p1 : (0 : Int) ≤ (k : Int) := by omega
      have p2 : (k : Int) < (n : Int) := by omega
      go_cut [29] (fun v wx => v = .bool bad ∧ Below W.heap.size W wx)
      case first =>
        cases h1 : loanB d
        · have hb1 : bad = true := by rw [HBAD.out, h1]; rfl
          (refine wp_region_quiet_below (by kernel_rfl) (by kernel_rfl) ?_; (repeat (go_big_quiet_step (first | ((go_at_call 47; exact rg_of (fun w' hb => retb (validLoan_c d w' k1 k2) h1)))))); refine wpQuiet_nil ?_; refine qg_end ?_; intro wq hbq)
          (go_wp2_with fail; refine Met.intro ?_; apply_assumption; (repeat apply Exists.intro); refine ⟨?_, rfl⟩)
          exact ⟨by rw [hb1], by (repeat' (first | (with_reducible exact Below.refl _ _) | (with_reducible assumption) | (with_reducible refine below_drewN ?_ _) | (with_reducible refine Below.drew ?_) | (with_reducible refine Below.alloc ?_ ?_ _) | (with_reducible refine Below.setCell ?_ ?_ _) | (with_reducible refine via (by with_reducible assumption) ?_ ?_) | go_size))⟩
        · by_cases h0 : k = 0
          · have hb1 : bad = false := by rw [HBAD.out, h1]; simp [h0]
            have q1 : decide (0 < k) = false := by simp [h0]
            have H0 := Lib.hid h0; clear h0
            (refine wp_region_quiet_below (by kernel_rfl) (by kernel_rfl) ?_; (repeat (go_big_quiet_step (first | ((go_at_call 47; exact rg_of (fun w' hb => retb (validLoan_c d w' k1 k2) h1)))))); refine wpQuiet_nil ?_; refine qg_end ?_; intro wq hbq)
            (go_wp2_with fail; refine Met.intro ?_; apply_assumption; (repeat apply Exists.intro); refine ⟨?_, rfl⟩)
            exact ⟨by rw [hb1], by (repeat' (first | (with_reducible exact Below.refl _ _) | (with_reducible assumption) | (with_reducible refine below_drewN ?_ _) | (with_reducible refine Below.drew ?_) | (with_reducible refine Below.alloc ?_ ?_ _) | (with_reducible refine Below.setCell ?_ ?_ _) | (with_reducible refine via (by with_reducible assumption) ?_ ?_) | go_size))⟩
          · obtain ⟨pd, epd⟩ := get_ex l (k - 1) (by rw [HN.out]; omega)
            have hbk : b1 < W.heap.size := by omega
            obtain ⟨g0, g1, g2, g3⟩ := HC.out _ _ epd
            rw [← hbW.cell (p := ⟨b1, off + (k - 1) * 4, none⟩) (by simp; omega)] at g0
            rw [← hbW.cell (p := ⟨b1, off + (k - 1) * 4 + 1, none⟩) (by simp; omega)] at g1
            rw [← hbW.cell (p := ⟨b1, off + (k - 1) * 4 + 2, none⟩) (by simp; omega)] at g2
            rw [← hbW.cell (p := ⟨b1, off + (k - 1) * 4 + 3, none⟩) (by simp; omega)] at g3
            have HGp := Lib.hid (getL_eq epd)
            clear epd
            have q1 : 0 < k := by omega
            have e1 : IntKind.i64.wrap ((k : Int) - 1) = (k : Int) - 1 := IntWalk.i64_in _ (by omega)
            have e2 : ((k : Int) - 1).toNat = k - 1 := by omega
            have e3 : (0 : Int) ≤ (k : Int) - 1 := by omega
            have e4 : (1 : Int) ≤ (k : Int) := by omega
            have e5 : (k : Int) - 1 < (n : Int) := by omega
            have e6 : k - 1 < n := by omega
            have hb1 : bad = aheadB d pd := by rw [HBAD.out, h1, HGp.out]; simp [h0]
            have H0 := Lib.hid h0; clear h0
            have HB1 := Lib.hid hb1; clear hb1
            cases h2 : aheadB d pd
            all_goals
              (refine wp_region_quiet_below (by kernel_rfl) (by kernel_rfl) ?_; (repeat (go_big_quiet_step (first | ((go_at_call 47; exact rg_of (fun w' hb => retb (validLoan_c d w' k1 k2) h1))) | ((go_at_call 48; exact rg_of (fun w' hb => retb (ahead_c d pd w') h2)))))); refine wpQuiet_nil ?_; refine qg_end ?_; intro wq hbq)
              clear e1 e2 e3 e4 e5 e6
              (go_wp2_with fail; refine Met.intro ?_; apply_assumption; (repeat apply Exists.intro); refine ⟨?_, rfl⟩)
              exact ⟨by rw [HB1.out, h2], by (repeat' (first | (with_reducible exact Below.refl _ _) | (with_reducible assumption) | (with_reducible refine below_drewN ?_ _) | (with_reducible refine Below.drew ?_) | (with_reducible refine Below.alloc ?_ ?_ _) | (with_reducible refine Below.setCell ?_ ?_ _) | (with_reducible refine via (by with_reducible assumption) ?_ ?_) | go_size))⟩
      case rest =>
        obtain ⟨wd, rfl⟩ : ∃ w' : World, w' = wc := ⟨_, rfl⟩
        obtain ⟨rfl, hbc⟩ := hcut
        have hbwd := hbc.size
        have hbV : Below w.heap.size w wd := by (repeat' (first | (with_reducible exact Below.refl _ _) | (with_reducible assumption) | (with_reducible refine below_drewN ?_ _) | (with_reducible refine Below.drew ?_) | (with_reducible refine Below.alloc ?_ ?_ _) | (with_reducible refine Below.setCell ?_ ?_ _) | (with_reducible refine via (by with_reducible assumption) ?_ ?_) | go_size))
        cases bad
        · have HB := Lib.hid (show okI l k = ((List.range k).all fun q => !clashB (getL l k) (getL l q)) by
            have h7 := HBAD.out
            unfold okI
            rw [HG.out]
            cases h8 : (loanB d && (k == 0 || !aheadB d (getL l (k - 1))))
            · rw [h8] at h7; cases h7
            · rfl)
          go_wp2_with fail
          obtain ⟨wo, rfl⟩ : ∃ wo : World, wo = wd := ⟨_, rfl⟩
          have y0 : wo.cell? ⟨wk.heap.size, 0, none⟩ = some (.string d.ex) := by rw [hbc.cell (by exact xl.1)]; exact x0
          have y1 : wo.cell? ⟨wk.heap.size, 1, none⟩ = some (.string d.bo) := by rw [hbc.cell (by exact xl.1)]; exact x1
          have y2 : wo.cell? ⟨wk.heap.size, 2, none⟩ = some (.int .i64 d.fr) := by rw [hbc.cell (by exact xl.1)]; exact x2
          have y3 : wo.cell? ⟨wk.heap.size, 3, none⟩ = some (.int .i64 d.to) := by rw [hbc.cell (by exact xl.1)]; exact x3
          have hlo : wk.heap.size < wo.heap.size := by omega
          clear x0 x1 x2 x3 xl
          have hro : Rd wo w.heap.size 4 lcell (some ⟨b1, off, none⟩) l := hr.below hbV
          go_loopw [34] (fun i wi => ∃ j : Nat, j ≤ k ∧ i = .int .i64 j ∧ (List.range j).all (fun q => !clashB (getL l k) (getL l q)) = true ∧ Below wo.heap.size wo wi) (fun i _ => k - (intOf i).toNat)
          case atStart => exact ⟨0, Nat.zero_le _, rfl, by simp, Below.refl _ _⟩
          case round =>
            obtain ⟨j, hj, rfl, hja, hbi⟩ := hrel
            have HJ := Lib.hid hja; clear hja
            have hbis := hbi.size
            by_cases hjt : j < k
            · obtain ⟨b2, off2, e1, _, hc1⟩ := (hro.below (hbi.mono hbV.size)).loan (by rw [HN.out]; omega)
              obtain ⟨rfl, rfl⟩ : b2 = b1 ∧ off2 = off := by cases e1; exact ⟨rfl, rfl⟩
              clear e1
              obtain ⟨d1, ed1⟩ := get_ex l j (by rw [HN.out]; omega)
              obtain ⟨m0, m1, m2, m3⟩ := hc1 _ _ ed1
              have HG1 := Lib.hid (getL_eq ed1)
              clear hc1 ed1
              rw [← hbi.cell (by exact hlo)] at y0 y1 y2 y3
              have hlf := far (show wk.heap.size < wr.heap.size by omega)
              have hbf := far (show b2 < wr.heap.size by omega)
              have p3 : (0 : Int) ≤ (j : Int) := by omega
              have p4 : (j : Int) < (n : Int) := by omega
              have p5 : (j : Int) < (k : Int) := by omega
              go_wp2_with fail
              refine (clashes_c d d1 _).mono ?_
              rintro e w3 ⟨rfl, hb3⟩
              cases h3 : clashB d d1
              · go_wp2_with fail
                have HS := Lib.hid (all_range_succ _ _ HJ.out (show (!clashB (getL l k) (getL l j)) = true by rw [HG1.out, HG.out, h3]; rfl))
                (first | (refine ⟨?_, ?_⟩; rotate_left; (simp [intOf]; omega); (repeat apply Exists.intro); refine ⟨?_, rfl⟩; exact ⟨j + 1, by omega, by go_num, HS.out, by (repeat' (first | (with_reducible exact Below.refl _ _) | (with_reducible assumption) | (with_reducible refine below_drewN ?_ _) | (with_reducible refine Below.drew ?_) | (with_reducible refine Below.alloc ?_ ?_ _) | (with_reducible refine Below.setCell ?_ ?_ _) | (with_reducible refine via (by with_reducible assumption) ?_ ?_) | go_size))⟩) | exact ⟨⟨j + 1, by omega, by go_num, HS.out, by (repeat' (first | (with_reducible exact Below.refl _ _) | (with_reducible assumption) | (with_reducible refine below_drewN ?_ _) | (with_reducible refine Below.drew ?_) | (with_reducible refine Below.alloc ?_ ?_ _) | (with_reducible refine Below.setCell ?_ ?_ _) | (with_reducible refine via (by with_reducible assumption) ?_ ?_) | go_size))⟩, by simp [intOf]; omega⟩)
              · have HO := Lib.hid (validI_no l k (by rw [HN.out]; exact hlt) (by rw [HB.out, all_range_no _ k j hjt (by rw [HG1.out, HG.out, h3]; rfl)]))
                go_wp2_with fail
                go_ret
                exact ⟨ret_bool HO.out.symm, by (repeat' (first | (with_reducible exact Below.refl _ _) | (with_reducible assumption) | (with_reducible refine below_drewN ?_ _) | (with_reducible refine Below.drew ?_) | (with_reducible refine Below.alloc ?_ ?_ _) | (with_reducible refine Below.setCell ?_ ?_ _) | (with_reducible refine via (by with_reducible assumption) ?_ ?_) | go_size))⟩
            · have hjk : j = k := by omega
              have p5 : ¬ (j : Int) < (k : Int) := by omega
              have HS := Lib.hid (all_range_succ (okI l) k HA.out (by rw [HB.out]; have h6 := HJ.out; rw [hjk] at h6; exact h6))
              clear hjk
              go_wp2_with fail
              (first | (refine ⟨?_, ?_⟩; rotate_left; (simp [intOf]; omega); (repeat apply Exists.intro); refine ⟨?_, rfl⟩; exact ⟨k + 1, by omega, by go_num, HS.out, by (repeat' (first | (with_reducible exact Below.refl _ _) | (with_reducible assumption) | (with_reducible refine below_drewN ?_ _) | (with_reducible refine Below.drew ?_) | (with_reducible refine Below.alloc ?_ ?_ _) | (with_reducible refine Below.setCell ?_ ?_ _) | (with_reducible refine via (by with_reducible assumption) ?_ ?_) | go_size))⟩) | exact ⟨⟨k + 1, by omega, by go_num, HS.out, by (repeat' (first | (with_reducible exact Below.refl _ _) | (with_reducible assumption) | (with_reducible refine below_drewN ?_ _) | (with_reducible refine Below.drew ?_) | (with_reducible refine Below.alloc ?_ ?_ _) | (with_reducible refine Below.setCell ?_ ?_ _) | (with_reducible refine via (by with_reducible assumption) ?_ ?_) | go_size))⟩, by simp [intOf]; omega⟩)
        · have HO := Lib.hid (validI_no l k (by rw [HN.out]; exact hlt) (by
            have h7 := HBAD.out
            unfold okI
            rw [HG.out]
            cases h8 : (loanB d && (k == 0 || !aheadB d (getL l (k - 1))))
            · rfl
            · rw [h8] at h7; cases h7))
          go_wp2_with fail
          go_ret
          exact ⟨ret_bool HO.out.symm, by (repeat' (first | (with_reducible exact Below.refl _ _) | (with_reducible assumption) | (with_reducible refine below_drewN ?_ _) | (with_reducible refine Below.drew ?_) | (with_reducible refine Below.alloc ?_ ?_ _) | (with_reducible refine Below.setCell ?_ ?_ _) | (with_reducible refine via (by with_reducible assumption) ?_ ?_) | go_size))⟩
    · have hkn : k = n := by omega
      have hfin : validI l = decide (n ≤ 60) := by
        have h1 := HA.out
        rw [hkn] at h1
        unfold validI
        rw [HN.out, h1]; rfl
      have HF := Lib.hid hfin; clear hfin
      by_cases h60 : n ≤ 60
      · go_wp2_with fail
        go_ret
        exact ⟨ret_bool (by rw [HF.out]; simp; omega), hb⟩
      · go_wp2_with fail
        go_ret
        exact ⟨ret_bool (by rw [HF.out]; simp; omega), hb⟩

end Go.Proofs.Ytkapoanmbcopoaa
