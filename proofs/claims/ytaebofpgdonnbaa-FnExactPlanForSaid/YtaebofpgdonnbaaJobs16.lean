/- Contracts: PlanFor of the program. -/
import Derived.Test.YtaebofpgdonnbaaJobs15
import Derived.Lib.MinMax
import Derived.Deep.DeepCutAuto
set_option linter.unusedVariables false
set_option linter.unusedSimpArgs false
namespace Go.Proofs.Ytaebofpgdonnbaa
open Go.RowKit

theorem make_runJ (n : Nat) (hn : n ≤ 1048576) : ∃ mk : World → World, ∀ W : World, Sem.run Try.prog (Instr.makeSlice 24 (.int .i64 (n : Int)) (.int .i64 (n : Int))) W = .ok (.slice (some ⟨W.heap.size, 0, none⟩) n n) (mk W) ∧
    (mk W).ownsRow W.heap.size 2 1 (.slice (some ⟨W.heap.size, 0, none⟩) n n) n (fi n (fun _ => 0)) ∧ Below W.heap.size W (mk W) := by
  obtain ⟨ii, hii, hzi0, hzi1, hzi2⟩ := info_parts info_i64
  have key : ∀ W : World, ∃ W' : World, Sem.run Try.prog (Instr.makeSlice 24 (.int .i64 (n : Int)) (.int .i64 (n : Int))) W = .ok (.slice (some ⟨W.heap.size, 0, none⟩) n n) W' ∧
      W'.ownsRow W.heap.size 2 1 (.slice (some ⟨W.heap.size, 0, none⟩) n n) n (fi n (fun _ => 0)) ∧ Below W.heap.size W W' := fun W => by
    obtain ⟨W', h1, h2, h3⟩ := run_make_full (P := Try.prog) W W.heap.size 24 2 ii _ 1 Try.underlying24 hii hzi0 hzi1 .i64 .i64 n (by rw [hzi2]; omega) (by unfold maxLen; omega) (Nat.le_refl _)
    rw [fi_made] at h2
    exact ⟨W', h1, h2, (Below.refl _ _).grown h3 (Nat.le_refl _) (fun k hk => by cases hk)⟩
  exact Classical.axiomOfChoice key
theorem fi_start (n : Nat) : fi n (fun _ => -1) = (start0 n).map (Value.int .i64) := by
  unfold fi fl start0
  rw [List.map_replicate]
  apply List.ext_getElem?
  intro i
  rw [List.getElem?_map, List.getElem?_replicate]
  by_cases h : i < n
  · rw [List.getElem?_range h, if_pos h]; rfl
  · rw [if_neg h, List.getElem?_eq_none (by rw [List.length_range]; omega)]; rfl
/-- what the call has made: the row of starts, the row of latest days -/
def TwoInts (W : World) (n : Nat) (ls : List Int) (a b : Value) (wx : World) : Prop := ∃ g : Nat, a = .slice (some ⟨g, 0, none⟩) n n ∧ W.heap.size ≤ g ∧ wx.ownsRow W.heap.size 2 1 a n (fi n fun _ => 0) ∧ wx.ownsRow W.heap.size 2 1 b n (ls.map (Value.int .i64)) ∧
  (∀ q, b.ownBlock = some q → q ≠ g) ∧ Below W.heap.size W wx

set_option maxRecDepth 100000 in
set_option maxHeartbeats 8000000 in
theorem PlanForI_c (A : Option Addr) (n c : Nat) (l : List JobD) (m : Int) (w : World) (hn : l.length = n) (hm : n ≤ 1048576) (hr : JRd w w.heap.size A l) (ok : ∀ d ∈ l, okJD d) (hkk : ∀ (i : Nat) (d : JobD), l[i]? = some d → d.needs.length ≤ 1048576) :
    Calls Try.prog 8 #[.slice A n c, .int .i64 m] w fun e w' => ∃ v, e = .returned (.tuple #[v, .int .i64 (pforR l m).2.1, .int .i64 (pforR l m).2.2]) ∧ w'.ownsRow w.heap.size 2 1 v (pforR l m).1.length ((pforR l m).1.map (Value.int .i64)) ∧ Below w.heap.size w w' := by
  have HN := Lib.hid hn; clear hn
  have HKK := Lib.hid hkk; clear hkk
  cases hv : validS l
  · have HR := Lib.hid (show pforR l m = ([], 0, 1) by unfold pforR; rw [hv]; rfl)
    go_enter Try.func8, Try.ntmps8
    go_wp2_with fail
    refine (retb (ValidJobsI_c A n c l _ HN.out hm hr ok HKK.out) hv).mono ?_
    rintro e w1 ⟨rfl, hb1⟩
    go_wp2_with fail
    refine bodyPost_ret (v := .tuple #[.slice none 0 0, .int .i64 0, .int .i64 1]) (by simp only [results, Try.results8]; go_simp) rfl ⟨.slice none 0 0, by rw [HR.out], by rw [HR.out]; exact World.ownsRow_nil _ _ _ _, hb1⟩
  cases hi : inB m 1 30
  · have HR := Lib.hid (show pforR l m = ([], 0, 2) by unfold pforR; rw [hv, if_pos rfl, hi]; rfl)
    replace hi := Lib.hid hi
    go_enter Try.func8, Try.ntmps8
    go_wp2_with fail
    refine (retb (ValidJobsI_c A n c l _ HN.out hm hr ok HKK.out) hv).mono ?_
    rintro e w1 ⟨rfl, hb1⟩
    go_wp2_with fail
    refine (retb (between_c m 1 30 _) hi.out).mono ?_
    rintro e w2 ⟨rfl, rfl⟩
    go_wp2_with fail
    refine bodyPost_ret (v := .tuple #[.slice none 0 0, .int .i64 0, .int .i64 2]) (by simp only [results, Try.results8]; go_simp) rfl ⟨.slice none 0 0, by rw [HR.out], by rw [HR.out]; exact World.ownsRow_nil _ _ _ _, hb1⟩
  have hR : pforR l m = (planL l (lateL l) m, endM l (planL l (lateL l) m) l.length, 0) := by unfold pforR; rw [if_pos hv, if_pos hi]
  rw [hR]
  clear hR
  obtain ⟨hm1, hm2⟩ := inB_iff.1 hi
  replace hi := Lib.hid hi
  have h30 := (valid_all hv).1
  rw [HN.out] at h30
  have HV := Lib.hid hv
  have HPL := Lib.hid (planL_eq hv (lateL l) hm1)
  have HFIN := Lib.hid (plan_fin hv (lateL l) hm1).1
  have hlen : (lateL l).length = n := by rw [lateL_len, HN.out]
  have HLL := Lib.hid hlen
  have HD0 := Lib.hid (start0_D l)
  have HM0 := Lib.hid (start0_mu l)
  have HL0 := Lib.hid (start0_left l.length l.length (Nat.le_refl _))
  have HE0 := Lib.hid (start0_end l l.length l.length (Nat.le_refl _))
  rw [HN.out] at HPL HD0 HM0 HL0 HE0 HFIN
  clear hv hlen
  rw [HN.out]
  generalize planL l (lateL l) m = R at *
  obtain ⟨mk, hmk⟩ := make_runJ n hm
  have hmr := fun W => (hmk W).1
  have HMK := Lib.hid (fun W => (hmk W).2); clear hmk
  go_enter Try.func8, Try.ntmps8
  go_wp2_with fail
  refine (retb (ValidJobsI_c A n c l _ HN.out hm hr ok HKK.out) HV.out).mono ?_
  rintro e W ⟨rfl, hb1⟩
  have hr1 := Lib.hid ((hr.below hb1).mono hb1.size)
  go_wp2_with fail
  refine (retb (between_c m 1 30 _) hi.out).mono ?_
  rintro e w2 ⟨rfl, rfl⟩
  have hBd : Below W.heap.size W W.drew := Below.drew (Below.refl _ _)
  have hBm : Below W.heap.size W (mk W.drew) := hBd.trans ((HMK.out W.drew).2.mono hBd.size)
  have HBM := Lib.hid hBm; clear hBm
  have HBD := Lib.hid hBd; clear hBd
  go_upto_region 5 with fail
  go_cut [7, 8, 9] (fun a b e wx => e = .int .i64 0 ∧ TwoInts W n (lateL l) a b wx)
  case first =>
    go_region_with (go_at_call 26; refine (latest_c A n c l _ HN.out hm (by first | exact (hr1.out.below HBM.out).mono HBM.out.size | exact (hr1.out.below HBD.out).mono HBD.out.size) HV.out).mono ?_; rintro e wl ⟨vl, rfl, hol, hbl⟩)
    all_goals
      (go_wp2_with fail; refine Met.intro ?_; apply_assumption; (repeat apply Exists.intro); refine ⟨?_, rfl⟩)
      first
        | (have hmo : (mk W.drew).ownsRow W.heap.size 2 1 (.slice (some ⟨W.heap.size, 0, none⟩) n n) n (fi n fun _ => 0) := (HMK.out W.drew).1
           have hlt := (hmo.lt _ rfl).2
           exact ⟨rfl, W.heap.size, rfl, Nat.le_refl _, own_call hmo hbl, Go.Joins.ownsRow_le hol HBM.out.size, fun q hq => Nat.ne_of_gt (Nat.lt_of_lt_of_le hlt (hol.lt q hq).1), HBM.out.trans (hbl.mono HBM.out.size)⟩)
        | (have hbl2 : Below W.heap.size W wl := HBD.out.trans (hbl.mono HBD.out.size)
           have hol2 : wl.ownsRow W.heap.size 2 1 vl n ((lateL l).map (Value.int .i64)) := hol
           exact ⟨rfl, wl.heap.size, rfl, hbl2.size, Go.Joins.ownsRow_le (HMK.out wl).1 hbl2.size, own_call hol2 (HMK.out wl).2, fun q hq => Nat.ne_of_lt (hol2.lt q hq).2, hbl2.trans ((HMK.out wl).2.mono hbl2.size)⟩)
  case rest =>
    obtain ⟨rfl, g, rfl, hg1, ho0, hl0, hne, hbc⟩ := hcut
    obtain ⟨A3, c3, rfl, _⟩ := own_form hl0
    have hbw2 : Below w.heap.size w wc := hb1.trans (hbc.mono hb1.size)
    obtain ⟨w2, rfl⟩ : ∃ w' : World, w' = wc := ⟨_, rfl⟩
    have HO0 := Lib.hid ho0; have HL2 := Lib.hid hl0; have HNE := Lib.hid hne
    have hg2 := (ho0.lt g rfl).2
    have hgw : w.heap.size ≤ g := Nat.le_trans hb1.size hg1
    clear ho0 hl0 hne hmr
    go_wp2_with fail
    go_loopw [27] (fun i wr => ∃ k : Nat, k ≤ n ∧ i = .int .i64 k ∧ Below w.heap.size w wr ∧ wr.ownsRow W.heap.size 2 1 (.slice (some ⟨g, 0, none⟩) n n) n (fi n fun j => if j < k then -1 else 0) ∧ wr.ownsRow W.heap.size 2 1 (.slice A3 n c3) n ((lateL l).map (Value.int .i64))) (fun i _ => n - (intOf i).toNat)
    case atStart => exact ⟨0, Nat.zero_le _, rfl, hbw2, by rw [fi_congr (g' := fun _ => 0) (fun j _ => if_neg (Nat.not_lt_zero j))]; exact HO0.out, HL2.out⟩
    case round =>
      clear HO0 HL2 hbw2
      obtain ⟨k, hk, rfl, hb, hx, hl⟩ := hrel
      have HX := Lib.hid hx; clear hx
      have HLr := Lib.hid hl; clear hl
      have hbs := hb.size
      by_cases hlt : k < n
      · have p1 : (0 : Int) ≤ (k : Int) := by omega
        have p2 : (k : Int) < (n : Int) := by omega
        have c0 : wr.cell? ⟨g, k, none⟩ = some (.int .i64 0) := by rw [HX.out.cellAt k (by omega), fi_get hlt, if_neg (by omega)]
        have f0 : wr.frozen? ⟨g, k, none⟩ = false := HX.out.frozenAt k
        have hst := HX.out.stored k (.int .i64 (-1))
        rw [fi_set (g' := fun j => if j < k + 1 then -1 else 0) (fun j hj => by
          by_cases h1 : j = k
          · rw [if_pos h1, if_pos (by omega)]
          · rw [if_neg h1]
            by_cases h2 : j < k
            · rw [if_pos h2, if_pos (by omega)]
            · rw [if_neg h2, if_neg (by omega)])] at hst
        have HST := Lib.hid hst
        have HL5 := Lib.hid (own_ne HLr.out hst.2 (fun q hq hc => HNE.out q hq (by simp only [Value.ownBlock, Option.some.injEq] at hc; exact hc)))
        have HB5 := Lib.hid (show Below w.heap.size w (wr.setCell ⟨g, k, none⟩ (.int .i64 (-1))) from hb.setCell hgw _)
        clear hst
        go_wp2_with fail
        (first | (refine ⟨?_, ?_⟩; rotate_left; (first | (simp [intOf]; done) | (simp [intOf]; omega)); (repeat apply Exists.intro); refine ⟨?_, rfl⟩; exact ⟨k + 1, by omega, by go_num, HB5.out, HST.out.1, HL5.out⟩) | exact ⟨⟨k + 1, by omega, by go_num, HB5.out, HST.out.1, HL5.out⟩, by first | (simp [intOf]; done) | (simp [intOf]; omega)⟩)
      · obtain rfl : k = n := by omega
        have hx0 := HX.out
        rw [fi_congr (g' := fun _ => -1) (fun j hj => if_pos hj), fi_start] at hx0
        have HX0 := Lib.hid hx0; clear hx0
        clear HX
        go_wp2_with fail
        go_loopw [9, 11, 12] (fun en lf d wr => ∃ (day : Int) (s : List Int), en = .int .i64 (endM l s k) ∧ lf = .int .i64 (nleft s k : Nat) ∧ d = .int .i64 day ∧ Dst l day s ∧ day + (mu l day s : Nat) ≤ 20000 ∧ (∃ F, outF l (lateL l) m F day s = some R) ∧ Below w.heap.size w wr ∧ wr.ownsRow W.heap.size 2 1 (.slice (some ⟨g, 0, none⟩) k k) k (s.map (Value.int .i64)) ∧ wr.ownsRow W.heap.size 2 1 (.slice A3 k c3) k ((lateL l).map (Value.int .i64))) (fun _ _ d _ => 20001 - (intOf d).toNat)
        case atStart => exact ⟨0, start0 k, by rw [HE0.out], by rw [HL0.out], rfl, HD0.out, by rw [HM0.out]; omega, ⟨_, HPL.out⟩, hb, HX0.out, HLr.out⟩
        case round =>
          clear hb hbs HX0 HLr HD0 HM0 HL0 HPL HE0
          obtain ⟨day, s, rfl, rfl, rfl, hD, hmu, ⟨F, hout⟩, hb, hx, hl⟩ := hrel
          have HX := Lib.hid hx; clear hx
          have HLr := Lib.hid hl; clear hl
          have hd0 := hD.2.1
          have hdb : day ≤ 20000 := by omega
          by_cases hlf : nleft s l.length = 0
          · have hRs := out_done hout hlf
            rw [HN.out] at hlf
            subst hRs
            rw [hlf]
            go_wp2_with fail
            refine bodyPost_ret (v := .tuple #[.slice (some ⟨g, 0, none⟩) k k, .int .i64 (endM l s k), .int .i64 0]) (by simp only [results, Try.results8]; go_simp) rfl ⟨_, rfl, by rw [HFIN.out]; exact Go.Joins.ownsRow_le HX.out hb1.size, hb⟩
          · obtain ⟨s1, hin, hD1, hmu1⟩ := day_next HV.out (lateL l) hm1 hD hlf
            obtain ⟨F1, hout1⟩ := out_next hout hlf hin
            have hK := hD.1
            have hE0 : endM l s k ≤ 20060 := by have := hD.2.2.2; rw [HN.out] at this; omega
            have HIN := Lib.hid hin
            have HOUT1 := Lib.hid hout1
            have HD1 := Lib.hid hD1
            have HMU1 := Lib.hid (show (day + 1) + (mu l (day + 1) s1 : Nat) ≤ 20000 by omega)
            rw [HN.out] at hlf
            have hlp : (0 : Int) < ((nleft s k : Nat) : Int) := by omega
            have hlpN : 0 < nleft s k := by omega
            have hnl := nleft_le s k
            have HKS := Lib.hid hK
            clear hin hout1 hD1 hmu1 hout hD hmu hK
            have hk0 : 0 < k := by omega
            go_wp2_with fail
            obtain ⟨wo, rfl⟩ : ∃ w' : World, w' = wr := ⟨_, rfl⟩
            go_loopw [9, 11] (fun en lf wr => ∃ (s : List Int), en = .int .i64 (endM l s k) ∧ lf = .int .i64 (nleft s k : Nat) ∧ Kst l day s ∧ (∃ f, inF l (lateL l) m day f s = some s1) ∧ endM l s k ≤ 20060 ∧ Below w.heap.size w wr ∧ wr.ownsRow W.heap.size 2 1 (.slice (some ⟨g, 0, none⟩) k k) k (s.map (Value.int .i64)) ∧ wr.ownsRow W.heap.size 2 1 (.slice A3 k c3) k ((lateL l).map (Value.int .i64))) (fun _ lf _ => (intOf lf).toNat)
            case atStart => exact ⟨s, rfl, rfl, HKS.out, ⟨_, HIN.out⟩, hE0, hb, HX.out, HLr.out⟩
            case round =>
              clear HIN HKS HX HLr hb hlp hlf hnl hE0
              obtain ⟨s, rfl, rfl, hK, ⟨f, hin⟩, hE, hb, hx, hl⟩ := hrel
              have HX := Lib.hid hx; clear hx
              have HLr := Lib.hid hl; clear hl
              have HK := Lib.hid hK; clear hK
              have HIN := Lib.hid hin; clear hin
              have hnl := nleft_le s k
              have hbs := hb.size
              have HSLN := Lib.hid (show s.length = k by rw [HK.out.1, HN.out])
              have HSO := Lib.hid (HK.out.sok (by omega))
              have HBU := Lib.hid (running_c A k c l (some ⟨g, 0, none⟩) k s day wr HN.out hm ((hr.below hb).mono hbs) HV.out HSLN.out (rd_own HX.out) HSO.out)
              obtain ⟨q, hq⟩ : ∃ q, q = busyM l s day k := ⟨_, rfl⟩
              rw [← hq] at HBU
              have hqb := busyM_bd l s day k
              rw [← hq] at hqb
              obtain ⟨hq1, hq2⟩ := hqb
              have HQ := Lib.hid hq; clear hq
              go_wp2_with fail
              refine HBU.out.mono ?_
              rintro e w3 ⟨rfl, hb3⟩
              have HX3 := Lib.hid (own_call HX.out hb3)
              have HL3 := Lib.hid (own_call HLr.out hb3)
              have hbw3 : Below w.heap.size w w3 := hb.trans (hb3.mono hbs)
              clear HX HLr hb3 HBU hb hbs
              by_cases hqm : q < m
              · have hbs3 := hbw3.size
                have HNJ := Lib.hid (nextJob_c A k c l (some ⟨g, 0, none⟩) k s A3 c3 (lateL l) day w3 HN.out hm ((hr.below hbw3).mono hbs3) HV.out HSLN.out (rd_own HX3.out) HSO.out HLL.out (rd_own HL3.out))
                obtain ⟨p, hp⟩ : ∃ p, p = bestM l s (lateL l) day k := ⟨_, rfl⟩
                rw [← hp] at HNJ
                have hpb := bestM_bd l s (lateL l) day k
                rw [← hp] at hpb
                obtain ⟨hp1, hp2⟩ := hpb
                have HP := Lib.hid hp; clear hp
                go_wp2_with fail
                refine HNJ.out.mono ?_
                rintro e w4 ⟨rfl, hb4⟩
                have HX4 := Lib.hid (own_call HX3.out hb4)
                have HL4 := Lib.hid (own_call HL3.out hb4)
                have hbw4 : Below w.heap.size w w4 := hbw3.trans (hb4.mono hbs3)
                clear HX3 HL3 hb4 HNJ hbw3 hbs3
                by_cases hp0 : p < 0
                · have hs1 := in_done HIN.out (fun hc => by have h2 := hc.2; rw [HN.out, ← HP.out] at h2; omega)
                  have HS1 := Lib.hid hs1
                  clear hs1
                  go_wp2_with fail
                  (first | (refine ⟨?_, ?_⟩; rotate_left; (first | (simp [intOf]; done) | (simp [intOf]; omega)); (repeat apply Exists.intro); refine ⟨?_, rfl⟩; exact ⟨day + 1, s1, by rw [← HS1.out], by rw [← HS1.out], by go_num, HD1.out, HMU1.out, ⟨F1, HOUT1.out⟩, hbw4, by rw [← HS1.out]; exact HX4.out, HL4.out⟩) | exact ⟨⟨day + 1, s1, by rw [← HS1.out], by rw [← HS1.out], by go_num, HD1.out, HMU1.out, ⟨F1, HOUT1.out⟩, hbw4, by rw [← HS1.out]; exact HX4.out, HL4.out⟩, by first | (simp [intOf]; done) | (simp [intOf]; omega)⟩)
                · have hbp : 0 ≤ bestM l s (lateL l) day l.length := by rw [HN.out, ← HP.out]; omega
                  obtain ⟨bq, hbe, hbl, h0, hK2, hn2, he2⟩ := plan_step HV.out HK.out hd0 hbp
                  obtain ⟨f', hin2⟩ := in_next HIN.out (by rw [HN.out, ← HQ.out]; exact hqm) hbe
                  have hdd := (valid_all HV.out).2 bq hbl
                  obtain ⟨d, hd⟩ := get_ex l bq hbl
                  rw [getJ_eq hd] at he2 hdd
                  rw [HN.out] at hbe hbl hn2 he2
                  rw [← HP.out] at hbe
                  subst hbe
                  obtain ⟨b1, off, rfl, hbl1, hc⟩ := (hr.below hbw4) (by rw [HN.out]; omega)
                  obtain ⟨g0, g1, g2, An, cn, g3, g4⟩ := hc bq d hd
                  have hlt1 : b1 < w4.heap.size := Nat.lt_of_lt_of_le hbl1 hbw4.size
                  have hf1 := far hlt1
                  have hgb : ¬ b1 = g := by omega
                  have hgb2 : ¬ g = b1 := by omega
                  have HK2 := Lib.hid hK2; have HIN2 := Lib.hid hin2
                  have HN2 := Lib.hid hn2
                  have HE2 := Lib.hid he2
                  have ew : IntKind.i64.wrap (day + d.days) = day + d.days := IntWalk.i64_in _ (by omega)
                  have hE2 : endM l (s.set bq day) k ≤ 20060 := by rw [he2]; omega
                  have hnp : (1 : Int) ≤ ((nleft s k : Nat) : Int) := by omega
                  have hbs : bq < s.length := by rw [HSLN.out]; exact hbl
                  obtain ⟨x, hx⟩ := get_ex s bq hbs
                  have c0 : w4.cell? ⟨g, bq, none⟩ = some (.int .i64 x) := by rw [HX4.out.cellAt bq (by omega), List.getElem?_map, hx]; rfl
                  have f0 : w4.frozen? ⟨g, bq, none⟩ = false := HX4.out.frozenAt bq
                  have hst := HX4.out.stored bq (.int .i64 day)
                  rw [map_set_int] at hst
                  have HST := Lib.hid hst
                  have HL5 := Lib.hid (own_ne HL4.out hst.2 (fun q hq hc => HNE.out q hq (by simp only [Value.ownBlock, Option.some.injEq] at hc; exact hc)))
                  have HB5 := Lib.hid (show Below w.heap.size w (w4.setCell ⟨g, bq, none⟩ (.int .i64 day)) from hbw4.setCell hgw _)
                  clear hst hx hK2 hin2 hn2 he2 h0 hc hd g4 hdd
                  have p1 : (0 : Int) ≤ (bq : Int) := by omega
                  have p2 : (bq : Int) < (k : Int) := by omega
                  go_wp2_with fail
                  (first | (refine ⟨?_, ?_⟩; rotate_left; (first | (simp [intOf]; done) | (simp [intOf]; omega)); (repeat apply Exists.intro); refine ⟨?_, rfl⟩; exact ⟨s.set bq day, by first | rw [HE2.out] | (have := HE2.out; go_num), by first | (have := HN2.out; omega) | (have := HN2.out; go_num), HK2.out, ⟨f', HIN2.out⟩, hE2, HB5.out, HST.out.1, HL5.out⟩) | exact ⟨⟨s.set bq day, by first | rw [HE2.out] | (have := HE2.out; go_num), by first | (have := HN2.out; omega) | (have := HN2.out; go_num), HK2.out, ⟨f', HIN2.out⟩, hE2, HB5.out, HST.out.1, HL5.out⟩, by first | (simp [intOf]; done) | (simp [intOf]; omega)⟩)
              · have hs1 := in_done HIN.out (fun hc => hqm (by rw [HQ.out]; have := hc.1; rwa [HN.out] at this))
                have HS1 := Lib.hid hs1
                clear hs1
                go_wp2_with fail
                (first | (refine ⟨?_, ?_⟩; rotate_left; (first | (simp [intOf]; done) | (simp [intOf]; omega)); (repeat apply Exists.intro); refine ⟨?_, rfl⟩; exact ⟨day + 1, s1, by rw [← HS1.out], by rw [← HS1.out], by go_num, HD1.out, HMU1.out, ⟨F1, HOUT1.out⟩, hbw3, by rw [← HS1.out]; exact HX3.out, HL3.out⟩) | exact ⟨⟨day + 1, s1, by rw [← HS1.out], by rw [← HS1.out], by go_num, HD1.out, HMU1.out, ⟨F1, HOUT1.out⟩, hbw3, by rw [← HS1.out]; exact HX3.out, HL3.out⟩, by first | (simp [intOf]; done) | (simp [intOf]; omega)⟩)
end Go.Proofs.Ytaebofpgdonnbaa
