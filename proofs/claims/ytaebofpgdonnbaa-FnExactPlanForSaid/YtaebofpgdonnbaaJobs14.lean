/- Contracts: the plan of the reference. -/
import Derived.Test.YtaebofpgdonnbaaJobs13
import Derived.Test.YtaebofpgdonnbaaJobMath6
set_option linter.unusedVariables false
set_option linter.unusedSimpArgs false
namespace Go.Proofs.Ytaebofpgdonnbaa
open Go.RowKit

theorem own_blk {w : World} {B : Nat} {e : TypeId} {A : Option Addr} {c n : Nat} {xs : List Value} (h : w.ownsRow B e 1 (.slice A n c) n xs) (hn : 0 < n) : ∃ g, A = some ⟨g, 0, none⟩ ∧ B ≤ g ∧ g < w.heap.size := by
  rcases h.2 with ⟨_, h0⟩ | ⟨g, cap, cur, hv, _⟩
  · omega
  · have e : A = some ⟨g, 0, none⟩ := by injection hv
    subst e
    exact ⟨g, rfl, h.lt g rfl⟩

set_option maxRecDepth 100000 in
set_option maxHeartbeats 8000000 in
theorem l22Plan_c (A : Option Addr) (n c : Nat) (l : List JobD) (m : Int) (W : World) (hn : l.length = n) (hm : n ≤ 1048576) (hr : JRd W W.heap.size A l) (hv : validS l = true) (hm1 : 1 ≤ m ∧ m ≤ 30) :
    Calls Try.prog 21 #[.slice A n c, .int .i64 m] W fun e w' => ∃ v, e = .returned v ∧ w'.ownsRow W.heap.size 2 1 v n ((planL l (lateL l) m).map (Value.int .i64)) ∧ Below W.heap.size W w' := by
  obtain ⟨i0, hi0, hz0, hz1, hz2⟩ := info_parts info_i64
  have hown0 : (W.alloc (.cells #[] 2)).ownsRow W.heap.size 2 1 (.slice (some ⟨W.heap.size, 0, none⟩) 0 0) 0 ((start0 0).map (Value.int .i64)) := World.ownsRow_made W #[] 0 (Nat.le_refl _) (by simp [maxLen]) (by simp)
  have HN := Lib.hid hn; clear hn
  have h30 := (valid_all hv).1
  rw [HN.out] at h30
  have HV := Lib.hid hv
  have HPL := Lib.hid (planL_eq hv (lateL l) hm1.1)
  have hlen : (lateL l).length = n := by rw [lateL_len, HN.out]
  have HLL := Lib.hid hlen
  have HD0 := Lib.hid (start0_D l)
  have HM0 := Lib.hid (start0_mu l)
  have HL0 := Lib.hid (start0_left l.length l.length (Nat.le_refl _))
  rw [HN.out] at HPL HD0 HM0 HL0
  clear hv hlen
  generalize planL l (lateL l) m = R at *
  obtain ⟨hm1, hm2⟩ := hm1
  go_enter Try.func21, Try.ntmps21
  go_wp2_with fail
  go_loopw [5, 6] (fun o i wr => ∃ k : Nat, k ≤ n ∧ i = .int .i64 k ∧ Below W.heap.size W wr ∧ wr.ownsRow W.heap.size 2 1 o k ((start0 k).map (Value.int .i64))) (fun _ i _ => n - (intOf i).toNat)
  case atStart => exact ⟨0, Nat.zero_le _, rfl, by (repeat' (first | (with_reducible exact Below.refl _ _) | (with_reducible assumption) | (with_reducible refine below_drewN ?_ _) | (with_reducible refine Below.drew ?_) | (with_reducible refine Below.alloc ?_ ?_ _) | (with_reducible refine Below.setCell ?_ ?_ _) | (with_reducible refine via (by with_reducible assumption) ?_ ?_) | go_size)), hown0⟩
  case round =>
    clear hown0
    obtain ⟨k, hk, rfl, hb, hx⟩ := hrel
    have HX := Lib.hid hx; clear hx
    have hbs := hb.size
    by_cases hlt : k < n
    · go_wp2_with (at_builtin; refine app_list (W := W) (z := .int .i64 0) (.tmp 19) (.tmp 20) rfl rfl Try.underlying24 hi0 hz0 hz1 hz2 rfl (by decide) (by decide) rfl (HX.out.alloc _) rfl rfl (news1 (z := .int .i64 (-1)) (by simp [go_sem])) (by simp [Value.oneCell']) (by omega) (by (repeat' (first | (with_reducible exact Below.refl _ _) | (with_reducible assumption) | (with_reducible refine below_drewN ?_ _) | (with_reducible refine Below.drew ?_) | (with_reducible refine Below.alloc ?_ ?_ _) | (with_reducible refine Below.setCell ?_ ?_ _) | (with_reducible refine via (by with_reducible assumption) ?_ ?_) | go_size))) (Nat.le_refl _) ?_; intro v3 w3 hown3 _ _ hb3)
      have HO := Lib.hid hown3; clear hown3
      (first | (refine ⟨?_, ?_⟩; rotate_left; (first | (simp [intOf]; done) | (simp [intOf]; omega)); (repeat apply Exists.intro); refine ⟨?_, rfl⟩; exact ⟨k + 1, by omega, by go_num, hb3, by rw [start0_snoc]; exact HO.out⟩) | exact ⟨⟨k + 1, by omega, by go_num, hb3, by rw [start0_snoc]; exact HO.out⟩, by first | (simp [intOf]; done) | (simp [intOf]; omega)⟩)
    · obtain rfl : k = n := by omega
      obtain ⟨w1, rfl⟩ : ∃ w' : World, w' = wr := ⟨_, rfl⟩
      obtain ⟨A2, c2, rfl, _⟩ := own_form HX.out
      have HLT := Lib.hid (l22Late_c A k c l w1 HN.out hm ((hr.below hb).mono hbs) HV.out)
      go_wp2_with fail
      refine HLT.out.mono ?_
      rintro e w2 ⟨vl, rfl, hl2, hb2⟩
      obtain ⟨A3, c3, rfl, _⟩ := own_form hl2
      have HL2 := Lib.hid hl2; clear hl2
      have HX2 := Lib.hid (own_call HX.out hb2)
      have hbw2 : Below W.heap.size W w2 := hb.trans (hb2.mono hbs)
      have HSL := Lib.hid (fun g (h : A2 = some ⟨g, 0, none⟩) => (HX.out.lt g (by rw [h]; rfl)).2)
      have hbz2 := hb2.size
      clear HX HLT hb hlt hk hb2
      go_wp2_with fail
      go_loopw [8, 9] (fun lf d wr => ∃ (day : Int) (s : List Int), lf = .int .i64 (nleft s k : Nat) ∧ d = .int .i64 day ∧ Dst l day s ∧ day + (mu l day s : Nat) ≤ 20000 ∧ (∃ F, outF l (lateL l) m F day s = some R) ∧ Below W.heap.size W wr ∧ w1.heap.size ≤ wr.heap.size ∧ wr.ownsRow W.heap.size 2 1 (.slice A2 k c2) k (s.map (Value.int .i64)) ∧ wr.ownsRow w1.heap.size 2 1 (.slice A3 k c3) k ((lateL l).map (Value.int .i64))) (fun _ d _ => 20001 - (intOf d).toNat)
      case atStart => exact ⟨0, start0 k, by rw [HL0.out], rfl, HD0.out, by rw [HM0.out]; omega, ⟨_, HPL.out⟩, hbw2, hbz2, HX2.out, HL2.out⟩
      case round =>
        clear hbw2 HX2 HL2 HD0 HM0 HL0 HPL
        obtain ⟨day, s, rfl, rfl, hD, hmu, ⟨F, hout⟩, hb, hbz, hx, hl⟩ := hrel
        have HX := Lib.hid hx; clear hx
        have HLr := Lib.hid hl; clear hl
        have hd0 := hD.2.1
        have hdb : day ≤ 20000 := by omega
        by_cases hlf : nleft s l.length = 0
        · have hRs := out_done hout hlf
          rw [HN.out] at hlf
          subst hRs
          rw [hlf]
          go_wp2_with fail
          go_ret
          exact ⟨_, rfl, HX.out, hb⟩
        · obtain ⟨s1, hin, hD1, hmu1⟩ := day_next HV.out (lateL l) hm1 hD hlf
          obtain ⟨F1, hout1⟩ := out_next hout hlf hin
          have hK := hD.1
          have HIN := Lib.hid hin
          have HOUT1 := Lib.hid hout1
          have HD1 := Lib.hid hD1
          have HMU1 := Lib.hid (show (day + 1) + (mu l (day + 1) s1 : Nat) ≤ 20000 by omega)
          rw [HN.out] at hlf
          have hlp : (0 : Int) < ((nleft s k : Nat) : Int) := by omega
          have hnl := nleft_le s k
          have HKS := Lib.hid hK
          clear hin hout1 hD1 hmu1 hout hD hmu hK
          have hk0 : 0 < k := by omega
          go_wp2_with fail
          obtain ⟨wo, rfl⟩ : ∃ w' : World, w' = wr := ⟨_, rfl⟩
          go_loopw [8] (fun lf wr => ∃ (s : List Int), lf = .int .i64 (nleft s k : Nat) ∧ Kst l day s ∧ (∃ f, inF l (lateL l) m day f s = some s1) ∧ Below W.heap.size W wr ∧ w1.heap.size ≤ wr.heap.size ∧ wr.ownsRow W.heap.size 2 1 (.slice A2 k c2) k (s.map (Value.int .i64)) ∧ wr.ownsRow w1.heap.size 2 1 (.slice A3 k c3) k ((lateL l).map (Value.int .i64))) (fun lf _ => (intOf lf).toNat)
          case atStart => exact ⟨s, rfl, HKS.out, ⟨_, HIN.out⟩, hb, hbz, HX.out, HLr.out⟩
          case round =>
            clear HIN HKS HX HLr hb hbz hlp hlf hnl
            obtain ⟨s, rfl, hK, ⟨f, hin⟩, hb, hbz, hx, hl⟩ := hrel
            have HX := Lib.hid hx; clear hx
            have HLr := Lib.hid hl; clear hl
            have HK := Lib.hid hK; clear hK
            have HIN := Lib.hid hin; clear hin
            have hnl := nleft_le s k
            have hbs := hb.size
            have hsl : s.length = k := by rw [HK.out.1, HN.out]
            have HSLN := Lib.hid hsl; clear hsl
            have HSO := Lib.hid (HK.out.sok (by omega))
            have HBU := Lib.hid (l22Busy_c A k c l A2 c2 s day wr HN.out hm ((hr.below hb).mono hbs) HV.out HSLN.out (rd_own HX.out) HSO.out)
            obtain ⟨q, hq⟩ : ∃ q, q = busyM l s day k := ⟨_, rfl⟩
            rw [← hq] at HBU
            have hqb := busyM_bd l s day k
            rw [← hq] at hqb
            obtain ⟨hq1, hq2⟩ := hqb
            have HQ := Lib.hid hq; clear hq
            go_wp2_with fail
            refine HBU.out.mono ?_
            rintro e w3 ⟨rfl, hb3⟩
            have HX3 := Lib.hid (own_call HX.out hb3)
            have HL3 := Lib.hid (own_call HLr.out hb3)
            have hbw3 : Below W.heap.size W w3 := hb.trans (hb3.mono hbs)
            have hbz3 : w1.heap.size ≤ w3.heap.size := Nat.le_trans hbz hb3.size
            clear HX HLr hb3 HBU hb hbs hbz
            by_cases hqm : q < m
            · go_wp2_with fail
              obtain ⟨wi, rfl⟩ : ∃ w' : World, w' = wr := ⟨_, rfl⟩
              go_loopw [10, 11] (fun t i wr => ∃ (j : Nat) (p : Int), j ≤ k ∧ i = .int .i64 j ∧ t = .int .i64 p ∧ p = bestM l s (lateL l) day j ∧ Below w3.heap.size w3 wr) (fun _ i _ => k - (intOf i).toNat)
              case atStart => exact ⟨0, -1, Nat.zero_le _, rfl, rfl, rfl, Below.refl _ _⟩
              case round =>
                obtain ⟨j, p, hj, rfl, rfl, hp, hb4⟩ := hrel
                have hpb := bestM_bd l s (lateL l) day j
                rw [← hp] at hpb
                obtain ⟨hp1, hp2⟩ := hpb
                have HP := Lib.hid hp; clear hp
                have hbs4 := hb4.size
                have hbw4 : Below W.heap.size W wr := hbw3.trans (hb4.mono hbw3.size)
                have hHX4 := own_call HX3.out hb4
                have hHL4 := own_call HL3.out hb4
                have HX4 := Lib.hid hHX4; have HL4 := Lib.hid hHL4
                clear hHX4 hHL4
                have hws := hbw4.size
                by_cases hlt2 : j < k
                · obtain ⟨b1, off, rfl, hbl, hc⟩ := (hr.below hbw4) (by rw [HN.out]; omega)
                  obtain ⟨d, hd⟩ := get_ex l j (by rw [HN.out]; omega)
                  obtain ⟨g0, g1, g2, An, cn, g3, g4⟩ := hc j d hd
                  have HG' := Lib.hid (getJ_eq hd); clear hd hc
                  have HG := Lib.hid (show (getJ l j).needs = d.needs by rw [HG'.out])
                  obtain ⟨g, rfl, hg1, hg2⟩ := own_blk HX4.out hk0
                  obtain ⟨b2, o2, hbe, hbl2, hc2⟩ := (rd_own HX4.out).ints' (by rw [HSLN.out]; omega)
                  obtain ⟨rfl, rfl⟩ : g = b2 ∧ 0 = o2 := by injection hbe with hbe; injection hbe with h1 h2; exact ⟨h1, h2⟩
                  clear hbe
                  obtain ⟨x, hx⟩ := get_ex s j (by rw [HSLN.out]; omega)
                  have e2 := hc2 j x hx
                  rw [Nat.zero_add] at e2
                  have hf1 := far (show b1 < wr.heap.size by omega)
                  have hf2 := far (show g < wr.heap.size by omega)
                  have HXX := Lib.hid (getD_eq hx); clear hx hc2
                  have p1 : (0 : Int) ≤ (j : Int) := by omega
                  have p2 : (j : Int) < (k : Int) := by omega
                  have HSU := Lib.hid (show bestM l s (lateL l) day (j + 1) = if candB l s (lateL l) day (bestM l s (lateL l) day j) j = true then (j : Int) else bestM l s (lateL l) day j from rfl)
                  by_cases hx0 : x < 0
                  · have HRW := Lib.hid ((hr.below hbw4).mono hws)
                    have HR2W := Lib.hid (rd_own HX4.out)
                    have hva := (valid_all HV.out).2 j (by rw [HN.out]; exact hlt2)
                    rw [HG'.out] at hva
                    have HNB := Lib.hid (show ∀ (i : Nat) (x : Int), d.needs[i]? = some x → ∃ p : Nat, x = (p : Int) ∧ p < k from fun i x hi => by
                      have := hva.2.2.2.2.1 i x hi
                      exact ⟨x.toNat, by omega, by omega⟩)
                    have hkd : d.needs.length ≤ 1048576 := by omega
                    clear hva g4
                    cases hDn : doneB l s d.needs day
                    · have HNX := Lib.hid (show p = bestM l s (lateL l) day (j + 1) by
                        rw [HSU.out, if_neg, HP.out]
                        unfold candB rdyB
                        rw [HXX.out, HG.out, hDn]
                        simp)
                      go_upto_region 16 with fail
                      (refine wp_region_quiet_below (by kernel_rfl) (by kernel_rfl) ?_; (repeat (go_big_quiet_step (first | ((go_at_call 41; exact rg_drawn (fun w' hb => retb (l22Ready_c (some ⟨b1, off, none⟩) k c l (some ⟨g, 0, none⟩) c2 s j d.needs.length d.needs day wr.heap.size w' HN.out hm (HRW.out.below (by (repeat' (first | (with_reducible exact Below.refl _ _) | (with_reducible assumption) | (with_reducible refine below_drewN ?_ _) | (with_reducible refine Below.drew ?_) | (with_reducible refine Below.alloc ?_ ?_ _) | (with_reducible refine Below.setCell ?_ ?_ _) | (with_reducible refine via (by with_reducible assumption) ?_ ?_) | go_size)))) HV.out HSLN.out (HR2W.out.below (by (repeat' (first | (with_reducible exact Below.refl _ _) | (with_reducible assumption) | (with_reducible refine below_drewN ?_ _) | (with_reducible refine Below.drew ?_) | (with_reducible refine Below.alloc ?_ ?_ _) | (with_reducible refine Below.setCell ?_ ?_ _) | (with_reducible refine via (by with_reducible assumption) ?_ ?_) | go_size)))) HSO.out hlt2 rfl hkd HG.out HNB.out) hDn)))))); refine wpQuiet_nil ?_; refine qg_end ?_; intro wq hbq)
                      go_wp2_with fail
                      (first | (refine ⟨?_, ?_⟩; rotate_left; (first | (simp [intOf]; done) | (simp [intOf]; omega)); (repeat apply Exists.intro); refine ⟨?_, rfl⟩; exact ⟨j + 1, p, by omega, by go_num, rfl, HNX.out, by (repeat' (first | (with_reducible exact Below.refl _ _) | (with_reducible assumption) | (with_reducible refine below_drewN ?_ _) | (with_reducible refine Below.drew ?_) | (with_reducible refine Below.alloc ?_ ?_ _) | (with_reducible refine Below.setCell ?_ ?_ _) | (with_reducible refine via (by with_reducible assumption) ?_ ?_) | go_size))⟩) | exact ⟨⟨j + 1, p, by omega, by go_num, rfl, HNX.out, by (repeat' (first | (with_reducible exact Below.refl _ _) | (with_reducible assumption) | (with_reducible refine below_drewN ?_ _) | (with_reducible refine Below.drew ?_) | (with_reducible refine Below.alloc ?_ ?_ _) | (with_reducible refine Below.setCell ?_ ?_ _) | (with_reducible refine via (by with_reducible assumption) ?_ ?_) | go_size))⟩, by first | (simp [intOf]; done) | (simp [intOf]; omega)⟩)
                    by_cases hp0 : p < 0
                    · have HNX := Lib.hid (show (j : Int) = bestM l s (lateL l) day (j + 1) by
                        rw [HSU.out, if_pos]
                        unfold candB rdyB
                        rw [HXX.out, HG.out, hDn, decide_eq_true hx0, ← HP.out, decide_eq_true hp0]
                        rfl)
                      go_upto_region 16 with fail
                      (refine wp_region_quiet_below (by kernel_rfl) (by kernel_rfl) ?_; (repeat (go_big_quiet_step (first | ((go_at_call 41; exact rg_drawn (fun w' hb => retb (l22Ready_c (some ⟨b1, off, none⟩) k c l (some ⟨g, 0, none⟩) c2 s j d.needs.length d.needs day wr.heap.size w' HN.out hm (HRW.out.below (by (repeat' (first | (with_reducible exact Below.refl _ _) | (with_reducible assumption) | (with_reducible refine below_drewN ?_ _) | (with_reducible refine Below.drew ?_) | (with_reducible refine Below.alloc ?_ ?_ _) | (with_reducible refine Below.setCell ?_ ?_ _) | (with_reducible refine via (by with_reducible assumption) ?_ ?_) | go_size)))) HV.out HSLN.out (HR2W.out.below (by (repeat' (first | (with_reducible exact Below.refl _ _) | (with_reducible assumption) | (with_reducible refine below_drewN ?_ _) | (with_reducible refine Below.drew ?_) | (with_reducible refine Below.alloc ?_ ?_ _) | (with_reducible refine Below.setCell ?_ ?_ _) | (with_reducible refine via (by with_reducible assumption) ?_ ?_) | go_size)))) HSO.out hlt2 rfl hkd HG.out HNB.out) hDn)))))); refine wpQuiet_nil ?_; refine qg_end ?_; intro wq hbq)
                      go_wp2_with fail
                      (first | (refine ⟨?_, ?_⟩; rotate_left; (first | (simp [intOf]; done) | (simp [intOf]; omega)); (repeat apply Exists.intro); refine ⟨?_, rfl⟩; exact ⟨j + 1, (j : Int), by omega, by go_num, rfl, HNX.out, by (repeat' (first | (with_reducible exact Below.refl _ _) | (with_reducible assumption) | (with_reducible refine below_drewN ?_ _) | (with_reducible refine Below.drew ?_) | (with_reducible refine Below.alloc ?_ ?_ _) | (with_reducible refine Below.setCell ?_ ?_ _) | (with_reducible refine via (by with_reducible assumption) ?_ ?_) | go_size))⟩) | exact ⟨⟨j + 1, (j : Int), by omega, by go_num, rfl, HNX.out, by (repeat' (first | (with_reducible exact Below.refl _ _) | (with_reducible assumption) | (with_reducible refine below_drewN ?_ _) | (with_reducible refine Below.drew ?_) | (with_reducible refine Below.alloc ?_ ?_ _) | (with_reducible refine Below.setCell ?_ ?_ _) | (with_reducible refine via (by with_reducible assumption) ?_ ?_) | go_size))⟩, by first | (simp [intOf]; done) | (simp [intOf]; omega)⟩)
                    obtain ⟨pp, rfl⟩ := Int.eq_ofNat_of_zero_le (by omega : 0 ≤ p)
                    obtain ⟨b3, o3, rfl, hbl3, hc3⟩ := (rd_own HL4.out).ints' (by rw [HLL.out]; omega)
                    obtain ⟨y, hy⟩ := get_ex (lateL l) j (by rw [HLL.out]; omega)
                    obtain ⟨z, hz⟩ := get_ex (lateL l) pp (by rw [HLL.out]; omega)
                    have e3 := hc3 j y hy
                    have e4 := hc3 pp z hz
                    have HY := Lib.hid (getD_eq hy); clear hy
                    have HZ := Lib.hid (getD_eq hz); clear hz hc3
                    have hf3 := far (show b3 < wr.heap.size by omega)
                    have p3 : (0 : Int) ≤ (pp : Int) := by omega
                    have p4 : (pp : Int) < (k : Int) := by omega
                    have p5 : pp < k := by omega
                    by_cases hyz : y < z
                    · have HNX := Lib.hid (show (j : Int) = bestM l s (lateL l) day (j + 1) by
                        rw [HSU.out, if_pos]
                        unfold candB rdyB
                        rw [HXX.out, HG.out, hDn, decide_eq_true hx0, ← HP.out, Int.toNat_natCast, HY.out, HZ.out, decide_eq_true hyz]
                        simp)
                      go_upto_region 16 with fail
                      (refine wp_region_quiet_below (by kernel_rfl) (by kernel_rfl) ?_; (repeat (go_big_quiet_step (first | ((go_at_call 41; exact rg_drawn (fun w' hb => retb (l22Ready_c (some ⟨b1, off, none⟩) k c l (some ⟨g, 0, none⟩) c2 s j d.needs.length d.needs day wr.heap.size w' HN.out hm (HRW.out.below (by (repeat' (first | (with_reducible exact Below.refl _ _) | (with_reducible assumption) | (with_reducible refine below_drewN ?_ _) | (with_reducible refine Below.drew ?_) | (with_reducible refine Below.alloc ?_ ?_ _) | (with_reducible refine Below.setCell ?_ ?_ _) | (with_reducible refine via (by with_reducible assumption) ?_ ?_) | go_size)))) HV.out HSLN.out (HR2W.out.below (by (repeat' (first | (with_reducible exact Below.refl _ _) | (with_reducible assumption) | (with_reducible refine below_drewN ?_ _) | (with_reducible refine Below.drew ?_) | (with_reducible refine Below.alloc ?_ ?_ _) | (with_reducible refine Below.setCell ?_ ?_ _) | (with_reducible refine via (by with_reducible assumption) ?_ ?_) | go_size)))) HSO.out hlt2 rfl hkd HG.out HNB.out) hDn)))))); refine wpQuiet_nil ?_; refine qg_end ?_; intro wq hbq)
                      go_wp2_with fail
                      (first | (refine ⟨?_, ?_⟩; rotate_left; (first | (simp [intOf]; done) | (simp [intOf]; omega)); (repeat apply Exists.intro); refine ⟨?_, rfl⟩; exact ⟨j + 1, (j : Int), by omega, by go_num, rfl, HNX.out, by (repeat' (first | (with_reducible exact Below.refl _ _) | (with_reducible assumption) | (with_reducible refine below_drewN ?_ _) | (with_reducible refine Below.drew ?_) | (with_reducible refine Below.alloc ?_ ?_ _) | (with_reducible refine Below.setCell ?_ ?_ _) | (with_reducible refine via (by with_reducible assumption) ?_ ?_) | go_size))⟩) | exact ⟨⟨j + 1, (j : Int), by omega, by go_num, rfl, HNX.out, by (repeat' (first | (with_reducible exact Below.refl _ _) | (with_reducible assumption) | (with_reducible refine below_drewN ?_ _) | (with_reducible refine Below.drew ?_) | (with_reducible refine Below.alloc ?_ ?_ _) | (with_reducible refine Below.setCell ?_ ?_ _) | (with_reducible refine via (by with_reducible assumption) ?_ ?_) | go_size))⟩, by first | (simp [intOf]; done) | (simp [intOf]; omega)⟩)
                    · have HNX := Lib.hid (show (pp : Int) = bestM l s (lateL l) day (j + 1) by
                        rw [HSU.out, if_neg, HP.out]
                        unfold candB rdyB
                        rw [← HP.out, Int.toNat_natCast, HY.out, HZ.out, decide_eq_false hyz, decide_eq_false hp0]
                        simp)
                      go_upto_region 16 with fail
                      (refine wp_region_quiet_below (by kernel_rfl) (by kernel_rfl) ?_; (repeat (go_big_quiet_step (first | ((go_at_call 41; exact rg_drawn (fun w' hb => retb (l22Ready_c (some ⟨b1, off, none⟩) k c l (some ⟨g, 0, none⟩) c2 s j d.needs.length d.needs day wr.heap.size w' HN.out hm (HRW.out.below (by (repeat' (first | (with_reducible exact Below.refl _ _) | (with_reducible assumption) | (with_reducible refine below_drewN ?_ _) | (with_reducible refine Below.drew ?_) | (with_reducible refine Below.alloc ?_ ?_ _) | (with_reducible refine Below.setCell ?_ ?_ _) | (with_reducible refine via (by with_reducible assumption) ?_ ?_) | go_size)))) HV.out HSLN.out (HR2W.out.below (by (repeat' (first | (with_reducible exact Below.refl _ _) | (with_reducible assumption) | (with_reducible refine below_drewN ?_ _) | (with_reducible refine Below.drew ?_) | (with_reducible refine Below.alloc ?_ ?_ _) | (with_reducible refine Below.setCell ?_ ?_ _) | (with_reducible refine via (by with_reducible assumption) ?_ ?_) | go_size)))) HSO.out hlt2 rfl hkd HG.out HNB.out) hDn)))))); refine wpQuiet_nil ?_; refine qg_end ?_; intro wq hbq)
                      go_wp2_with fail
                      (first | (refine ⟨?_, ?_⟩; rotate_left; (first | (simp [intOf]; done) | (simp [intOf]; omega)); (repeat apply Exists.intro); refine ⟨?_, rfl⟩; exact ⟨j + 1, (pp : Int), by omega, by go_num, rfl, HNX.out, by (repeat' (first | (with_reducible exact Below.refl _ _) | (with_reducible assumption) | (with_reducible refine below_drewN ?_ _) | (with_reducible refine Below.drew ?_) | (with_reducible refine Below.alloc ?_ ?_ _) | (with_reducible refine Below.setCell ?_ ?_ _) | (with_reducible refine via (by with_reducible assumption) ?_ ?_) | go_size))⟩) | exact ⟨⟨j + 1, (pp : Int), by omega, by go_num, rfl, HNX.out, by (repeat' (first | (with_reducible exact Below.refl _ _) | (with_reducible assumption) | (with_reducible refine below_drewN ?_ _) | (with_reducible refine Below.drew ?_) | (with_reducible refine Below.alloc ?_ ?_ _) | (with_reducible refine Below.setCell ?_ ?_ _) | (with_reducible refine via (by with_reducible assumption) ?_ ?_) | go_size))⟩, by first | (simp [intOf]; done) | (simp [intOf]; omega)⟩)
                  · have HNX := Lib.hid (show p = bestM l s (lateL l) day (j + 1) by
                      rw [HSU.out, if_neg, HP.out]
                      unfold candB rdyB
                      rw [HXX.out, decide_eq_false hx0]
                      simp)
                    clear g4
                    go_upto_region 16 with fail
                    (refine wp_region_quiet_below (by kernel_rfl) (by kernel_rfl) ?_; (repeat (go_big_quiet_step (first | fail))); refine wpQuiet_nil ?_; refine qg_end ?_; intro wq hbq)
                    go_wp2_with fail
                    (first | (refine ⟨?_, ?_⟩; rotate_left; (first | (simp [intOf]; done) | (simp [intOf]; omega)); (repeat apply Exists.intro); refine ⟨?_, rfl⟩; exact ⟨j + 1, p, by omega, by go_num, rfl, HNX.out, by (repeat' (first | (with_reducible exact Below.refl _ _) | (with_reducible assumption) | (with_reducible refine below_drewN ?_ _) | (with_reducible refine Below.drew ?_) | (with_reducible refine Below.alloc ?_ ?_ _) | (with_reducible refine Below.setCell ?_ ?_ _) | (with_reducible refine via (by with_reducible assumption) ?_ ?_) | go_size))⟩) | exact ⟨⟨j + 1, p, by omega, by go_num, rfl, HNX.out, by (repeat' (first | (with_reducible exact Below.refl _ _) | (with_reducible assumption) | (with_reducible refine below_drewN ?_ _) | (with_reducible refine Below.drew ?_) | (with_reducible refine Below.alloc ?_ ?_ _) | (with_reducible refine Below.setCell ?_ ?_ _) | (with_reducible refine via (by with_reducible assumption) ?_ ?_) | go_size))⟩, by first | (simp [intOf]; done) | (simp [intOf]; omega)⟩)
                · obtain rfl : j = k := by omega
                  have hz4 : w1.heap.size ≤ wr.heap.size := Nat.le_trans hbz3 hbs4
                  by_cases hp0 : p < 0
                  · have hs1 := in_done HIN.out (fun hc => by have h2 := hc.2; rw [HN.out, ← HP.out] at h2; omega)
                    have HS1 := Lib.hid hs1
                    clear hs1
                    go_wp2_with fail
                    (first | (refine ⟨?_, ?_⟩; rotate_left; (first | (simp [intOf]; done) | (simp [intOf]; omega)); (repeat apply Exists.intro); refine ⟨?_, rfl⟩; exact ⟨day + 1, s1, by rw [← HS1.out], by go_num, HD1.out, HMU1.out, ⟨F1, HOUT1.out⟩, hbw4, hz4, by rw [← HS1.out]; exact HX4.out, HL4.out⟩) | exact ⟨⟨day + 1, s1, by rw [← HS1.out], by go_num, HD1.out, HMU1.out, ⟨F1, HOUT1.out⟩, hbw4, hz4, by rw [← HS1.out]; exact HX4.out, HL4.out⟩, by first | (simp [intOf]; done) | (simp [intOf]; omega)⟩)
                  · have hbp : 0 ≤ bestM l s (lateL l) day l.length := by rw [HN.out, ← HP.out]; omega
                    obtain ⟨bq, hbe, hbl, h0, hK2, hn2, he2⟩ := plan_step HV.out HK.out hd0 hbp
                    obtain ⟨f', hin2⟩ := in_next HIN.out (by rw [HN.out, ← HQ.out]; exact hqm) hbe
                    rw [HN.out] at hbe hbl hn2
                    rw [← HP.out] at hbe
                    subst hbe
                    have HK2 := Lib.hid hK2; have HIN2 := Lib.hid hin2
                    have HN2 := Lib.hid hn2
                    have hnp : (1 : Int) ≤ ((nleft s j : Nat) : Int) := by omega
                    obtain ⟨g, rfl, hg1, hg2⟩ := own_blk HX4.out hk0
                    have hgz := HSL.out g rfl
                    have hbs : bq < s.length := by rw [HSLN.out]; exact hbl
                    obtain ⟨x, hx⟩ := get_ex s bq hbs
                    have c0 : wr.cell? ⟨g, bq, none⟩ = some (.int .i64 x) := by rw [HX4.out.cellAt bq (by omega), List.getElem?_map, hx]; rfl
                    have f0 : wr.frozen? ⟨g, bq, none⟩ = false := HX4.out.frozenAt bq
                    have hst := HX4.out.stored bq (.int .i64 day)
                    rw [map_set_int] at hst
                    have HST := Lib.hid hst
                    have HL5 := Lib.hid (own_ne HL4.out hst.2 (fun q hq hc => by have := (HL4.out.lt q hq).1; simp only [Value.ownBlock, Option.some.injEq] at hc; omega))
                    have hb5 : Below W.heap.size W (wr.setCell ⟨g, bq, none⟩ (.int .i64 day)) := hbw4.setCell hg1 _
                    have HB5 := Lib.hid hb5
                    clear hst hx hK2 hin2 hn2 he2 h0 hb5
                    have p1 : (0 : Int) ≤ (bq : Int) := by omega
                    have p2 : (bq : Int) < (j : Int) := by omega
                    go_wp2_with fail
                    (first | (refine ⟨?_, ?_⟩; rotate_left; (first | (simp [intOf]; done) | (simp [intOf]; omega)); (repeat apply Exists.intro); refine ⟨?_, rfl⟩; exact ⟨s.set bq day, by first | (have := HN2.out; omega) | (have := HN2.out; go_num), HK2.out, ⟨f', HIN2.out⟩, HB5.out, HST.out.1, HL5.out⟩) | exact ⟨⟨s.set bq day, by first | (have := HN2.out; omega) | (have := HN2.out; go_num), HK2.out, ⟨f', HIN2.out⟩, HB5.out, HST.out.1, HL5.out⟩, by first | (simp [intOf]; done) | (simp [intOf]; omega)⟩)
            · have hs1 := in_done HIN.out (fun hc => hqm (by rw [HQ.out]; have := hc.1; rwa [HN.out] at this))
              have HS1 := Lib.hid hs1
              go_wp2_with fail
              (first | (refine ⟨?_, ?_⟩; rotate_left; (first | (simp [intOf]; done) | (simp [intOf]; omega)); (repeat apply Exists.intro); refine ⟨?_, rfl⟩; exact ⟨day + 1, s1, by rw [← HS1.out], by go_num, HD1.out, HMU1.out, ⟨F1, HOUT1.out⟩, hbw3, hbz3, by rw [← HS1.out]; exact HX3.out, HL3.out⟩) | exact ⟨⟨day + 1, s1, by rw [← HS1.out], by go_num, HD1.out, HMU1.out, ⟨F1, HOUT1.out⟩, hbw3, hbz3, by rw [← HS1.out]; exact HX3.out, HL3.out⟩, by first | (simp [intOf]; done) | (simp [intOf]; omega)⟩)
end Go.Proofs.Ytaebofpgdonnbaa
