/- Contracts: the next job of a plan. -/
import Derived.Test.YtaebofpgdonnbaaJobs10
import Derived.Test.YtaebofpgdonnbaaJobMath5
set_option linter.unusedVariables false
set_option linter.unusedSimpArgs false
namespace Go.Proofs.Ytaebofpgdonnbaa
open Go.RowKit

set_option maxRecDepth 100000 in
set_option maxHeartbeats 2000000 in
theorem nextJob_c (A : Option Addr) (n c : Nat) (l : List JobD) (A2 : Option Addr) (c2 : Nat) (s : List Int) (A3 : Option Addr) (c3 : Nat) (ls : List Int) (day : Int) (w : World) (hn : l.length = n) (hm : n ≤ 1048576) (hr : JRd w w.heap.size A l) (hv : validS l = true) (hn2 : s.length = n) (hr2 : Rd w w.heap.size 1 icell A2 s) (hs : sOk s) (hn3 : ls.length = n) (hr3 : Rd w w.heap.size 1 icell A3 ls) :
    Calls Try.prog 28 #[.slice A n c, .slice A2 n c2, .slice A3 n c3, .int .i64 day] w fun e w' => e = .returned (.int .i64 (bestM l s ls day n)) ∧ Below w.heap.size w w' := by
  have HN := Lib.hid hn; clear hn
  have HS := Lib.hid hn2; clear hn2
  have HL := Lib.hid hn3; clear hn3
  have h30 := (valid_all hv).1
  rw [HN.out] at h30
  have HV := Lib.hid hv; clear hv
  have HSO := Lib.hid hs; clear hs
  go_enter Try.func28, Try.ntmps28
  go_wp2_with fail
  go_loopw [9, 14] (fun t i wr => ∃ (k : Nat) (q : Int), k ≤ n ∧ i = .int .i64 k ∧ t = .int .i64 q ∧ q = bestM l s ls day k ∧ Below w.heap.size w wr) (fun _ i _ => n - (intOf i).toNat)
  case atStart => exact ⟨0, -1, Nat.zero_le _, rfl, rfl, rfl, Below.refl _ _⟩
  case round =>
    obtain ⟨k, q, hk, rfl, rfl, hq, hb⟩ := hrel
    have hqb := bestM_bd l s ls day k
    rw [← hq] at hqb
    obtain ⟨hq1, hq2⟩ := hqb
    have HQ := Lib.hid hq; clear hq
    have hbs := hb.size
    by_cases hlt : k < n
    · obtain ⟨b1, off, rfl, hbl, hc⟩ := (hr.below hb) (by rw [HN.out]; omega)
      obtain ⟨d, hd⟩ := get_ex l k (by rw [HN.out]; omega)
      obtain ⟨g0, g1, g2, An, cn, g3, g4⟩ := hc k d hd
      have HG := Lib.hid (getJ_eq hd); clear hd hc
      obtain ⟨b2, o2, rfl, hbl2, hc2⟩ := (hr2.below hb).ints' (by rw [HS.out]; omega)
      obtain ⟨x, hx⟩ := get_ex s k (by rw [HS.out]; omega)
      have e2 := hc2 k x hx
      have hf1 := far (show b1 < wr.heap.size by omega)
      have hf2 := far (show b2 < wr.heap.size by omega)
      have HX := Lib.hid (getD_eq hx); clear hx hc2
      have p1 : (0 : Int) ≤ (k : Int) := by omega
      have p2 : (k : Int) < (n : Int) := by omega
      have HSU := Lib.hid (show bestM l s ls day (k + 1) = if candB l s ls day (bestM l s ls day k) k = true then (k : Int) else bestM l s ls day k from rfl)
      by_cases hx0 : x < 0
      · have HRW := Lib.hid ((hr.below hb).mono hbs)
        have HR2W := Lib.hid ((hr2.below hb).mono hbs)
        have hva := (valid_all HV.out).2 k (by rw [HN.out]; exact hlt)
        rw [HG.out] at hva
        have HNB := Lib.hid (show ∀ (i : Nat) (x : Int), d.needs[i]? = some x → ∃ p : Nat, x = (p : Int) ∧ p < n from fun i x hi => by
          have := hva.2.2.2.2.1 i x hi
          exact ⟨x.toNat, by omega, by omega⟩)
        have hkd : d.needs.length ≤ 1048576 := by omega
        clear hva
        have HG4 := Lib.hid (g4.mono hbs); clear g4
        cases hD : doneB l s d.needs day
        · have HNX := Lib.hid (show q = bestM l s ls day (k + 1) by
            rw [HSU.out, if_neg, HQ.out]
            unfold candB rdyB
            rw [HX.out, HG.out, hD]
            simp)
          go_upto_region 5 with fail
          (refine wp_region_quiet_below (by kernel_rfl) (by kernel_rfl) ?_; (repeat (go_big_quiet_step (first | ((go_at_call 46; exact rg_drawn (fun w' hb => retb (areDone_c (some ⟨b1, off, none⟩) n c l (some ⟨b2, o2, none⟩) c2 s An d.needs.length cn d.needs day wr.heap.size w' HN.out hm (HRW.out.below (by (repeat' (first | (with_reducible exact Below.refl _ _) | (with_reducible assumption) | (with_reducible refine below_drewN ?_ _) | (with_reducible refine Below.drew ?_) | (with_reducible refine Below.alloc ?_ ?_ _) | (with_reducible refine Below.setCell ?_ ?_ _) | (with_reducible refine via (by with_reducible assumption) ?_ ?_) | go_size)))) HV.out HS.out (HR2W.out.below (by (repeat' (first | (with_reducible exact Below.refl _ _) | (with_reducible assumption) | (with_reducible refine below_drewN ?_ _) | (with_reducible refine Below.drew ?_) | (with_reducible refine Below.alloc ?_ ?_ _) | (with_reducible refine Below.setCell ?_ ?_ _) | (with_reducible refine via (by with_reducible assumption) ?_ ?_) | go_size)))) HSO.out rfl hkd (HG4.out.below (by (repeat' (first | (with_reducible exact Below.refl _ _) | (with_reducible assumption) | (with_reducible refine below_drewN ?_ _) | (with_reducible refine Below.drew ?_) | (with_reducible refine Below.alloc ?_ ?_ _) | (with_reducible refine Below.setCell ?_ ?_ _) | (with_reducible refine via (by with_reducible assumption) ?_ ?_) | go_size)))) HNB.out) hD)))))); refine wpQuiet_nil ?_; refine qg_end ?_; intro wq hbq)
          go_wp2_with fail
          (first | (refine ⟨?_, ?_⟩; rotate_left; (first | (simp [intOf]; done) | (simp [intOf]; omega)); (repeat apply Exists.intro); refine ⟨?_, rfl⟩; exact ⟨k + 1, q, by omega, by go_num, rfl, HNX.out, by (repeat' (first | (with_reducible exact Below.refl _ _) | (with_reducible assumption) | (with_reducible refine below_drewN ?_ _) | (with_reducible refine Below.drew ?_) | (with_reducible refine Below.alloc ?_ ?_ _) | (with_reducible refine Below.setCell ?_ ?_ _) | (with_reducible refine via (by with_reducible assumption) ?_ ?_) | go_size))⟩) | exact ⟨⟨k + 1, q, by omega, by go_num, rfl, HNX.out, by (repeat' (first | (with_reducible exact Below.refl _ _) | (with_reducible assumption) | (with_reducible refine below_drewN ?_ _) | (with_reducible refine Below.drew ?_) | (with_reducible refine Below.alloc ?_ ?_ _) | (with_reducible refine Below.setCell ?_ ?_ _) | (with_reducible refine via (by with_reducible assumption) ?_ ?_) | go_size))⟩, by first | (simp [intOf]; done) | (simp [intOf]; omega)⟩)
        by_cases hq0 : q < 0
        · have HNX := Lib.hid (show (k : Int) = bestM l s ls day (k + 1) by
            rw [HSU.out, if_pos]
            unfold candB rdyB
            rw [HX.out, HG.out, hD, decide_eq_true hx0, ← HQ.out, decide_eq_true hq0]
            rfl)
          go_upto_region 5 with fail
          (refine wp_region_quiet_below (by kernel_rfl) (by kernel_rfl) ?_; (repeat (go_big_quiet_step (first | ((go_at_call 46; exact rg_drawn (fun w' hb => retb (areDone_c (some ⟨b1, off, none⟩) n c l (some ⟨b2, o2, none⟩) c2 s An d.needs.length cn d.needs day wr.heap.size w' HN.out hm (HRW.out.below (by (repeat' (first | (with_reducible exact Below.refl _ _) | (with_reducible assumption) | (with_reducible refine below_drewN ?_ _) | (with_reducible refine Below.drew ?_) | (with_reducible refine Below.alloc ?_ ?_ _) | (with_reducible refine Below.setCell ?_ ?_ _) | (with_reducible refine via (by with_reducible assumption) ?_ ?_) | go_size)))) HV.out HS.out (HR2W.out.below (by (repeat' (first | (with_reducible exact Below.refl _ _) | (with_reducible assumption) | (with_reducible refine below_drewN ?_ _) | (with_reducible refine Below.drew ?_) | (with_reducible refine Below.alloc ?_ ?_ _) | (with_reducible refine Below.setCell ?_ ?_ _) | (with_reducible refine via (by with_reducible assumption) ?_ ?_) | go_size)))) HSO.out rfl hkd (HG4.out.below (by (repeat' (first | (with_reducible exact Below.refl _ _) | (with_reducible assumption) | (with_reducible refine below_drewN ?_ _) | (with_reducible refine Below.drew ?_) | (with_reducible refine Below.alloc ?_ ?_ _) | (with_reducible refine Below.setCell ?_ ?_ _) | (with_reducible refine via (by with_reducible assumption) ?_ ?_) | go_size)))) HNB.out) hD)))))); refine wpQuiet_nil ?_; refine qg_end ?_; intro wq hbq)
          go_wp2_with fail
          (first | (refine ⟨?_, ?_⟩; rotate_left; (first | (simp [intOf]; done) | (simp [intOf]; omega)); (repeat apply Exists.intro); refine ⟨?_, rfl⟩; exact ⟨k + 1, (k : Int), by omega, by go_num, rfl, HNX.out, by (repeat' (first | (with_reducible exact Below.refl _ _) | (with_reducible assumption) | (with_reducible refine below_drewN ?_ _) | (with_reducible refine Below.drew ?_) | (with_reducible refine Below.alloc ?_ ?_ _) | (with_reducible refine Below.setCell ?_ ?_ _) | (with_reducible refine via (by with_reducible assumption) ?_ ?_) | go_size))⟩) | exact ⟨⟨k + 1, (k : Int), by omega, by go_num, rfl, HNX.out, by (repeat' (first | (with_reducible exact Below.refl _ _) | (with_reducible assumption) | (with_reducible refine below_drewN ?_ _) | (with_reducible refine Below.drew ?_) | (with_reducible refine Below.alloc ?_ ?_ _) | (with_reducible refine Below.setCell ?_ ?_ _) | (with_reducible refine via (by with_reducible assumption) ?_ ?_) | go_size))⟩, by first | (simp [intOf]; done) | (simp [intOf]; omega)⟩)
        obtain ⟨p, rfl⟩ := Int.eq_ofNat_of_zero_le (by omega : 0 ≤ q)
        obtain ⟨b3, o3, rfl, hbl3, hc3⟩ := (hr3.below hb).ints' (by rw [HL.out]; omega)
        obtain ⟨y, hy⟩ := get_ex ls k (by rw [HL.out]; omega)
        obtain ⟨z, hz⟩ := get_ex ls p (by rw [HL.out]; omega)
        have e3 := hc3 k y hy
        have e4 := hc3 p z hz
        have HY := Lib.hid (getD_eq hy); clear hy
        have HZ := Lib.hid (getD_eq hz); clear hz hc3
        have hf3 := far (show b3 < wr.heap.size by omega)
        have p3 : (0 : Int) ≤ (p : Int) := by omega
        have p4 : (p : Int) < (n : Int) := by omega
        have p5 : p < n := by omega
        by_cases hyz : y < z
        · have HNX := Lib.hid (show (k : Int) = bestM l s ls day (k + 1) by
            rw [HSU.out, if_pos]
            unfold candB rdyB
            rw [HX.out, HG.out, hD, decide_eq_true hx0, ← HQ.out, Int.toNat_natCast, HY.out, HZ.out, decide_eq_true hyz]
            simp)
          go_upto_region 5 with fail
          (refine wp_region_quiet_below (by kernel_rfl) (by kernel_rfl) ?_; (repeat (go_big_quiet_step (first | ((go_at_call 46; exact rg_drawn (fun w' hb => retb (areDone_c (some ⟨b1, off, none⟩) n c l (some ⟨b2, o2, none⟩) c2 s An d.needs.length cn d.needs day wr.heap.size w' HN.out hm (HRW.out.below (by (repeat' (first | (with_reducible exact Below.refl _ _) | (with_reducible assumption) | (with_reducible refine below_drewN ?_ _) | (with_reducible refine Below.drew ?_) | (with_reducible refine Below.alloc ?_ ?_ _) | (with_reducible refine Below.setCell ?_ ?_ _) | (with_reducible refine via (by with_reducible assumption) ?_ ?_) | go_size)))) HV.out HS.out (HR2W.out.below (by (repeat' (first | (with_reducible exact Below.refl _ _) | (with_reducible assumption) | (with_reducible refine below_drewN ?_ _) | (with_reducible refine Below.drew ?_) | (with_reducible refine Below.alloc ?_ ?_ _) | (with_reducible refine Below.setCell ?_ ?_ _) | (with_reducible refine via (by with_reducible assumption) ?_ ?_) | go_size)))) HSO.out rfl hkd (HG4.out.below (by (repeat' (first | (with_reducible exact Below.refl _ _) | (with_reducible assumption) | (with_reducible refine below_drewN ?_ _) | (with_reducible refine Below.drew ?_) | (with_reducible refine Below.alloc ?_ ?_ _) | (with_reducible refine Below.setCell ?_ ?_ _) | (with_reducible refine via (by with_reducible assumption) ?_ ?_) | go_size)))) HNB.out) hD)))))); refine wpQuiet_nil ?_; refine qg_end ?_; intro wq hbq)
          go_wp2_with fail
          (first | (refine ⟨?_, ?_⟩; rotate_left; (first | (simp [intOf]; done) | (simp [intOf]; omega)); (repeat apply Exists.intro); refine ⟨?_, rfl⟩; exact ⟨k + 1, (k : Int), by omega, by go_num, rfl, HNX.out, by (repeat' (first | (with_reducible exact Below.refl _ _) | (with_reducible assumption) | (with_reducible refine below_drewN ?_ _) | (with_reducible refine Below.drew ?_) | (with_reducible refine Below.alloc ?_ ?_ _) | (with_reducible refine Below.setCell ?_ ?_ _) | (with_reducible refine via (by with_reducible assumption) ?_ ?_) | go_size))⟩) | exact ⟨⟨k + 1, (k : Int), by omega, by go_num, rfl, HNX.out, by (repeat' (first | (with_reducible exact Below.refl _ _) | (with_reducible assumption) | (with_reducible refine below_drewN ?_ _) | (with_reducible refine Below.drew ?_) | (with_reducible refine Below.alloc ?_ ?_ _) | (with_reducible refine Below.setCell ?_ ?_ _) | (with_reducible refine via (by with_reducible assumption) ?_ ?_) | go_size))⟩, by first | (simp [intOf]; done) | (simp [intOf]; omega)⟩)
        · have HNX := Lib.hid (show (p : Int) = bestM l s ls day (k + 1) by
            rw [HSU.out, if_neg, HQ.out]
            unfold candB rdyB
            rw [← HQ.out, Int.toNat_natCast, HY.out, HZ.out, decide_eq_false hyz, decide_eq_false hq0]
            simp)
          go_upto_region 5 with fail
          (refine wp_region_quiet_below (by kernel_rfl) (by kernel_rfl) ?_; (repeat (go_big_quiet_step (first | ((go_at_call 46; exact rg_drawn (fun w' hb => retb (areDone_c (some ⟨b1, off, none⟩) n c l (some ⟨b2, o2, none⟩) c2 s An d.needs.length cn d.needs day wr.heap.size w' HN.out hm (HRW.out.below (by (repeat' (first | (with_reducible exact Below.refl _ _) | (with_reducible assumption) | (with_reducible refine below_drewN ?_ _) | (with_reducible refine Below.drew ?_) | (with_reducible refine Below.alloc ?_ ?_ _) | (with_reducible refine Below.setCell ?_ ?_ _) | (with_reducible refine via (by with_reducible assumption) ?_ ?_) | go_size)))) HV.out HS.out (HR2W.out.below (by (repeat' (first | (with_reducible exact Below.refl _ _) | (with_reducible assumption) | (with_reducible refine below_drewN ?_ _) | (with_reducible refine Below.drew ?_) | (with_reducible refine Below.alloc ?_ ?_ _) | (with_reducible refine Below.setCell ?_ ?_ _) | (with_reducible refine via (by with_reducible assumption) ?_ ?_) | go_size)))) HSO.out rfl hkd (HG4.out.below (by (repeat' (first | (with_reducible exact Below.refl _ _) | (with_reducible assumption) | (with_reducible refine below_drewN ?_ _) | (with_reducible refine Below.drew ?_) | (with_reducible refine Below.alloc ?_ ?_ _) | (with_reducible refine Below.setCell ?_ ?_ _) | (with_reducible refine via (by with_reducible assumption) ?_ ?_) | go_size)))) HNB.out) hD)))))); refine wpQuiet_nil ?_; refine qg_end ?_; intro wq hbq)
          go_wp2_with fail
          (first | (refine ⟨?_, ?_⟩; rotate_left; (first | (simp [intOf]; done) | (simp [intOf]; omega)); (repeat apply Exists.intro); refine ⟨?_, rfl⟩; exact ⟨k + 1, (p : Int), by omega, by go_num, rfl, HNX.out, by (repeat' (first | (with_reducible exact Below.refl _ _) | (with_reducible assumption) | (with_reducible refine below_drewN ?_ _) | (with_reducible refine Below.drew ?_) | (with_reducible refine Below.alloc ?_ ?_ _) | (with_reducible refine Below.setCell ?_ ?_ _) | (with_reducible refine via (by with_reducible assumption) ?_ ?_) | go_size))⟩) | exact ⟨⟨k + 1, (p : Int), by omega, by go_num, rfl, HNX.out, by (repeat' (first | (with_reducible exact Below.refl _ _) | (with_reducible assumption) | (with_reducible refine below_drewN ?_ _) | (with_reducible refine Below.drew ?_) | (with_reducible refine Below.alloc ?_ ?_ _) | (with_reducible refine Below.setCell ?_ ?_ _) | (with_reducible refine via (by with_reducible assumption) ?_ ?_) | go_size))⟩, by first | (simp [intOf]; done) | (simp [intOf]; omega)⟩)
      · have HNX := Lib.hid (show q = bestM l s ls day (k + 1) by
          rw [HSU.out, if_neg, HQ.out]
          unfold candB rdyB
          rw [HX.out, decide_eq_false hx0]
          simp)
        go_upto_region 5 with fail
        (refine wp_region_quiet_below (by kernel_rfl) (by kernel_rfl) ?_; (repeat (go_big_quiet_step (first | fail))); refine wpQuiet_nil ?_; refine qg_end ?_; intro wq hbq)
        go_wp2_with fail
        (first | (refine ⟨?_, ?_⟩; rotate_left; (first | (simp [intOf]; done) | (simp [intOf]; omega)); (repeat apply Exists.intro); refine ⟨?_, rfl⟩; exact ⟨k + 1, q, by omega, by go_num, rfl, HNX.out, by (repeat' (first | (with_reducible exact Below.refl _ _) | (with_reducible assumption) | (with_reducible refine below_drewN ?_ _) | (with_reducible refine Below.drew ?_) | (with_reducible refine Below.alloc ?_ ?_ _) | (with_reducible refine Below.setCell ?_ ?_ _) | (with_reducible refine via (by with_reducible assumption) ?_ ?_) | go_size))⟩) | exact ⟨⟨k + 1, q, by omega, by go_num, rfl, HNX.out, by (repeat' (first | (with_reducible exact Below.refl _ _) | (with_reducible assumption) | (with_reducible refine below_drewN ?_ _) | (with_reducible refine Below.drew ?_) | (with_reducible refine Below.alloc ?_ ?_ _) | (with_reducible refine Below.setCell ?_ ?_ _) | (with_reducible refine via (by with_reducible assumption) ?_ ?_) | go_size))⟩, by first | (simp [intOf]; done) | (simp [intOf]; omega)⟩)
    · have hkn : k = n := by omega
      subst hkn
      go_wp2_with fail
      go_ret
      exact ⟨ret_int HQ.out, hb⟩
end Go.Proofs.Ytaebofpgdonnbaa
