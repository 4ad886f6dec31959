/- Contracts: the earliest days; both sides. -/
import Derived.Test.YtaebofpgdonnbaaJobs6
import Derived.Test.YtaebofpgdonnbaaJobMath2
import Derived.Lib.MinMax
set_option linter.unusedVariables false
set_option linter.unusedSimpArgs false
namespace Go.Proofs.Ytaebofpgdonnbaa
open Go.RowKit

theorem ret_two_v {v : Value} {b : Int} : Ending.returned (.tuple #[v, .int .i64 b]) = .returned (.tuple #[v, .int .i64 b]) := rfl

set_option maxRecDepth 100000 in
set_option maxHeartbeats 4000000 in
theorem earliest_c (A : Option Addr) (n c : Nat) (l : List JobD) (w : World) (hn : l.length = n) (hm : n ≤ 1048576) (hr : JRd w w.heap.size A l) (hv : validS l = true) :
    Calls Try.prog 57 #[.slice A n c] w fun e w' => ∃ v, e = .returned v ∧ w'.ownsRow w.heap.size 2 1 v n ((ear l n).map (Value.int .i64)) ∧ Below w.heap.size w w' := by
  obtain ⟨i0, hi0, hz0, hz1, hz2⟩ := info_parts info_i64
  have HN := Lib.hid hn; clear hn
  have h30 := (valid_all hv).1
  rw [HN.out] at h30
  have HV := Lib.hid hv; clear hv
  go_enter Try.func57, Try.ntmps57
  go_wp2_with fail
  have hown0 : (w.alloc (.cells #[] 2)).ownsRow w.heap.size 2 1 (.slice (some ⟨w.heap.size, 0, none⟩) 0 0) 0 [] := World.ownsRow_made w #[] 0 (Nat.le_refl _) (by simp [maxLen]) (by simp)
  go_loopw [3, 12] (fun o i wr => ∃ k : Nat, k ≤ n ∧ i = .int .i64 k ∧ Below w.heap.size w wr ∧ wr.ownsRow w.heap.size 2 1 o k ((ear l k).map (Value.int .i64))) (fun _ i _ => n - (intOf i).toNat)
  case atStart => exact ⟨0, Nat.zero_le _, rfl, by (repeat' (first | (with_reducible exact Below.refl _ _) | (with_reducible assumption) | (with_reducible refine below_drewN ?_ _) | (with_reducible refine Below.drew ?_) | (with_reducible refine Below.alloc ?_ ?_ _) | (with_reducible refine Below.setCell ?_ ?_ _) | (with_reducible refine via (by with_reducible assumption) ?_ ?_) | go_size)), hown0⟩
  case round =>
    clear hown0
    obtain ⟨k, hk, rfl, hb, hx⟩ := hrel
    obtain ⟨wk, rfl⟩ : ∃ w' : World, w' = wr := ⟨_, rfl⟩
    have HX := Lib.hid hx; clear hx
    have hbs := hb.size
    obtain ⟨vA, vc, rfl, _⟩ := own_form HX.out
    by_cases hlt : k < n
    · obtain ⟨b1, off, rfl, hbl, hc⟩ := (hr.below hb) (by rw [HN.out]; omega)
      obtain ⟨d, hd⟩ := get_ex l k (by rw [HN.out]; omega)
      obtain ⟨g0, g1, g2, An, cn, g3, g4⟩ := hc k d hd
      have HG := Lib.hid (getJ_eq hd); clear hd
      have HC := Lib.hid hc; clear hc
      have hf1 := far (show b1 < wk.heap.size by omega)
      have p1 : (0 : Int) ≤ (k : Int) := by omega
      have p2 : (k : Int) < (n : Int) := by omega
      have HNA := Lib.hid (show ∀ i x, (getJ l k).needs[i]? = some x → ∃ j : Nat, x = (j : Int) ∧ j < k ∧ 0 ≤ (ear l k).getD j 0 ∧ (ear l k).getD j 0 ≤ 60 * (j : Int) ∧ 1 ≤ (getJ l j).days ∧ (getJ l j).days ≤ 60 from fun i x hx => need_at HV.out (by rw [HN.out]; exact hlt) hx)
      have HPB := Lib.hid (show ∀ j, 0 ≤ ((getJ l k).needs.take j).foldl (dayF l (ear l k)) 0 ∧ ((getJ l k).needs.take j).foldl (dayF l (ear l k)) 0 ≤ 60 * (k : Int) from fun j => part_bd HV.out (by rw [HN.out]; exact hlt) j)
      have hnk := ((valid_all HV.out).2 k (by rw [HN.out]; exact hlt)).2.2.2.2.2
      have hdd := ((valid_all HV.out).2 k (by rw [HN.out]; exact hlt)).2.1
      have hdd0 := ((valid_all HV.out).2 k (by rw [HN.out]; exact hlt)).1
      rw [HG.out] at HNA HPB hnk hdd hdd0
      obtain ⟨nl, hnl⟩ : ∃ nl, d.needs.length = nl := ⟨_, rfl⟩
      rw [hnl] at g3 hnk
      have HNL := Lib.hid hnl; clear hnl
      have HG4 := Lib.hid g4; clear g4
      go_wp2_with fail
      obtain ⟨wo, hwo⟩ : ∃ wo : World, wo = wk.alloc (.cells #[.string d.name, .int .i64 d.days, .int .i64 d.cost, .slice An nl cn] 46) := ⟨_, rfl⟩
      have hbo : Below wk.heap.size wk wo := by rw [hwo]; (repeat' (first | (with_reducible exact Below.refl _ _) | (with_reducible assumption) | (with_reducible refine below_drewN ?_ _) | (with_reducible refine Below.drew ?_) | (with_reducible refine Below.alloc ?_ ?_ _) | (with_reducible refine Below.setCell ?_ ?_ _) | (with_reducible refine via (by with_reducible assumption) ?_ ?_) | go_size))
      have HOO := Lib.hid (own_call HX.out hbo)
      have HWO := Lib.hid hwo
      rw [← hwo]
      clear hwo
      have HRN := Lib.hid ((HG4.out).below (hbo.mono hbs))
      have hbow : Below w.heap.size w wo := hb.trans (hbo.mono hbs)
      have hbos := hbo.size
      have HCO := Lib.hid (show ∀ i d, l[i]? = some d → wo.cell? ⟨b1, off + i * 4 + 1, none⟩ = some (.int .i64 d.days) from fun i d' hi => by rw [hbow.cell (p := ⟨b1, off + i * 4 + 1, none⟩) hbl, ← hb.cell (p := ⟨b1, off + i * 4 + 1, none⟩) hbl]; exact (HC.out i d' hi).2.1)
      
      go_loopw [6, 19] (fun t i wi => ∃ (j : Nat) (dd : Int), j ≤ nl ∧ i = .int .i64 j ∧ t = .int .i64 dd ∧ dd = (d.needs.take j).foldl (dayF l (ear l k)) 0 ∧ ∃ m2, wi = wo.drewN m2) (fun _ i _ => nl - (intOf i).toNat)
      case atStart => exact ⟨0, 0, Nat.zero_le _, rfl, rfl, rfl, 0, rfl⟩
      case round =>
        obtain ⟨j, dd, hj, rfl, rfl, hdj, m2, hw2⟩ := hrel
        have hpb := HPB.out j
        rw [← hdj] at hpb
        obtain ⟨hpb1, hpb2⟩ := hpb
        have HDJ := Lib.hid hdj; clear hdj
        have HW2 := Lib.hid hw2
        by_cases hjt : j < nl
        · have hrn : Rd wr w.heap.size 1 icell An d.needs := by rw [hw2]; exact HRN.out
          obtain ⟨b2, off2, rfl, hbl2, hc2⟩ := hrn.ints' (by rw [HNL.out]; omega)
          obtain ⟨x, hx⟩ := get_ex d.needs j (by rw [HNL.out]; omega)
          have e0 := hc2 j x hx
          obtain ⟨p, hxp, hpk, y1, y2, y3, y4⟩ := HNA.out j x hx
          obtain ⟨dp, hdp⟩ := get_ex l p (by rw [HN.out]; omega)
          have e1 := HCO.out p dp hdp
          obtain ⟨y, hy⟩ := get_ex (ear l k) p (by rw [ear_len]; exact hpk)
          have hrdd := rd_own HOO.out
          obtain ⟨g, go, hgA, hgl, hgc⟩ := hrdd.ints' (by rw [ear_len]; omega)
          have e2 := hgc p y hy
          have e1' : wr.cell? ⟨b1, off + p * 4 + 1, none⟩ = some (.int .i64 dp.days) := by rw [hw2]; exact e1
          have e2' : wr.cell? ⟨g, go + p, none⟩ = some (.int .i64 y) := by rw [hw2]; exact e2
          
          have HS := Lib.hid (show max dd (y + dp.days) = (d.needs.take (j + 1)).foldl (dayF l (ear l k)) 0 by rw [foldl_take_succ _ _ _ j x hx, ← HDJ.out]; unfold dayF; rw [hxp, Int.toNat_natCast, getD_eq hy, getJ_eq hdp])
          rw [getD_eq hy] at y1 y2
          rw [getJ_eq hdp] at y3 y4
          subst hgA
          subst hxp
          clear hx hc2 hdp hy hrdd hgc e1 e2 hw2 hrn
          have p3 : (0 : Int) ≤ (j : Int) := by omega
          have p4 : (j : Int) < (nl : Int) := by omega
          have p5 : (0 : Int) ≤ (p : Int) := by omega
          have p6 : (p : Int) < (n : Int) := by omega
          have p7 : (p : Int) < (k : Int) := by omega
          have ew : IntKind.i64.wrap (y + dp.days) = y + dp.days := IntWalk.i64_in _ (by omega)
          go_wp2_with fail
          go_quiet (fail)
          clear ew
          go_wp2_with fail
          (first | (refine ⟨?_, ?_⟩; rotate_left; (first | (simp [intOf]; done) | (simp [intOf]; omega)); (repeat apply Exists.intro); refine ⟨?_, rfl⟩; exact ⟨j + 1, _, by omega, by go_num, rfl, HS.out, m2 + nq, by rw [HW2.out, World.drewN_drewN]⟩) | exact ⟨⟨j + 1, _, by omega, by go_num, rfl, HS.out, m2 + nq, by rw [HW2.out, World.drewN_drewN]⟩, by first | (simp [intOf]; done) | (simp [intOf]; omega)⟩)
        · have hjk : j = nl := by omega
          have HDE := Lib.hid (show dd = dayE l (ear l k) k by unfold dayE; rw [HDJ.out, HG.out, hjk, List.take_of_length_le (by rw [HNL.out]; exact Nat.le_refl _)])
          have hOX : wr.ownsRow w.heap.size 2 1 (.slice vA k vc) k ((ear l k).map (Value.int .i64)) := by rw [hw2]; exact HOO.out
          have HOX := Lib.hid hOX; clear hOX
          have hbr : Below w.heap.size w wr := by rw [hw2]; exact below_drewN hbow m2
          have hbrs := hbr.size
          
          clear hjk hw2
          go_wp2_with (at_builtin; refine app_list (W := w) (z := .int .i64 0) (.tmp 36) (.tmp 38) rfl rfl Try.underlying24 hi0 hz0 hz1 hz2 rfl (by decide) (by decide) rfl (HOX.out.alloc _) rfl rfl (news1 (z := .int .i64 dd) (by simp [go_sem])) (by simp [Value.oneCell']) (by omega) (by (repeat' (first | (with_reducible exact Below.refl _ _) | (with_reducible assumption) | (with_reducible refine below_drewN ?_ _) | (with_reducible refine Below.drew ?_) | (with_reducible refine Below.alloc ?_ ?_ _) | (with_reducible refine Below.setCell ?_ ?_ _) | (with_reducible refine via (by with_reducible assumption) ?_ ?_) | go_size))) (Nat.le_refl _) ?_; intro v1 w1 hown1 hg1 hblk1 hb1)
          have HO := Lib.hid hown1; clear hown1 hg1 hblk1
          (first | (refine ⟨?_, ?_⟩; rotate_left; (first | (simp [intOf]; done) | (simp [intOf]; omega)); (repeat apply Exists.intro); refine ⟨?_, rfl⟩; exact ⟨k + 1, by omega, by go_num, hb1, by rw [ear_succ, List.map_append, ← HDE.out]; exact HO.out⟩) | exact ⟨⟨k + 1, by omega, by go_num, hb1, by rw [ear_succ, List.map_append, ← HDE.out]; exact HO.out⟩, by first | (simp [intOf]; done) | (simp [intOf]; omega)⟩)
    · have hkn : k = n := by omega
      subst hkn
      go_wp2_with fail
      refine bodyPost_ret (v := .slice vA k vc) (by simp only [results, Try.results57]; go_simp) rfl ⟨_, rfl, HX.out, hb⟩

set_option maxRecDepth 100000 in
set_option maxHeartbeats 4000000 in
theorem l22Early_c (A : Option Addr) (n c : Nat) (l : List JobD) (w : World) (hn : l.length = n) (hm : n ≤ 1048576) (hr : JRd w w.heap.size A l) (hv : validS l = true) :
    Calls Try.prog 54 #[.slice A n c] w fun e w' => ∃ v, e = .returned (.tuple #[v, .int .i64 (daysM l n)]) ∧ w'.ownsRow w.heap.size 2 1 v n ((ear l n).map (Value.int .i64)) ∧ Below w.heap.size w w' := by
  obtain ⟨i0, hi0, hz0, hz1, hz2⟩ := info_parts info_i64
  have HN := Lib.hid hn; clear hn
  have h30 := (valid_all hv).1
  rw [HN.out] at h30
  have HV := Lib.hid hv; clear hv
  go_enter Try.func54, Try.ntmps54
  go_wp2_with fail
  have hown0 : (w.alloc (.cells #[] 2)).ownsRow w.heap.size 2 1 (.slice (some ⟨w.heap.size, 0, none⟩) 0 0) 0 [] := World.ownsRow_made w #[] 0 (Nat.le_refl _) (by simp [maxLen]) (by simp)
  go_loopw [4, 5, 6] (fun o t i wr => ∃ (k : Nat) (q : Int), k ≤ n ∧ i = .int .i64 k ∧ t = .int .i64 q ∧ q = daysM l k ∧ Below w.heap.size w wr ∧ wr.ownsRow w.heap.size 2 1 o k ((ear l k).map (Value.int .i64))) (fun _ _ i _ => n - (intOf i).toNat)
  case atStart => exact ⟨0, 0, Nat.zero_le _, rfl, rfl, rfl, by (repeat' (first | (with_reducible exact Below.refl _ _) | (with_reducible assumption) | (with_reducible refine below_drewN ?_ _) | (with_reducible refine Below.drew ?_) | (with_reducible refine Below.alloc ?_ ?_ _) | (with_reducible refine Below.setCell ?_ ?_ _) | (with_reducible refine via (by with_reducible assumption) ?_ ?_) | go_size)), hown0⟩
  case round =>
    clear hown0
    obtain ⟨k, q, hk, rfl, rfl, hq, hb, hx⟩ := hrel
    have HQ := Lib.hid hq; clear hq
    obtain ⟨wk, rfl⟩ : ∃ w' : World, w' = wr := ⟨_, rfl⟩
    have HX := Lib.hid hx; clear hx
    have hbs := hb.size
    obtain ⟨vA, vc, rfl, _⟩ := own_form HX.out
    by_cases hlt : k < n
    · obtain ⟨b1, off, rfl, hbl, hc⟩ := (hr.below hb) (by rw [HN.out]; omega)
      obtain ⟨d, hd⟩ := get_ex l k (by rw [HN.out]; omega)
      obtain ⟨g0, g1, g2, An, cn, g3, g4⟩ := hc k d hd
      have HG := Lib.hid (getJ_eq hd); clear hd
      have HC := Lib.hid hc; clear hc
      have hf1 := far (show b1 < wk.heap.size by omega)
      have p1 : (0 : Int) ≤ (k : Int) := by omega
      have p2 : (k : Int) < (n : Int) := by omega
      have HNA := Lib.hid (show ∀ i x, (getJ l k).needs[i]? = some x → ∃ j : Nat, x = (j : Int) ∧ j < k ∧ 0 ≤ (ear l k).getD j 0 ∧ (ear l k).getD j 0 ≤ 60 * (j : Int) ∧ 1 ≤ (getJ l j).days ∧ (getJ l j).days ≤ 60 from fun i x hx => need_at HV.out (by rw [HN.out]; exact hlt) hx)
      have HPB := Lib.hid (show ∀ j, 0 ≤ ((getJ l k).needs.take j).foldl (dayF l (ear l k)) 0 ∧ ((getJ l k).needs.take j).foldl (dayF l (ear l k)) 0 ≤ 60 * (k : Int) from fun j => part_bd HV.out (by rw [HN.out]; exact hlt) j)
      have hnk := ((valid_all HV.out).2 k (by rw [HN.out]; exact hlt)).2.2.2.2.2
      have hdd := ((valid_all HV.out).2 k (by rw [HN.out]; exact hlt)).2.1
      have hdd0 := ((valid_all HV.out).2 k (by rw [HN.out]; exact hlt)).1
      rw [HG.out] at HNA HPB hnk hdd hdd0
      obtain ⟨nl, hnl⟩ : ∃ nl, d.needs.length = nl := ⟨_, rfl⟩
      rw [hnl] at g3 hnk
      have HNL := Lib.hid hnl; clear hnl
      have HG4 := Lib.hid g4; clear g4
      go_wp2_with fail
      obtain ⟨wo, hwo⟩ : ∃ wo : World, wo = wk := ⟨_, rfl⟩
      have hbo : Below wk.heap.size wk wo := by rw [hwo]; (repeat' (first | (with_reducible exact Below.refl _ _) | (with_reducible assumption) | (with_reducible refine below_drewN ?_ _) | (with_reducible refine Below.drew ?_) | (with_reducible refine Below.alloc ?_ ?_ _) | (with_reducible refine Below.setCell ?_ ?_ _) | (with_reducible refine via (by with_reducible assumption) ?_ ?_) | go_size))
      have HOO := Lib.hid (own_call HX.out hbo)
      have HWO := Lib.hid hwo
      rw [← hwo]
      clear hwo
      have HRN := Lib.hid ((HG4.out).below (hbo.mono hbs))
      have hbow : Below w.heap.size w wo := hb.trans (hbo.mono hbs)
      have hbos := hbo.size
      have HCO := Lib.hid (show ∀ i d, l[i]? = some d → wo.cell? ⟨b1, off + i * 4 + 1, none⟩ = some (.int .i64 d.days) from fun i d' hi => by rw [hbow.cell (p := ⟨b1, off + i * 4 + 1, none⟩) hbl, ← hb.cell (p := ⟨b1, off + i * 4 + 1, none⟩) hbl]; exact (HC.out i d' hi).2.1)
      have HG3 := Lib.hid (show wo.cell? ⟨b1, off + k * 4 + 3, none⟩ = some (.slice An nl cn) by rw [hbow.cell (p := ⟨b1, off + k * 4 + 3, none⟩) hbl, ← hb.cell (p := ⟨b1, off + k * 4 + 3, none⟩) hbl]; exact g3)
      go_loopw [7, 8] (fun t i wi => ∃ (j : Nat) (dd : Int), j ≤ nl ∧ i = .int .i64 j ∧ t = .int .i64 dd ∧ dd = (d.needs.take j).foldl (dayF l (ear l k)) 0 ∧ ∃ m2, wi = wo.drewN m2) (fun _ i _ => nl - (intOf i).toNat)
      case atStart => exact ⟨0, 0, Nat.zero_le _, rfl, rfl, rfl, 0, rfl⟩
      case round =>
        obtain ⟨j, dd, hj, rfl, rfl, hdj, m2, hw2⟩ := hrel
        have hpb := HPB.out j
        rw [← hdj] at hpb
        obtain ⟨hpb1, hpb2⟩ := hpb
        have HDJ := Lib.hid hdj; clear hdj
        have HW2 := Lib.hid hw2
        by_cases hjt : j < nl
        · have hrn : Rd wr w.heap.size 1 icell An d.needs := by rw [hw2]; exact HRN.out
          obtain ⟨b2, off2, rfl, hbl2, hc2⟩ := hrn.ints' (by rw [HNL.out]; omega)
          obtain ⟨x, hx⟩ := get_ex d.needs j (by rw [HNL.out]; omega)
          have e0 := hc2 j x hx
          obtain ⟨p, hxp, hpk, y1, y2, y3, y4⟩ := HNA.out j x hx
          obtain ⟨dp, hdp⟩ := get_ex l p (by rw [HN.out]; omega)
          have e1 := HCO.out p dp hdp
          obtain ⟨y, hy⟩ := get_ex (ear l k) p (by rw [ear_len]; exact hpk)
          have hrdd := rd_own HOO.out
          obtain ⟨g, go, hgA, hgl, hgc⟩ := hrdd.ints' (by rw [ear_len]; omega)
          have e2 := hgc p y hy
          have e1' : wr.cell? ⟨b1, off + p * 4 + 1, none⟩ = some (.int .i64 dp.days) := by rw [hw2]; exact e1
          have e2' : wr.cell? ⟨g, go + p, none⟩ = some (.int .i64 y) := by rw [hw2]; exact e2
          have e3 : wr.cell? ⟨b1, off + k * 4 + 3, none⟩ = some (.slice (some ⟨b2, off2, none⟩) nl cn) := by rw [hw2]; exact HG3.out
          have HS := Lib.hid (show max dd (y + dp.days) = (d.needs.take (j + 1)).foldl (dayF l (ear l k)) 0 by rw [foldl_take_succ _ _ _ j x hx, ← HDJ.out]; unfold dayF; rw [hxp, Int.toNat_natCast, getD_eq hy, getJ_eq hdp])
          rw [getD_eq hy] at y1 y2
          rw [getJ_eq hdp] at y3 y4
          subst hgA
          subst hxp
          clear hx hc2 hdp hy hrdd hgc e1 e2 hw2 hrn
          have p3 : (0 : Int) ≤ (j : Int) := by omega
          have p4 : (j : Int) < (nl : Int) := by omega
          have p5 : (0 : Int) ≤ (p : Int) := by omega
          have p6 : (p : Int) < (n : Int) := by omega
          have p7 : (p : Int) < (k : Int) := by omega
          have ew : IntKind.i64.wrap (y + dp.days) = y + dp.days := IntWalk.i64_in _ (by omega)
          go_wp2_with fail
          go_quiet (((go_at_call 42; exact quiet_eq (l00Max_c _ _ _))))
          clear ew
          go_wp2_with fail
          (first | (refine ⟨?_, ?_⟩; rotate_left; (first | (simp [intOf]; done) | (simp [intOf]; omega)); (repeat apply Exists.intro); refine ⟨?_, rfl⟩; exact ⟨j + 1, _, by omega, by go_num, rfl, HS.out, m2 + nq, by rw [HW2.out, World.drewN_drewN]⟩) | exact ⟨⟨j + 1, _, by omega, by go_num, rfl, HS.out, m2 + nq, by rw [HW2.out, World.drewN_drewN]⟩, by first | (simp [intOf]; done) | (simp [intOf]; omega)⟩)
        · have hjk : j = nl := by omega
          have HDE := Lib.hid (show dd = dayE l (ear l k) k by unfold dayE; rw [HDJ.out, HG.out, hjk, List.take_of_length_le (by rw [HNL.out]; exact Nat.le_refl _)])
          have HQ2 := Lib.hid (show max q (dd + d.days) = daysM l (k + 1) by show _ = max (daysM l k) (dayE l (ear l k) k + (getJ l k).days); rw [HQ.out, HDE.out, HG.out])
          have hOX : wr.ownsRow w.heap.size 2 1 (.slice vA k vc) k ((ear l k).map (Value.int .i64)) := by rw [hw2]; exact HOO.out
          have HOX := Lib.hid hOX; clear hOX
          have hbr : Below w.heap.size w wr := by rw [hw2]; exact below_drewN hbow m2
          have hbrs := hbr.size
          have e3 : wr.cell? ⟨b1, off + k * 4 + 3, none⟩ = some (.slice An nl cn) := by rw [hw2]; exact HG3.out
          clear hjk hw2
          go_upto_region 13 with (at_builtin; refine app_list (W := w) (z := .int .i64 0) (.tmp 47) (.tmp 49) rfl rfl Try.underlying24 hi0 hz0 hz1 hz2 rfl (by decide) (by decide) rfl (HOX.out.alloc _) rfl rfl (news1 (z := .int .i64 dd) (by simp [go_sem])) (by simp [Value.oneCell']) (by omega) (by (repeat' (first | (with_reducible exact Below.refl _ _) | (with_reducible assumption) | (with_reducible refine below_drewN ?_ _) | (with_reducible refine Below.drew ?_) | (with_reducible refine Below.alloc ?_ ?_ _) | (with_reducible refine Below.setCell ?_ ?_ _) | (with_reducible refine via (by with_reducible assumption) ?_ ?_) | go_size))) (Nat.le_refl _) ?_; intro v1 w1 hown1 hg1 hblk1 hb1)
          have HO := Lib.hid hown1; clear hown1 hg1 hblk1
          have g1'' : w1.cell? ⟨b1, off + k * 4 + 1, none⟩ = some (.int .i64 d.days) := by rw [hb1.cell (p := ⟨b1, off + k * 4 + 1, none⟩) hbl, ← hb.cell (p := ⟨b1, off + k * 4 + 1, none⟩) hbl]; exact g1
          have hb1s := hb1.size
          go_wp2_with (go_at_call 42; refine (l00Max_c _ _ _).mono ?_; rintro e w' ⟨rfl, rfl⟩)
          (first | (refine ⟨?_, ?_⟩; rotate_left; (first | (simp [intOf]; done) | (simp [intOf]; omega)); (repeat apply Exists.intro); refine ⟨?_, rfl⟩; exact ⟨k + 1, _, by omega, by go_num, rfl, HQ2.out, hb1, by rw [ear_succ, List.map_append, ← HDE.out]; exact HO.out⟩) | exact ⟨⟨k + 1, _, by omega, by go_num, rfl, HQ2.out, hb1, by rw [ear_succ, List.map_append, ← HDE.out]; exact HO.out⟩, by first | (simp [intOf]; done) | (simp [intOf]; omega)⟩)
    · have hkn : k = n := by omega
      subst hkn
      go_wp2_with fail
      refine bodyPost_ret (v := .tuple #[.slice vA k vc, .int .i64 q]) (by simp only [results, Try.results54]; go_simp) rfl ⟨_, by rw [HQ.out], HX.out, hb⟩

def daysR (l : List JobD) : Int × Int := if validS l = true then (daysM l l.length, 0) else (0, 1)
def earR (l : List JobD) : List Int × Int := if validS l = true then (ear l l.length, 0) else ([], 1)
theorem earR_len (l : List JobD) : (earR l).1.length ≤ l.length := by
  unfold earR
  split
  · simp only [ear_len]; exact Nat.le_refl _
  · simp
theorem no_ints {w : World} {base : Nat} {e : TypeId} {l : List Int} (h : l = []) : w.ownsRow base e 1 (.slice none 0 0) l.length (l.map (Value.int .i64)) := by subst h; exact World.ownsRow_nil _ _ _ _

set_option maxHeartbeats 2000000 in
theorem daysNeeded_c (A : Option Addr) (n c : Nat) (l : List JobD) (w : World) (hn : l.length = n) (hm : n ≤ 1048576) (hr : JRd w w.heap.size A l) (hv : validS l = true) :
    Calls Try.prog 45 #[.slice A n c] w fun e w' => e = .returned (.int .i64 (daysM l n)) ∧ Below w.heap.size w w' := by
  have HN := Lib.hid hn; clear hn
  have h30 := (valid_all hv).1
  rw [HN.out] at h30
  have HV := Lib.hid hv; clear hv
  go_enter Try.func45, Try.ntmps45
  go_wp2_with fail
  refine (earliest_c A n c l w HN.out hm hr HV.out).mono ?_
  rintro e w1 ⟨v, rfl, hx, hb1⟩
  have HX := Lib.hid hx; clear hx
  obtain ⟨vA, vc, rfl, _⟩ := own_form HX.out
  have hb1s := hb1.size
  have hr1 := hr.below hb1
  have HR1 := Lib.hid (rd_own HX.out)
  go_wp2_with fail
  go_loop [3, 9] (fun t i => ∃ (k : Nat) (q : Int), k ≤ n ∧ i = .int .i64 k ∧ t = .int .i64 q ∧ q = daysM l k) (fun _ i => n - (intOf i).toNat)
  case atStart => exact ⟨0, 0, Nat.zero_le _, rfl, rfl, rfl⟩
  case round =>
    obtain ⟨k, q, hk, rfl, rfl, hq⟩ := hrel
    have hqb := daysM_bd HV.out k (by rw [HN.out]; exact hk)
    rw [← hq] at hqb
    obtain ⟨hqb1, hqb2⟩ := hqb
    have HQ := Lib.hid hq; clear hq
    by_cases hlt : k < n
    · obtain ⟨b1, off, rfl, hbl, hc⟩ := hr1 (by rw [HN.out]; omega)
      obtain ⟨d, hd⟩ := get_ex l k (by rw [HN.out]; omega)
      have g1 := (hc k d hd).2.1
      obtain ⟨b2, off2, rfl, hbl2, hc2⟩ := HR1.out.ints' (by rw [ear_len]; omega)
      obtain ⟨x, hx⟩ := get_ex (ear l n) k (by rw [ear_len]; exact hlt)
      have g2 := hc2 k x hx
      have hxe : x = dayE l (ear l k) k := by rw [← getD_eq hx]; exact ear_get l n k hlt
      have hxb := ear_bd HV.out k (by rw [HN.out]; exact hlt)
      rw [← hxe] at hxb
      obtain ⟨hxb1, hxb2⟩ := hxb
      have hdd := (valid_all HV.out).2 k (by rw [HN.out]; exact hlt)
      rw [getJ_eq hd] at hdd
      have hd1 := hdd.1
      have hd2 := hdd.2.1
      have HS := Lib.hid (show max q (x + d.days) = daysM l (k + 1) by show _ = max (daysM l k) (dayE l (ear l k) k + (getJ l k).days); rw [getJ_eq hd, ← hxe, HQ.out])
      clear hd hc hx hc2 hxe hdd
      have p1 : (0 : Int) ≤ (k : Int) := by omega
      have p2 : (k : Int) < (n : Int) := by omega
      go_wp2_with fail
      (first | (refine ⟨⟨(by first | trivial | rfl), ?_⟩, ?_⟩; rotate_left; (first | (simp [intOf]; done) | (simp [intOf]; omega)); (repeat apply Exists.intro); refine ⟨?_, rfl⟩; exact ⟨k + 1, _, by omega, by go_num, rfl, HS.out⟩) | exact ⟨⟨k + 1, _, by omega, by go_num, rfl, HS.out⟩, by first | (simp [intOf]; done) | (simp [intOf]; omega)⟩)
    · have hkn : k = n := by omega
      subst hkn
      go_wp2_with fail
      go_ret
      exact ⟨ret_int HQ.out, hb1⟩





end Go.Proofs.Ytaebofpgdonnbaa
