/- Contracts: the latest days; both sides. -/
import Derived.Test.YtaebofpgdonnbaaJobs7
import Derived.Test.YtaebofpgdonnbaaJobMath3
set_option linter.unusedVariables false
set_option linter.unusedSimpArgs false
namespace Go.Proofs.Ytaebofpgdonnbaa
open Go.RowKit

theorem fi_made (n : Nat) : (madeCells (Value.int .i64 0).cells (n * 1)).toList = fi n (fun _ => 0) := fl_made n _ rfl
theorem lateR_len' {l : List JobD} : (lateL l).length ≤ l.length := by rw [lateL_len]; exact Nat.le_refl _

set_option maxRecDepth 100000 in
set_option maxHeartbeats 4000000 in
theorem latest_c (A : Option Addr) (n c : Nat) (l : List JobD) (w : World) (hn : l.length = n) (hm : n ≤ 1048576) (hr : JRd w w.heap.size A l) (hv : validS l = true) :
    Calls Try.prog 26 #[.slice A n c] w fun e w' => ∃ v, e = .returned v ∧ w'.ownsRow w.heap.size 2 1 v n ((lateL l).map (Value.int .i64)) ∧ Below w.heap.size w w' := by
  obtain ⟨i0, hi0, hz0, hz1, hz2⟩ := info_parts info_i64
  have HN := Lib.hid hn; clear hn
  have h30 := (valid_all hv).1
  rw [HN.out] at h30
  have HV := Lib.hid hv; clear hv
  have HDN := Lib.hid (daysNeeded_c A n c l w HN.out hm hr HV.out)
  have hEb := daysM_bd HV.out n (by rw [HN.out]; exact Nat.le_refl _)
  obtain ⟨E, hE⟩ : ∃ E, daysM l n = E := ⟨_, rfl⟩
  rw [hE] at hEb HDN
  obtain ⟨hE0, hE1⟩ := hEb
  have HE := Lib.hid hE; clear hE
  go_enter Try.func26, Try.ntmps26
  go_wp2_with fail
  refine (HDN.out).mono ?_
  rintro e w1 ⟨rfl, hb1⟩
  have hb1s := hb1.size
  have hr1 := hr.below hb1
  have HR1 := Lib.hid hr1; clear hr1
  go_upto_region 3 with (at_make; refine wpList_make_full _ rfl _ _ 24 rfl w1.heap.size 2 i0 _ 1 Try.underlying24 hi0 hz0 hz1 _ _ _ _ n rfl rfl rfl rfl (by rw [hz2]; omega) (by unfold maxLen; omega) (Nat.le_refl _) ?_; intro w2 hown hg)
  rw [fi_made] at hown
  have hb2 : Below w1.heap.size w1 w2 := (Below.refl _ _).grown hg (Nat.le_refl _) (fun k hk => by cases hk)
  have hs2 := hb2.size
  have HOWN := Lib.hid hown; clear hown hg
  go_wp2_with fail
  go_loopw [17] (fun i wr => ∃ k : Nat, k ≤ n ∧ i = .int .i64 k ∧ Below w1.heap.size w1 wr ∧ wr.ownsRow w1.heap.size 2 1 (.slice (some ⟨w1.heap.size, 0, none⟩) n n) n (fi n (fun j => if j < k then E - (getJ l j).days else 0))) (fun i _ => n - (intOf i).toNat)
  case atStart => exact ⟨0, Nat.zero_le _, rfl, hb2, by rw [fi_congr (g' := fun _ => 0) (fun j _ => if_neg (Nat.not_lt_zero j))]; exact HOWN.out⟩
  case round =>
    clear HOWN
    obtain ⟨k, hk, rfl, hb, hx⟩ := hrel
    have HX := Lib.hid hx; clear hx
    have hbs := hb.size
    by_cases hlt : k < n
    · obtain ⟨b1, off, rfl, hbl, hc⟩ := ((HR1.out).below (hb.mono hb1s)) (by rw [HN.out]; omega)
      obtain ⟨d, hd⟩ := get_ex l k (by rw [HN.out]; omega)
      obtain ⟨g0, g1, g2, An, cn, g3, g4⟩ := hc k d hd
      have HG := Lib.hid (getJ_eq hd); clear hd hc g4
      have hdd := ((valid_all HV.out).2 k (by rw [HN.out]; exact hlt)).2.1
      have hdd0 := ((valid_all HV.out).2 k (by rw [HN.out]; exact hlt)).1
      rw [HG.out] at hdd hdd0
      have p1 : (0 : Int) ≤ (k : Int) := by omega
      have p2 : (k : Int) < (n : Int) := by omega
      have ew : IntKind.i64.wrap (E - d.days) = E - d.days := IntWalk.i64_in _ (by omega)
      have hox := HX.out.alloc (.cells #[.string d.name, .int .i64 d.days, .int .i64 d.cost, .slice An d.needs.length cn] 46)
      have c0 : (wr.alloc (.cells #[.string d.name, .int .i64 d.days, .int .i64 d.cost, .slice An d.needs.length cn] 46)).cell? ⟨w1.heap.size, k, none⟩ = some (.int .i64 0) := by rw [hox.cellAt k (by omega), fi_get hlt, if_neg (by omega)]
      have f0 : (wr.alloc (.cells #[.string d.name, .int .i64 d.days, .int .i64 d.cost, .slice An d.needs.length cn] 46)).frozen? ⟨w1.heap.size, k, none⟩ = false := hox.frozenAt k
      have st := (hox.stored k (.int .i64 (E - d.days))).1
      rw [fi_set (g' := fun j => if j < k + 1 then E - (getJ l j).days else 0) (fun j _ => by
        by_cases h : j = k
        · subst h; rw [if_pos (by omega), if_pos rfl, HG.out]
        · rw [if_neg h]
          by_cases h2 : j < k
          · rw [if_pos h2, if_pos (by omega)]
          · rw [if_neg h2, if_neg (by omega)])] at st
      have ST := Lib.hid st; clear st hox
      go_wp2_with fail
      (first | (refine ⟨?_, ?_⟩; rotate_left; (first | (simp [intOf]; done) | (simp [intOf]; omega)); (repeat apply Exists.intro); refine ⟨?_, rfl⟩; exact ⟨k + 1, by omega, by go_num, by (repeat' (first | (with_reducible exact Below.refl _ _) | (with_reducible assumption) | (with_reducible refine below_drewN ?_ _) | (with_reducible refine Below.drew ?_) | (with_reducible refine Below.alloc ?_ ?_ _) | (with_reducible refine Below.setCell ?_ ?_ _) | (with_reducible refine via (by with_reducible assumption) ?_ ?_) | go_size)), ST.out⟩) | exact ⟨⟨k + 1, by omega, by go_num, by (repeat' (first | (with_reducible exact Below.refl _ _) | (with_reducible assumption) | (with_reducible refine below_drewN ?_ _) | (with_reducible refine Below.drew ?_) | (with_reducible refine Below.alloc ?_ ?_ _) | (with_reducible refine Below.setCell ?_ ?_ _) | (with_reducible refine via (by with_reducible assumption) ?_ ?_) | go_size)), ST.out⟩, by first | (simp [intOf]; done) | (simp [intOf]; omega)⟩)
    · have hkn : k = n := by omega
      have hx2 := HX.out
      rw [hkn, fi_congr (g := fun j => if j < n then E - (getJ l j).days else 0) (g' := lateG l E 0) (fun j hj => if_pos hj)] at hx2
      have HX2 := Lib.hid hx2; clear hx2 HX
      obtain ⟨w3, rfl⟩ : ∃ w' : World, w' = wr := ⟨_, rfl⟩
      clear hkn
      go_wp2_with fail
      clear hlt hk
      go_loopw [7] (fun i wr => ∃ (q : Int) (m : Nat), (m : Int) + q + 1 = (n : Int) ∧ -1 ≤ q ∧ i = .int .i64 q ∧ Below w1.heap.size w1 wr ∧ wr.ownsRow w1.heap.size 2 1 (.slice (some ⟨w1.heap.size, 0, none⟩) n n) n (fi n (lateG l E m))) (fun i _ => (intOf i + 1).toNat)
      case atStart => exact ⟨(n : Int) - 1, 0, by omega, by omega, by go_num, hb, HX2.out⟩
      case round =>
        clear HX2 hb hbs
        obtain ⟨q, m, hq, hq1, rfl, hb, hx⟩ := hrel
        have hbs := hb.size
        have HX := Lib.hid hx; clear hx
        by_cases hlt : 0 ≤ q
        · obtain ⟨p, rfl⟩ := Int.eq_ofNat_of_zero_le hlt
          have hpn : p < n := by omega
          obtain ⟨b1, off, rfl, hbl, hc⟩ := ((HR1.out).below (hb.mono hb1s)) (by rw [HN.out]; omega)
          obtain ⟨d, hd⟩ := get_ex l p (by rw [HN.out]; omega)
          obtain ⟨g0, g1, g2, An, cn, g3, g4⟩ := hc p d hd
          have HG := Lib.hid (getJ_eq hd)
          have HRN := Lib.hid (show Rd w1 w.heap.size 1 icell An d.needs from (by
            obtain ⟨b1', off', e1, hbl', hc'⟩ := (HR1.out) (by rw [HN.out]; omega)
            obtain ⟨rfl, rfl⟩ : b1 = b1' ∧ off = off' := by simpa using e1
            obtain ⟨_, _, _, An', cn', x3, x4⟩ := hc' p d hd
            rw [hb.cell (p := ⟨b1, off + p * 4 + 3, none⟩) (Nat.lt_of_lt_of_le hbl hb1s), x3] at g3
            obtain ⟨rfl, _⟩ : An' = An ∧ cn' = cn := by simpa using g3
            exact x4))
          have HC1 := Lib.hid (show ∀ i d, l[i]? = some d → w1.cell? ⟨b1, off + i * 4 + 1, none⟩ = some (.int .i64 d.days) from fun i d' hi => by rw [← hb.cell (p := ⟨b1, off + i * 4 + 1, none⟩) (Nat.lt_of_lt_of_le hbl hb1s)]; exact (hc i d' hi).2.1)
          clear hd hc g0 g1 g2 g4
          have HLA := Lib.hid (late_at HV.out (e := E) (by omega) (i := p) (m := m) (by rw [HN.out]; omega))
          have hAL := (valid_all HV.out).2
          rw [HN.out] at hAL
          have HAL := Lib.hid hAL; clear hAL
          have hnk := (HAL.out p hpn).2.2.2.2.2
          have HNE := Lib.hid (HAL.out p hpn).2.2.2.2.1
          rw [HG.out] at hnk HNE HLA
          obtain ⟨nl, hnl⟩ : ∃ nl, d.needs.length = nl := ⟨_, rfl⟩
          rw [hnl] at g3 hnk HLA
          have HNL := Lib.hid hnl; clear hnl
          have p2 : (p : Int) < (n : Int) := by omega
          obtain ⟨wk, rfl⟩ : ∃ w' : World, w' = wr := ⟨_, rfl⟩
          go_wp2_with fail
          clear g3
          go_loopw [43] (fun i wi => ∃ j : Nat, j ≤ nl ∧ i = .int .i64 j ∧ Below w1.heap.size w1 wi ∧ wi.ownsRow w1.heap.size 2 1 (.slice (some ⟨w1.heap.size, 0, none⟩) n n) n (fi n (lateN l p j (lateG l E m)))) (fun i _ => nl - (intOf i).toNat)
          case atStart => exact ⟨0, Nat.zero_le _, rfl, hb, HX.out⟩
          case round =>
            clear HX hb hbs
            obtain ⟨j, hj, rfl, hb, hx⟩ := hrel
            have hbs := hb.size
            have HX := Lib.hid hx; clear hx
            have HLN := Lib.hid (HLA.out.2.2.2 j hj)
            by_cases hjt : j < nl
            · obtain ⟨x, hx⟩ := get_ex d.needs j (by rw [HNL.out]; omega)
              have hxr := HNE.out j x hx
              obtain ⟨r, rfl⟩ := Int.eq_ofNat_of_zero_le hxr.1
              have hrp : r < p := by omega
              have hrn : Rd wr w.heap.size 1 icell An d.needs := (HRN.out).below (hb.mono hb1s)
              obtain ⟨b2, off2, rfl, hbl2, hc2⟩ := hrn.ints' (by rw [HNL.out]; omega)
              have e0 := hc2 j (r : Int) hx
              obtain ⟨dr, hdr⟩ := get_ex l r (by rw [HN.out]; omega)
              have e1 : wr.cell? ⟨b1, off + r * 4 + 1, none⟩ = some (.int .i64 dr.days) := by rw [hb.cell (p := ⟨b1, off + r * 4 + 1, none⟩) (Nat.lt_of_lt_of_le hbl hb1s)]; exact HC1.out r dr hdr
              have hdy := HAL.out r (by omega)
              rw [getJ_eq hdr] at hdy
              have hdy0 := hdy.1
              have hdy1 := hdy.2.1
              obtain ⟨a, ha⟩ : ∃ a, lateN l p j (lateG l E m) r = a := ⟨_, rfl⟩
              obtain ⟨v, hva⟩ : ∃ v, lateG l E m p = v := ⟨_, rfl⟩
              have c1 : wr.cell? ⟨w1.heap.size, r, none⟩ = some (.int .i64 a) := by rw [HX.out.cellAt r (by omega), fi_get (by omega), ha]
              have c2 : wr.cell? ⟨w1.heap.size, p, none⟩ = some (.int .i64 v) := by rw [HX.out.cellAt p (by omega), fi_get hpn, HLN.out.1 p (Nat.le_refl _), hva]
              have f1 : wr.frozen? ⟨w1.heap.size, r, none⟩ = false := HX.out.frozenAt r
              have hvb := HLA.out.2
              rw [hva] at hvb
              have hv1 := hvb.1
              have hv2 := hvb.2.1
              have st := (HX.out.stored r (.int .i64 (min a (v - dr.days)))).1
              rw [fi_set (g' := lateN l p (j + 1) (lateG l E m)) (fun i _ => by
                rw [lateN_succ (by rw [HG.out]; exact hx)]
                show (if i = r then _ else _) = _
                by_cases h : i = r
                · subst h; rw [if_pos rfl, if_pos rfl, ha, hva, getJ_eq hdr]
                · rw [if_neg h, if_neg h])] at st
              have ST := Lib.hid st
              have ew : IntKind.i64.wrap (v - dr.days) = v - dr.days := IntWalk.i64_in _ (by omega)
              have hbne : b1 ≠ w1.heap.size := by omega
              clear st ha hva hvb hdr hc2 hx hrn hdy hxr
              have p3 : (0 : Int) ≤ (j : Int) := by omega
              have p4 : (j : Int) < (nl : Int) := by omega
              have p5 : (0 : Int) ≤ (r : Int) := by omega
              have p6 : (r : Int) < (n : Int) := by omega
              go_upto_region 14 with fail
              (refine still_tail 17 (by kernel_rfl) (by kernel_rfl) ?_; simp only [List.take_succ_cons, List.take_zero, List.drop_succ_cons, List.drop_zero]; (repeat (refine wpStill_step (fun K hK => ?_); go_simp; (try go_bits); refine hK _ ?_; clear hK K)); refine wpStill_nil ?_)
              go_wp2_with fail
              (first | (refine ⟨?_, ?_⟩; rotate_left; (first | (simp [intOf]; done) | (simp [intOf]; omega)); (repeat apply Exists.intro); refine ⟨?_, rfl⟩; exact ⟨j + 1, by omega, by go_num, by (repeat' (first | (with_reducible exact Below.refl _ _) | (with_reducible assumption) | (with_reducible refine below_drewN ?_ _) | (with_reducible refine Below.drew ?_) | (with_reducible refine Below.alloc ?_ ?_ _) | (with_reducible refine Below.setCell ?_ ?_ _) | (with_reducible refine via (by with_reducible assumption) ?_ ?_) | go_size)), ST.out⟩) | exact ⟨⟨j + 1, by omega, by go_num, by (repeat' (first | (with_reducible exact Below.refl _ _) | (with_reducible assumption) | (with_reducible refine below_drewN ?_ _) | (with_reducible refine Below.drew ?_) | (with_reducible refine Below.alloc ?_ ?_ _) | (with_reducible refine Below.setCell ?_ ?_ _) | (with_reducible refine via (by with_reducible assumption) ?_ ?_) | go_size)), ST.out⟩, by first | (simp [intOf]; done) | (simp [intOf]; omega)⟩)
            · have hjn : j = nl := by omega
              have hx2 := HX.out
              rw [hjn, ← HLA.out.1] at hx2
              have HX2 := Lib.hid hx2; clear hx2 hjn
              go_wp2_with fail
              (first | (refine ⟨?_, ?_⟩; rotate_left; (first | (simp [intOf]; done) | (simp [intOf]; omega)); (repeat apply Exists.intro); refine ⟨?_, rfl⟩; exact ⟨(p : Int) - 1, m + 1, by omega, by omega, rfl, hb, HX2.out⟩) | exact ⟨⟨(p : Int) - 1, m + 1, by omega, by omega, rfl, hb, HX2.out⟩, by first | (simp [intOf]; done) | (simp [intOf]; omega)⟩)
        · have hmn : m = n := by omega
          have hx2 := HX.out
          rw [hmn, fi_map] at hx2
          have HX2 := Lib.hid hx2; clear hx2 hmn
          have HLL := Lib.hid (show lateL l = (List.range n).map (lateG l E n) by unfold lateL; rw [HN.out, HE.out])
          go_wp2_with fail
          refine bodyPost_ret (v := .slice (some ⟨w1.heap.size, 0, none⟩) n n) (by simp only [results, Try.results26]; go_simp) rfl ⟨_, rfl, by rw [HLL.out]; exact Go.Joins.ownsRow_le HX2.out hb1s, by (repeat' (first | (with_reducible exact Below.refl _ _) | (with_reducible assumption) | (with_reducible refine below_drewN ?_ _) | (with_reducible refine Below.drew ?_) | (with_reducible refine Below.alloc ?_ ?_ _) | (with_reducible refine Below.setCell ?_ ?_ _) | (with_reducible refine via (by with_reducible assumption) ?_ ?_) | go_size))⟩

set_option maxRecDepth 100000 in
set_option maxHeartbeats 4000000 in
theorem l22Late_c (A : Option Addr) (n c : Nat) (l : List JobD) (w : World) (hn : l.length = n) (hm : n ≤ 1048576) (hr : JRd w w.heap.size A l) (hv : validS l = true) :
    Calls Try.prog 39 #[.slice A n c] w fun e w' => ∃ v, e = .returned v ∧ w'.ownsRow w.heap.size 2 1 v n ((lateL l).map (Value.int .i64)) ∧ Below w.heap.size w w' := by
  obtain ⟨i0, hi0, hz0, hz1, hz2⟩ := info_parts info_i64
  have HN := Lib.hid hn; clear hn
  have h30 := (valid_all hv).1
  rw [HN.out] at h30
  have HV := Lib.hid hv; clear hv
  have HDN := Lib.hid (l22Early_c A n c l w HN.out hm hr HV.out)
  have hEb := daysM_bd HV.out n (by rw [HN.out]; exact Nat.le_refl _)
  obtain ⟨E, hE⟩ : ∃ E, daysM l n = E := ⟨_, rfl⟩
  rw [hE] at hEb HDN
  obtain ⟨hE0, hE1⟩ := hEb
  have HE := Lib.hid hE; clear hE
  go_enter Try.func39, Try.ntmps39
  go_wp2_with fail
  refine (HDN.out).mono ?_
  rintro e w1 ⟨vv, rfl, hxv, hb1⟩
  obtain ⟨vA, vc, rfl, _⟩ := own_form hxv
  clear hxv
  have hb1s := hb1.size
  have hr1 := hr.below hb1
  have HR1 := Lib.hid hr1; clear hr1
  go_upto_region 3 with (at_make; refine wpList_make_full _ rfl _ _ 24 rfl w1.heap.size 2 i0 _ 1 Try.underlying24 hi0 hz0 hz1 _ _ _ _ n rfl rfl rfl rfl (by rw [hz2]; omega) (by unfold maxLen; omega) (Nat.le_refl _) ?_; intro w2 hown hg)
  rw [fi_made] at hown
  have hb2 : Below w1.heap.size w1 w2 := (Below.refl _ _).grown hg (Nat.le_refl _) (fun k hk => by cases hk)
  have hs2 := hb2.size
  have HOWN := Lib.hid hown; clear hown hg
  go_wp2_with fail
  go_loopw [21] (fun i wr => ∃ k : Nat, k ≤ n ∧ i = .int .i64 k ∧ Below w1.heap.size w1 wr ∧ wr.ownsRow w1.heap.size 2 1 (.slice (some ⟨w1.heap.size, 0, none⟩) n n) n (fi n (fun j => if j < k then E else 0))) (fun i _ => n - (intOf i).toNat)
  case atStart => exact ⟨0, Nat.zero_le _, rfl, hb2, by rw [fi_congr (g' := fun _ => 0) (fun j _ => if_neg (Nat.not_lt_zero j))]; exact HOWN.out⟩
  case round =>
    clear HOWN
    obtain ⟨k, hk, rfl, hb, hx⟩ := hrel
    have HX := Lib.hid hx; clear hx
    have hbs := hb.size
    by_cases hlt : k < n
    · have p1 : (0 : Int) ≤ (k : Int) := by omega
      have p2 : (k : Int) < (n : Int) := by omega
      have c0 : wr.cell? ⟨w1.heap.size, k, none⟩ = some (.int .i64 0) := by rw [HX.out.cellAt k (by omega), fi_get hlt, if_neg (by omega)]
      have f0 : wr.frozen? ⟨w1.heap.size, k, none⟩ = false := HX.out.frozenAt k
      have st := (HX.out.stored k (.int .i64 E)).1
      rw [fi_set (g' := fun j => if j < k + 1 then E else 0) (fun j _ => by
        by_cases h : j = k
        · subst h; rw [if_pos (by omega), if_pos rfl]
        · rw [if_neg h]
          by_cases h2 : j < k
          · rw [if_pos h2, if_pos (by omega)]
          · rw [if_neg h2, if_neg (by omega)])] at st
      have ST := Lib.hid st; clear st
      go_wp2_with fail
      (first | (refine ⟨?_, ?_⟩; rotate_left; (first | (simp [intOf]; done) | (simp [intOf]; omega)); (repeat apply Exists.intro); refine ⟨?_, rfl⟩; exact ⟨k + 1, by omega, by go_num, by (repeat' (first | (with_reducible exact Below.refl _ _) | (with_reducible assumption) | (with_reducible refine below_drewN ?_ _) | (with_reducible refine Below.drew ?_) | (with_reducible refine Below.alloc ?_ ?_ _) | (with_reducible refine Below.setCell ?_ ?_ _) | (with_reducible refine via (by with_reducible assumption) ?_ ?_) | go_size)), ST.out⟩) | exact ⟨⟨k + 1, by omega, by go_num, by (repeat' (first | (with_reducible exact Below.refl _ _) | (with_reducible assumption) | (with_reducible refine below_drewN ?_ _) | (with_reducible refine Below.drew ?_) | (with_reducible refine Below.alloc ?_ ?_ _) | (with_reducible refine Below.setCell ?_ ?_ _) | (with_reducible refine via (by with_reducible assumption) ?_ ?_) | go_size)), ST.out⟩, by first | (simp [intOf]; done) | (simp [intOf]; omega)⟩)
    · have hkn : k = n := by omega
      have hx2 := HX.out
      rw [hkn, fi_congr (g := fun j => if j < n then E else 0) (g' := toE l n (lateG l E 0)) (fun j hj => by
        show (if j < n then E else 0) = if j < n then E - (getJ l j).days + (getJ l j).days else _
        rw [if_pos hj, if_pos hj]; omega)] at hx2
      have HX2 := Lib.hid hx2; clear hx2 HX
      obtain ⟨w3, rfl⟩ : ∃ w' : World, w' = wr := ⟨_, rfl⟩
      clear hkn
      go_wp2_with fail
      clear hlt hk
      go_loopw [7] (fun i wr => ∃ (q : Int) (b m : Nat), (b : Int) = q + 1 ∧ b + m = n ∧ -1 ≤ q ∧ i = .int .i64 q ∧ Below w1.heap.size w1 wr ∧ wr.ownsRow w1.heap.size 2 1 (.slice (some ⟨w1.heap.size, 0, none⟩) n n) n (fi n (toE l b (lateG l E m)))) (fun i _ => (intOf i + 1).toNat)
      case atStart => exact ⟨(n : Int) - 1, n, 0, by omega, by omega, by omega, by go_num, hb, HX2.out⟩
      case round =>
        clear HX2 hb hbs
        obtain ⟨q, b, m, hq0, hq, hq1, rfl, hb, hx⟩ := hrel
        have hbs := hb.size
        have HX := Lib.hid hx; clear hx
        by_cases hlt : 0 ≤ q
        · obtain ⟨p, rfl⟩ := Int.eq_ofNat_of_zero_le hlt
          obtain rfl : b = p + 1 := by omega
          have hpn : p < n := by omega
          obtain ⟨b1, off, rfl, hbl, hc⟩ := ((HR1.out).below (hb.mono hb1s)) (by rw [HN.out]; omega)
          obtain ⟨d, hd⟩ := get_ex l p (by rw [HN.out]; omega)
          obtain ⟨g0, g1, g2, An, cn, g3, g4⟩ := hc p d hd
          have HG := Lib.hid (getJ_eq hd)
          have HRN := Lib.hid (show Rd w1 w.heap.size 1 icell An d.needs from (by
            obtain ⟨b1', off', e1, hbl', hc'⟩ := (HR1.out) (by rw [HN.out]; omega)
            obtain ⟨rfl, rfl⟩ : b1 = b1' ∧ off = off' := by simpa using e1
            obtain ⟨_, _, _, An', cn', x3, x4⟩ := hc' p d hd
            rw [hb.cell (p := ⟨b1, off + p * 4 + 3, none⟩) (Nat.lt_of_lt_of_le hbl hb1s), x3] at g3
            obtain ⟨rfl, _⟩ : An' = An ∧ cn' = cn := by simpa using g3
            exact x4))
          have HC1 := Lib.hid (show ∀ i d, l[i]? = some d → w1.cell? ⟨b1, off + i * 4 + 1, none⟩ = some (.int .i64 d.days) from fun i d' hi => by rw [← hb.cell (p := ⟨b1, off + i * 4 + 1, none⟩) (Nat.lt_of_lt_of_le hbl hb1s)]; exact (hc i d' hi).2.1)
          have HC3 := Lib.hid (show w1.cell? ⟨b1, off + p * 4 + 3, none⟩ = some (.slice An d.needs.length cn) from (by rw [← hb.cell (p := ⟨b1, off + p * 4 + 3, none⟩) (Nat.lt_of_lt_of_le hbl hb1s)]; exact g3))
          clear hd hc g0 g2 g3 g4
          have HLA := Lib.hid (late_at HV.out (e := E) (by omega) (i := p) (m := m) (by rw [HN.out]; omega))
          have hAL := (valid_all HV.out).2
          rw [HN.out] at hAL
          have HAL := Lib.hid hAL; clear hAL
          have hnk := (HAL.out p hpn).2.2.2.2.2
          have hdd := (HAL.out p hpn).2.1
          have hdd0 := (HAL.out p hpn).1
          have HNE := Lib.hid (HAL.out p hpn).2.2.2.2.1
          rw [HG.out] at hnk HNE HLA hdd hdd0
          obtain ⟨nl, hnl⟩ : ∃ nl, d.needs.length = nl := ⟨_, rfl⟩
          rw [hnl] at HC3 hnk HLA
          have HNL := Lib.hid hnl; clear hnl
          have p2 : (p : Int) < (n : Int) := by omega
          obtain ⟨v, hva⟩ : ∃ v, lateG l E m p = v := ⟨_, rfl⟩
          have hvb := HLA.out.2
          rw [hva] at hvb
          have hv1 := hvb.1
          have hv2 := hvb.2.1
          obtain ⟨a, ha⟩ : ∃ a, v + d.days = a := ⟨_, rfl⟩
          have c2 : wr.cell? ⟨w1.heap.size, p, none⟩ = some (.int .i64 a) := by rw [HX.out.cellAt p (by omega), fi_get hpn]; show some (Value.int .i64 (if p < p + 1 then lateG l E m p + (getJ l p).days else _)) = _; rw [if_pos (by omega), hva, HG.out, ha]
          have ew : IntKind.i64.wrap (a - d.days) = v := by rw [show a - d.days = v by omega]; exact IntWalk.i64_in _ (by omega)
          have HVA := Lib.hid hva
          clear hva hvb ha
          obtain ⟨wk, rfl⟩ : ∃ w' : World, w' = wr := ⟨_, rfl⟩
          have q1 : decide ((0 : Int) ≤ (p : Int)) = true := by simp
          go_upto_region 11 with fail
          go_quiet (fail)
          clear c2 ew g1
          go_wp2_with fail
          have hb' : Below w1.heap.size w1 (wk.drewN nq) := below_drewN hb nq
          go_loopw [9] (fun i wi => ∃ j : Nat, j ≤ nl ∧ i = .int .i64 j ∧ Below w1.heap.size w1 wi ∧ wi.ownsRow w1.heap.size 2 1 (.slice (some ⟨w1.heap.size, 0, none⟩) n n) n (fi n (toE l (p + 1) (lateN l p j (lateG l E m))))) (fun i _ => nl - (intOf i).toNat)
          case atStart => exact ⟨0, Nat.zero_le _, rfl, hb', HX.out⟩
          case round =>
            clear HX hb hbs hb'
            obtain ⟨j, hj, rfl, hb, hx⟩ := hrel
            have hbs := hb.size
            have HX := Lib.hid hx; clear hx
            have g3 : wr.cell? ⟨b1, off + p * 4 + 3, none⟩ = some (.slice An nl cn) := by rw [hb.cell (p := ⟨b1, off + p * 4 + 3, none⟩) (Nat.lt_of_lt_of_le hbl hb1s)]; exact HC3.out
            by_cases hjt : j < nl
            · obtain ⟨x, hx⟩ := get_ex d.needs j (by rw [HNL.out]; omega)
              have hxr := HNE.out j x hx
              obtain ⟨r, rfl⟩ := Int.eq_ofNat_of_zero_le hxr.1
              have hrp : r < p := by omega
              have hrn : Rd wr w.heap.size 1 icell An d.needs := (HRN.out).below (hb.mono hb1s)
              obtain ⟨b2, off2, rfl, hbl2, hc2⟩ := hrn.ints' (by rw [HNL.out]; omega)
              have e0 := hc2 j (r : Int) hx
              have hdy := HAL.out r (by omega)
              have HLN := Lib.hid (HLA.out.2.2.2 j hj)
              obtain ⟨a, ha⟩ : ∃ a, lateN l p j (lateG l E m) r = a := ⟨_, rfl⟩
              obtain ⟨u, hu⟩ : ∃ u, a + (getJ l r).days = u := ⟨_, rfl⟩
              have c1 : wr.cell? ⟨w1.heap.size, r, none⟩ = some (.int .i64 u) := by rw [HX.out.cellAt r (by omega), fi_get (by omega)]; show some (Value.int .i64 (if r < p + 1 then lateN l p j (lateG l E m) r + (getJ l r).days else _)) = _; rw [if_pos (by omega), ha, hu]
              have f1 : wr.frozen? ⟨w1.heap.size, r, none⟩ = false := HX.out.frozenAt r
              have st := (HX.out.stored r (.int .i64 (min u v))).1
              rw [fi_set (g' := toE l (p + 1) (lateN l p (j + 1) (lateG l E m))) (fun i _ => by
                rw [lateN_succ (by rw [HG.out]; exact hx)]
                show (if i < p + 1 then (if i = r then _ else _) + _ else (if i = r then _ else _)) = _
                by_cases h : i = r
                · subst h; rw [if_pos (by omega), if_pos rfl, if_pos rfl, ha, HVA.out]; omega
                · rw [if_neg h, if_neg h]; rfl)] at st
              have ST := Lib.hid st
              have hbne : b1 ≠ w1.heap.size := by omega
              clear st ha hu hc2 hx hrn hdy hxr
              have p3 : (0 : Int) ≤ (j : Int) := by omega
              have p4 : (j : Int) < (nl : Int) := by omega
              have p5 : (0 : Int) ≤ (r : Int) := by omega
              have p6 : (r : Int) < (n : Int) := by omega
              go_wp2_with (go_at_call 55; refine (l00Min_c _ _ _).mono ?_; rintro e w' ⟨rfl, rfl⟩)
              (first | (refine ⟨?_, ?_⟩; rotate_left; (first | (simp [intOf]; done) | (simp [intOf]; omega)); (repeat apply Exists.intro); refine ⟨?_, rfl⟩; exact ⟨j + 1, by omega, by go_num, by (repeat' (first | (with_reducible exact Below.refl _ _) | (with_reducible assumption) | (with_reducible refine below_drewN ?_ _) | (with_reducible refine Below.drew ?_) | (with_reducible refine Below.alloc ?_ ?_ _) | (with_reducible refine Below.setCell ?_ ?_ _) | (with_reducible refine via (by with_reducible assumption) ?_ ?_) | go_size)), ST.out⟩) | exact ⟨⟨j + 1, by omega, by go_num, by (repeat' (first | (with_reducible exact Below.refl _ _) | (with_reducible assumption) | (with_reducible refine below_drewN ?_ _) | (with_reducible refine Below.drew ?_) | (with_reducible refine Below.alloc ?_ ?_ _) | (with_reducible refine Below.setCell ?_ ?_ _) | (with_reducible refine via (by with_reducible assumption) ?_ ?_) | go_size)), ST.out⟩, by first | (simp [intOf]; done) | (simp [intOf]; omega)⟩)
            · have hjn : j = nl := by omega
              have hx2 := HX.out
              rw [hjn, ← HLA.out.1] at hx2
              have hlv : lateG l E (m + 1) p = v := by rw [HLA.out.1, (HLA.out.2.2.2 nl (Nat.le_refl _)).1 p (Nat.le_refl _), HVA.out]
              have st := (hx2.stored p (.int .i64 v)).1
              rw [fi_set (g' := toE l p (lateG l E (m + 1))) (fun i _ => by
                show (if i < p then _ else _) = (if i = p then _ else if i < p + 1 then _ else _)
                by_cases h : i = p
                · subst h; rw [if_neg (by omega), if_pos rfl, hlv]
                · rw [if_neg h]
                  by_cases h2 : i < p
                  · rw [if_pos h2, if_pos (by omega)]
                  · rw [if_neg h2, if_neg (by omega)])] at st
              have ST := Lib.hid st
              obtain ⟨z, hz⟩ : ∃ z, toE l (p + 1) (lateG l E (m + 1)) p = z := ⟨_, rfl⟩
              have c1 : wr.cell? ⟨w1.heap.size, p, none⟩ = some (.int .i64 z) := by rw [hx2.cellAt p (by omega), fi_get hpn, hz]
              have f1 : wr.frozen? ⟨w1.heap.size, p, none⟩ = false := hx2.frozenAt p
              clear hx2 hjn st hlv hz
              have hbne : b1 ≠ w1.heap.size := by omega
              go_wp2_with fail
              (first | (refine ⟨?_, ?_⟩; rotate_left; (first | (simp [intOf]; done) | (simp [intOf]; omega)); (repeat apply Exists.intro); refine ⟨?_, rfl⟩; exact ⟨(p : Int) - 1, p, m + 1, by omega, by omega, by omega, rfl, by (repeat' (first | (with_reducible exact Below.refl _ _) | (with_reducible assumption) | (with_reducible refine below_drewN ?_ _) | (with_reducible refine Below.drew ?_) | (with_reducible refine Below.alloc ?_ ?_ _) | (with_reducible refine Below.setCell ?_ ?_ _) | (with_reducible refine via (by with_reducible assumption) ?_ ?_) | go_size)), ST.out⟩) | exact ⟨⟨(p : Int) - 1, p, m + 1, by omega, by omega, by omega, rfl, by (repeat' (first | (with_reducible exact Below.refl _ _) | (with_reducible assumption) | (with_reducible refine below_drewN ?_ _) | (with_reducible refine Below.drew ?_) | (with_reducible refine Below.alloc ?_ ?_ _) | (with_reducible refine Below.setCell ?_ ?_ _) | (with_reducible refine via (by with_reducible assumption) ?_ ?_) | go_size)), ST.out⟩, by first | (simp [intOf]; done) | (simp [intOf]; omega)⟩)
        · have hmn : m = n := by omega
          have hb0 : b = 0 := by omega
          have hx2 := HX.out
          rw [hmn, hb0, fi_congr (g := toE l 0 (lateG l E n)) (g' := lateG l E n) (fun j _ => if_neg (Nat.not_lt_zero j)), fi_map] at hx2
          have HX2 := Lib.hid hx2; clear hx2 hmn hb0
          have HLL := Lib.hid (show lateL l = (List.range n).map (lateG l E n) by unfold lateL; rw [HN.out, HE.out])
          go_wp2_with fail
          refine bodyPost_ret (v := .slice (some ⟨w1.heap.size, 0, none⟩) n n) (by simp only [results, Try.results39]; go_simp) rfl ⟨_, rfl, by rw [HLL.out]; exact Go.Joins.ownsRow_le HX2.out hb1s, by (repeat' (first | (with_reducible exact Below.refl _ _) | (with_reducible assumption) | (with_reducible refine below_drewN ?_ _) | (with_reducible refine Below.drew ?_) | (with_reducible refine Below.alloc ?_ ?_ _) | (with_reducible refine Below.setCell ?_ ?_ _) | (with_reducible refine via (by with_reducible assumption) ?_ ?_) | go_size))⟩

def lateR (l : List JobD) : List Int × Int := if validS l = true then (lateL l, 0) else ([], 1)
theorem lateR_len (l : List JobD) : (lateR l).1.length ≤ l.length := by
  unfold lateR
  split
  · exact lateR_len'
  · simp


end Go.Proofs.Ytaebofpgdonnbaa
