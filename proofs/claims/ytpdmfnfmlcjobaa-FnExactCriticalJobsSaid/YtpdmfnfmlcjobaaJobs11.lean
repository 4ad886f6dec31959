/- Contracts: the critical jobs; both sides. -/
import Derived.Test.YtpdmfnfmlcjobaaJobs10
set_option linter.unusedVariables false
set_option linter.unusedSimpArgs false
namespace Go.Proofs.Ytpdmfnfmlcjobaa
open Go.RowKit

def critL (es ls : List Int) : Nat → List Int
  | 0 => []
  | k + 1 => if (es.getD k 0 == ls.getD k 0) = true then critL es ls k ++ [(k : Int)] else critL es ls k
theorem critL_len (es ls : List Int) (k : Nat) : (critL es ls k).length ≤ k := by
  induction k with
  | zero => exact Nat.le_refl _
  | succ k ih =>
    unfold critL
    split
    · simp; exact ih
    · omega
def critR (l : List JobD) : List Int × Int := if validS l = true then (critL (ear l l.length) (lateL l) l.length, 0) else ([], 1)
theorem critR_len (l : List JobD) : (critR l).1.length ≤ l.length := by
  unfold critR
  split
  · exact critL_len _ _ _
  · simp

set_option maxRecDepth 100000 in
set_option maxHeartbeats 4000000 in
theorem CriticalJobsI_c (A : Option Addr) (n c : Nat) (l : List JobD) (w : World) (hn : l.length = n) (hm : n ≤ 1048576) (hr : JRd w w.heap.size A l) (ok : ∀ d ∈ l, okJD d) (hkk : ∀ (i : Nat) (d : JobD), l[i]? = some d → d.needs.length ≤ 1048576) :
    Calls Try.prog 38 #[.slice A n c] w fun e w' => ∃ v, e = .returned (.tuple #[v, .int .i64 (critR l).2]) ∧ w'.ownsRow w.heap.size 2 1 v (critR l).1.length ((critR l).1.map (Value.int .i64)) ∧ Below w.heap.size w w' := by
  obtain ⟨i0, hi0, hz0, hz1, hz2⟩ := info_parts info_i64
  have HN := Lib.hid hn; clear hn
  have HKK := Lib.hid hkk; clear hkk
  cases hv : validS l
  · have HR := Lib.hid (show critR l = ([], 1) by unfold critR; rw [hv]; rfl)
    go_enter Try.func38, Try.ntmps38
    go_wp2_with fail
    refine (retb (ValidJobsI_c A n c l _ HN.out hm hr ok HKK.out) hv).mono ?_
    rintro e w1 ⟨rfl, hb1⟩
    go_wp2_with fail
    refine bodyPost_ret (v := .tuple #[.slice none 0 0, .int .i64 1]) (by simp only [results, Try.results38]; go_simp) rfl ⟨.slice none 0 0, by rw [HR.out], no_ints (by rw [HR.out]), hb1⟩
  have h30 := (valid_all hv).1
  rw [HN.out] at h30
  have HR := Lib.hid (show critR l = (critL (ear l n) (lateL l) n, 0) by unfold critR; rw [hv, if_pos rfl, HN.out])
  have HV := Lib.hid hv; clear hv
  go_enter Try.func38, Try.ntmps38
  go_wp2_with fail
  refine (retb (ValidJobsI_c A n c l _ HN.out hm hr ok HKK.out) HV.out).mono ?_
  rintro e w1 ⟨rfl, hb1⟩
  have hb1s := hb1.size
  have hr1 : JRd w1 w1.heap.size A l := (hr.below hb1).mono hb1s
  go_wp2_with fail
  refine (earliest_c A n c l w1 HN.out hm hr1 HV.out).mono ?_
  rintro e w2 ⟨v1, rfl, hx1, hb2⟩
  have hb2s := hb2.size
  have hr2 : JRd w2 w2.heap.size A l := (hr1.below hb2).mono hb2s
  obtain ⟨vA1, vc1, rfl, _⟩ := own_form hx1
  have HE2 := Lib.hid (rd_own hx1); clear hx1
  go_wp2_with fail
  refine (latest_c A n c l w2 HN.out hm hr2 HV.out).mono ?_
  rintro e w3 ⟨v2, rfl, hx2, hb3⟩
  have hb3s := hb3.size
  obtain ⟨vA2, vc2, rfl, _⟩ := own_form hx2
  have HL3 := Lib.hid (rd_own hx2); clear hx2
  have HE3 := Lib.hid (((HE2.out).below hb3).mono hb3s); clear HE2 hr1 hr2
  obtain ⟨es, hes⟩ : ∃ es, ear l n = es := ⟨_, rfl⟩
  have hesl : es.length = n := by rw [← hes, ear_len]
  obtain ⟨ls, hls⟩ : ∃ ls, lateL l = ls := ⟨_, rfl⟩
  have hlsl : ls.length = n := by rw [← hls, lateL_len, HN.out]
  rw [hes] at HE3 HR
  rw [hls] at HL3 HR
  have HEL := Lib.hid hesl
  have HLL := Lib.hid hlsl
  clear hes hls hesl hlsl
  have hb03 : Below w.heap.size w w3 := (hb1.trans (hb2.mono hb1s)).trans (hb3.mono (by omega))
  have hown0 : (w3.alloc (.cells #[] 2)).ownsRow w3.heap.size 2 1 (.slice (some ⟨w3.heap.size, 0, none⟩) 0 0) 0 [] := World.ownsRow_made w3 #[] 0 (Nat.le_refl _) (by simp [maxLen]) (by simp)
  go_wp2_with fail
  go_loopw [6, 18] (fun o i wr => ∃ k cn : Nat, k ≤ n ∧ i = .int .i64 k ∧ (critL es ls k).length = cn ∧ Below w3.heap.size w3 wr ∧ wr.ownsRow w3.heap.size 2 1 o cn ((critL es ls k).map (Value.int .i64))) (fun _ i _ => n - (intOf i).toNat)
  case atStart => exact ⟨0, 0, Nat.zero_le _, rfl, rfl, by (repeat' (first | (with_reducible exact Below.refl _ _) | (with_reducible assumption) | (with_reducible refine below_drewN ?_ _) | (with_reducible refine Below.drew ?_) | (with_reducible refine Below.alloc ?_ ?_ _) | (with_reducible refine Below.setCell ?_ ?_ _) | (with_reducible refine via (by with_reducible assumption) ?_ ?_) | go_size)), hown0⟩
  case round =>
    clear hown0
    obtain ⟨k, cn, hk, rfl, hcn, hb, hx⟩ := hrel
    have hbs := hb.size
    have hcl := critL_len es ls k
    rw [hcn] at hcl
    have HCN := Lib.hid hcn; clear hcn
    have HX := Lib.hid hx; clear hx
    obtain ⟨vA, vc, rfl, _⟩ := own_form HX.out
    by_cases hlt : k < n
    · have HSU := Lib.hid (show critL es ls (k + 1) = if (es.getD k 0 == ls.getD k 0) = true then critL es ls k ++ [(k : Int)] else critL es ls k from rfl)
      obtain ⟨cl, hcl2⟩ : ∃ cl, critL es ls k = cl := ⟨_, rfl⟩
      rw [hcl2] at HX HSU HCN
      clear hcl2
      obtain ⟨b1, o1, rfl, hbl1, hc1⟩ := ((HE3.out).below hb).ints' (by rw [HEL.out]; omega)
      obtain ⟨x, hx⟩ := get_ex es k (by rw [HEL.out]; omega)
      have e1 := hc1 k x hx
      obtain ⟨b2, o2, rfl, hbl2, hc2⟩ := ((HL3.out).below hb).ints' (by rw [HLL.out]; omega)
      obtain ⟨y, hy⟩ := get_ex ls k (by rw [HLL.out]; omega)
      have e2 := hc2 k y hy
      rw [getD_eq hx, getD_eq hy] at HSU
      clear hx hy hc1 hc2
      have p1 : (0 : Int) ≤ (k : Int) := by omega
      have p2 : (k : Int) < (n : Int) := by omega
      cases h1 : (x == y)
      · have HS := Lib.hid (show critL es ls (k + 1) = cl by rw [HSU.out, h1]; rfl)
        go_wp2_with fail
        go_quiet (fail)
        go_wp2_with fail
        (first | (refine ⟨?_, ?_⟩; rotate_left; (first | (simp [intOf]; done) | (simp [intOf]; omega)); (repeat apply Exists.intro); refine ⟨?_, rfl⟩; exact ⟨k + 1, cn, by omega, by go_num, by rw [HS.out, HCN.out], below_drewN hb nq, by rw [HS.out]; exact HX.out⟩) | exact ⟨⟨k + 1, cn, by omega, by go_num, by rw [HS.out, HCN.out], below_drewN hb nq, by rw [HS.out]; exact HX.out⟩, by first | (simp [intOf]; done) | (simp [intOf]; omega)⟩)
      · have HS := Lib.hid (show critL es ls (k + 1) = cl ++ [(k : Int)] by rw [HSU.out, h1]; rfl)
        go_wp2_with fail
        go_quiet (fail)
        have hbq : Below w3.heap.size w3 (wr.drewN nq) := below_drewN hb nq
        have HXQ := Lib.hid (own_drewN HX.out nq)
        generalize wr.drewN nq = wq at *
        have hbqs := hbq.size
        clear e1 e2 hb hbs
        go_wp2_with (at_builtin; refine app_list (W := w3) (z := .int .i64 0) (.tmp 30) (.tmp 32) rfl rfl Try.underlying30 hi0 hz0 hz1 hz2 rfl (by decide) (by decide) rfl (HXQ.out.alloc _) rfl rfl (news1 (z := .int .i64 (k : Int)) (by simp [go_sem])) (by simp [Value.oneCell']) (by omega) (by (repeat' (first | (with_reducible exact Below.refl _ _) | (with_reducible assumption) | (with_reducible refine below_drewN ?_ _) | (with_reducible refine Below.drew ?_) | (with_reducible refine Below.alloc ?_ ?_ _) | (with_reducible refine Below.setCell ?_ ?_ _) | (with_reducible refine via (by with_reducible assumption) ?_ ?_) | go_size))) (Nat.le_refl _) ?_; intro v1 w4 hown1 hg1 hblk1 hb1)
        have HO := Lib.hid hown1; clear hown1 hg1 hblk1
        (first | (refine ⟨?_, ?_⟩; rotate_left; (first | (simp [intOf]; done) | (simp [intOf]; omega)); (repeat apply Exists.intro); refine ⟨?_, rfl⟩; exact ⟨k + 1, cn + 1, by omega, by go_num, by rw [HS.out, List.length_append, HCN.out]; rfl, hb1, by rw [HS.out, List.map_append]; exact HO.out⟩) | exact ⟨⟨k + 1, cn + 1, by omega, by go_num, by rw [HS.out, List.length_append, HCN.out]; rfl, hb1, by rw [HS.out, List.map_append]; exact HO.out⟩, by first | (simp [intOf]; done) | (simp [intOf]; omega)⟩)
    · have hkn : k = n := by omega
      subst hkn
      have hbw : Below w.heap.size w wr := hb03.trans (hb.mono (by omega))
      have hrow : wr.ownsRow w.heap.size 2 1 (.slice vA cn vc) cn ((critL es ls k).map (Value.int .i64)) := Go.Joins.ownsRow_le HX.out (by omega)
      have HROW := Lib.hid hrow; clear hrow
      go_wp2_with fail
      refine bodyPost_ret (v := .tuple #[.slice vA cn vc, .int .i64 0]) (by simp only [results, Try.results38]; go_simp) rfl ⟨_, by rw [HR.out], by rw [HR.out, HCN.out]; exact HROW.out, hbw⟩

set_option maxRecDepth 100000 in
set_option maxHeartbeats 4000000 in
theorem CriticalJobsS_c (A : Option Addr) (n c : Nat) (l : List JobD) (w : World) (hn : l.length = n) (hm : n ≤ 1048576) (hr : JRd w w.heap.size A l) (ok : ∀ d ∈ l, okJD d) (hkk : ∀ (i : Nat) (d : JobD), l[i]? = some d → d.needs.length ≤ 1048576) :
    Calls Try.prog 37 #[.slice A n c] w fun e w' => ∃ v, e = .returned (.tuple #[v, .int .i64 (critR l).2]) ∧ w'.ownsRow w.heap.size 2 1 v (critR l).1.length ((critR l).1.map (Value.int .i64)) ∧ Below w.heap.size w w' := by
  obtain ⟨i0, hi0, hz0, hz1, hz2⟩ := info_parts info_i64
  have HN := Lib.hid hn; clear hn
  have HKK := Lib.hid hkk; clear hkk
  cases hv : validS l
  · have HR := Lib.hid (show critR l = ([], 1) by unfold critR; rw [hv]; rfl)
    go_enter Try.func37, Try.ntmps37
    go_wp2_with fail
    refine (retb (l22OkB_c A n c l _ HN.out hm hr ok HKK.out) hv).mono ?_
    rintro e w1 ⟨rfl, hb1⟩
    go_wp2_with fail
    refine bodyPost_ret (v := .tuple #[.slice none 0 0, .int .i64 1]) (by simp only [results, Try.results37]; go_simp) rfl ⟨.slice none 0 0, by rw [HR.out], no_ints (by rw [HR.out]), hb1⟩
  have h30 := (valid_all hv).1
  rw [HN.out] at h30
  have HR := Lib.hid (show critR l = (critL (ear l n) (lateL l) n, 0) by unfold critR; rw [hv, if_pos rfl, HN.out])
  have HV := Lib.hid hv; clear hv
  go_enter Try.func37, Try.ntmps37
  go_wp2_with fail
  refine (retb (l22OkB_c A n c l _ HN.out hm hr ok HKK.out) HV.out).mono ?_
  rintro e w1 ⟨rfl, hb1⟩
  have hb1s := hb1.size
  have hr1 : JRd w1 w1.heap.size A l := (hr.below hb1).mono hb1s
  go_wp2_with fail
  refine (l22Early_c A n c l w1 HN.out hm hr1 HV.out).mono ?_
  rintro e w2 ⟨v1, rfl, hx1, hb2⟩
  generalize daysM l n = dall
  have hb2s := hb2.size
  have hr2 : JRd w2 w2.heap.size A l := (hr1.below hb2).mono hb2s
  obtain ⟨vA1, vc1, rfl, _⟩ := own_form hx1
  have HE2 := Lib.hid (rd_own hx1); clear hx1
  go_wp2_with fail
  refine (l22Late_c A n c l w2 HN.out hm hr2 HV.out).mono ?_
  rintro e w3 ⟨v2, rfl, hx2, hb3⟩
  have hb3s := hb3.size
  obtain ⟨vA2, vc2, rfl, _⟩ := own_form hx2
  have HL3 := Lib.hid (rd_own hx2); clear hx2
  have HE3 := Lib.hid (((HE2.out).below hb3).mono hb3s); clear HE2 hr1 hr2
  obtain ⟨es, hes⟩ : ∃ es, ear l n = es := ⟨_, rfl⟩
  have hesl : es.length = n := by rw [← hes, ear_len]
  obtain ⟨ls, hls⟩ : ∃ ls, lateL l = ls := ⟨_, rfl⟩
  have hlsl : ls.length = n := by rw [← hls, lateL_len, HN.out]
  rw [hes] at HE3 HR
  rw [hls] at HL3 HR
  have HEL := Lib.hid hesl
  have HLL := Lib.hid hlsl
  clear hes hls hesl hlsl
  have hb03 : Below w.heap.size w w3 := (hb1.trans (hb2.mono hb1s)).trans (hb3.mono (by omega))
  have hown0 : (w3.alloc (.cells #[] 2)).ownsRow w3.heap.size 2 1 (.slice (some ⟨w3.heap.size, 0, none⟩) 0 0) 0 [] := World.ownsRow_made w3 #[] 0 (Nat.le_refl _) (by simp [maxLen]) (by simp)
  go_wp2_with fail
  go_loopw [7, 8] (fun o i wr => ∃ k cn : Nat, k ≤ n ∧ i = .int .i64 k ∧ (critL es ls k).length = cn ∧ Below w3.heap.size w3 wr ∧ wr.ownsRow w3.heap.size 2 1 o cn ((critL es ls k).map (Value.int .i64))) (fun _ i _ => n - (intOf i).toNat)
  case atStart => exact ⟨0, 0, Nat.zero_le _, rfl, rfl, by (repeat' (first | (with_reducible exact Below.refl _ _) | (with_reducible assumption) | (with_reducible refine below_drewN ?_ _) | (with_reducible refine Below.drew ?_) | (with_reducible refine Below.alloc ?_ ?_ _) | (with_reducible refine Below.setCell ?_ ?_ _) | (with_reducible refine via (by with_reducible assumption) ?_ ?_) | go_size)), hown0⟩
  case round =>
    clear hown0
    obtain ⟨k, cn, hk, rfl, hcn, hb, hx⟩ := hrel
    have hbs := hb.size
    have hcl := critL_len es ls k
    rw [hcn] at hcl
    have HCN := Lib.hid hcn; clear hcn
    have HX := Lib.hid hx; clear hx
    obtain ⟨vA, vc, rfl, _⟩ := own_form HX.out
    by_cases hlt : k < n
    · have HSU := Lib.hid (show critL es ls (k + 1) = if (es.getD k 0 == ls.getD k 0) = true then critL es ls k ++ [(k : Int)] else critL es ls k from rfl)
      obtain ⟨cl, hcl2⟩ : ∃ cl, critL es ls k = cl := ⟨_, rfl⟩
      rw [hcl2] at HX HSU HCN
      clear hcl2
      obtain ⟨b1, o1, rfl, hbl1, hc1⟩ := ((HE3.out).below hb).ints' (by rw [HEL.out]; omega)
      obtain ⟨x, hx⟩ := get_ex es k (by rw [HEL.out]; omega)
      have e1 := hc1 k x hx
      obtain ⟨b2, o2, rfl, hbl2, hc2⟩ := ((HL3.out).below hb).ints' (by rw [HLL.out]; omega)
      obtain ⟨y, hy⟩ := get_ex ls k (by rw [HLL.out]; omega)
      have e2 := hc2 k y hy
      rw [getD_eq hx, getD_eq hy] at HSU
      clear hx hy hc1 hc2
      have p1 : (0 : Int) ≤ (k : Int) := by omega
      have p2 : (k : Int) < (n : Int) := by omega
      cases h1 : (x == y)
      · have HS := Lib.hid (show critL es ls (k + 1) = cl by rw [HSU.out, h1]; rfl)
        go_wp2_with fail
        go_quiet (fail)
        go_wp2_with fail
        (first | (refine ⟨?_, ?_⟩; rotate_left; (first | (simp [intOf]; done) | (simp [intOf]; omega)); (repeat apply Exists.intro); refine ⟨?_, rfl⟩; exact ⟨k + 1, cn, by omega, by go_num, by rw [HS.out, HCN.out], below_drewN hb nq, by rw [HS.out]; exact HX.out⟩) | exact ⟨⟨k + 1, cn, by omega, by go_num, by rw [HS.out, HCN.out], below_drewN hb nq, by rw [HS.out]; exact HX.out⟩, by first | (simp [intOf]; done) | (simp [intOf]; omega)⟩)
      · have HS := Lib.hid (show critL es ls (k + 1) = cl ++ [(k : Int)] by rw [HSU.out, h1]; rfl)
        go_wp2_with fail
        go_quiet (fail)
        have hbq : Below w3.heap.size w3 (wr.drewN nq) := below_drewN hb nq
        have HXQ := Lib.hid (own_drewN HX.out nq)
        generalize wr.drewN nq = wq at *
        have hbqs := hbq.size
        clear e1 e2 hb hbs
        go_wp2_with (at_builtin; refine app_list (W := w3) (z := .int .i64 0) (.tmp 35) (.tmp 37) rfl rfl Try.underlying30 hi0 hz0 hz1 hz2 rfl (by decide) (by decide) rfl (HXQ.out.alloc _) rfl rfl (news1 (z := .int .i64 (k : Int)) (by simp [go_sem])) (by simp [Value.oneCell']) (by omega) (by (repeat' (first | (with_reducible exact Below.refl _ _) | (with_reducible assumption) | (with_reducible refine below_drewN ?_ _) | (with_reducible refine Below.drew ?_) | (with_reducible refine Below.alloc ?_ ?_ _) | (with_reducible refine Below.setCell ?_ ?_ _) | (with_reducible refine via (by with_reducible assumption) ?_ ?_) | go_size))) (Nat.le_refl _) ?_; intro v1 w4 hown1 hg1 hblk1 hb1)
        have HO := Lib.hid hown1; clear hown1 hg1 hblk1
        (first | (refine ⟨?_, ?_⟩; rotate_left; (first | (simp [intOf]; done) | (simp [intOf]; omega)); (repeat apply Exists.intro); refine ⟨?_, rfl⟩; exact ⟨k + 1, cn + 1, by omega, by go_num, by rw [HS.out, List.length_append, HCN.out]; rfl, hb1, by rw [HS.out, List.map_append]; exact HO.out⟩) | exact ⟨⟨k + 1, cn + 1, by omega, by go_num, by rw [HS.out, List.length_append, HCN.out]; rfl, hb1, by rw [HS.out, List.map_append]; exact HO.out⟩, by first | (simp [intOf]; done) | (simp [intOf]; omega)⟩)
    · have hkn : k = n := by omega
      subst hkn
      have hbw : Below w.heap.size w wr := hb03.trans (hb.mono (by omega))
      have hrow : wr.ownsRow w.heap.size 2 1 (.slice vA cn vc) cn ((critL es ls k).map (Value.int .i64)) := Go.Joins.ownsRow_le HX.out (by omega)
      have HROW := Lib.hid hrow; clear hrow
      go_wp2_with fail
      refine bodyPost_ret (v := .tuple #[.slice vA cn vc, .int .i64 0]) (by simp only [results, Try.results37]; go_simp) rfl ⟨_, by rw [HR.out], by rw [HR.out, HCN.out]; exact HROW.out, hbw⟩
end Go.Proofs.Ytpdmfnfmlcjobaa
