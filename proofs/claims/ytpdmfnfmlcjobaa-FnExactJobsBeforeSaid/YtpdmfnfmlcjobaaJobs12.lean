/- Contracts: the jobs before a job; both sides. -/
import Derived.Test.YtpdmfnfmlcjobaaJobs7
import Derived.Test.YtpdmfnfmlcjobaaJobMath4
set_option linter.unusedVariables false
set_option linter.unusedSimpArgs false
namespace Go.Proofs.Ytpdmfnfmlcjobaa
open Go.RowKit

theorem fb_made (n : Nat) : (madeCells (Value.bool false).cells (n * 1)).toList = fb n (fun _ => false) := fl_made n _ rfl

set_option maxRecDepth 100000 in
set_option maxHeartbeats 4000000 in
theorem JobsBeforeI_c (A : Option Addr) (n c : Nat) (l : List JobD) (k : Int) (w : World) (hn : l.length = n) (hm : n ≤ 1048576) (hr : JRd w w.heap.size A l) (ok : ∀ d ∈ l, okJD d) (hkk : ∀ (i : Nat) (d : JobD), l[i]? = some d → d.needs.length ≤ 1048576) :
    Calls Try.prog 32 #[.slice A n c, .int .i64 k] w fun e w' => ∃ v, e = .returned (.tuple #[v, .int .i64 (befR l k).2]) ∧ w'.ownsRow w.heap.size 2 1 v (befR l k).1.length ((befR l k).1.map (Value.int .i64)) ∧ Below w.heap.size w w' := by
  obtain ⟨i0, hi0, hz0, hz1, hz2⟩ := info_parts info_i64
  obtain ⟨ib, hib, hzb0, hzb1, hzb2⟩ := info_parts info_bool
  have HN := Lib.hid hn; clear hn
  have HKK := Lib.hid hkk; clear hkk
  cases hv : validS l
  · have HR := Lib.hid (show befR l k = ([], 1) by unfold befR; rw [hv]; rfl)
    go_enter Try.func32, Try.ntmps32
    go_wp2_with fail
    refine (retb (ValidJobsI_c A n c l _ HN.out hm hr ok HKK.out) hv).mono ?_
    rintro e w1 ⟨rfl, hb1⟩
    go_wp2_with fail
    refine bodyPost_ret (v := .tuple #[.slice none 0 0, .int .i64 1]) (by simp only [results, Try.results32]; go_simp) rfl ⟨.slice none 0 0, by rw [HR.out], no_ints (by rw [HR.out]), hb1⟩
  have h30 := (valid_all hv).1
  rw [HN.out] at h30
  have ewn : IntKind.i64.wrap ((n : Int) - 1) = (n : Int) - 1 := IntWalk.i64_in _ (by omega)
  by_cases hin : 0 ≤ k ∧ k ≤ (n : Int) - 1
  rotate_left
  · have HR := Lib.hid (show befR l k = ([], 2) by unfold befR; rw [hv, if_pos rfl, HN.out, if_neg hin])
    have HV := Lib.hid hv; clear hv
    have hin2 : inB k 0 ((n : Int) - 1) = false := by
      cases h : inB k 0 ((n : Int) - 1)
      · rfl
      · exact absurd (inB_iff.1 h) hin
    have HIN := Lib.hid hin2; clear hin2 hin
    go_enter Try.func32, Try.ntmps32
    go_wp2_with fail
    refine (retb (ValidJobsI_c A n c l _ HN.out hm hr ok HKK.out) HV.out).mono ?_
    rintro e w1 ⟨rfl, hb1⟩
    go_wp2_with fail
    refine (between_c _ _ _ _).mono ?_
    rw [HIN.out]
    rintro e w1' ⟨rfl, rfl⟩
    go_wp2_with fail
    refine bodyPost_ret (v := .tuple #[.slice none 0 0, .int .i64 2]) (by simp only [results, Try.results32]; go_simp) rfl ⟨.slice none 0 0, by rw [HR.out], no_ints (by rw [HR.out]), hb1⟩
  have HR := Lib.hid (show befR l k = (bL (jbG l k.toNat (k.toNat + 1)) k.toNat, 0) by unfold befR; rw [hv, if_pos rfl, HN.out, if_pos hin])
  have HV := Lib.hid hv; clear hv
  have HIN := Lib.hid (inB_iff.2 hin)
  obtain ⟨hk0, hk1⟩ := hin
  obtain ⟨kk, rfl⟩ := Int.eq_ofNat_of_zero_le hk0
  rw [Int.toNat_natCast] at HR
  have hkn : kk < n := by omega
  have hk2 : (kk : Int) < (n : Int) := by omega
  have HHI := Lib.hid (fun m h => jbG_high HV.out (k := kk) (by rw [HN.out]; exact hkn) m h)
  go_enter Try.func32, Try.ntmps32
  go_wp2_with fail
  refine (retb (ValidJobsI_c A n c l _ HN.out hm hr ok HKK.out) HV.out).mono ?_
  rintro e w1 ⟨rfl, hb1⟩
  have hb1s := hb1.size
  have hr1 := hr.below hb1
  have HR1 := Lib.hid hr1; clear hr1
  go_wp2_with fail
  refine (between_c _ _ _ _).mono ?_
  rw [HIN.out]
  rintro e w1' ⟨rfl, rfl⟩
  go_upto_region 6 with (at_make; refine wpList_make_full _ rfl _ _ 59 rfl w1.heap.size 4 ib _ 1 Try.underlying59 hib hzb0 hzb1 _ _ _ _ n rfl rfl rfl rfl (by rw [hzb2]; omega) (by unfold maxLen; omega) (Nat.le_refl _) ?_; intro w2 hown hg)
  rw [fb_made] at hown
  have hb2 : Below w1.heap.size w1 w2 := (Below.refl _ _).grown hg (Nat.le_refl _) (fun k hk => by cases hk)
  have hs2 := hb2.size
  have hlt2 : w1.heap.size < w2.heap.size := (hown.lt w1.heap.size rfl).2
  have HOWN := Lib.hid hown; clear hown hg
  go_wp2_with fail
  go_loopw [7] (fun i wr => ∃ (q : Int) (m : Nat), (m : Int) + q = (kk : Int) ∧ -1 ≤ q ∧ i = .int .i64 q ∧ Below w1.heap.size w1 wr ∧ wr.ownsRow w1.heap.size 4 1 (.slice (some ⟨w1.heap.size, 0, none⟩) n n) n (fb n (jbG l kk m))) (fun i _ => (intOf i + 1).toNat)
  case atStart => exact ⟨(kk : Int), 0, by omega, by omega, rfl, hb2, HOWN.out⟩
  case round =>
    clear HOWN hb2
    obtain ⟨q, m, hq, hq1, rfl, hb, hx⟩ := hrel
    have hbs := hb.size
    have HX := Lib.hid hx; clear hx
    by_cases hlt : 0 ≤ q
    · obtain ⟨p, rfl⟩ := Int.eq_ofNat_of_zero_le hlt
      have hpn : p < n := by omega
      have hpk : p ≤ kk := by omega
      obtain ⟨gp, hgp⟩ : ∃ gp, jbG l kk m p = gp := ⟨_, rfl⟩
      have c1 : wr.cell? ⟨w1.heap.size, p, none⟩ = some (.bool gp) := by rw [HX.out.cellAt p (by omega), fb_get hpn, hgp]
      cases hc : (((p : Int) == (kk : Int)) || gp)
      · have h1 : ((p : Int) == (kk : Int)) = false := by cases h : ((p : Int) == (kk : Int)) <;> simp_all
        have h2 : gp = false := by cases h : gp <;> simp_all
        subst h2
        have HNO := Lib.hid (jbG_no (l := l) (k := kk) (m := m) (p := p) (by omega) (by rw [hgp, Bool.or_false]; have : ¬ ((p : Int) = (kk : Int)) := by simpa using h1
                                                                                        simp; omega))
        have p2 : (p : Int) < (n : Int) := by omega
        clear hc hgp
        go_wp2_with fail
        (first | (refine ⟨?_, ?_⟩; rotate_left; (first | (simp [intOf]; done) | (simp [intOf]; omega)); (repeat apply Exists.intro); refine ⟨?_, rfl⟩; exact ⟨(p : Int) - 1, m + 1, by omega, by omega, rfl, hb, by rw [HNO.out]; exact HX.out⟩) | exact ⟨⟨(p : Int) - 1, m + 1, by omega, by omega, rfl, hb, by rw [HNO.out]; exact HX.out⟩, by first | (simp [intOf]; done) | (simp [intOf]; omega)⟩)
      · have HYES := Lib.hid (jbG_yes (l := l) (k := kk) (m := m) (p := p) (by omega) (by
          rw [hgp]
          cases h : gp
          · rw [h, Bool.or_false] at hc
            have : (p : Int) = (kk : Int) := by simpa using hc
            simp; omega
          · simp))
        have HC := Lib.hid hc; clear hc hgp
        obtain ⟨b1, off, rfl, hbl, hc⟩ := ((HR1.out).below (hb.mono hb1s)) (by rw [HN.out]; omega)
        obtain ⟨d, hd⟩ := get_ex l p (by rw [HN.out]; omega)
        obtain ⟨g0, g1, g2, An, cn, g3, g4⟩ := hc p d hd
        have HG := Lib.hid (getJ_eq hd)
        have HRN := Lib.hid (show Rd w1 w.heap.size 1 icell An d.needs from (by
          obtain ⟨b1', off', e1, hbl', hc'⟩ := (HR1.out) (by rw [HN.out]; omega)
          obtain ⟨rfl, rfl⟩ : b1 = b1' ∧ off = off' := by simpa using e1
          obtain ⟨_, _, _, An', cn', x3, x4⟩ := hc' p d hd
          rw [hb.cell (p := ⟨b1, off + p * 4 + 3, none⟩) (Nat.lt_of_lt_of_le hbl hb1s), x3] at g3
          obtain ⟨rfl, _⟩ : An' = An ∧ cn' = cn := by simpa using g3
          exact x4))
        have HC3 := Lib.hid (show w1.cell? ⟨b1, off + p * 4 + 3, none⟩ = some (.slice An d.needs.length cn) from (by rw [← hb.cell (p := ⟨b1, off + p * 4 + 3, none⟩) (Nat.lt_of_lt_of_le hbl hb1s)]; exact g3))
        clear hd hc g0 g1 g2 g4
        have hAL := (valid_all HV.out).2
        rw [HN.out] at hAL
        have hnk := (hAL p hpn).2.2.2.2.2
        have HNE := Lib.hid (hAL p hpn).2.2.2.2.1
        clear hAL
        rw [HG.out] at hnk HNE
        obtain ⟨nl, hnl⟩ : ∃ nl, d.needs.length = nl := ⟨_, rfl⟩
        rw [hnl] at g3 HC3 hnk
        have HNL := Lib.hid hnl; clear hnl
        have p2 : (p : Int) < (n : Int) := by omega
        obtain ⟨wk, rfl⟩ : ∃ w' : World, w' = wr := ⟨_, rfl⟩
        cases h1 : ((p : Int) == (kk : Int))
        · have h2 : gp = true := by have := HC.out; rw [h1] at this; simpa using this
          subst h2
          go_wp2_with fail
          clear g3 c1
          go_loopw [45] (fun i wi => ∃ j : Nat, j ≤ nl ∧ i = .int .i64 j ∧ Below w1.heap.size w1 wi ∧ wi.ownsRow w1.heap.size 4 1 (.slice (some ⟨w1.heap.size, 0, none⟩) n n) n (fb n (jbN l p j (jbG l kk m)))) (fun i _ => nl - (intOf i).toNat)
          case atStart => exact ⟨0, Nat.zero_le _, rfl, hb, HX.out⟩
          case round =>
            clear HX hb hbs
            obtain ⟨j, hj, rfl, hb, hx⟩ := hrel
            have hbs := hb.size
            have HX := Lib.hid hx; clear hx
            by_cases hjt : j < nl
            · obtain ⟨x, hx⟩ := get_ex d.needs j (by rw [HNL.out]; omega)
              have hxr := HNE.out j x hx
              obtain ⟨r, rfl⟩ := Int.eq_ofNat_of_zero_le hxr.1
              have hrp : r < p := by omega
              have hrn : Rd wr w.heap.size 1 icell An d.needs := (HRN.out).below (hb.mono hb1s)
              obtain ⟨b2, off2, rfl, hbl2, hc2⟩ := hrn.ints' (by rw [HNL.out]; omega)
              have e0 := hc2 j (r : Int) hx
              obtain ⟨z, hz⟩ : ∃ z, jbN l p j (jbG l kk m) r = z := ⟨_, rfl⟩
              have c2 : wr.cell? ⟨w1.heap.size, r, none⟩ = some (.bool z) := by rw [HX.out.cellAt r (by omega), fb_get (by omega), hz]
              have f2 : wr.frozen? ⟨w1.heap.size, r, none⟩ = false := HX.out.frozenAt r
              have st := (HX.out.stored r (.bool true)).1
              rw [fb_set (g' := jbN l p (j + 1) (jbG l kk m)) (fun i _ => by rw [jbN_succ (by rw [HG.out]; exact hx)])] at st
              have ST := Lib.hid st
              clear st hc2 hx hrn hxr hz
              have p3 : (0 : Int) ≤ (j : Int) := by omega
              have p4 : (j : Int) < (nl : Int) := by omega
              have p5 : (0 : Int) ≤ (r : Int) := by omega
              have p6 : (r : Int) < (n : Int) := by omega
              go_wp2_with fail
              (first | (refine ⟨?_, ?_⟩; rotate_left; (first | (simp [intOf]; done) | (simp [intOf]; omega)); (repeat apply Exists.intro); refine ⟨?_, rfl⟩; exact ⟨j + 1, by omega, by go_num, by (repeat' (first | (with_reducible exact Below.refl _ _) | (with_reducible assumption) | (with_reducible refine below_drewN ?_ _) | (with_reducible refine Below.drew ?_) | (with_reducible refine Below.alloc ?_ ?_ _) | (with_reducible refine Below.setCell ?_ ?_ _) | (with_reducible refine via (by with_reducible assumption) ?_ ?_) | go_size)), ST.out⟩) | exact ⟨⟨j + 1, by omega, by go_num, by (repeat' (first | (with_reducible exact Below.refl _ _) | (with_reducible assumption) | (with_reducible refine below_drewN ?_ _) | (with_reducible refine Below.drew ?_) | (with_reducible refine Below.alloc ?_ ?_ _) | (with_reducible refine Below.setCell ?_ ?_ _) | (with_reducible refine via (by with_reducible assumption) ?_ ?_) | go_size)), ST.out⟩, by first | (simp [intOf]; done) | (simp [intOf]; omega)⟩)
            · have hjn : j = nl := by omega
              have hx2 := HX.out
              rw [hjn] at hx2
              have HX2 := Lib.hid (show wr.ownsRow w1.heap.size 4 1 (.slice (some ⟨w1.heap.size, 0, none⟩) n n) n (fb n (jbG l kk (m + 1))) by rw [HYES.out, HG.out, HNL.out]; exact hx2)
              clear hx2 hjn
              go_wp2_with fail
              (first | (refine ⟨?_, ?_⟩; rotate_left; (first | (simp [intOf]; done) | (simp [intOf]; omega)); (repeat apply Exists.intro); refine ⟨?_, rfl⟩; exact ⟨(p : Int) - 1, m + 1, by omega, by omega, rfl, hb, HX2.out⟩) | exact ⟨⟨(p : Int) - 1, m + 1, by omega, by omega, rfl, hb, HX2.out⟩, by first | (simp [intOf]; done) | (simp [intOf]; omega)⟩)
        · clear HC
          go_wp2_with fail
          clear g3 c1
          go_loopw [45] (fun i wi => ∃ j : Nat, j ≤ nl ∧ i = .int .i64 j ∧ Below w1.heap.size w1 wi ∧ wi.ownsRow w1.heap.size 4 1 (.slice (some ⟨w1.heap.size, 0, none⟩) n n) n (fb n (jbN l p j (jbG l kk m)))) (fun i _ => nl - (intOf i).toNat)
          case atStart => exact ⟨0, Nat.zero_le _, rfl, hb, HX.out⟩
          case round =>
            clear HX hb hbs
            obtain ⟨j, hj, rfl, hb, hx⟩ := hrel
            have hbs := hb.size
            have HX := Lib.hid hx; clear hx
            by_cases hjt : j < nl
            · obtain ⟨x, hx⟩ := get_ex d.needs j (by rw [HNL.out]; omega)
              have hxr := HNE.out j x hx
              obtain ⟨r, rfl⟩ := Int.eq_ofNat_of_zero_le hxr.1
              have hrp : r < p := by omega
              have hrn : Rd wr w.heap.size 1 icell An d.needs := (HRN.out).below (hb.mono hb1s)
              obtain ⟨b2, off2, rfl, hbl2, hc2⟩ := hrn.ints' (by rw [HNL.out]; omega)
              have e0 := hc2 j (r : Int) hx
              obtain ⟨z, hz⟩ : ∃ z, jbN l p j (jbG l kk m) r = z := ⟨_, rfl⟩
              have c2 : wr.cell? ⟨w1.heap.size, r, none⟩ = some (.bool z) := by rw [HX.out.cellAt r (by omega), fb_get (by omega), hz]
              have f2 : wr.frozen? ⟨w1.heap.size, r, none⟩ = false := HX.out.frozenAt r
              have st := (HX.out.stored r (.bool true)).1
              rw [fb_set (g' := jbN l p (j + 1) (jbG l kk m)) (fun i _ => by rw [jbN_succ (by rw [HG.out]; exact hx)])] at st
              have ST := Lib.hid st
              clear st hc2 hx hrn hxr hz
              have p3 : (0 : Int) ≤ (j : Int) := by omega
              have p4 : (j : Int) < (nl : Int) := by omega
              have p5 : (0 : Int) ≤ (r : Int) := by omega
              have p6 : (r : Int) < (n : Int) := by omega
              go_wp2_with fail
              (first | (refine ⟨?_, ?_⟩; rotate_left; (first | (simp [intOf]; done) | (simp [intOf]; omega)); (repeat apply Exists.intro); refine ⟨?_, rfl⟩; exact ⟨j + 1, by omega, by go_num, by (repeat' (first | (with_reducible exact Below.refl _ _) | (with_reducible assumption) | (with_reducible refine below_drewN ?_ _) | (with_reducible refine Below.drew ?_) | (with_reducible refine Below.alloc ?_ ?_ _) | (with_reducible refine Below.setCell ?_ ?_ _) | (with_reducible refine via (by with_reducible assumption) ?_ ?_) | go_size)), ST.out⟩) | exact ⟨⟨j + 1, by omega, by go_num, by (repeat' (first | (with_reducible exact Below.refl _ _) | (with_reducible assumption) | (with_reducible refine below_drewN ?_ _) | (with_reducible refine Below.drew ?_) | (with_reducible refine Below.alloc ?_ ?_ _) | (with_reducible refine Below.setCell ?_ ?_ _) | (with_reducible refine via (by with_reducible assumption) ?_ ?_) | go_size)), ST.out⟩, by first | (simp [intOf]; done) | (simp [intOf]; omega)⟩)
            · have hjn : j = nl := by omega
              have hx2 := HX.out
              rw [hjn] at hx2
              have HX2 := Lib.hid (show wr.ownsRow w1.heap.size 4 1 (.slice (some ⟨w1.heap.size, 0, none⟩) n n) n (fb n (jbG l kk (m + 1))) by rw [HYES.out, HG.out, HNL.out]; exact hx2)
              clear hx2 hjn
              go_wp2_with fail
              (first | (refine ⟨?_, ?_⟩; rotate_left; (first | (simp [intOf]; done) | (simp [intOf]; omega)); (repeat apply Exists.intro); refine ⟨?_, rfl⟩; exact ⟨(p : Int) - 1, m + 1, by omega, by omega, rfl, hb, HX2.out⟩) | exact ⟨⟨(p : Int) - 1, m + 1, by omega, by omega, rfl, hb, HX2.out⟩, by first | (simp [intOf]; done) | (simp [intOf]; omega)⟩)
    · obtain rfl : q = -1 := by omega
      have hmk : m = kk + 1 := by omega
      subst hmk
      have HBL := Lib.hid (show bL (jbG l kk (kk + 1)) n = bL (jbG l kk (kk + 1)) kk from bL_past (HHI.out _ (Nat.le_refl _)) n (by omega))
      have HCE := Lib.hid (show ∀ j, j < n → wr.cell? ⟨w1.heap.size, j, none⟩ = some (.bool (jbG l kk (kk + 1) j)) from fun j hj => by rw [HX.out.cellAt j (by omega), fb_get hj])
      obtain ⟨w3, rfl⟩ : ∃ w' : World, w' = wr := ⟨_, rfl⟩
      have hlt3 : w1.heap.size < w3.heap.size := (HX.out.lt w1.heap.size rfl).2
      have hown0 : (w3.alloc (.cells #[] 2)).ownsRow w3.heap.size 2 1 (.slice (some ⟨w3.heap.size, 0, none⟩) 0 0) 0 [] := World.ownsRow_made w3 #[] 0 (Nat.le_refl _) (by simp [maxLen]) (by simp)
      have hb03 : Below w.heap.size w w3 := hb1.trans (hb.mono hb1s)
      generalize jbG l kk (kk + 1) = gg at *
      clear HX hb
      go_wp2_with fail
      go_loopw [10, 56] (fun o i wr => ∃ k cn : Nat, k ≤ n ∧ i = .int .i64 k ∧ (bL gg k).length = cn ∧ Below w3.heap.size w3 wr ∧ wr.ownsRow w3.heap.size 2 1 o cn ((bL gg k).map (Value.int .i64))) (fun _ i _ => n - (intOf i).toNat)
      case atStart => exact ⟨0, 0, Nat.zero_le _, rfl, rfl, by (repeat' (first | (with_reducible exact Below.refl _ _) | (with_reducible assumption) | (with_reducible refine below_drewN ?_ _) | (with_reducible refine Below.drew ?_) | (with_reducible refine Below.alloc ?_ ?_ _) | (with_reducible refine Below.setCell ?_ ?_ _) | (with_reducible refine via (by with_reducible assumption) ?_ ?_) | go_size)), hown0⟩
      case round =>
        clear hown0
        obtain ⟨k, cn, hk, rfl, hcn, hb, hx⟩ := hrel
        have hbs := hb.size
        have hcl := bL_len gg k
        rw [hcn] at hcl
        have HCN := Lib.hid hcn; clear hcn
        have HX := Lib.hid hx; clear hx
        obtain ⟨vA, vc, rfl, _⟩ := own_form HX.out
        by_cases hlt : k < n
        · have HSU := Lib.hid (show bL gg (k + 1) = if gg k = true then bL gg k ++ [(k : Int)] else bL gg k from rfl)
          have e1 := HCE.out k hlt
          rw [← hb.cell (p := ⟨w1.heap.size, k, none⟩) hlt3] at e1
          have p1 : (0 : Int) ≤ (k : Int) := by omega
          have p2 : (k : Int) < (n : Int) := by omega
          cases h1 : gg k
          · rw [h1] at e1
            have HS := Lib.hid (show bL gg (k + 1) = bL gg k by rw [HSU.out, h1]; rfl)
            go_wp2_with fail
            (first | (refine ⟨?_, ?_⟩; rotate_left; (first | (simp [intOf]; done) | (simp [intOf]; omega)); (repeat apply Exists.intro); refine ⟨?_, rfl⟩; exact ⟨k + 1, cn, by omega, by go_num, by rw [HS.out, HCN.out], hb, by rw [HS.out]; exact HX.out⟩) | exact ⟨⟨k + 1, cn, by omega, by go_num, by rw [HS.out, HCN.out], hb, by rw [HS.out]; exact HX.out⟩, by first | (simp [intOf]; done) | (simp [intOf]; omega)⟩)
          · rw [h1] at e1
            have HS := Lib.hid (show bL gg (k + 1) = bL gg k ++ [(k : Int)] by rw [HSU.out, h1]; rfl)
            go_wp2_with (at_builtin; refine app_list (W := w3) (z := .int .i64 0) (.tmp 62) (.tmp 64) rfl rfl Try.underlying30 hi0 hz0 hz1 hz2 rfl (by decide) (by decide) rfl (HX.out.alloc _) rfl rfl (news1 (z := .int .i64 (k : Int)) (by simp [go_sem])) (by simp [Value.oneCell']) (by omega) (by (repeat' (first | (with_reducible exact Below.refl _ _) | (with_reducible assumption) | (with_reducible refine below_drewN ?_ _) | (with_reducible refine Below.drew ?_) | (with_reducible refine Below.alloc ?_ ?_ _) | (with_reducible refine Below.setCell ?_ ?_ _) | (with_reducible refine via (by with_reducible assumption) ?_ ?_) | go_size))) (Nat.le_refl _) ?_; intro v1 w4 hown1 hg1 hblk1 hb1)
            have HO := Lib.hid hown1; clear hown1 hg1 hblk1
            (first | (refine ⟨?_, ?_⟩; rotate_left; (first | (simp [intOf]; done) | (simp [intOf]; omega)); (repeat apply Exists.intro); refine ⟨?_, rfl⟩; exact ⟨k + 1, cn + 1, by omega, by go_num, by rw [HS.out, List.length_append, HCN.out]; rfl, hb1, by rw [HS.out, List.map_append]; exact HO.out⟩) | exact ⟨⟨k + 1, cn + 1, by omega, by go_num, by rw [HS.out, List.length_append, HCN.out]; rfl, hb1, by rw [HS.out, List.map_append]; exact HO.out⟩, by first | (simp [intOf]; done) | (simp [intOf]; omega)⟩)
        · have hkn : k = n := by omega
          subst hkn
          have hbw : Below w.heap.size w wr := hb03.trans (hb.mono (by omega))
          have hrow : wr.ownsRow w.heap.size 2 1 (.slice vA cn vc) cn ((bL gg k).map (Value.int .i64)) := Go.Joins.ownsRow_le HX.out (by omega)
          have HROW := Lib.hid hrow; clear hrow
          go_wp2_with fail
          refine bodyPost_ret (v := .tuple #[.slice vA cn vc, .int .i64 0]) (by simp only [results, Try.results32]; go_simp) rfl ⟨_, by rw [HR.out], by rw [HR.out, ← HBL.out, HCN.out]; exact HROW.out, hbw⟩

set_option maxRecDepth 100000 in
set_option maxHeartbeats 4000000 in
theorem JobsBeforeS_c (A : Option Addr) (n c : Nat) (l : List JobD) (k : Int) (w : World) (hn : l.length = n) (hm : n ≤ 1048576) (hr : JRd w w.heap.size A l) (ok : ∀ d ∈ l, okJD d) (hkk : ∀ (i : Nat) (d : JobD), l[i]? = some d → d.needs.length ≤ 1048576) :
    Calls Try.prog 31 #[.slice A n c, .int .i64 k] w fun e w' => ∃ v, e = .returned (.tuple #[v, .int .i64 (befR l k).2]) ∧ w'.ownsRow w.heap.size 2 1 v (befR l k).1.length ((befR l k).1.map (Value.int .i64)) ∧ Below w.heap.size w w' := by
  obtain ⟨i0, hi0, hz0, hz1, hz2⟩ := info_parts info_i64
  obtain ⟨ib, hib, hzb0, hzb1, hzb2⟩ := info_parts info_bool
  have HN := Lib.hid hn; clear hn
  have HKK := Lib.hid hkk; clear hkk
  cases hv : validS l
  · have HR := Lib.hid (show befR l k = ([], 1) by unfold befR; rw [hv]; rfl)
    go_enter Try.func31, Try.ntmps31
    go_wp2_with fail
    refine (retb (l22OkB_c A n c l _ HN.out hm hr ok HKK.out) hv).mono ?_
    rintro e w1 ⟨rfl, hb1⟩
    go_wp2_with fail
    refine bodyPost_ret (v := .tuple #[.slice none 0 0, .int .i64 1]) (by simp only [results, Try.results31]; go_simp) rfl ⟨.slice none 0 0, by rw [HR.out], no_ints (by rw [HR.out]), hb1⟩
  have h30 := (valid_all hv).1
  rw [HN.out] at h30
  have ewn : IntKind.i64.wrap ((n : Int) - 1) = (n : Int) - 1 := IntWalk.i64_in _ (by omega)
  by_cases hin : 0 ≤ k ∧ k ≤ (n : Int) - 1
  rotate_left
  · have HR := Lib.hid (show befR l k = ([], 2) by unfold befR; rw [hv, if_pos rfl, HN.out, if_neg hin])
    have HV := Lib.hid hv; clear hv
    have hin2 : inB k 0 ((n : Int) - 1) = false := by
      cases h : inB k 0 ((n : Int) - 1)
      · rfl
      · exact absurd (inB_iff.1 h) hin
    have HIN := Lib.hid hin2; clear hin2 hin
    go_enter Try.func31, Try.ntmps31
    go_wp2_with fail
    refine (retb (l22OkB_c A n c l _ HN.out hm hr ok HKK.out) HV.out).mono ?_
    rintro e w1 ⟨rfl, hb1⟩
    go_wp2_with fail
    refine (l00In_c _ _ _ _).mono ?_
    rw [HIN.out]
    rintro e w1' ⟨rfl, rfl⟩
    go_wp2_with fail
    refine bodyPost_ret (v := .tuple #[.slice none 0 0, .int .i64 2]) (by simp only [results, Try.results31]; go_simp) rfl ⟨.slice none 0 0, by rw [HR.out], no_ints (by rw [HR.out]), hb1⟩
  have HR := Lib.hid (show befR l k = (bL (jbG l k.toNat (k.toNat + 1)) k.toNat, 0) by unfold befR; rw [hv, if_pos rfl, HN.out, if_pos hin])
  have HV := Lib.hid hv; clear hv
  have HIN := Lib.hid (inB_iff.2 hin)
  obtain ⟨hk0, hk1⟩ := hin
  obtain ⟨kk, rfl⟩ := Int.eq_ofNat_of_zero_le hk0
  rw [Int.toNat_natCast] at HR
  have hkn : kk < n := by omega
  have hk2 : (kk : Int) < (n : Int) := by omega
  have HHI := Lib.hid (fun m h => jbG_high HV.out (k := kk) (by rw [HN.out]; exact hkn) m h)
  go_enter Try.func31, Try.ntmps31
  go_wp2_with fail
  refine (retb (l22OkB_c A n c l _ HN.out hm hr ok HKK.out) HV.out).mono ?_
  rintro e w1 ⟨rfl, hb1⟩
  have hb1s := hb1.size
  have hr1 := hr.below hb1
  have HR1 := Lib.hid hr1; clear hr1
  go_wp2_with fail
  refine (l00In_c _ _ _ _).mono ?_
  rw [HIN.out]
  rintro e w1' ⟨rfl, rfl⟩
  go_upto_region 6 with (at_make; refine wpList_make_full _ rfl _ _ 59 rfl w1.heap.size 4 ib _ 1 Try.underlying59 hib hzb0 hzb1 _ _ _ _ n rfl rfl rfl rfl (by rw [hzb2]; omega) (by unfold maxLen; omega) (Nat.le_refl _) ?_; intro w2 hown hg)
  rw [fb_made] at hown
  have hb2 : Below w1.heap.size w1 w2 := (Below.refl _ _).grown hg (Nat.le_refl _) (fun k hk => by cases hk)
  have hs2 := hb2.size
  have hlt2 : w1.heap.size < w2.heap.size := (hown.lt w1.heap.size rfl).2
  have HOWN := Lib.hid hown; clear hown hg
  have c0 : w2.cell? ⟨w1.heap.size, kk, none⟩ = some (.bool false) := by rw [HOWN.out.cellAt kk (by omega), fb_get hkn]
  have f0 : w2.frozen? ⟨w1.heap.size, kk, none⟩ = false := HOWN.out.frozenAt kk
  have st := (HOWN.out.stored kk (.bool true)).1
  rw [fb_set (g' := fun j => decide (j = kk) || jbG l kk 0 j) (fun j _ => by
    show (decide (j = kk) || false) = _
    by_cases h : j = kk
    · rw [if_pos h, decide_eq_true h]; rfl
    · rw [if_neg h, decide_eq_false h]; rfl)] at st
  have ST := Lib.hid st; clear st
  go_upto_region 7 with fail
  refine gen_world fun V hV => ?_
  have hrow : V.ownsRow w1.heap.size 4 1 (.slice (some ⟨w1.heap.size, 0, none⟩) n n) n (fb n (fun j => decide (j = kk) || jbG l kk 0 j)) := by rw [hV.out]; exact ST.out
  have hbV : Below w1.heap.size w1 V := by rw [hV.out]; (repeat' (first | (with_reducible exact Below.refl _ _) | (with_reducible assumption) | (with_reducible refine below_drewN ?_ _) | (with_reducible refine Below.drew ?_) | (with_reducible refine Below.alloc ?_ ?_ _) | (with_reducible refine Below.setCell ?_ ?_ _) | (with_reducible refine via (by with_reducible assumption) ?_ ?_) | go_size))
  clear hV c0 f0 ST HOWN hb2 hs2 hlt2
  have hsV := hbV.size
  have hltV : w1.heap.size < V.heap.size := (hrow.lt w1.heap.size rfl).2
  have hown0 : (V.alloc (.cells #[] 2)).ownsRow V.heap.size 2 1 (.slice (some ⟨V.heap.size, 0, none⟩) 0 0) 0 [] := World.ownsRow_made V #[] 0 (Nat.le_refl _) (by simp [maxLen]) (by simp)
  have hrow0 := hrow.alloc (.cells #[] 2)
  have HROW0 := Lib.hid hrow0; clear hrow hrow0
  go_wp2_with fail
  go_loopw [8] (fun i wr => ∃ (q : Int) (m : Nat), (m : Int) + q = (kk : Int) ∧ -1 ≤ q ∧ i = .int .i64 q ∧ Below w1.heap.size w1 wr ∧ V.heap.size ≤ wr.heap.size ∧ wr.ownsRow w1.heap.size 4 1 (.slice (some ⟨w1.heap.size, 0, none⟩) n n) n (fb n (fun j => decide (j = kk) || jbG l kk m j)) ∧ wr.ownsRow V.heap.size 2 1 (.slice (some ⟨V.heap.size, 0, none⟩) 0 0) 0 []) (fun i _ => (intOf i + 1).toNat)
  case atStart => exact ⟨(kk : Int), 0, by omega, by omega, rfl, by (repeat' (first | (with_reducible exact Below.refl _ _) | (with_reducible assumption) | (with_reducible refine below_drewN ?_ _) | (with_reducible refine Below.drew ?_) | (with_reducible refine Below.alloc ?_ ?_ _) | (with_reducible refine Below.setCell ?_ ?_ _) | (with_reducible refine via (by with_reducible assumption) ?_ ?_) | go_size)), by simp, HROW0.out, hown0⟩
  case round =>
    clear HROW0 hown0 hbV
    obtain ⟨q, m, hq, hq1, rfl, hb, hvs, hx, ho⟩ := hrel
    have hbs := hb.size
    have HX := Lib.hid hx; clear hx
    have HO := Lib.hid ho; clear ho
    by_cases hlt : 0 ≤ q
    · obtain ⟨p, rfl⟩ := Int.eq_ofNat_of_zero_le hlt
      have hpn : p < n := by omega
      have hpk : p ≤ kk := by omega
      have p2' : (p : Int) < (n : Int) := by omega
      obtain ⟨gp, hgp⟩ : ∃ gp, (decide (p = kk) || jbG l kk m p) = gp := ⟨_, rfl⟩
      have c1 : wr.cell? ⟨w1.heap.size, p, none⟩ = some (.bool gp) := by rw [HX.out.cellAt p (by omega), fb_get hpn, hgp]
      cases gp
      · have HNO := Lib.hid (jbG_no (l := l) (k := kk) (m := m) (p := p) (by omega) hgp)
        clear hgp
        go_wp2_with fail
        (first | (refine ⟨?_, ?_⟩; rotate_left; (first | (simp [intOf]; done) | (simp [intOf]; omega)); (repeat apply Exists.intro); refine ⟨?_, rfl⟩; exact ⟨(p : Int) - 1, m + 1, by omega, by omega, rfl, hb, hvs, by rw [HNO.out]; exact HX.out, HO.out⟩) | exact ⟨⟨(p : Int) - 1, m + 1, by omega, by omega, rfl, hb, hvs, by rw [HNO.out]; exact HX.out, HO.out⟩, by first | (simp [intOf]; done) | (simp [intOf]; omega)⟩)
      · have HYES := Lib.hid (jbG_yes (l := l) (k := kk) (m := m) (p := p) (by omega) hgp)
        clear hgp
        obtain ⟨b1, off, rfl, hbl, hc⟩ := ((HR1.out).below (hb.mono hb1s)) (by rw [HN.out]; omega)
        obtain ⟨d, hd⟩ := get_ex l p (by rw [HN.out]; omega)
        obtain ⟨g0, g1, g2, An, cn, g3, g4⟩ := hc p d hd
        have HG := Lib.hid (getJ_eq hd)
        have HRN := Lib.hid (show Rd w1 w.heap.size 1 icell An d.needs from (by
          obtain ⟨b1', off', e1, hbl', hc'⟩ := (HR1.out) (by rw [HN.out]; omega)
          obtain ⟨rfl, rfl⟩ : b1 = b1' ∧ off = off' := by simpa using e1
          obtain ⟨_, _, _, An', cn', x3, x4⟩ := hc' p d hd
          rw [hb.cell (p := ⟨b1, off + p * 4 + 3, none⟩) (Nat.lt_of_lt_of_le hbl hb1s), x3] at g3
          obtain ⟨rfl, _⟩ : An' = An ∧ cn' = cn := by simpa using g3
          exact x4))
        have HC3 := Lib.hid (show w1.cell? ⟨b1, off + p * 4 + 3, none⟩ = some (.slice An d.needs.length cn) from (by rw [← hb.cell (p := ⟨b1, off + p * 4 + 3, none⟩) (Nat.lt_of_lt_of_le hbl hb1s)]; exact g3))
        clear hd hc g0 g1 g2 g4
        have hAL := (valid_all HV.out).2
        rw [HN.out] at hAL
        have hnk := (hAL p hpn).2.2.2.2.2
        have HNE := Lib.hid (hAL p hpn).2.2.2.2.1
        clear hAL
        rw [HG.out] at hnk HNE
        obtain ⟨nl, hnl⟩ : ∃ nl, d.needs.length = nl := ⟨_, rfl⟩
        rw [hnl] at g3 HC3 hnk
        have HNL := Lib.hid hnl; clear hnl
        have p2 : (p : Int) < (n : Int) := by omega
        obtain ⟨wk, rfl⟩ : ∃ w' : World, w' = wr := ⟨_, rfl⟩
        go_wp2_with fail
        clear g3 c1
        go_loopw [9] (fun i wi => ∃ j : Nat, j ≤ nl ∧ i = .int .i64 j ∧ Below w1.heap.size w1 wi ∧ V.heap.size ≤ wi.heap.size ∧ wi.ownsRow w1.heap.size 4 1 (.slice (some ⟨w1.heap.size, 0, none⟩) n n) n (fb n (fun i => decide (i = kk) || jbN l p j (jbG l kk m) i)) ∧ wi.ownsRow V.heap.size 2 1 (.slice (some ⟨V.heap.size, 0, none⟩) 0 0) 0 []) (fun i _ => nl - (intOf i).toNat)
        case atStart => exact ⟨0, Nat.zero_le _, rfl, hb, hvs, HX.out, HO.out⟩
        case round =>
          clear HX HO hb hbs hvs
          obtain ⟨j, hj, rfl, hb, hvs, hx, ho⟩ := hrel
          have hbs := hb.size
          have HX := Lib.hid hx; clear hx
          have HO := Lib.hid ho; clear ho
          have g3 : wr.cell? ⟨b1, off + p * 4 + 3, none⟩ = some (.slice An nl cn) := by rw [hb.cell (p := ⟨b1, off + p * 4 + 3, none⟩) (Nat.lt_of_lt_of_le hbl hb1s)]; exact HC3.out
          by_cases hjt : j < nl
          · obtain ⟨x, hx⟩ := get_ex d.needs j (by rw [HNL.out]; omega)
            have hxr := HNE.out j x hx
            obtain ⟨r, rfl⟩ := Int.eq_ofNat_of_zero_le hxr.1
            have hrp : r < p := by omega
            have hrn : Rd wr w.heap.size 1 icell An d.needs := (HRN.out).below (hb.mono hb1s)
            obtain ⟨b2, off2, rfl, hbl2, hc2⟩ := hrn.ints' (by rw [HNL.out]; omega)
            have e0 := hc2 j (r : Int) hx
            obtain ⟨z, hz⟩ : ∃ z, (decide (r = kk) || jbN l p j (jbG l kk m) r) = z := ⟨_, rfl⟩
            have c2 : wr.cell? ⟨w1.heap.size, r, none⟩ = some (.bool z) := by rw [HX.out.cellAt r (by omega), fb_get (by omega), hz]
            have f2 : wr.frozen? ⟨w1.heap.size, r, none⟩ = false := HX.out.frozenAt r
            have sg := HX.out.stored r (.bool true)
            have st := sg.1
            have so := own_ne HO.out sg.2 (fun q hq hc => by simp only [Value.ownBlock, Option.some.injEq] at hq hc; omega)
            rw [fb_set (g' := fun i => decide (i = kk) || jbN l p (j + 1) (jbG l kk m) i) (fun i _ => by
              rw [jbN_succ (by rw [HG.out]; exact hx)]
              show (decide (i = kk) || if i = r then true else _) = _
              by_cases h : i = r
              · rw [if_pos h, if_pos h, Bool.or_true]
              · rw [if_neg h, if_neg h])] at st
            have ST := Lib.hid st
            have SO := Lib.hid so
            clear st so sg hc2 hx hrn hxr hz
            have p3 : (0 : Int) ≤ (j : Int) := by omega
            have p4 : (j : Int) < (nl : Int) := by omega
            have p5 : (0 : Int) ≤ (r : Int) := by omega
            have p6 : (r : Int) < (n : Int) := by omega
            go_wp2_with fail
            (first | (refine ⟨?_, ?_⟩; rotate_left; (first | (simp [intOf]; done) | (simp [intOf]; omega)); (repeat apply Exists.intro); refine ⟨?_, rfl⟩; exact ⟨j + 1, by omega, by go_num, by (repeat' (first | (with_reducible exact Below.refl _ _) | (with_reducible assumption) | (with_reducible refine below_drewN ?_ _) | (with_reducible refine Below.drew ?_) | (with_reducible refine Below.alloc ?_ ?_ _) | (with_reducible refine Below.setCell ?_ ?_ _) | (with_reducible refine via (by with_reducible assumption) ?_ ?_) | go_size)), by simpa using hvs, ST.out, SO.out⟩) | exact ⟨⟨j + 1, by omega, by go_num, by (repeat' (first | (with_reducible exact Below.refl _ _) | (with_reducible assumption) | (with_reducible refine below_drewN ?_ _) | (with_reducible refine Below.drew ?_) | (with_reducible refine Below.alloc ?_ ?_ _) | (with_reducible refine Below.setCell ?_ ?_ _) | (with_reducible refine via (by with_reducible assumption) ?_ ?_) | go_size)), by simpa using hvs, ST.out, SO.out⟩, by first | (simp [intOf]; done) | (simp [intOf]; omega)⟩)
          · have hjn : j = nl := by omega
            have hx2 := HX.out
            rw [hjn] at hx2
            have HX2 := Lib.hid (show wr.ownsRow w1.heap.size 4 1 (.slice (some ⟨w1.heap.size, 0, none⟩) n n) n (fb n (fun j => decide (j = kk) || jbG l kk (m + 1) j)) by rw [HYES.out, HG.out, HNL.out]; exact hx2)
            clear hx2 hjn
            go_wp2_with fail
            (first | (refine ⟨?_, ?_⟩; rotate_left; (first | (simp [intOf]; done) | (simp [intOf]; omega)); (repeat apply Exists.intro); refine ⟨?_, rfl⟩; exact ⟨(p : Int) - 1, m + 1, by omega, by omega, rfl, hb, hvs, HX2.out, HO.out⟩) | exact ⟨⟨(p : Int) - 1, m + 1, by omega, by omega, rfl, hb, hvs, HX2.out, HO.out⟩, by first | (simp [intOf]; done) | (simp [intOf]; omega)⟩)
    · obtain rfl : q = -1 := by omega
      have hmk : m = kk + 1 := by omega
      subst hmk
      have HCE := Lib.hid (show ∀ j, j < kk → wr.cell? ⟨w1.heap.size, j, none⟩ = some (.bool (jbG l kk (kk + 1) j)) from fun j hj => by
        rw [HX.out.cellAt j (by omega), fb_get (by omega)]
        show some (Value.bool (decide (j = kk) || _)) = _
        rw [decide_eq_false (by omega)]; rfl)
      obtain ⟨w3, rfl⟩ : ∃ w' : World, w' = wr := ⟨_, rfl⟩
      have hb03 : Below w.heap.size w w3 := hb1.trans (hb.mono hb1s)
      generalize jbG l kk (kk + 1) = gg at *
      clear HX hb
      go_wp2_with fail
      go_loopw [7, 10] (fun o i wr => ∃ k cn : Nat, k ≤ kk ∧ i = .int .i64 k ∧ (bL gg k).length = cn ∧ Below V.heap.size w3 wr ∧ wr.ownsRow V.heap.size 2 1 o cn ((bL gg k).map (Value.int .i64))) (fun _ i _ => kk - (intOf i).toNat)
      case atStart => exact ⟨0, 0, Nat.zero_le _, rfl, rfl, Below.refl _ _, HO.out⟩
      case round =>
        clear HO
        obtain ⟨k, cn, hk, rfl, hcn, hb, hx⟩ := hrel
        have hbs := hb.size
        have hcl := bL_len gg k
        rw [hcn] at hcl
        have HCN := Lib.hid hcn; clear hcn
        have HX := Lib.hid hx; clear hx
        obtain ⟨vA, vc, rfl, _⟩ := own_form HX.out
        by_cases hlt : k < kk
        · have HSU := Lib.hid (show bL gg (k + 1) = if gg k = true then bL gg k ++ [(k : Int)] else bL gg k from rfl)
          have e1 := HCE.out k hlt
          rw [← hb.cell (p := ⟨w1.heap.size, k, none⟩) hltV] at e1
          have p1 : (0 : Int) ≤ (k : Int) := by omega
          have p2 : (k : Int) < (n : Int) := by omega
          have p3 : (k : Int) < (kk : Int) := by omega
          cases h1 : gg k
          · rw [h1] at e1
            have HS := Lib.hid (show bL gg (k + 1) = bL gg k by rw [HSU.out, h1]; rfl)
            go_wp2_with fail
            (first | (refine ⟨?_, ?_⟩; rotate_left; (first | (simp [intOf]; done) | (simp [intOf]; omega)); (repeat apply Exists.intro); refine ⟨?_, rfl⟩; exact ⟨k + 1, cn, by omega, by go_num, by rw [HS.out, HCN.out], hb, by rw [HS.out]; exact HX.out⟩) | exact ⟨⟨k + 1, cn, by omega, by go_num, by rw [HS.out, HCN.out], hb, by rw [HS.out]; exact HX.out⟩, by first | (simp [intOf]; done) | (simp [intOf]; omega)⟩)
          · rw [h1] at e1
            have HS := Lib.hid (show bL gg (k + 1) = bL gg k ++ [(k : Int)] by rw [HSU.out, h1]; rfl)
            go_wp2_with (at_builtin; refine app_list (W := w3) (z := .int .i64 0) (.tmp 66) (.tmp 68) rfl rfl Try.underlying30 hi0 hz0 hz1 hz2 rfl (by decide) (by decide) rfl (HX.out.alloc _) rfl rfl (news1 (z := .int .i64 (k : Int)) (by simp [go_sem])) (by simp [Value.oneCell']) (by omega) (by (repeat' (first | (with_reducible exact Below.refl _ _) | (with_reducible assumption) | (with_reducible refine below_drewN ?_ _) | (with_reducible refine Below.drew ?_) | (with_reducible refine Below.alloc ?_ ?_ _) | (with_reducible refine Below.setCell ?_ ?_ _) | (with_reducible refine via (by with_reducible assumption) ?_ ?_) | go_size))) (by omega) ?_; intro v1 w4 hown1 hg1 hblk1 hb1)
            have HO := Lib.hid hown1; clear hown1 hg1 hblk1
            (first | (refine ⟨?_, ?_⟩; rotate_left; (first | (simp [intOf]; done) | (simp [intOf]; omega)); (repeat apply Exists.intro); refine ⟨?_, rfl⟩; exact ⟨k + 1, cn + 1, by omega, by go_num, by rw [HS.out, List.length_append, HCN.out]; rfl, hb1, by rw [HS.out, List.map_append]; exact HO.out⟩) | exact ⟨⟨k + 1, cn + 1, by omega, by go_num, by rw [HS.out, List.length_append, HCN.out]; rfl, hb1, by rw [HS.out, List.map_append]; exact HO.out⟩, by first | (simp [intOf]; done) | (simp [intOf]; omega)⟩)
        · have hkn' : k = kk := by omega
          subst hkn'
          have hbw : Below w.heap.size w wr := hb03.trans (hb.mono (by omega))
          have hrow : wr.ownsRow w.heap.size 2 1 (.slice vA cn vc) cn ((bL gg k).map (Value.int .i64)) := Go.Joins.ownsRow_le HX.out (by omega)
          have HROW := Lib.hid hrow; clear hrow
          have p3 : ¬ (k : Int) < (k : Int) := by omega
          go_wp2_with fail
          refine bodyPost_ret (v := .tuple #[.slice vA cn vc, .int .i64 0]) (by simp only [results, Try.results31]; go_simp) rfl ⟨_, by rw [HR.out], by rw [HR.out, HCN.out]; exact HROW.out, hbw⟩
end Go.Proofs.Ytpdmfnfmlcjobaa
