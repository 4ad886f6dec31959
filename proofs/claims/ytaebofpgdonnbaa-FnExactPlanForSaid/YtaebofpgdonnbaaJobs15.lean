/- Contracts: the plan and its end; PlanFor of the reference. -/
import Derived.Test.YtaebofpgdonnbaaJobs14
set_option linter.unusedVariables false
set_option linter.unusedSimpArgs false
namespace Go.Proofs.Ytaebofpgdonnbaa
open Go.RowKit

theorem out_fin {l : List JobD} (hv : validS l = true) (ls : List Int) {m : Int} (hm : 1 ≤ m) : ∀ (F : Nat) (day : Int) (s R : List Int), Dst l day s → day + (mu l day s : Nat) ≤ 20000 → outF l ls m F day s = some R → nleft R l.length = 0 ∧ Kst l 20000 R := by
  intro F
  induction F with
  | zero => intro day s R _ _ h; cases h
  | succ F ih =>
    intro day s R hD hmu h
    by_cases hl : nleft s l.length = 0
    · have hs := out_done h hl
      subst hs
      exact ⟨hl, hD.1.1, fun j hj => by have := hD.1.2 j hj; have := hD.2.1; omega⟩
    · obtain ⟨s1, e1, d1, m1⟩ := day_next hv ls hm hD hl
      unfold outF at h
      rw [if_neg hl, e1] at h
      exact ih (day + 1) s1 R d1 (by omega) h
theorem plan_fin {l : List JobD} (hv : validS l = true) (ls : List Int) {m : Int} (hm : 1 ≤ m) : (planL l ls m).length = l.length ∧ ∀ j, j < l.length → 0 ≤ (planL l ls m).getD j 0 ∧ (planL l ls m).getD j 0 ≤ 20000 := by
  have h30 := (valid_all hv).1
  obtain ⟨h1, h2⟩ := out_fin hv ls hm _ _ _ _ (start0_D l) (by rw [start0_mu]; omega) (planL_eq hv ls hm)
  exact ⟨h2.1, fun j hj => ⟨nleft_zero _ h1 j hj, (h2.2 j hj).2⟩⟩
def pforR (l : List JobD) (m : Int) : List Int × Int × Int := if validS l then (if inB m 1 30 then (planL l (lateL l) m, endM l (planL l (lateL l) m) l.length, 0) else ([], 0, 2)) else ([], 0, 1)
theorem pforR_len (l : List JobD) (m : Int) : (pforR l m).1.length ≤ 1048576 := by
  unfold pforR
  split
  · rename_i hv
    split
    · rename_i hm
      have := (plan_fin hv (lateL l) (inB_iff.1 hm).1).1
      have := (valid_all hv).1
      show (planL l (lateL l) m).length ≤ 1048576
      omega
    · exact Nat.zero_le _
  · exact Nat.zero_le _

set_option maxHeartbeats 2000000 in
theorem l22End_c (A : Option Addr) (n c : Nat) (l : List JobD) (A2 : Option Addr) (c2 : Nat) (s : List Int) (w : World) (hn : l.length = n) (hm : n ≤ 1048576) (hr : JRd w w.heap.size A l) (hv : validS l = true) (hn2 : s.length = n) (hr2 : Rd w w.heap.size 1 icell A2 s) (hs : ∀ j, j < n → 0 ≤ s.getD j 0 ∧ s.getD j 0 ≤ 20000) :
    Calls Try.prog 22 #[.slice A n c, .slice A2 n c2] w fun e w' => e = .returned (.int .i64 (endM l s n)) ∧ Below w.heap.size w w' := by
  have HN := Lib.hid hn; clear hn
  have HS := Lib.hid hn2; clear hn2
  have HSO := Lib.hid hs; clear hs
  have HV := Lib.hid hv; clear hv
  go_enter Try.func22, Try.ntmps22
  go_wp2_with fail
  go_loopw [5, 6] (fun q i wr => ∃ k : Nat, k ≤ n ∧ i = .int .i64 k ∧ q = .int .i64 (endM l s k) ∧ Below w.heap.size w wr) (fun _ i _ => n - (intOf i).toNat)
  case atStart => exact ⟨0, Nat.zero_le _, rfl, rfl, Below.refl _ _⟩
  case round =>
    obtain ⟨k, hk, rfl, rfl, hb⟩ := hrel
    have hbs := hb.size
    by_cases hlt : k < n
    · obtain ⟨b1, off, rfl, hbl, hc⟩ := (hr.below hb) (by rw [HN.out]; omega)
      obtain ⟨d, hd⟩ := get_ex l k (by rw [HN.out]; omega)
      obtain ⟨g0, g1, g2, An, cn, g3, g4⟩ := hc k d hd
      obtain ⟨b2, o2, rfl, hbl2, hc2⟩ := (hr2.below hb).ints' (by rw [HS.out]; omega)
      obtain ⟨x, hx⟩ := get_ex s k (by rw [HS.out]; omega)
      have e2 := hc2 k x hx
      have hva := (valid_all HV.out).2 k (by rw [HN.out]; exact hlt)
      have hxb := HSO.out k hlt
      rw [getD_eq hx] at hxb
      rw [getJ_eq hd] at hva
      have HX := Lib.hid (show endM l s (k + 1) = max (endM l s k) (x + d.days) by
        simp only [endM]
        rw [getD_eq hx, getJ_eq hd, if_neg (by omega)])
      have ew : IntKind.i64.wrap (x + d.days) = x + d.days := IntWalk.i64_in _ (by omega)
      clear hx hc2 hd hc g4 hva
      generalize endM l s k = E at *
      have hf1 := far (show b1 < wr.heap.size by omega)
      have hf2 := far (show b2 < wr.heap.size by omega)
      have p1 : (0 : Int) ≤ (k : Int) := by omega
      have p2 : (k : Int) < (n : Int) := by omega
      go_wp2_with fail
      (refine wp_region_quiet_below (by kernel_rfl) (by kernel_rfl) ?_; (repeat (go_big_quiet_step (first | ((go_at_call 42; exact rg_same (fun w' hb => l00Max_c _ _ w')))))); refine wpQuiet_nil ?_; refine qg_end ?_; intro wq hbq)
      go_wp2_with fail
      (first | (refine ⟨?_, ?_⟩; rotate_left; (first | (simp [intOf]; done) | (simp [intOf]; omega)); (repeat apply Exists.intro); refine ⟨?_, rfl⟩; exact ⟨k + 1, by omega, by go_num, by rw [HX.out], by (repeat' (first | (with_reducible exact Below.refl _ _) | (with_reducible assumption) | (with_reducible refine below_drewN ?_ _) | (with_reducible refine Below.drew ?_) | (with_reducible refine Below.alloc ?_ ?_ _) | (with_reducible refine Below.setCell ?_ ?_ _) | (with_reducible refine via (by with_reducible assumption) ?_ ?_) | go_size))⟩) | exact ⟨⟨k + 1, by omega, by go_num, by rw [HX.out], by (repeat' (first | (with_reducible exact Below.refl _ _) | (with_reducible assumption) | (with_reducible refine below_drewN ?_ _) | (with_reducible refine Below.drew ?_) | (with_reducible refine Below.alloc ?_ ?_ _) | (with_reducible refine Below.setCell ?_ ?_ _) | (with_reducible refine via (by with_reducible assumption) ?_ ?_) | go_size))⟩, by first | (simp [intOf]; done) | (simp [intOf]; omega)⟩)
    · obtain rfl : k = n := by omega
      go_wp2_with fail
      go_ret
      exact ⟨rfl, hb⟩

set_option maxHeartbeats 2000000 in
theorem PlanForS_c (A : Option Addr) (n c : Nat) (l : List JobD) (m : Int) (w : World) (hn : l.length = n) (hm : n ≤ 1048576) (hr : JRd w w.heap.size A l) (ok : ∀ d ∈ l, okJD d) (hkk : ∀ (i : Nat) (d : JobD), l[i]? = some d → d.needs.length ≤ 1048576) :
    Calls Try.prog 6 #[.slice A n c, .int .i64 m] w fun e w' => ∃ v, e = .returned (.tuple #[v, .int .i64 (pforR l m).2.1, .int .i64 (pforR l m).2.2]) ∧ w'.ownsRow w.heap.size 2 1 v (pforR l m).1.length ((pforR l m).1.map (Value.int .i64)) ∧ Below w.heap.size w w' := by
  have HN := Lib.hid hn; clear hn
  have HKK := Lib.hid hkk; clear hkk
  have HW : Calls Try.prog 20 #[.slice A n c, .int .i64 m] w fun e w' => e = .returned (.int .i64 (pforR l m).2.2) ∧ Below w.heap.size w w' := by
    cases hv : validS l
    · have HR := Lib.hid (show (pforR l m).2.2 = 1 by unfold pforR; rw [hv]; rfl)
      go_enter Try.func20, Try.ntmps20
      go_wp2_with fail
      refine (retb (l22OkB_c A n c l _ HN.out hm hr ok HKK.out) hv).mono ?_
      rintro e w1 ⟨rfl, hb1⟩
      go_wp2_with fail
      go_ret
      exact ⟨by rw [HR.out]; rfl, hb1⟩
    cases hi : inB m 1 30
    · have HR := Lib.hid (show (pforR l m).2.2 = 2 by unfold pforR; rw [hv, if_pos rfl, hi]; rfl)
      replace hi := Lib.hid hi
      go_enter Try.func20, Try.ntmps20
      go_wp2_with fail
      refine (retb (l22OkB_c A n c l _ HN.out hm hr ok HKK.out) hv).mono ?_
      rintro e w1 ⟨rfl, hb1⟩
      go_wp2_with fail
      refine (retb (l00In_c m 1 30 _) hi.out).mono ?_
      rintro e w2 ⟨rfl, rfl⟩
      go_wp2_with fail
      go_ret
      exact ⟨by rw [HR.out]; rfl, hb1⟩
    · have HR := Lib.hid (show (pforR l m).2.2 = 0 by unfold pforR; rw [hv, if_pos rfl, hi, if_pos rfl])
      replace hi := Lib.hid hi
      go_enter Try.func20, Try.ntmps20
      go_wp2_with fail
      refine (retb (l22OkB_c A n c l _ HN.out hm hr ok HKK.out) hv).mono ?_
      rintro e w1 ⟨rfl, hb1⟩
      go_wp2_with fail
      refine (retb (l00In_c m 1 30 _) hi.out).mono ?_
      rintro e w2 ⟨rfl, rfl⟩
      go_wp2_with fail
      go_ret
      exact ⟨by rw [HR.out]; rfl, hb1⟩
  by_cases hc : validS l = true ∧ inB m 1 30 = true
  · have hR : pforR l m = (planL l (lateL l) m, endM l (planL l (lateL l) m) l.length, 0) := by unfold pforR; rw [if_pos hc.1, if_pos hc.2]
    rw [hR] at HW ⊢
    have HWW := Lib.hid HW; clear HW hR
    have hmb := inB_iff.1 hc.2
    obtain ⟨hpl, hpb⟩ := plan_fin hc.1 (lateL l) hmb.1
    rw [HN.out] at hpl hpb
    have HPL := Lib.hid hpl; have HPB := Lib.hid hpb
    have HV := Lib.hid hc.1
    clear hpl hpb hc
    go_enter Try.func6, Try.ntmps6
    go_wp2_with fail
    refine HWW.out.mono ?_
    rintro e w1 ⟨rfl, hb1⟩
    go_wp2_with fail
    refine (l22Plan_c A n c l m w1 HN.out hm ((hr.below hb1).mono hb1.size) HV.out hmb).mono ?_
    rintro e w2 ⟨v, rfl, hx, hb2⟩
    obtain ⟨vA, vc, rfl, _⟩ := own_form hx
    have hbw2 : Below w.heap.size w w2 := hb1.trans (hb2.mono hb1.size)
    have HX := Lib.hid (Go.Joins.ownsRow_le hx hb1.size); clear hx
    go_wp2_with fail
    refine (l22End_c A n c l vA vc (planL l (lateL l) m) w2 HN.out hm ((hr.below hbw2).mono hbw2.size) HV.out HPL.out (rd_own HX.out) HPB.out).mono ?_
    rintro e w3 ⟨rfl, hb3⟩
    have HX3 := Lib.hid (own_call HX.out hb3)
    go_wp2_with fail
    refine bodyPost_ret (v := .tuple #[.slice vA n vc, .int .i64 (endM l (planL l (lateL l) m) n), .int .i64 0]) (by simp only [results, Try.results6]; go_simp) rfl ⟨_, by rw [HN.out], by rw [HPL.out]; exact HX3.out, hbw2.trans (hb3.mono hbw2.size)⟩
  · have hR : ∃ cd : Int, pforR l m = ([], 0, cd) ∧ (cd = 1 ∨ cd = 2) := by
      unfold pforR
      by_cases h1 : validS l = true
      · rw [if_pos h1, if_neg (fun h2 => hc ⟨h1, h2⟩)]; exact ⟨2, rfl, .inr rfl⟩
      · rw [if_neg h1]; exact ⟨1, rfl, .inl rfl⟩
    obtain ⟨cd, hR, hcd⟩ := hR
    rw [hR] at HW ⊢
    have HWW := Lib.hid HW; clear HW hR hc
    rcases hcd with rfl | rfl
    · go_enter Try.func6, Try.ntmps6
      go_wp2_with fail
      refine HWW.out.mono ?_
      rintro e w1 ⟨rfl, hb1⟩
      go_wp2_with fail
      refine bodyPost_ret (v := .tuple #[.slice none 0 0, .int .i64 0, .int .i64 1]) (by simp only [results, Try.results6]; go_simp) rfl ⟨.slice none 0 0, rfl, World.ownsRow_nil _ _ _ _, hb1⟩
    · go_enter Try.func6, Try.ntmps6
      go_wp2_with fail
      refine HWW.out.mono ?_
      rintro e w1 ⟨rfl, hb1⟩
      go_wp2_with fail
      refine bodyPost_ret (v := .tuple #[.slice none 0 0, .int .i64 0, .int .i64 2]) (by simp only [results, Try.results6]; go_simp) rfl ⟨.slice none 0 0, rfl, World.ownsRow_nil _ _ _ _, hb1⟩
end Go.Proofs.Ytaebofpgdonnbaa
