/- Contracts: which jobs can begin, how many are being done; both sides. -/
import Derived.Test.YtaebofpgdonnbaaJobs7
set_option linter.unusedVariables false
set_option linter.unusedSimpArgs false
namespace Go.Proofs.Ytaebofpgdonnbaa
open Go.RowKit

/-- job x is done at a day -/
def rdAt (l : List JobD) (s : List Int) (day x : Int) : Bool := !(decide (s.getD x.toNat 0 < 0) || decide (day < s.getD x.toNat 0 + (getJ l x.toNat).days))
def doneB (l : List JobD) (s needs : List Int) (day : Int) : Bool := (List.range needs.length).all fun i => rdAt l s day (needs.getD i 0)
theorem doneB_no {l : List JobD} {s needs : List Int} {day : Int} {i : Nat} (hi : i < needs.length) (h : rdAt l s day (needs.getD i 0) = false) : doneB l s needs day = false := all_range_no _ _ i hi h
def runB (l : List JobD) (s : List Int) (day : Int) (k : Nat) : Bool := (decide (0 ≤ s.getD k 0) && decide (s.getD k 0 ≤ day)) && decide (day < s.getD k 0 + (getJ l k).days)
def busyM (l : List JobD) (s : List Int) (day : Int) : Nat → Int
  | 0 => 0
  | k + 1 => busyM l s day k + (if runB l s day k = true then 1 else 0)
theorem busyM_bd (l : List JobD) (s : List Int) (day : Int) (k : Nat) : 0 ≤ busyM l s day k ∧ busyM l s day k ≤ (k : Int) := by
  induction k with
  | zero => exact ⟨Int.le_refl _, Int.le_refl _⟩
  | succ k ih =>
    show 0 ≤ busyM l s day k + (if runB l s day k = true then 1 else 0) ∧ busyM l s day k + (if runB l s day k = true then 1 else 0) ≤ ((k + 1 : Nat) : Int)
    split <;> omega
def sOk (s : List Int) : Prop := ∀ (i : Nat) (x : Int), s[i]? = some x → -1 ≤ x ∧ x ≤ 1000000

set_option maxHeartbeats 2000000 in
theorem areDone_c (A : Option Addr) (n c : Nat) (l : List JobD) (A2 : Option Addr) (c2 : Nat) (s : List Int) (A3 : Option Addr) (nl c3 : Nat) (needs : List Int) (day : Int) (B : Nat) (w : World) (hn : l.length = n) (hm : n ≤ 1048576) (hr : JRd w B A l) (hv : validS l = true) (hn2 : s.length = n) (hr2 : Rd w B 1 icell A2 s) (hs : sOk s) (hn3 : needs.length = nl) (hm3 : nl ≤ 1048576) (hr3 : Rd w B 1 icell A3 needs) (hnb : ∀ (i : Nat) (x : Int), needs[i]? = some x → ∃ p : Nat, x = (p : Int) ∧ p < n) :
    Calls Try.prog 46 #[.slice A n c, .slice A2 n c2, .slice A3 nl c3, .int .i64 day] w fun e w' => e = .returned (.bool (doneB l s needs day)) ∧ ∃ m, w' = w.drewN m := by
  have HN := Lib.hid hn; clear hn
  have HS := Lib.hid hn2; clear hn2
  have HNL := Lib.hid hn3; clear hn3
  have HNB := Lib.hid hnb; clear hnb
  have HSO := Lib.hid hs; clear hs
  have HDB := Lib.hid (show ∀ p, p < n → 1 ≤ (getJ l p).days ∧ (getJ l p).days ≤ 60 from fun p hp => ⟨((valid_all hv).2 p (by rw [HN.out]; exact hp)).1, ((valid_all hv).2 p (by rw [HN.out]; exact hp)).2.1⟩)
  clear hv
  
  
  
  go_enter Try.func46, Try.ntmps46
  go_wp2_with fail
  go_loopw [13] (fun i wr => ∃ j : Nat, j ≤ nl ∧ i = .int .i64 j ∧ ((List.range j).all fun i => rdAt l s day (needs.getD i 0)) = true ∧ ∃ m, wr = w.drewN m) (fun i _ => nl - (intOf i).toNat)
  case atStart => exact ⟨0, Nat.zero_le _, rfl, by simp, 0, rfl⟩
  case round =>
        obtain ⟨j, hj, rfl, ha, m, hw⟩ := hrel
        have HA := Lib.hid ha; clear ha
        have HW := Lib.hid hw
        by_cases hjt : j < nl
        · obtain ⟨b3, off3, rfl, _, hc3⟩ := (show Rd wr B 1 icell A3 needs by rw [hw]; exact hr3).ints' (by rw [HNL.out]; omega)
          have hpos : 0 < n := by
            obtain ⟨x, hx⟩ := get_ex needs j (by rw [HNL.out]; omega)
            obtain ⟨p, _, hp⟩ := HNB.out j x hx
            omega
          obtain ⟨b1, off, rfl, _, hc⟩ := (show JRd wr B A l by rw [hw]; exact hr) (by rw [HN.out]; omega)
          obtain ⟨b2, off2, rfl, _, hc2⟩ := (show Rd wr B 1 icell A2 s by rw [hw]; exact hr2).ints' (by rw [HS.out]; omega)
          obtain ⟨x, hx⟩ := get_ex needs j (by rw [HNL.out]; omega)
          obtain ⟨p, hxp, hpn⟩ := HNB.out j x hx
          obtain ⟨dp, hdp⟩ := get_ex l p (by rw [HN.out]; exact hpn)
          obtain ⟨y, hy⟩ := get_ex s p (by rw [HS.out]; exact hpn)
          have e0 := hc3 j x hx
          have e1 := (hc p dp hdp).2.1
          have e2 := hc2 p y hy
          have yb := HSO.out p y hy
          have db := HDB.out p hpn
          rw [getJ_eq hdp] at db
          obtain ⟨yb1, yb2⟩ := yb
          obtain ⟨db1, db2⟩ := db
          have HRA := Lib.hid (show rdAt l s day (needs.getD j 0) = !(decide (y < 0) || decide (day < y + dp.days)) by unfold rdAt; rw [getD_eq hx, hxp, Int.toNat_natCast, getD_eq hy, getJ_eq hdp])
          subst hxp
          clear hx hdp hy hc hc2 hc3 hw
          have p3 : (0 : Int) ≤ (j : Int) := by omega
          have p4 : (j : Int) < (nl : Int) := by omega
          have p5 : (0 : Int) ≤ (p : Int) := by omega
          have p6 : (p : Int) < (n : Int) := by omega
          cases h1 : decide (y < 0)
          · have ew : IntKind.i64.wrap (y + dp.days) = y + dp.days := IntWalk.i64_in _ (by omega)
            cases h2 : decide (day < y + dp.days)
            · have HS2 := Lib.hid (all_range_succ _ j HA.out (show rdAt l s day (needs.getD j 0) = true by rw [HRA.out, h1, h2]; rfl))
              go_wp2_with fail
              go_quiet (fail)
              clear ew
              go_wp2_with fail
              (first | (refine ⟨?_, ?_⟩; rotate_left; (first | (simp [intOf]; done) | (simp [intOf]; omega)); (repeat apply Exists.intro); refine ⟨?_, rfl⟩; exact ⟨j + 1, by omega, by go_num, HS2.out, m + nq, by rw [HW.out, World.drewN_drewN]⟩) | exact ⟨⟨j + 1, by omega, by go_num, HS2.out, m + nq, by rw [HW.out, World.drewN_drewN]⟩, by first | (simp [intOf]; done) | (simp [intOf]; omega)⟩)
            · have HF := Lib.hid (doneB_no (l := l) (s := s) (day := day) (needs := needs) (i := j) (by rw [HNL.out]; exact hjt) (by rw [HRA.out, h1, h2]; rfl))
              go_wp2_with fail
              go_quiet (fail)
              clear ew
              go_wp2_with fail
              go_ret
              exact ⟨ret_bool HF.out.symm, m + nq, by rw [HW.out, World.drewN_drewN]⟩
          · have HF := Lib.hid (doneB_no (l := l) (s := s) (day := day) (needs := needs) (i := j) (by rw [HNL.out]; exact hjt) (by rw [HRA.out, h1]; rfl))
            go_wp2_with fail
            go_quiet (fail)
            go_wp2_with fail
            go_ret
            exact ⟨ret_bool HF.out.symm, m + nq, by rw [HW.out, World.drewN_drewN]⟩
        · have hjk : j = nl := by omega
          have HF := Lib.hid (show doneB l s needs day = true by unfold doneB; rw [HNL.out, ← hjk]; exact HA.out)
          clear hjk hw
          go_wp2_with fail
          go_ret
          exact ⟨ret_bool HF.out.symm, m, HW.out⟩

set_option maxHeartbeats 2000000 in
theorem l22Ready_c (A : Option Addr) (n c : Nat) (l : List JobD) (A2 : Option Addr) (c2 : Nat) (s : List Int) (k nl : Nat) (needs : List Int) (day : Int) (B : Nat) (w : World) (hn : l.length = n) (hm : n ≤ 1048576) (hr : JRd w B A l) (hv : validS l = true) (hn2 : s.length = n) (hr2 : Rd w B 1 icell A2 s) (hs : sOk s) (hk : k < n) (hn3 : needs.length = nl) (hm3 : nl ≤ 1048576) (hne : (getJ l k).needs = needs) (hnb : ∀ (i : Nat) (x : Int), needs[i]? = some x → ∃ p : Nat, x = (p : Int) ∧ p < n) :
    Calls Try.prog 41 #[.slice A n c, .slice A2 n c2, .int .i64 (k : Int), .int .i64 day] w fun e w' => e = .returned (.bool (doneB l s needs day)) ∧ ∃ m, w' = w.drewN m := by
  have HN := Lib.hid hn; clear hn
  have HS := Lib.hid hn2; clear hn2
  have HNL := Lib.hid hn3; clear hn3
  have HNB := Lib.hid hnb; clear hnb
  have HSO := Lib.hid hs; clear hs
  have HDB := Lib.hid (show ∀ p, p < n → 1 ≤ (getJ l p).days ∧ (getJ l p).days ≤ 60 from fun p hp => ⟨((valid_all hv).2 p (by rw [HN.out]; exact hp)).1, ((valid_all hv).2 p (by rw [HN.out]; exact hp)).2.1⟩)
  clear hv
  have HNE := Lib.hid hne; clear hne
  have p0 : (0 : Int) ≤ (k : Int) := by omega
  have p00 : (k : Int) < (n : Int) := by omega
  go_enter Try.func41, Try.ntmps41
  go_wp2_with fail
  go_loopw [9] (fun i wr => ∃ j : Nat, j ≤ nl ∧ i = .int .i64 j ∧ ((List.range j).all fun i => rdAt l s day (needs.getD i 0)) = true ∧ ∃ m, wr = w.drewN m) (fun i _ => nl - (intOf i).toNat)
  case atStart => exact ⟨0, Nat.zero_le _, rfl, by simp, 0, rfl⟩
  case round =>
        obtain ⟨j, hj, rfl, ha, m, hw⟩ := hrel
        have HA := Lib.hid ha; clear ha
        have HW := Lib.hid hw
        obtain ⟨dk, hdk⟩ := get_ex l k (by rw [HN.out]; exact hk)
        obtain ⟨b1, off, rfl, _, hc⟩ := (show JRd wr B A l by rw [hw]; exact hr) (by rw [HN.out]; omega)
        obtain ⟨_, _, _, An, cn, e3, e4⟩ := hc k dk hdk
        have hdn : dk.needs = needs := by rw [← HNE.out, getJ_eq hdk]
        rw [hdn] at e3 e4
        rw [HNL.out] at e3
        have HE4 := Lib.hid e4; clear e4 hdk hdn
        by_cases hjt : j < nl
        · obtain ⟨b3, off3, rfl, _, hc3⟩ := HE4.out.ints' (by rw [HNL.out]; omega)
          have hpos : 0 < n := by
            obtain ⟨x, hx⟩ := get_ex needs j (by rw [HNL.out]; omega)
            obtain ⟨p, _, hp⟩ := HNB.out j x hx
            omega
          obtain ⟨b2, off2, rfl, _, hc2⟩ := (show Rd wr B 1 icell A2 s by rw [hw]; exact hr2).ints' (by rw [HS.out]; omega)
          obtain ⟨x, hx⟩ := get_ex needs j (by rw [HNL.out]; omega)
          obtain ⟨p, hxp, hpn⟩ := HNB.out j x hx
          obtain ⟨dp, hdp⟩ := get_ex l p (by rw [HN.out]; exact hpn)
          obtain ⟨y, hy⟩ := get_ex s p (by rw [HS.out]; exact hpn)
          have e0 := hc3 j x hx
          have e1 := (hc p dp hdp).2.1
          have e2 := hc2 p y hy
          have yb := HSO.out p y hy
          have db := HDB.out p hpn
          rw [getJ_eq hdp] at db
          obtain ⟨yb1, yb2⟩ := yb
          obtain ⟨db1, db2⟩ := db
          have HRA := Lib.hid (show rdAt l s day (needs.getD j 0) = !(decide (y < 0) || decide (day < y + dp.days)) by unfold rdAt; rw [getD_eq hx, hxp, Int.toNat_natCast, getD_eq hy, getJ_eq hdp])
          subst hxp
          clear hx hdp hy hc hc2 hc3 hw
          have p3 : (0 : Int) ≤ (j : Int) := by omega
          have p4 : (j : Int) < (nl : Int) := by omega
          have p5 : (0 : Int) ≤ (p : Int) := by omega
          have p6 : (p : Int) < (n : Int) := by omega
          cases h1 : decide (y < 0)
          · have ew : IntKind.i64.wrap (y + dp.days) = y + dp.days := IntWalk.i64_in _ (by omega)
            cases h2 : decide (day < y + dp.days)
            · have HS2 := Lib.hid (all_range_succ _ j HA.out (show rdAt l s day (needs.getD j 0) = true by rw [HRA.out, h1, h2]; rfl))
              go_wp2_with fail
              go_quiet (fail)
              clear ew
              go_wp2_with fail
              (first | (refine ⟨?_, ?_⟩; rotate_left; (first | (simp [intOf]; done) | (simp [intOf]; omega)); (repeat apply Exists.intro); refine ⟨?_, rfl⟩; exact ⟨j + 1, by omega, by go_num, HS2.out, m + nq, by rw [HW.out, World.drewN_drewN]⟩) | exact ⟨⟨j + 1, by omega, by go_num, HS2.out, m + nq, by rw [HW.out, World.drewN_drewN]⟩, by first | (simp [intOf]; done) | (simp [intOf]; omega)⟩)
            · have HF := Lib.hid (doneB_no (l := l) (s := s) (day := day) (needs := needs) (i := j) (by rw [HNL.out]; exact hjt) (by rw [HRA.out, h1, h2]; rfl))
              go_wp2_with fail
              go_quiet (fail)
              clear ew
              go_wp2_with fail
              go_ret
              exact ⟨ret_bool HF.out.symm, m + nq, by rw [HW.out, World.drewN_drewN]⟩
          · have HF := Lib.hid (doneB_no (l := l) (s := s) (day := day) (needs := needs) (i := j) (by rw [HNL.out]; exact hjt) (by rw [HRA.out, h1]; rfl))
            go_wp2_with fail
            go_quiet (fail)
            go_wp2_with fail
            go_ret
            exact ⟨ret_bool HF.out.symm, m + nq, by rw [HW.out, World.drewN_drewN]⟩
        · have hjk : j = nl := by omega
          have HF := Lib.hid (show doneB l s needs day = true by unfold doneB; rw [HNL.out, ← hjk]; exact HA.out)
          clear hjk hw hc
          go_wp2_with fail
          go_ret
          exact ⟨ret_bool HF.out.symm, m, HW.out⟩

set_option maxHeartbeats 2000000 in
theorem running_c (A : Option Addr) (n c : Nat) (l : List JobD) (A2 : Option Addr) (c2 : Nat) (s : List Int) (day : Int) (w : World) (hn : l.length = n) (hm : n ≤ 1048576) (hr : JRd w w.heap.size A l) (hv : validS l = true) (hn2 : s.length = n) (hr2 : Rd w w.heap.size 1 icell A2 s) (hs : sOk s) :
    Calls Try.prog 27 #[.slice A n c, .slice A2 n c2, .int .i64 day] w fun e w' => e = .returned (.int .i64 (busyM l s day n)) ∧ Below w.heap.size w w' := by
  have HN := Lib.hid hn; clear hn
  have HS := Lib.hid hn2; clear hn2
  have HSO := Lib.hid hs; clear hs
  have HDB := Lib.hid (show ∀ p, p < n → 1 ≤ (getJ l p).days ∧ (getJ l p).days ≤ 60 from fun p hp => ⟨((valid_all hv).2 p (by rw [HN.out]; exact hp)).1, ((valid_all hv).2 p (by rw [HN.out]; exact hp)).2.1⟩)
  clear hv
  go_enter Try.func27, Try.ntmps27
  go_wp2_with fail
  go_loopw [7, 12] (fun t i wr => ∃ (k : Nat) (q : Int), k ≤ n ∧ i = .int .i64 k ∧ t = .int .i64 q ∧ q = busyM l s day k ∧ 0 ≤ q ∧ q ≤ (k : Int) ∧ Below w.heap.size w wr) (fun _ i _ => n - (intOf i).toNat)
  case atStart => exact ⟨0, 0, Nat.zero_le _, rfl, rfl, rfl, by omega, by omega, Below.refl _ _⟩
  case round =>
    obtain ⟨k, q, hk, rfl, rfl, hq, q0, q1, hb⟩ := hrel
    have HQ := Lib.hid hq; clear hq
    have hbs := hb.size
    by_cases hlt : k < n
    · obtain ⟨b1, off, rfl, hbl, hc⟩ := (hr.below hb) (by rw [HN.out]; omega)
      obtain ⟨b2, off2, rfl, hbl2, hc2⟩ := (hr2.below hb).ints' (by rw [HS.out]; omega)
      obtain ⟨d, hd⟩ := get_ex l k (by rw [HN.out]; omega)
      obtain ⟨y, hy⟩ := get_ex s k (by rw [HS.out]; omega)
      obtain ⟨g0, g1, g2, An, cn, g3, _⟩ := hc k d hd
      have g4 := hc2 k y hy
      have yb := HSO.out k y hy
      have db := HDB.out k hlt
      rw [getJ_eq hd] at db
      obtain ⟨yb1, yb2⟩ := yb
      obtain ⟨db1, db2⟩ := db
      have HBM := Lib.hid (show busyM l s day (k + 1) = q + (if runB l s day k = true then 1 else 0) by rw [HQ.out]; rfl)
      have HRB := Lib.hid (show runB l s day k = ((decide (0 ≤ y) && decide (y ≤ day)) && decide (day < y + d.days)) by unfold runB; rw [getD_eq hy, getJ_eq hd])
      clear hd hy hc hc2
      have hf1 := far (show b1 < wr.heap.size by omega)
      have hf2 := far (show b2 < wr.heap.size by omega)
      have p1 : (0 : Int) ≤ (k : Int) := by omega
      have p2 : (k : Int) < (n : Int) := by omega
      cases h1 : decide (0 ≤ y)
      · have HS2 := Lib.hid (show q = busyM l s day (k + 1) by rw [HBM.out, HRB.out, h1]; simp)
        go_wp2_with fail
        go_quiet (fail)
        go_wp2_with fail
        (first | (refine ⟨?_, ?_⟩; rotate_left; (first | (simp [intOf]; done) | (simp [intOf]; omega)); (repeat apply Exists.intro); refine ⟨?_, rfl⟩; exact ⟨k + 1, _, by omega, by go_num, rfl, HS2.out, by omega, by omega, by (repeat' (first | (with_reducible exact Below.refl _ _) | (with_reducible assumption) | (with_reducible refine below_drewN ?_ _) | (with_reducible refine Below.drew ?_) | (with_reducible refine Below.alloc ?_ ?_ _) | (with_reducible refine Below.setCell ?_ ?_ _) | (with_reducible refine via (by with_reducible assumption) ?_ ?_) | go_size))⟩) | exact ⟨⟨k + 1, _, by omega, by go_num, rfl, HS2.out, by omega, by omega, by (repeat' (first | (with_reducible exact Below.refl _ _) | (with_reducible assumption) | (with_reducible refine below_drewN ?_ _) | (with_reducible refine Below.drew ?_) | (with_reducible refine Below.alloc ?_ ?_ _) | (with_reducible refine Below.setCell ?_ ?_ _) | (with_reducible refine via (by with_reducible assumption) ?_ ?_) | go_size))⟩, by first | (simp [intOf]; done) | (simp [intOf]; omega)⟩)
      · cases h2 : decide (y ≤ day)
        · have HS2 := Lib.hid (show q = busyM l s day (k + 1) by rw [HBM.out, HRB.out, h1, h2]; simp)
          go_wp2_with fail
          go_quiet (fail)
          go_wp2_with fail
          (first | (refine ⟨?_, ?_⟩; rotate_left; (first | (simp [intOf]; done) | (simp [intOf]; omega)); (repeat apply Exists.intro); refine ⟨?_, rfl⟩; exact ⟨k + 1, _, by omega, by go_num, rfl, HS2.out, by omega, by omega, by (repeat' (first | (with_reducible exact Below.refl _ _) | (with_reducible assumption) | (with_reducible refine below_drewN ?_ _) | (with_reducible refine Below.drew ?_) | (with_reducible refine Below.alloc ?_ ?_ _) | (with_reducible refine Below.setCell ?_ ?_ _) | (with_reducible refine via (by with_reducible assumption) ?_ ?_) | go_size))⟩) | exact ⟨⟨k + 1, _, by omega, by go_num, rfl, HS2.out, by omega, by omega, by (repeat' (first | (with_reducible exact Below.refl _ _) | (with_reducible assumption) | (with_reducible refine below_drewN ?_ _) | (with_reducible refine Below.drew ?_) | (with_reducible refine Below.alloc ?_ ?_ _) | (with_reducible refine Below.setCell ?_ ?_ _) | (with_reducible refine via (by with_reducible assumption) ?_ ?_) | go_size))⟩, by first | (simp [intOf]; done) | (simp [intOf]; omega)⟩)
        · have ew : IntKind.i64.wrap (y + d.days) = y + d.days := IntWalk.i64_in _ (by omega)
          cases h3 : decide (day < y + d.days)
          · have HS2 := Lib.hid (show q = busyM l s day (k + 1) by rw [HBM.out, HRB.out, h1, h2, h3]; simp)
            go_wp2_with fail
            go_quiet (fail)
            clear ew
            go_wp2_with fail
            (first | (refine ⟨?_, ?_⟩; rotate_left; (first | (simp [intOf]; done) | (simp [intOf]; omega)); (repeat apply Exists.intro); refine ⟨?_, rfl⟩; exact ⟨k + 1, _, by omega, by go_num, rfl, HS2.out, by omega, by omega, by (repeat' (first | (with_reducible exact Below.refl _ _) | (with_reducible assumption) | (with_reducible refine below_drewN ?_ _) | (with_reducible refine Below.drew ?_) | (with_reducible refine Below.alloc ?_ ?_ _) | (with_reducible refine Below.setCell ?_ ?_ _) | (with_reducible refine via (by with_reducible assumption) ?_ ?_) | go_size))⟩) | exact ⟨⟨k + 1, _, by omega, by go_num, rfl, HS2.out, by omega, by omega, by (repeat' (first | (with_reducible exact Below.refl _ _) | (with_reducible assumption) | (with_reducible refine below_drewN ?_ _) | (with_reducible refine Below.drew ?_) | (with_reducible refine Below.alloc ?_ ?_ _) | (with_reducible refine Below.setCell ?_ ?_ _) | (with_reducible refine via (by with_reducible assumption) ?_ ?_) | go_size))⟩, by first | (simp [intOf]; done) | (simp [intOf]; omega)⟩)
          · have HS2 := Lib.hid (show q + 1 = busyM l s day (k + 1) by rw [HBM.out, HRB.out, h1, h2, h3]; simp)
            go_wp2_with fail
            go_quiet (fail)
            clear ew
            go_wp2_with fail
            (first | (refine ⟨?_, ?_⟩; rotate_left; (first | (simp [intOf]; done) | (simp [intOf]; omega)); (repeat apply Exists.intro); refine ⟨?_, rfl⟩; exact ⟨k + 1, _, by omega, by go_num, rfl, HS2.out, by omega, by omega, by (repeat' (first | (with_reducible exact Below.refl _ _) | (with_reducible assumption) | (with_reducible refine below_drewN ?_ _) | (with_reducible refine Below.drew ?_) | (with_reducible refine Below.alloc ?_ ?_ _) | (with_reducible refine Below.setCell ?_ ?_ _) | (with_reducible refine via (by with_reducible assumption) ?_ ?_) | go_size))⟩) | exact ⟨⟨k + 1, _, by omega, by go_num, rfl, HS2.out, by omega, by omega, by (repeat' (first | (with_reducible exact Below.refl _ _) | (with_reducible assumption) | (with_reducible refine below_drewN ?_ _) | (with_reducible refine Below.drew ?_) | (with_reducible refine Below.alloc ?_ ?_ _) | (with_reducible refine Below.setCell ?_ ?_ _) | (with_reducible refine via (by with_reducible assumption) ?_ ?_) | go_size))⟩, by first | (simp [intOf]; done) | (simp [intOf]; omega)⟩)
    · have hkn : k = n := by omega
      subst hkn
      go_wp2_with fail
      go_ret
      exact ⟨ret_int HQ.out, hb⟩

set_option maxHeartbeats 2000000 in
theorem l22Busy_c (A : Option Addr) (n c : Nat) (l : List JobD) (A2 : Option Addr) (c2 : Nat) (s : List Int) (day : Int) (w : World) (hn : l.length = n) (hm : n ≤ 1048576) (hr : JRd w w.heap.size A l) (hv : validS l = true) (hn2 : s.length = n) (hr2 : Rd w w.heap.size 1 icell A2 s) (hs : sOk s) :
    Calls Try.prog 40 #[.slice A n c, .slice A2 n c2, .int .i64 day] w fun e w' => e = .returned (.int .i64 (busyM l s day n)) ∧ Below w.heap.size w w' := by
  have HN := Lib.hid hn; clear hn
  have HS := Lib.hid hn2; clear hn2
  have HSO := Lib.hid hs; clear hs
  have HDB := Lib.hid (show ∀ p, p < n → 1 ≤ (getJ l p).days ∧ (getJ l p).days ≤ 60 from fun p hp => ⟨((valid_all hv).2 p (by rw [HN.out]; exact hp)).1, ((valid_all hv).2 p (by rw [HN.out]; exact hp)).2.1⟩)
  clear hv
  go_enter Try.func40, Try.ntmps40
  go_wp2_with fail
  go_loopw [7, 8] (fun t i wr => ∃ (k : Nat) (q : Int), k ≤ n ∧ i = .int .i64 k ∧ t = .int .i64 q ∧ q = busyM l s day k ∧ 0 ≤ q ∧ q ≤ (k : Int) ∧ Below w.heap.size w wr) (fun _ i _ => n - (intOf i).toNat)
  case atStart => exact ⟨0, 0, Nat.zero_le _, rfl, rfl, rfl, by omega, by omega, Below.refl _ _⟩
  case round =>
    obtain ⟨k, q, hk, rfl, rfl, hq, q0, q1, hb⟩ := hrel
    have HQ := Lib.hid hq; clear hq
    have hbs := hb.size
    by_cases hlt : k < n
    · obtain ⟨b1, off, rfl, hbl, hc⟩ := (hr.below hb) (by rw [HN.out]; omega)
      obtain ⟨b2, off2, rfl, hbl2, hc2⟩ := (hr2.below hb).ints' (by rw [HS.out]; omega)
      obtain ⟨d, hd⟩ := get_ex l k (by rw [HN.out]; omega)
      obtain ⟨y, hy⟩ := get_ex s k (by rw [HS.out]; omega)
      obtain ⟨g0, g1, g2, An, cn, g3, _⟩ := hc k d hd
      have g4 := hc2 k y hy
      have yb := HSO.out k y hy
      have db := HDB.out k hlt
      rw [getJ_eq hd] at db
      obtain ⟨yb1, yb2⟩ := yb
      obtain ⟨db1, db2⟩ := db
      have HBM := Lib.hid (show busyM l s day (k + 1) = q + (if runB l s day k = true then 1 else 0) by rw [HQ.out]; rfl)
      have HRB := Lib.hid (show runB l s day k = ((decide (0 ≤ y) && decide (y ≤ day)) && decide (day < y + d.days)) by unfold runB; rw [getD_eq hy, getJ_eq hd])
      clear hd hy hc hc2
      have hf1 := far (show b1 < wr.heap.size by omega)
      have hf2 := far (show b2 < wr.heap.size by omega)
      have p1 : (0 : Int) ≤ (k : Int) := by omega
      have p2 : (k : Int) < (n : Int) := by omega
      cases h1 : decide (0 ≤ y)
      · have HS2 := Lib.hid (show q = busyM l s day (k + 1) by rw [HBM.out, HRB.out, h1]; simp)
        go_wp2_with fail
        go_quiet (fail)
        go_wp2_with fail
        (first | (refine ⟨?_, ?_⟩; rotate_left; (first | (simp [intOf]; done) | (simp [intOf]; omega)); (repeat apply Exists.intro); refine ⟨?_, rfl⟩; exact ⟨k + 1, _, by omega, by go_num, rfl, HS2.out, by omega, by omega, by (repeat' (first | (with_reducible exact Below.refl _ _) | (with_reducible assumption) | (with_reducible refine below_drewN ?_ _) | (with_reducible refine Below.drew ?_) | (with_reducible refine Below.alloc ?_ ?_ _) | (with_reducible refine Below.setCell ?_ ?_ _) | (with_reducible refine via (by with_reducible assumption) ?_ ?_) | go_size))⟩) | exact ⟨⟨k + 1, _, by omega, by go_num, rfl, HS2.out, by omega, by omega, by (repeat' (first | (with_reducible exact Below.refl _ _) | (with_reducible assumption) | (with_reducible refine below_drewN ?_ _) | (with_reducible refine Below.drew ?_) | (with_reducible refine Below.alloc ?_ ?_ _) | (with_reducible refine Below.setCell ?_ ?_ _) | (with_reducible refine via (by with_reducible assumption) ?_ ?_) | go_size))⟩, by first | (simp [intOf]; done) | (simp [intOf]; omega)⟩)
      · have ew : IntKind.i64.wrap (y + d.days) = y + d.days := IntWalk.i64_in _ (by omega)
        have ew2 : IntKind.i64.wrap (y + d.days - 1) = y + d.days - 1 := IntWalk.i64_in _ (by omega)
        cases h2 : inB day y (y + d.days - 1)
        · have HS2 := Lib.hid (show q = busyM l s day (k + 1) by
            rw [HBM.out, HRB.out, h1]
            have h3 := inB_no.1 h2
            have h4 : (decide (y ≤ day) && decide (day < y + d.days)) = false := by
              cases h5 : decide (y ≤ day) <;> cases h6 : decide (day < y + d.days) <;> first | rfl | (exfalso; apply h3; simp at h5 h6; omega)
            rw [Bool.and_assoc, h4]; simp)
          go_wp2_with fail
          go_quiet (((go_at_call 38; exact quiet_eq (retb (l00In_c _ _ _ _) h2))))
          clear ew ew2
          go_wp2_with fail
          (first | (refine ⟨?_, ?_⟩; rotate_left; (first | (simp [intOf]; done) | (simp [intOf]; omega)); (repeat apply Exists.intro); refine ⟨?_, rfl⟩; exact ⟨k + 1, _, by omega, by go_num, rfl, HS2.out, by omega, by omega, by (repeat' (first | (with_reducible exact Below.refl _ _) | (with_reducible assumption) | (with_reducible refine below_drewN ?_ _) | (with_reducible refine Below.drew ?_) | (with_reducible refine Below.alloc ?_ ?_ _) | (with_reducible refine Below.setCell ?_ ?_ _) | (with_reducible refine via (by with_reducible assumption) ?_ ?_) | go_size))⟩) | exact ⟨⟨k + 1, _, by omega, by go_num, rfl, HS2.out, by omega, by omega, by (repeat' (first | (with_reducible exact Below.refl _ _) | (with_reducible assumption) | (with_reducible refine below_drewN ?_ _) | (with_reducible refine Below.drew ?_) | (with_reducible refine Below.alloc ?_ ?_ _) | (with_reducible refine Below.setCell ?_ ?_ _) | (with_reducible refine via (by with_reducible assumption) ?_ ?_) | go_size))⟩, by first | (simp [intOf]; done) | (simp [intOf]; omega)⟩)
        · have HS2 := Lib.hid (show q + 1 = busyM l s day (k + 1) by
            rw [HBM.out, HRB.out, h1]
            have h3 := inB_iff.1 h2
            rw [decide_eq_true h3.1, decide_eq_true (show day < y + d.days by omega)]; simp)
          go_wp2_with fail
          go_quiet (((go_at_call 38; exact quiet_eq (retb (l00In_c _ _ _ _) h2))))
          clear ew ew2
          go_wp2_with fail
          (first | (refine ⟨?_, ?_⟩; rotate_left; (first | (simp [intOf]; done) | (simp [intOf]; omega)); (repeat apply Exists.intro); refine ⟨?_, rfl⟩; exact ⟨k + 1, _, by omega, by go_num, rfl, HS2.out, by omega, by omega, by (repeat' (first | (with_reducible exact Below.refl _ _) | (with_reducible assumption) | (with_reducible refine below_drewN ?_ _) | (with_reducible refine Below.drew ?_) | (with_reducible refine Below.alloc ?_ ?_ _) | (with_reducible refine Below.setCell ?_ ?_ _) | (with_reducible refine via (by with_reducible assumption) ?_ ?_) | go_size))⟩) | exact ⟨⟨k + 1, _, by omega, by go_num, rfl, HS2.out, by omega, by omega, by (repeat' (first | (with_reducible exact Below.refl _ _) | (with_reducible assumption) | (with_reducible refine below_drewN ?_ _) | (with_reducible refine Below.drew ?_) | (with_reducible refine Below.alloc ?_ ?_ _) | (with_reducible refine Below.setCell ?_ ?_ _) | (with_reducible refine via (by with_reducible assumption) ?_ ?_) | go_size))⟩, by first | (simp [intOf]; done) | (simp [intOf]; omega)⟩)
    · have hkn : k = n := by omega
      subst hkn
      go_wp2_with fail
      go_ret
      exact ⟨ret_int HQ.out, hb⟩

end Go.Proofs.Ytaebofpgdonnbaa
