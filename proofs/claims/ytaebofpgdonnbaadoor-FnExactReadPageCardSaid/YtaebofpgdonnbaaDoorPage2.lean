/- Contracts: valid pages. -/
import Derived.Test.YtaebofpgdonnbaaDoorPageFn
import Derived.Test.YtaebofpgdonnbaaDoorNames
set_option linter.unusedVariables false
set_option linter.unusedSimpArgs false
namespace Go.Proofs.YtaebofpgdonnbaaDoor
open Go.RowKit

def headB (s : ByteArray) (f t n : Int) : Bool := nameB s && inB f (-1000000) 1000000 && inB t 1 1000 && inB n 1 60 && decide (f + (n - 1) * t ≤ 1000000)
def pageB (s : ByteArray) (f t : Int) (l : List Int) : Bool := headB s f t l.length && l.all valB

theorem rows_bd {n t : Int} (h1 : 0 ≤ n ∧ n ≤ 60) (h2 : 1 ≤ t ∧ t ≤ 1000) : 0 ≤ n * t ∧ n * t ≤ 60000 := by
  constructor
  · exact Int.mul_nonneg h1.1 (by omega)
  · have h3 := Int.mul_le_mul_of_nonneg_right h1.2 (show 0 ≤ t by omega)
    omega

theorem all_no {l : List Int} {k : Nat} {x : Int} (h : l[k]? = some x) (hv : valB x = false) : l.all valB = false := by
  rw [List.all_eq_false]
  exact ⟨x, List.mem_of_getElem? h, by simp [hv]⟩
theorem all_yes {l : List Int} {k : Nat} {x : Int} (h : l[k]? = some x) (ha : (l.take k).all valB = true) (hv : valB x = true) : (l.take (k + 1)).all valB = true := by
  rw [take_snoc' l k x h, List.all_append, ha]
  simp [hv]

theorem l18Arg_c (n : Int) (w : World) : Calls Tryd.prog 85 #[.int .i64 n] w fun e w' => e = .returned (.bool (inB n (-1000000) 1000000)) ∧ w = w' := by
  go_enter Tryd.func85, Tryd.ntmps85
  go_wp2_with (go_at_call 86; refine (l00In_c _ _ _ _).mono ?_; rintro e w' ⟨rfl, rfl⟩)
  go_ret
  exact ⟨rfl, rfl⟩

theorem argument_c (s : ByteArray) (f t : Int) (A : Option Addr) (n c : Nat) (row : Int) (w : World) (hf : -1000000 ≤ f ∧ f ≤ 1000000) (hr : -1000000000 ≤ row * t ∧ row * t ≤ 1000000000) :
    Calls Tryd.prog 91 #[pg s f t A n c, .int .i64 row] w fun e w' => e = .returned (.int .i64 (f + row * t)) ∧ Below w.heap.size w w' := by
  unfold pg
  have e1 : IntKind.i64.wrap (row * t) = row * t := IntWalk.i64_in _ (by omega)
  have e2 : IntKind.i64.wrap (f + row * t) = f + row * t := IntWalk.i64_in _ (by omega)
  go_enter Tryd.func91, Tryd.ntmps91
  go_wp2
  go_ret
  refine ⟨rfl, ?_⟩
  (repeat' (first | (with_reducible exact Below.refl _ _) | (with_reducible assumption) | (with_reducible refine below_drewN ?_ _) | (with_reducible refine Below.drew ?_) | (with_reducible refine Below.alloc ?_ ?_ _) | (with_reducible refine Below.setCell ?_ ?_ _) | (with_reducible refine via (by with_reducible assumption) ?_ ?_) | go_size))

set_option maxHeartbeats 1000000 in
theorem validHead_c (s : ByteArray) (f t : Int) (A : Option Addr) (m c : Nat) (n : Int) (w : World) (hs : s.size ≤ maxLen) (hn : -9223372036854775807 ≤ n ∧ n ≤ 9223372036854775807) :
    Calls Tryd.prog 90 #[pg s f t A m c, .int .i64 n] w fun e w' => e = .returned (.bool (headB s f t n)) ∧ Below w.heap.size w w' := by
  unfold pg
  cases h1 : nameB s
  · go_enter Tryd.func90, Tryd.ntmps90
    go_wp2_with (first | (go_at_call 96; refine (IsName_c _ _ hs).mono ?_; rintro e w' ⟨rfl, rfl⟩) | (go_at_call 95; refine (between_c _ _ _ _).mono ?_; rintro e w' ⟨rfl, rfl⟩))
    go_ret
    refine ⟨ret_bool (by simp [headB, h1]), ?_⟩
    (repeat' (first | (with_reducible exact Below.refl _ _) | (with_reducible assumption) | (with_reducible refine below_drewN ?_ _) | (with_reducible refine Below.drew ?_) | (with_reducible refine Below.alloc ?_ ?_ _) | (with_reducible refine Below.setCell ?_ ?_ _) | (with_reducible refine via (by with_reducible assumption) ?_ ?_) | go_size))
  · cases h2 : inB t 1 1000
    · go_enter Tryd.func90, Tryd.ntmps90
      go_wp2_with (first | (go_at_call 96; refine (IsName_c _ _ hs).mono ?_; rintro e w' ⟨rfl, rfl⟩) | (go_at_call 95; refine (between_c _ _ _ _).mono ?_; rintro e w' ⟨rfl, rfl⟩))
      go_ret
      refine ⟨ret_bool (by simp [headB, h1, h2]), ?_⟩
      (repeat' (first | (with_reducible exact Below.refl _ _) | (with_reducible assumption) | (with_reducible refine below_drewN ?_ _) | (with_reducible refine Below.drew ?_) | (with_reducible refine Below.alloc ?_ ?_ _) | (with_reducible refine Below.setCell ?_ ?_ _) | (with_reducible refine via (by with_reducible assumption) ?_ ?_) | go_size))
    · cases h3 : inB n 1 60
      · go_enter Tryd.func90, Tryd.ntmps90
        go_wp2_with (first | (go_at_call 96; refine (IsName_c _ _ hs).mono ?_; rintro e w' ⟨rfl, rfl⟩) | (go_at_call 95; refine (between_c _ _ _ _).mono ?_; rintro e w' ⟨rfl, rfl⟩))
        go_ret
        refine ⟨ret_bool (by simp [headB, h1, h2, h3]), ?_⟩
        (repeat' (first | (with_reducible exact Below.refl _ _) | (with_reducible assumption) | (with_reducible refine below_drewN ?_ _) | (with_reducible refine Below.drew ?_) | (with_reducible refine Below.alloc ?_ ?_ _) | (with_reducible refine Below.setCell ?_ ?_ _) | (with_reducible refine via (by with_reducible assumption) ?_ ?_) | go_size))
      · cases h4 : inB f (-1000000) 1000000
        · go_enter Tryd.func90, Tryd.ntmps90
          go_wp2_with (first | (go_at_call 96; refine (IsName_c _ _ hs).mono ?_; rintro e w' ⟨rfl, rfl⟩) | (go_at_call 95; refine (between_c _ _ _ _).mono ?_; rintro e w' ⟨rfl, rfl⟩))
          go_ret
          refine ⟨ret_bool (by simp [headB, h1, h2, h3, h4]), ?_⟩
          (repeat' (first | (with_reducible exact Below.refl _ _) | (with_reducible assumption) | (with_reducible refine below_drewN ?_ _) | (with_reducible refine Below.drew ?_) | (with_reducible refine Below.alloc ?_ ?_ _) | (with_reducible refine Below.setCell ?_ ?_ _) | (with_reducible refine via (by with_reducible assumption) ?_ ?_) | go_size))
        · have q2 := inB_iff.1 h2
          have q3 := inB_iff.1 h3
          have q4 := inB_iff.1 h4
          have q5 := rows_bd (n := n - 1) (t := t) (by omega) q2
          have e1 : IntKind.i64.wrap (n - 1) = n - 1 := IntWalk.i64_in _ (by omega)
          go_enter Tryd.func90, Tryd.ntmps90
          go_wp2_with (first | (go_at_call 96; refine (IsName_c _ _ hs).mono ?_; rintro e w' ⟨rfl, rfl⟩) | (go_at_call 95; refine (between_c _ _ _ _).mono ?_; rintro e w' ⟨rfl, rfl⟩))
          refine (argument_c s f t A m c (n - 1) _ q4 (by omega)).mono ?_
          rintro e w1 ⟨rfl, hb1⟩
          obtain ⟨hc1, hf1⟩ := bcell hb1; have hz1 := hb1.size; (try simp only [World.size_alloc, size_drewN, World.size_setCell, World.size_drew] at hz1 hc1 hf1)
          go_wp2_with fail
          go_ret
          refine ⟨ret_bool (by simp [headB, h1, h2, h3, h4]), ?_⟩
          (repeat' (first | (with_reducible exact Below.refl _ _) | (with_reducible assumption) | (with_reducible refine below_drewN ?_ _) | (with_reducible refine Below.drew ?_) | (with_reducible refine Below.alloc ?_ ?_ _) | (with_reducible refine Below.setCell ?_ ?_ _) | (with_reducible refine via (by with_reducible assumption) ?_ ?_) | go_size))

set_option maxHeartbeats 2000000 in
theorem l18Ok_c (b : Nat) (s : ByteArray) (f t : Int) (A : Option Addr) (n c : Nat) (l : List Int) (B : Nat) (w : World) (hs : s.size ≤ maxLen) (hn : l.length = n) (hm : n ≤ 1048576) (hr : Rd w B 1 icell A l) (hp : PgAt w b s f t A n c) :
    Calls Tryd.prog 51 #[.pointer (some ⟨b, 0, none⟩)] w fun e w' => e = .returned (.bool (pageB s f t l)) ∧ ∃ m, w' = w.drewN m := by
  obtain ⟨g0, g1, g2, g3⟩ := hp
  have HN := Lib.hid hn; clear hn
  cases h1 : nameB s
  · go_enter Tryd.func51, Tryd.ntmps51
    go_wp2_with fail
    go_quiet (first | ((go_at_call 84; with_reducible exact quiet_eq (retb (IsNameS_c s _ hs) h1))))
    go_wp2_with fail
    go_ret
    exact ⟨ret_bool (by rw [pageB, headB, HN.out]; simp [h1]), nq, rfl⟩
  · cases h2 : inB f (-1000000) 1000000
    · go_enter Tryd.func51, Tryd.ntmps51
      go_wp2_with fail
      go_quiet (first | ((go_at_call 84; with_reducible exact quiet_eq (retb (IsNameS_c s _ hs) h1))) | ((go_at_call 85; with_reducible exact quiet_eq (retb (l18Arg_c f _) h2))))
      go_wp2_with fail
      go_ret
      exact ⟨ret_bool (by rw [pageB, headB, HN.out]; simp [h1, h2]), nq, rfl⟩
    · cases h3 : inB t 1 1000
      · go_enter Tryd.func51, Tryd.ntmps51
        go_wp2_with fail
        go_quiet (first | ((go_at_call 84; with_reducible exact quiet_eq (retb (IsNameS_c s _ hs) h1))) | ((go_at_call 85; with_reducible exact quiet_eq (retb (l18Arg_c f _) h2))) | ((go_at_call 86; with_reducible exact quiet_eq (retb (l00In_c t 1 1000 _) h3))))
        go_wp2_with fail
        go_ret
        exact ⟨ret_bool (by rw [pageB, headB, HN.out]; simp [h1, h2, h3]), nq, rfl⟩
      · cases h4 : inB (n : Int) 1 60
        · go_enter Tryd.func51, Tryd.ntmps51
          go_wp2_with fail
          go_quiet (first | ((go_at_call 84; with_reducible exact quiet_eq (retb (IsNameS_c s _ hs) h1))) | ((go_at_call 85; with_reducible exact quiet_eq (retb (l18Arg_c f _) h2))) | ((go_at_call 86; with_reducible exact quiet_eq (retb (l00In_c t 1 1000 _) h3))) | ((go_at_call 86; with_reducible exact quiet_eq (retb (l00In_c (n : Int) 1 60 _) h4))))
          go_wp2_with fail
          go_ret
          exact ⟨ret_bool (by rw [pageB, headB, HN.out]; simp [h1, h2, h3, h4]), nq, rfl⟩
        · cases h5 : inB (f + ((n : Int) - 1) * t) (-1000000) 1000000
          · have q2 := inB_iff.1 h2
            have q3 := inB_iff.1 h3
            have q4 := inB_iff.1 h4
            have q5 := rows_bd (n := (n : Int) - 1) (t := t) (by omega) q3
            have e1 : IntKind.i64.wrap ((n : Int) - 1) = (n : Int) - 1 := IntWalk.i64_in _ (by omega)
            have e2 : IntKind.i64.wrap (((n : Int) - 1) * t) = ((n : Int) - 1) * t := IntWalk.i64_in _ (by omega)
            have e3 : IntKind.i64.wrap (f + ((n : Int) - 1) * t) = f + ((n : Int) - 1) * t := IntWalk.i64_in _ (by omega)
            have h5' := Lib.hid (show ¬ f + ((n : Int) - 1) * t ≤ 1000000 from fun h => (inB_no.1 h5) ⟨by omega, h⟩)
            go_enter Tryd.func51, Tryd.ntmps51
            go_wp2_with fail
            go_quiet (first | ((go_at_call 84; with_reducible exact quiet_eq (retb (IsNameS_c s _ hs) h1))) | ((go_at_call 85; with_reducible exact quiet_eq (retb (l18Arg_c f _) h2))) | ((go_at_call 86; with_reducible exact quiet_eq (retb (l00In_c t 1 1000 _) h3))) | ((go_at_call 86; with_reducible exact quiet_eq (retb (l00In_c (n : Int) 1 60 _) h4))) | ((go_at_call 85; with_reducible exact quiet_eq (retb (l18Arg_c (f + ((n : Int) - 1) * t) _) h5))))
            go_wp2_with fail
            go_ret
            exact ⟨ret_bool (by rw [pageB, headB, HN.out]; rw [decide_eq_false (by have h9 := h5'.out; omega)]; simp), nq, rfl⟩
          · have hhead : headB s f t l.length = true := by rw [headB, HN.out, h1, h2, h3, h4, decide_eq_true (inB_iff.1 h5).2]; rfl
            have HH := Lib.hid hhead; clear hhead
            have q2 := inB_iff.1 h2
            have q3 := inB_iff.1 h3
            have q4 := inB_iff.1 h4
            have q5 := rows_bd (n := (n : Int) - 1) (t := t) (by omega) q3
            have e1 : IntKind.i64.wrap ((n : Int) - 1) = (n : Int) - 1 := IntWalk.i64_in _ (by omega)
            have e2 : IntKind.i64.wrap (((n : Int) - 1) * t) = ((n : Int) - 1) * t := IntWalk.i64_in _ (by omega)
            have e3 : IntKind.i64.wrap (f + ((n : Int) - 1) * t) = f + ((n : Int) - 1) * t := IntWalk.i64_in _ (by omega)
            go_enter Tryd.func51, Tryd.ntmps51
            go_wp2_with fail
            go_quiet (first | ((go_at_call 84; with_reducible exact quiet_eq (retb (IsNameS_c s _ hs) h1))) | ((go_at_call 85; with_reducible exact quiet_eq (retb (l18Arg_c f _) h2))) | ((go_at_call 86; with_reducible exact quiet_eq (retb (l00In_c t 1 1000 _) h3))) | ((go_at_call 86; with_reducible exact quiet_eq (retb (l00In_c (n : Int) 1 60 _) h4))) | ((go_at_call 85; with_reducible exact quiet_eq (retb (l18Arg_c (f + ((n : Int) - 1) * t) _) h5))))
            go_wp2_with fail
            clear e1 e2 e3 q5 q2 q3 h1 h2 h3 h4 h5
            go_loop [4] (fun i => ∃ k : Nat, k ≤ n ∧ i = .int .i64 k ∧ (l.take k).all valB = true) (fun i => n - (intOf i).toNat)
            case atStart => exact ⟨0, Nat.zero_le _, rfl, by simp⟩
            case round =>
              obtain ⟨k, hk, rfl, ha⟩ := hrel
              have HA := Lib.hid ha; clear ha
              by_cases hlt : k < n
              · obtain ⟨b1, off, rfl, _, hc⟩ := hr.ints' (by rw [HN.out]; omega)
                obtain ⟨x, hx⟩ := get_ex l k (by rw [HN.out]; omega)
                have gx := hc k x hx
                have HX := Lib.hid hx; clear hx hc
                cases hv : valB x
                · have HF := Lib.hid (all_no HX.out hv)
                  go_wp2_with (go_at_call 87; refine (l17Most_c _ _).mono ?_; rintro e w' ⟨rfl, rfl⟩)
                  go_ret
                  exact ⟨ret_bool (by rw [pageB, HF.out, Bool.and_false]), nq, rfl⟩
                · have HS := Lib.hid (all_yes HX.out HA.out hv)
                  go_wp2_with (go_at_call 87; refine (l17Most_c _ _).mono ?_; rintro e w' ⟨rfl, rfl⟩)
                  (first | (refine ⟨⟨(by first | trivial | rfl), ?_⟩, ?_⟩; rotate_left; (first | (simp [intOf]; done) | (simp [intOf]; omega)); (repeat apply Exists.intro); refine ⟨?_, rfl⟩; exact ⟨k + 1, by omega, by go_num, HS.out⟩) | exact ⟨⟨k + 1, by omega, by go_num, HS.out⟩, by first | (simp [intOf]; done) | (simp [intOf]; omega)⟩)
              · have hkn : k = n := by omega
                have h6 := HA.out
                rw [List.take_of_length_le (by rw [HN.out]; omega)] at h6
                have H6 := Lib.hid h6; clear h6
                go_wp2_with fail
                go_ret
                exact ⟨ret_bool (by rw [pageB, HH.out, H6.out]; rfl), nq, rfl⟩


set_option maxHeartbeats 1000000 in
theorem ValidPageI_c (s : ByteArray) (f t : Int) (A : Option Addr) (n c : Nat) (l : List Int) (w : World) (hs : s.size ≤ 1048576) (hn : l.length = n) (hm : n ≤ 1048576) (hr : Rd w w.heap.size 1 icell A l) :
    Calls Tryd.prog 54 #[pg s f t A n c] w fun e w' => e = .returned (.bool (pageB s f t l)) ∧ Below w.heap.size w w' := by
  have HN := Lib.hid hn; clear hn
  have hb : Below w.heap.size w (w.alloc (.cells #[.string s, .int .i64 f, .int .i64 t, .slice A n c] 31)) := by (repeat' (first | (with_reducible exact Below.refl _ _) | (with_reducible assumption) | (with_reducible refine below_drewN ?_ _) | (with_reducible refine Below.drew ?_) | (with_reducible refine Below.alloc ?_ ?_ _) | (with_reducible refine Below.setCell ?_ ?_ _) | (with_reducible refine via (by with_reducible assumption) ?_ ?_) | go_size))
  have hr2 := hr.below hb
  unfold pg
  go_enter Tryd.func54, Tryd.ntmps54
  go_wp2_with fail
  go_loop [8] (fun i => ∃ k : Nat, k ≤ n ∧ i = .int .i64 k ∧ (l.take k).all valB = true) (fun i => n - (intOf i).toNat)
  case atStart => exact ⟨0, Nat.zero_le _, rfl, by simp⟩
  case round =>
    obtain ⟨k, hk, rfl, ha⟩ := hrel
    have HA := Lib.hid ha; clear ha
    by_cases hlt : k < n
    · obtain ⟨b1, off, rfl, _, hc⟩ := hr2.ints' (by rw [HN.out]; omega)
      obtain ⟨x, hx⟩ := get_ex l k (by rw [HN.out]; omega)
      have gx := hc k x hx
      have HX := Lib.hid hx; clear hx hc
      cases hv : valB x
      · have HF := Lib.hid (all_no HX.out hv)
        go_wp2_with (go_at_call 89; refine (isValue_c _ _).mono ?_; rintro e w' ⟨rfl, rfl⟩)
        go_ret
        refine ⟨ret_bool (by rw [pageB, HF.out, Bool.and_false]), ?_⟩
        (repeat' (first | (with_reducible exact Below.refl _ _) | (with_reducible assumption) | (with_reducible refine below_drewN ?_ _) | (with_reducible refine Below.drew ?_) | (with_reducible refine Below.alloc ?_ ?_ _) | (with_reducible refine Below.setCell ?_ ?_ _) | (with_reducible refine via (by with_reducible assumption) ?_ ?_) | go_size))
      · have HS := Lib.hid (all_yes HX.out HA.out hv)
        go_wp2_with (go_at_call 89; refine (isValue_c _ _).mono ?_; rintro e w' ⟨rfl, rfl⟩)
        (first | (refine ⟨⟨(by first | trivial | rfl), ?_⟩, ?_⟩; rotate_left; (first | (simp [intOf]; done) | (simp [intOf]; omega)); (repeat apply Exists.intro); refine ⟨?_, rfl⟩; exact ⟨k + 1, by omega, by go_num, HS.out⟩) | exact ⟨⟨k + 1, by omega, by go_num, HS.out⟩, by first | (simp [intOf]; done) | (simp [intOf]; omega)⟩)
    · have hkn : k = n := by omega
      have h6 := HA.out
      rw [List.take_of_length_le (by rw [HN.out]; omega)] at h6
      have H6 := Lib.hid h6; clear h6
      go_wp2_with fail
      refine (validHead_c s f t A n c (n : Int) _ (by unfold maxLen; omega) (by omega)).mono ?_
      rintro e w1 ⟨rfl, hb1⟩
      go_wp2_with fail
      go_ret
      refine ⟨ret_bool (by rw [pageB, HN.out, H6.out, Bool.and_true]), ?_⟩
      (repeat' (first | (with_reducible exact Below.refl _ _) | (with_reducible assumption) | (with_reducible refine below_drewN ?_ _) | (with_reducible refine Below.drew ?_) | (with_reducible refine Below.alloc ?_ ?_ _) | (with_reducible refine Below.setCell ?_ ?_ _) | (with_reducible refine via (by with_reducible assumption) ?_ ?_) | go_size))

end Go.Proofs.YtaebofpgdonnbaaDoor
