/- Contracts: RoundTable, both sides. -/
import Derived.Test.YtklpjpablmiaoaaPage2
set_option linter.unusedVariables false
set_option linter.unusedSimpArgs false
namespace Go.Proofs.Ytklpjpablmiaoaa
open Go.RowKit

/-- rounded units -/
def rnd (u v : Int) : Int := (2 * v + u) / (2 * u)
def rtCode (l : List Int) (u : Int) : Int := if l.all valB = false then 2 else if inB u 1 1000000 = false then 2 else if 200 < l.length then 5 else 0
def rtable (l : List Int) (u : Int) : List Int × Int := if rtCode l u = 0 then (l.map (rnd u), 0) else ([], rtCode l u)
theorem rtable_len (l : List Int) (u : Int) : (rtable l u).1.length ≤ l.length := by unfold rtable; split <;> simp

theorem rnd_le (u v : Int) (hu : 1 ≤ u ∧ u ≤ 1000000) (hv : -1000000000000 ≤ v ∧ v ≤ 1000000000000) : -2000000000000 ≤ rnd u v ∧ rnd u v ≤ 1000000000000 := by
  have h0 := Int.mul_ediv_add_emod (2 * v + u) (2 * u)
  have h1 := Int.emod_nonneg (2 * v + u) (show 2 * u ≠ 0 by omega)
  have h2 := Int.emod_lt_of_pos (2 * v + u) (show 0 < 2 * u by omega)
  unfold rnd
  generalize (2 * v + u) / (2 * u) = q at *
  generalize (2 * v + u) % (2 * u) = r at *
  constructor
  · rcases Int.lt_or_le q (-2000000000000) with h | h
    · have := Int.mul_le_mul_of_nonneg_left (show q ≤ -2000000000001 by omega) (show 0 ≤ 2 * u by omega)
      omega
    · exact h
  · rcases Int.lt_or_le 1000000000000 q with h | h
    · have := Int.mul_le_mul_of_nonneg_left (show 1000000000001 ≤ q by omega) (show 0 ≤ 2 * u by omega)
      omega
    · exact h

theorem floor_of (a b : Int) (hb : 0 < b) : (Int.tmod a b < 0 → Int.tdiv a b - 1 = a / b) ∧ (¬ Int.tmod a b < 0 → Int.tdiv a b = a / b) := by
  have h0 := Int.mul_tdiv_add_tmod a b
  have h1 := Int.tmod_lt_of_pos a hb
  have h2 : -b < Int.tmod a b := by
    rcases Int.le_total 0 a with h | h
    · have := Int.tmod_nonneg b h; omega
    · have h3 : Int.tmod (-a) b = - Int.tmod a b := Int.neg_tmod ..
      have h4 := Int.tmod_lt_of_pos (-a) hb
      omega
  generalize Int.tdiv a b = q at *
  generalize Int.tmod a b = r at *
  refine ⟨fun h => ?_, fun h => ?_⟩
  · exact (((Int.ediv_emod_unique (a := a) (r := r + b) (q := q - 1) hb).2 ⟨by rw [Int.mul_sub]; omega, by omega, by omega⟩).1).symm
  · exact (((Int.ediv_emod_unique (a := a) (r := r) (q := q) hb).2 ⟨by omega, by omega, by omega⟩).1).symm
theorem tdiv_bd (a b : Int) (hb : 0 < b) (ha : -1000000000000000 ≤ a ∧ a ≤ 1000000000000000) : -1000000000000000 ≤ Int.tdiv a b ∧ Int.tdiv a b ≤ 1000000000000000 := by
  have h1 : (Int.tdiv a b).natAbs ≤ a.natAbs := by rw [Int.natAbs_tdiv]; exact Nat.div_le_self _ _
  omega

set_option maxHeartbeats 400000 in
theorem floorDiv_c (a b : Int) (w : World) (hb : 0 < b) (ha : -1000000000000000 ≤ a ∧ a ≤ 1000000000000000) : Calls Try.prog 65 #[.int .i64 a, .int .i64 b] w fun e w' => e = .returned (.int .i64 (a / b)) ∧ w = w' := by
  have n1 : ¬ b = 0 := by omega
  have n2 : (b == 0) = false := by simp [n1]
  have n3 : ¬ b = -1 := by omega
  have n4 : (b == -1) = false := by simp [n3]
  obtain ⟨f1, f2⟩ := floor_of a b hb
  have hq := tdiv_bd a b hb ha
  have F1 := Lib.hid f1
  have F2 := Lib.hid f2
  clear f1 f2
  have e1 : IntKind.i64.wrap (Int.tdiv a b) = Int.tdiv a b := IntWalk.i64_in _ (by omega)
  have e2 : IntKind.i64.wrap (Int.tdiv a b - 1) = Int.tdiv a b - 1 := IntWalk.i64_in _ (by omega)
  by_cases h : Int.tmod a b < 0
  · go_enter Try.func65, Try.ntmps65
    go_wp2
    go_ret
    exact ⟨ret_int (F1.out h), rfl⟩
  · go_enter Try.func65, Try.ntmps65
    go_wp2
    go_ret
    exact ⟨ret_int (F2.out h), rfl⟩

theorem units_c (v u : Int) (w : World) (hu : 1 ≤ u ∧ u ≤ 1000000) (hv : -1000000000000 ≤ v ∧ v ≤ 1000000000000) : Calls Try.prog 51 #[.int .i64 v, .int .i64 u] w fun e w' => e = .returned (.int .i64 (rnd u v)) ∧ w = w' := by
  go_enter Try.func51, Try.ntmps51
  go_wp2_with fail
  refine (floorDiv_c (2 * v + u) (2 * u) _ (by omega) (by omega)).mono ?_
  rintro e w' ⟨rfl, rfl⟩
  go_wp2_with fail
  go_ret
  exact ⟨rfl, rfl⟩

set_option maxHeartbeats 400000 in
theorem l17Round_c (v u : Int) (w : World) (hu : 1 ≤ u ∧ u ≤ 1000000) (hv : -1000000000000 ≤ v ∧ v ≤ 1000000000000) : Calls Try.prog 49 #[.int .i64 v, .int .i64 u] w fun e w' => e = .returned (.int .i64 (rnd u v)) ∧ w = w' := by
  have e3 : IntKind.i64.wrap (2 * v) = 2 * v := IntWalk.i64_in _ (by omega)
  have e4 : IntKind.i64.wrap (2 * v + u) = 2 * v + u := IntWalk.i64_in _ (by omega)
  have e5 : IntKind.i64.wrap (2 * u) = 2 * u := IntWalk.i64_in _ (by omega)
  have n1 : ¬ 2 * u = 0 := by omega
  have n2 : (2 * u == 0) = false := by simp only [beq_eq_false_iff_ne]; exact n1
  have n3 : ¬ 2 * u = -1 := by omega
  have n4 : (2 * u == -1) = false := by simp only [beq_eq_false_iff_ne]; exact n3
  obtain ⟨f1, f2⟩ := floor_of (2 * v + u) (2 * u) (by omega)
  have hq := tdiv_bd (2 * v + u) (2 * u) (by omega) (by omega)
  have F1 := Lib.hid f1
  have F2 := Lib.hid f2
  clear f1 f2
  have e1 : IntKind.i64.wrap (Int.tdiv (2 * v + u) (2 * u)) = Int.tdiv (2 * v + u) (2 * u) := IntWalk.i64_in _ (by omega)
  have e2 : IntKind.i64.wrap (Int.tdiv (2 * v + u) (2 * u) - 1) = Int.tdiv (2 * v + u) (2 * u) - 1 := IntWalk.i64_in _ (by omega)
  by_cases h : Int.tmod (2 * v + u) (2 * u) < 0
  · go_enter Try.func49, Try.ntmps49
    go_wp2
    go_ret
    exact ⟨ret_int (F1.out h), rfl⟩
  · go_enter Try.func49, Try.ntmps49
    go_wp2
    go_ret
    exact ⟨ret_int (F2.out h), rfl⟩

theorem isUnit_c (n : Int) (w : World) : Calls Try.prog 64 #[.int .i64 n] w fun e w' => e = .returned (.bool (inB n 1 1000000)) ∧ w = w' := by
  go_enter Try.func64, Try.ntmps64
  go_wp2_with (go_at_call 40; refine (between_c _ _ _ _).mono ?_; rintro e w' ⟨rfl, rfl⟩)
  go_ret
  exact ⟨rfl, rfl⟩
theorem l17Unit_c (n : Int) (w : World) : Calls Try.prog 63 #[.int .i64 n] w fun e w' => e = .returned (.bool (inB n 1 1000000)) ∧ w = w' := by
  go_enter Try.func63, Try.ntmps63
  go_wp2_with (go_at_call 39; refine (l00In_c _ _ _ _).mono ?_; rintro e w' ⟨rfl, rfl⟩)
  go_ret
  exact ⟨rfl, rfl⟩

set_option maxHeartbeats 1000000 in
theorem roundCode_c (A : Option Addr) (n c : Nat) (l : List Int) (u : Int) (w : World) (hn : l.length = n) (hm : n ≤ 1048576) (hr : Rd w w.heap.size 1 icell A l) :
    Calls Try.prog 50 #[.slice A n c, .int .i64 u] w fun e w' => e = .returned (.int .i64 (rtCode l u)) ∧ w = w' := by
  have HN := Lib.hid hn; clear hn
  go_enter Try.func50, Try.ntmps50
  go_wp2_with fail
  go_loop [9] (fun i => ∃ k : Nat, k ≤ n ∧ i = .int .i64 k ∧ (l.take k).all valB = true) (fun i => n - (intOf i).toNat)
  case atStart => exact ⟨0, Nat.zero_le _, rfl, by simp⟩
  case round =>
    obtain ⟨k, hk, rfl, ha⟩ := hrel
    have HA := Lib.hid ha; clear ha
    by_cases hlt : k < n
    · obtain ⟨b1, off, rfl, _, hc⟩ := hr.ints' (by rw [HN.out]; omega)
      obtain ⟨x, hx⟩ := get_ex l k (by rw [HN.out]; omega)
      have gx := hc k x hx
      have HX := Lib.hid hx; clear hx hc
      cases hv : valB x
      · have HF := Lib.hid (all_no HX.out hv)
        go_wp2_with (first | (go_at_call 43; refine (isValue_c _ _).mono ?_; rintro e w' ⟨rfl, rfl⟩) | (go_at_call 64; refine (isUnit_c _ _).mono ?_; rintro e w' ⟨rfl, rfl⟩))
        go_ret
        exact ⟨ret_int (by rw [rtCode, if_pos HF.out]), rfl⟩
      · have HS := Lib.hid (all_yes HX.out HA.out hv)
        go_wp2_with (first | (go_at_call 43; refine (isValue_c _ _).mono ?_; rintro e w' ⟨rfl, rfl⟩) | (go_at_call 64; refine (isUnit_c _ _).mono ?_; rintro e w' ⟨rfl, rfl⟩))
        (first | (refine ⟨⟨(by first | trivial | rfl), ?_⟩, ?_⟩; rotate_left; (simp [intOf]; omega); (repeat apply Exists.intro); refine ⟨?_, rfl⟩; exact ⟨k + 1, by omega, by go_num, HS.out⟩) | exact ⟨⟨k + 1, by omega, by go_num, HS.out⟩, by simp [intOf]; omega⟩)
    · have hkn : k = n := by omega
      have h6 := HA.out
      rw [List.take_of_length_le (by rw [HN.out]; omega)] at h6
      have H6 := Lib.hid h6; clear h6
      cases hu : inB u 1 1000000
      · have HU := Lib.hid hu
        go_wp2_with (first | (go_at_call 43; refine (isValue_c _ _).mono ?_; rintro e w' ⟨rfl, rfl⟩) | (go_at_call 64; refine (isUnit_c _ _).mono ?_; rintro e w' ⟨rfl, rfl⟩))
        go_ret
        exact ⟨ret_int (by rw [rtCode, if_neg (by rw [H6.out]; simp), if_pos HU.out]), rfl⟩
      · have HU := Lib.hid hu
        by_cases h2 : 200 < n
        · go_wp2_with (first | (go_at_call 43; refine (isValue_c _ _).mono ?_; rintro e w' ⟨rfl, rfl⟩) | (go_at_call 64; refine (isUnit_c _ _).mono ?_; rintro e w' ⟨rfl, rfl⟩))
          go_ret
          exact ⟨ret_int (by rw [rtCode, if_neg (by rw [H6.out]; simp), if_neg (by rw [HU.out]; simp), if_pos (by rw [HN.out]; exact h2)]), rfl⟩
        · go_wp2_with (first | (go_at_call 43; refine (isValue_c _ _).mono ?_; rintro e w' ⟨rfl, rfl⟩) | (go_at_call 64; refine (isUnit_c _ _).mono ?_; rintro e w' ⟨rfl, rfl⟩))
          go_ret
          exact ⟨ret_int (by rw [rtCode, if_neg (by rw [H6.out]; simp), if_neg (by rw [HU.out]; simp), if_neg (by rw [HN.out]; exact h2)]), rfl⟩

set_option maxHeartbeats 1000000 in
theorem l17Code_c (A : Option Addr) (n c : Nat) (l : List Int) (u : Int) (w : World) (hn : l.length = n) (hm : n ≤ 1048576) (hr : Rd w w.heap.size 1 icell A l) :
    Calls Try.prog 48 #[.slice A n c, .int .i64 u] w fun e w' => e = .returned (.int .i64 (rtCode l u)) ∧ w = w' := by
  have HN := Lib.hid hn; clear hn
  go_enter Try.func48, Try.ntmps48
  go_wp2_with fail
  go_loop [5] (fun i => ∃ k : Nat, k ≤ n ∧ i = .int .i64 k ∧ (l.take k).all valB = true) (fun i => n - (intOf i).toNat)
  case atStart => exact ⟨0, Nat.zero_le _, rfl, by simp⟩
  case round =>
    obtain ⟨k, hk, rfl, ha⟩ := hrel
    have HA := Lib.hid ha; clear ha
    by_cases hlt : k < n
    · obtain ⟨b1, off, rfl, _, hc⟩ := hr.ints' (by rw [HN.out]; omega)
      obtain ⟨x, hx⟩ := get_ex l k (by rw [HN.out]; omega)
      have gx := hc k x hx
      have HX := Lib.hid hx; clear hx hc
      cases hv : valB x
      · have HF := Lib.hid (all_no HX.out hv)
        go_wp2_with (first | (go_at_call 41; refine (l17Most_c _ _).mono ?_; rintro e w' ⟨rfl, rfl⟩) | (go_at_call 63; refine (l17Unit_c _ _).mono ?_; rintro e w' ⟨rfl, rfl⟩))
        go_ret
        exact ⟨ret_int (by rw [rtCode, if_pos HF.out]), rfl⟩
      · have HS := Lib.hid (all_yes HX.out HA.out hv)
        go_wp2_with (first | (go_at_call 41; refine (l17Most_c _ _).mono ?_; rintro e w' ⟨rfl, rfl⟩) | (go_at_call 63; refine (l17Unit_c _ _).mono ?_; rintro e w' ⟨rfl, rfl⟩))
        (first | (refine ⟨⟨(by first | trivial | rfl), ?_⟩, ?_⟩; rotate_left; (simp [intOf]; omega); (repeat apply Exists.intro); refine ⟨?_, rfl⟩; exact ⟨k + 1, by omega, by go_num, HS.out⟩) | exact ⟨⟨k + 1, by omega, by go_num, HS.out⟩, by simp [intOf]; omega⟩)
    · have hkn : k = n := by omega
      have h6 := HA.out
      rw [List.take_of_length_le (by rw [HN.out]; omega)] at h6
      have H6 := Lib.hid h6; clear h6
      cases hu : inB u 1 1000000
      · have HU := Lib.hid hu
        go_wp2_with (first | (go_at_call 41; refine (l17Most_c _ _).mono ?_; rintro e w' ⟨rfl, rfl⟩) | (go_at_call 63; refine (l17Unit_c _ _).mono ?_; rintro e w' ⟨rfl, rfl⟩))
        go_ret
        exact ⟨ret_int (by rw [rtCode, if_neg (by rw [H6.out]; simp), if_pos HU.out]), rfl⟩
      · have HU := Lib.hid hu
        by_cases h2 : 200 < n
        · go_wp2_with (first | (go_at_call 41; refine (l17Most_c _ _).mono ?_; rintro e w' ⟨rfl, rfl⟩) | (go_at_call 63; refine (l17Unit_c _ _).mono ?_; rintro e w' ⟨rfl, rfl⟩))
          go_ret
          exact ⟨ret_int (by rw [rtCode, if_neg (by rw [H6.out]; simp), if_neg (by rw [HU.out]; simp), if_pos (by rw [HN.out]; exact h2)]), rfl⟩
        · go_wp2_with (first | (go_at_call 41; refine (l17Most_c _ _).mono ?_; rintro e w' ⟨rfl, rfl⟩) | (go_at_call 63; refine (l17Unit_c _ _).mono ?_; rintro e w' ⟨rfl, rfl⟩))
          go_ret
          exact ⟨ret_int (by rw [rtCode, if_neg (by rw [H6.out]; simp), if_neg (by rw [HU.out]; simp), if_neg (by rw [HN.out]; exact h2)]), rfl⟩

set_option maxHeartbeats 2000000 in
theorem RoundTableI_c (A : Option Addr) (n c : Nat) (l : List Int) (u : Int) (w : World) (hn : l.length = n) (hm : n ≤ 1048576) (hA : A = none → n = 0) (hr : Rd w w.heap.size 1 icell A l) :
    Calls Try.prog 23 #[.slice A n c, .int .i64 u] w fun e w' => ∃ v, e = .returned (.tuple #[v, .int .i64 (rtable l u).2]) ∧ w'.ownsRow w.heap.size 2 1 v (rtable l u).1.length ((rtable l u).1.map (Value.int .i64)) ∧ Below w.heap.size w w' := by
  obtain ⟨i0, hi0, hz0, hz1, hz2⟩ := info_parts info_i64
  have HN := Lib.hid hn; clear hn
  by_cases h0 : rtCode l u = 0
  · have H0 := Lib.hid h0
    have hu : inB u 1 1000000 = true := by
      cases hu : inB u 1 1000000
      · rw [rtCode, if_pos hu] at h0
        split at h0 <;> omega
      · rfl
    have hl : l.all valB = true := by
      cases hl : l.all valB
      · rw [rtCode, if_pos hl] at h0; omega
      · rfl
    have hub := inB_iff.1 hu
    have HL := Lib.hid hl; clear hl hu
    go_enter Try.func23, Try.ntmps23
    go_wp2_with (go_at_call 50; refine (roundCode_c A n c l u _ HN.out hm hr).mono ?_; rintro e w' ⟨rfl, rfl⟩)
    have hown0 : (w.alloc (.cells #[] 2)).ownsRow w.heap.size 2 1 (.slice (some ⟨w.heap.size, 0, none⟩) 0 0) 0 [] := World.ownsRow_made w #[] 0 (Nat.le_refl _) (by simp [maxLen]) (by simp)
    clear h0
    go_loopw [7, 21] (fun o i wr => ∃ k : Nat, k ≤ n ∧ i = .int .i64 k ∧ Below w.heap.size w wr ∧ wr.ownsRow w.heap.size 2 1 o k (((l.map (rnd u)).take k).map (Value.int .i64))) (fun _ i _ => n - (intOf i).toNat)
    case atStart => exact ⟨0, Nat.zero_le _, rfl, by (repeat' (first | (with_reducible exact Below.refl _ _) | (with_reducible assumption) | (with_reducible refine below_drewN ?_ _) | (with_reducible refine Below.drew ?_) | (with_reducible refine Below.alloc ?_ ?_ _) | (with_reducible refine Below.setCell ?_ ?_ _) | (with_reducible refine via (by with_reducible assumption) ?_ ?_) | go_size)), by simpa using hown0⟩
    case round =>
      clear hown0
      obtain ⟨k, hk, rfl, hb, hx⟩ := hrel
      have HX := Lib.hid hx; clear hx
      have hbs := hb.size
      by_cases hlt : k < n
      · have hrk := hr.below hb
        obtain ⟨b1, off, rfl, hbl, hc⟩ := hrk.ints' (by rw [HN.out]; omega)
        obtain ⟨x, hx⟩ := get_ex l k (by rw [HN.out]; omega)
        have gx := hc k x hx
        have hv := valB_iff.1 (List.all_eq_true.1 HL.out x (List.mem_of_getElem? hx))
        have hm1 : (l.map (rnd u))[k]? = some (rnd u x) := by rw [List.getElem?_map, hx]; rfl
        have HM := Lib.hid hm1
        clear hx hc hm1 hrk
        go_wp2_with (first | (go_at_call 51; refine (units_c x u _ hub hv).mono ?_; rintro e w' ⟨rfl, rfl⟩) | (at_builtin; refine app_list (W := w) (z := .int .i64 0) (.tmp 25) (.tmp 29) rfl rfl Try.underlying26 hi0 hz0 hz1 hz2 rfl (by decide) (by decide) rfl (HX.out.alloc _) rfl rfl (news1 (z := .int .i64 (rnd u x)) (by simp [go_sem])) (by simp [Value.oneCell']) (by omega) (by (repeat' (first | (with_reducible exact Below.refl _ _) | (with_reducible assumption) | (with_reducible refine below_drewN ?_ _) | (with_reducible refine Below.drew ?_) | (with_reducible refine Below.alloc ?_ ?_ _) | (with_reducible refine Below.setCell ?_ ?_ _) | (with_reducible refine via (by with_reducible assumption) ?_ ?_) | go_size))) (Nat.le_refl _) ?_; intro v1 w1 hown1 hg1 hblk1 hb1))
        have HO := Lib.hid hown1; clear hown1
        (first | (refine ⟨?_, ?_⟩; rotate_left; (simp [intOf]; omega); (repeat apply Exists.intro); refine ⟨?_, rfl⟩; exact ⟨k + 1, by omega, by go_num, hb1, by rw [take_snoc' _ _ _ HM.out, List.map_append]; exact HO.out⟩) | exact ⟨⟨k + 1, by omega, by go_num, hb1, by rw [take_snoc' _ _ _ HM.out, List.map_append]; exact HO.out⟩, by simp [intOf]; omega⟩)
      · have hkn : k = n := by omega
        have h1 := HX.out
        rw [List.take_of_length_le (by rw [List.length_map, HN.out]; omega), hkn] at h1
        obtain ⟨v1, rfl⟩ : ∃ v : Value, v = u7 := ⟨_, rfl⟩
        have H1 := Lib.hid h1; clear h1 HX
        obtain ⟨A2, c2, rfl, _⟩ := own_form H1.out
        have hr2 := rd_own H1.out
        have HS := Lib.hid hr2; clear hr2
        obtain ⟨wo, rfl⟩ : ∃ wo : World, wo = wr := ⟨_, rfl⟩
        go_wp2_with fail
        go_loop [34] (fun i => ∃ j : Nat, j ≤ n ∧ i = .int .i64 j) (fun i => n - (intOf i).toNat)
        case atStart => exact ⟨0, Nat.zero_le _, rfl⟩
        case round =>
          obtain ⟨j, hj, rfl⟩ := hrel
          by_cases hjt : j < n
          · obtain ⟨b1, off, rfl, hbl, hc⟩ := HS.out.ints' (by rw [List.length_map, HN.out]; omega)
            obtain ⟨x, hx⟩ := get_ex l j (by rw [HN.out]; omega)
            have hx2 : (l.map (rnd u))[j]? = some (rnd u x) := by rw [List.getElem?_map, hx]; rfl
            have gx := hc j _ hx2
            have hv := valB_iff.1 (List.all_eq_true.1 HL.out x (List.mem_of_getElem? hx))
            have hle := (rnd_le u x hub hv).2
            clear hx hx2 hc
            go_wp2_with fail
            (first | (refine ⟨⟨(by first | trivial | rfl), ?_⟩, ?_⟩; rotate_left; (simp [intOf]; omega); (repeat apply Exists.intro); refine ⟨?_, rfl⟩; exact ⟨j + 1, by omega, by go_num⟩) | exact ⟨⟨j + 1, by omega, by go_num⟩, by simp [intOf]; omega⟩)
          · go_wp2_with fail
            refine bodyPost_ret (v := .tuple #[.slice A2 n c2, .int .i64 0]) (by simp only [results, Try.results23]; go_simp) rfl ⟨.slice A2 n c2, by rw [rtable, if_pos H0.out], by rw [rtable, if_pos H0.out, List.length_map, HN.out]; exact H1.out, hb⟩

  · have H0 := Lib.hid h0
    have h9 : (rtCode l u == 0) = false := by simp [h0]
    go_enter Try.func23, Try.ntmps23
    go_wp2_with (go_at_call 50; refine (roundCode_c A n c l u _ HN.out hm hr).mono ?_; rintro e w' ⟨rfl, rfl⟩)
    refine bodyPost_ret (v := .tuple #[.slice none 0 0, .int .i64 (rtCode l u)]) (by simp only [results, Try.results23]; go_simp) rfl ⟨.slice none 0 0, by rw [rtable, if_neg H0.out], by rw [rtable, if_neg H0.out]; exact World.ownsRow_nil _ _ _ _, Below.refl _ _⟩

set_option maxHeartbeats 2000000 in
theorem RoundTableS_c (A : Option Addr) (n c : Nat) (l : List Int) (u : Int) (w : World) (hn : l.length = n) (hm : n ≤ 1048576) (hA : A = none → n = 0) (hr : Rd w w.heap.size 1 icell A l) :
    Calls Try.prog 21 #[.slice A n c, .int .i64 u] w fun e w' => ∃ v, e = .returned (.tuple #[v, .int .i64 (rtable l u).2]) ∧ w'.ownsRow w.heap.size 2 1 v (rtable l u).1.length ((rtable l u).1.map (Value.int .i64)) ∧ Below w.heap.size w w' := by
  obtain ⟨i0, hi0, hz0, hz1, hz2⟩ := info_parts info_i64
  have HN := Lib.hid hn; clear hn
  by_cases h0 : rtCode l u = 0
  · have H0 := Lib.hid h0
    have hu : inB u 1 1000000 = true := by
      cases hu : inB u 1 1000000
      · rw [rtCode, if_pos hu] at h0
        split at h0 <;> omega
      · rfl
    have hl : l.all valB = true := by
      cases hl : l.all valB
      · rw [rtCode, if_pos hl] at h0; omega
      · rfl
    have hub := inB_iff.1 hu
    have HL := Lib.hid hl; clear hl hu
    go_enter Try.func21, Try.ntmps21
    go_wp2_with (go_at_call 48; refine (l17Code_c A n c l u _ HN.out hm hr).mono ?_; rintro e w' ⟨rfl, rfl⟩)
    have hown0 : (w.alloc (.cells #[] 2)).ownsRow w.heap.size 2 1 (.slice (some ⟨w.heap.size, 0, none⟩) 0 0) 0 [] := World.ownsRow_made w #[] 0 (Nat.le_refl _) (by simp [maxLen]) (by simp)
    clear h0
    go_loopw [7, 8] (fun o i wr => ∃ k : Nat, k ≤ n ∧ i = .int .i64 k ∧ Below w.heap.size w wr ∧ wr.ownsRow w.heap.size 2 1 o k (((l.map (rnd u)).take k).map (Value.int .i64))) (fun _ i _ => n - (intOf i).toNat)
    case atStart => exact ⟨0, Nat.zero_le _, rfl, by (repeat' (first | (with_reducible exact Below.refl _ _) | (with_reducible assumption) | (with_reducible refine below_drewN ?_ _) | (with_reducible refine Below.drew ?_) | (with_reducible refine Below.alloc ?_ ?_ _) | (with_reducible refine Below.setCell ?_ ?_ _) | (with_reducible refine via (by with_reducible assumption) ?_ ?_) | go_size)), by simpa using hown0⟩
    case round =>
      clear hown0
      obtain ⟨k, hk, rfl, hb, hx⟩ := hrel
      have HX := Lib.hid hx; clear hx
      have hbs := hb.size
      by_cases hlt : k < n
      · have hrk := hr.below hb
        obtain ⟨b1, off, rfl, hbl, hc⟩ := hrk.ints' (by rw [HN.out]; omega)
        obtain ⟨x, hx⟩ := get_ex l k (by rw [HN.out]; omega)
        have gx := hc k x hx
        have hv := valB_iff.1 (List.all_eq_true.1 HL.out x (List.mem_of_getElem? hx))
        have hm1 : (l.map (rnd u))[k]? = some (rnd u x) := by rw [List.getElem?_map, hx]; rfl
        have HM := Lib.hid hm1
        clear hx hc hm1 hrk
        go_wp2_with (first | (go_at_call 49; refine (l17Round_c x u _ hub hv).mono ?_; rintro e w' ⟨rfl, rfl⟩) | (at_builtin; refine app_list (W := w) (z := .int .i64 0) (.tmp 22) (.tmp 29) rfl rfl Try.underlying26 hi0 hz0 hz1 hz2 rfl (by decide) (by decide) rfl (HX.out.alloc _) rfl rfl (news1 (z := .int .i64 (rnd u x)) (by simp [go_sem])) (by simp [Value.oneCell']) (by omega) (by (repeat' (first | (with_reducible exact Below.refl _ _) | (with_reducible assumption) | (with_reducible refine below_drewN ?_ _) | (with_reducible refine Below.drew ?_) | (with_reducible refine Below.alloc ?_ ?_ _) | (with_reducible refine Below.setCell ?_ ?_ _) | (with_reducible refine via (by with_reducible assumption) ?_ ?_) | go_size))) (Nat.le_refl _) ?_; intro v1 w1 hown1 hg1 hblk1 hb1))
        have HO := Lib.hid hown1; clear hown1
        (first | (refine ⟨?_, ?_⟩; rotate_left; (simp [intOf]; omega); (repeat apply Exists.intro); refine ⟨?_, rfl⟩; exact ⟨k + 1, by omega, by go_num, hb1, by rw [take_snoc' _ _ _ HM.out, List.map_append]; exact HO.out⟩) | exact ⟨⟨k + 1, by omega, by go_num, hb1, by rw [take_snoc' _ _ _ HM.out, List.map_append]; exact HO.out⟩, by simp [intOf]; omega⟩)
      · have hkn : k = n := by omega
        have h1 := HX.out
        rw [List.take_of_length_le (by rw [List.length_map, HN.out]; omega), hkn] at h1
        obtain ⟨v1, rfl⟩ : ∃ v : Value, v = u7 := ⟨_, rfl⟩
        have H1 := Lib.hid h1; clear h1 HX
        go_wp2_with fail
        refine bodyPost_ret (v := .tuple #[v1, .int .i64 0]) (by simp only [results, Try.results21]; go_simp) rfl ⟨v1, by rw [rtable, if_pos H0.out], by rw [rtable, if_pos H0.out, List.length_map, HN.out]; exact H1.out, hb⟩

  · have H0 := Lib.hid h0
    have h9 : (rtCode l u == 0) = false := by simp [h0]
    go_enter Try.func21, Try.ntmps21
    go_wp2_with (go_at_call 48; refine (l17Code_c A n c l u _ HN.out hm hr).mono ?_; rintro e w' ⟨rfl, rfl⟩)
    refine bodyPost_ret (v := .tuple #[.slice none 0 0, .int .i64 (rtCode l u)]) (by simp only [results, Try.results21]; go_simp) rfl ⟨.slice none 0 0, by rw [rtable, if_neg H0.out], by rw [rtable, if_neg H0.out]; exact World.ownsRow_nil _ _ _ _, Below.refl _ _⟩

end Go.Proofs.Ytklpjpablmiaoaa
