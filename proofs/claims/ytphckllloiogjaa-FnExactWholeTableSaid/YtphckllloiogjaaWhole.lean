/- Contracts: WholeTable, both sides; fractions marked. -/
import Derived.Test.YtphckllloiogjaaCommon
import Derived.Test.YtphckllloiogjaaLawInts
import Derived.Deep.DeepCutAuto
set_option linter.unusedVariables false
set_option linter.unusedSimpArgs false
namespace Go.Proofs.Ytphckllloiogjaa
open Go.RowKit

def wholA (den : Int) (acc : List Int) : List (Int × Int) → List Int × Int
  | [] => (acc, 0)
  | f :: l => if ¬ den % f.2 = 0 then ([], 6) else if 1000000000000 / (den / f.2) < (f.1.natAbs : Int) then ([], 5) else wholA den (acc ++ [f.1 * (den / f.2)]) l
theorem wholA_len (den : Int) (l : List (Int × Int)) : ∀ acc, (wholA den acc l).1.length ≤ acc.length + l.length := by
  induction l with
  | nil => intro acc; simp [wholA]
  | cons f l ih =>
    intro acc
    rw [wholA]
    split
    · simp
    · split
      · simp
      · have := ih (acc ++ [f.1 * (den / f.2)])
        simp at this ⊢
        omega
def whole (l : List (Int × Int)) (den : Int) : List Int × Int := if plainsB l = false then ([], 1) else if inB den 1 1000000000000 = false then ([], 2) else wholA den [] l
theorem whole_len (l : List (Int × Int)) (den : Int) : (whole l den).1.length ≤ l.length := by
  unfold whole
  split
  · simp
  · split
    · simp
    · simpa using wholA_len den l []
theorem whole_go {l : List (Int × Int)} {den : Int} (h1 : plainsB l = true) (h2 : inB den 1 1000000000000 = true) : whole l den = wholA den [] l := by rw [whole, if_neg (by rw [h1]; simp), if_neg (by rw [h2]; simp)]

theorem part_bd (den d : Int) (hn : 1 ≤ den ∧ den ≤ 1000000000000) (hd : 1 ≤ d) (h : den % d = 0) : 1 ≤ den / d ∧ den / d ≤ 1000000000000 := by
  have h1 := Int.mul_ediv_add_emod den d
  rw [h] at h1
  generalize den / d = m at *
  have h5 : 0 < m := by
    rcases Int.lt_or_le 0 m with h | h
    · exact h
    · have := Int.mul_le_mul_of_nonneg_left h (show 0 ≤ d by omega)
      simp at this
      omega
  have h6 := Int.mul_le_mul_of_nonneg_right hd (show 0 ≤ m by omega)
  omega
theorem keepA {B : Nat} {W w' : World} {bk : Nat} (h : Below W.heap.size W w') (hlt : bk < W.heap.size) (hB : B ≤ W.heap.size) : (∀ o, w'.cell? ⟨bk, o, none⟩ = W.cell? ⟨bk, o, none⟩) ∧ Below B W w' := ⟨fun o => (bcell h).1 bk o hlt, h.mono hB⟩
theorem keepB {B : Nat} {W X w3 : World} {bk : Nat} {row : Option Nat} (hg : X.grownBy w3 row) (hX : Below W.heap.size W X) (hlt : bk < W.heap.size) (hne : some bk ≠ row) (hb : Below B W w3) : (∀ o, w3.cell? ⟨bk, o, none⟩ = W.cell? ⟨bk, o, none⟩) ∧ Below B W w3 :=
  ⟨fun o => by rw [World.cell?_of_block (w := X) (hg.block bk (Nat.lt_of_lt_of_le hlt hX.size) hne)]; exact (bcell hX).1 bk o hlt, hb⟩
theorem prod_bd (x m q : Int) (hm : 1 ≤ m) (hq : 1000000000000 / m = q) (h : (x.natAbs : Int) ≤ q) : -1000000000000 ≤ x * m ∧ x * m ≤ 1000000000000 := by
  subst hq
  have h1 := Int.ediv_mul_le 1000000000000 (show m ≠ 0 by omega)
  have h2 := Int.mul_le_mul_of_nonneg_right (show x ≤ 1000000000000 / m by omega) (show 0 ≤ m by omega)
  have h3 := Int.mul_le_mul_of_nonneg_right (show -(1000000000000 / m) ≤ x by omega) (show 0 ≤ m by omega)
  rw [Int.neg_mul] at h3
  omega

set_option maxHeartbeats 4000000 in
theorem WholeTableI_c (A : Option Addr) (n c : Nat) (l : List (Int × Int)) (den : Int) (w : World) (hn : l.length = n) (hm : n ≤ 1048576) (hr : Rd w w.heap.size 2 fcell A l) (ok : ∀ d ∈ l, okF d) :
    Calls Try.prog 35 #[.slice A n c, .int .i64 den] w fun e w' => ∃ v, e = .returned (.tuple #[v, .int .i64 (whole l den).2]) ∧ w'.ownsRow w.heap.size 2 1 v (whole l den).1.length ((whole l den).1.map (Value.int .i64)) ∧ Below w.heap.size w w' := by
  obtain ⟨i0, hi0, hz0, hz1, hz2⟩ := info_parts info_i64
  have HN := Lib.hid hn; clear hn
  go_enter Try.func35, Try.ntmps35
  go_wp2_with fail
  refine (arePlain_c A n c l w HN.out hm hr ok).mono ?_
  rintro e w0 ⟨rfl, hb0⟩
  have hb0s := hb0.size
  cases hpl : plainsB l
  · have HP := Lib.hid hpl
    go_wp2_with fail
    refine bodyPost_ret (v := .tuple #[.slice none 0 0, .int .i64 1]) (by simp only [results, Try.results35]; go_simp) rfl ⟨.slice none 0 0, by rw [whole, if_pos HP.out], by rw [whole, if_pos HP.out]; exact World.ownsRow_nil _ _ _ _, hb0⟩
  cases hdn : inB den 1 1000000000000
  · have HP := Lib.hid hpl
    have HQ := Lib.hid hdn
    go_wp2_with (go_at_call 61; refine (between_c _ _ _ _).mono ?_; rintro e w' ⟨rfl, rfl⟩)
    refine bodyPost_ret (v := .tuple #[.slice none 0 0, .int .i64 2]) (by simp only [results, Try.results35]; go_simp) rfl ⟨.slice none 0 0, by rw [whole, if_neg (by rw [HP.out]; simp), if_pos HQ.out], by rw [whole, if_neg (by rw [HP.out]; simp), if_pos HQ.out]; exact World.ownsRow_nil _ _ _ _, hb0⟩
  have HP := Lib.hid hpl
  have HWH := Lib.hid (whole_go hpl hdn)
  have hdb := inB_iff.1 hdn
  go_wp2_with (go_at_call 61; refine (between_c _ _ _ _).mono ?_; rintro e w' ⟨rfl, rfl⟩)
  have hown0 : (w0.alloc (.cells #[] 2)).ownsRow w.heap.size 2 1 (.slice (some ⟨w0.heap.size, 0, none⟩) 0 0) 0 [] := World.ownsRow_made w0 #[] 0 hb0s (by simp [maxLen]) (by simp)
  clear hpl hdn
  go_loopw [6, 19] (fun o i wr => ∃ k : Nat, ∃ acc : List Int, k ≤ n ∧ i = .int .i64 k ∧ acc.length = k ∧ wholA den acc (l.drop k) = wholA den [] l ∧ Below w.heap.size w wr ∧ wr.ownsRow w.heap.size 2 1 o k (acc.map (Value.int .i64))) (fun _ i _ => n - (intOf i).toNat)
  case atStart => exact ⟨0, [], Nat.zero_le _, rfl, rfl, rfl, by (repeat' (first | (with_reducible exact Below.refl _ _) | (with_reducible assumption) | (with_reducible refine below_drewN ?_ _) | (with_reducible refine Below.drew ?_) | (with_reducible refine Below.alloc ?_ ?_ _) | (with_reducible refine Below.setCell ?_ ?_ _) | (with_reducible refine via (by with_reducible assumption) ?_ ?_) | go_size)), by simpa using hown0⟩
  case round =>
    clear hown0 hb0 hb0s
    obtain ⟨k, acc, hk, rfl, hal, hwa, hb, hx⟩ := hrel
    have HX := Lib.hid hx; clear hx
    have HAL := Lib.hid hal; clear hal
    have HWA := Lib.hid hwa; clear hwa
    have hbs := hb.size
    by_cases hlt : k < n
    · have hrk := hr.below hb
      obtain ⟨b1, off, rfl, hbl, hc⟩ := hrk.frac (by rw [HN.out]; omega)
      obtain ⟨⟨x, d⟩, hd⟩ := get_ex l k (by rw [HN.out]; omega)
      obtain ⟨g0, g1⟩ := hc k _ hd
      simp only at g0 g1
      have hp0 := plainB_iff.1 (plains_at hd HP.out)
      simp only at hp0
      obtain ⟨hp1, hp2, _⟩ := hp0
      have hstep := HWA.out
      rw [drop_at hd, wholA] at hstep
      simp only at hstep
      have HST := Lib.hid hstep; clear hstep hd hc hrk
      have n1 : ¬ d = 0 := by omega
      have n3 : (d == 0) = false := by simp [n1]
      have n5 : (0 : Int) ≤ den := by omega
      have n6 : (0 : Int) ≤ d := by omega
      have hf1 := far (show b1 < wr.heap.size by omega)
      by_cases hz : den % d = 0
      · obtain ⟨p1, p2⟩ := part_bd den d hdb (by omega) hz
        obtain ⟨m, hmm⟩ : ∃ m : Int, den / d = m := ⟨_, rfl⟩
        rw [hmm] at p1 p2
        obtain ⟨q, hq⟩ : ∃ q : Int, 1000000000000 / m = q := ⟨_, rfl⟩
        have hs2 := HST.out
        rw [if_neg (by simpa using hz)] at hs2
        simp only [hmm, hq] at hs2
        have HS2 := Lib.hid hs2; clear hs2 HST
        have n2 : ¬ m = 0 := by omega
        have n4 : (m == 0) = false := by simp [n2]
        have n7 : (0 : Int) ≤ m := by omega
        have HQ := Lib.hid hq
        by_cases hxq : (x.natAbs : Int) ≤ q
        · have hpb := prod_bd x m q p1 HQ.out hxq
          have e1 : IntKind.i64.wrap (x * m) = x * m := IntWalk.i64_in _ (by omega)
          have HS3 : Hid (wholA den (acc ++ [x * m]) (l.drop (k + 1)) = wholA den [] l) := Lib.hid (by have h9 := HS2.out; rwa [if_neg (by omega)] at h9)
          go_wp2_with fail
          go_quiet (((go_at_call 51; exact quiet_eq (absolute_c x _ (by omega)))))
          go_upto_region 14 with fail
          refine gen_world fun W hW => ?_
          have hbW : Below wr.heap.size wr W := by rw [hW.out]; (repeat' (first | (with_reducible exact Below.refl _ _) | (with_reducible assumption) | (with_reducible refine below_drewN ?_ _) | (with_reducible refine Below.drew ?_) | (with_reducible refine Below.alloc ?_ ?_ _) | (with_reducible refine Below.setCell ?_ ?_ _) | (with_reducible refine via (by with_reducible assumption) ?_ ?_) | go_size))
          have d0 : W.cell? ⟨wr.heap.size, 0, none⟩ = some (.int .i64 x) := by rw [hW.out]; simp [go_sem]
          have d1 : W.cell? ⟨wr.heap.size, 1, none⟩ = some (.int .i64 d) := by rw [hW.out]; simp [go_sem]
          have dl := far (show wr.heap.size < W.heap.size by rw [hW.out]; simp [go_sem])
          have hbWs := hbW.size
          have hbwW : Below w.heap.size w W := hb.trans (hbW.mono hbs)
          have HXW := Lib.hid (own_call HX.out hbW)
          have hne : some wr.heap.size ≠ u6.ownBlock := fun h => by have := (HX.out.lt _ h.symm).2; omega
          have e2 : IntKind.i64.wrap (Int.tdiv den d) = m := by rw [Int.tdiv_eq_ediv_of_nonneg n5, hmm]; exact IntWalk.i64_in _ (by omega)
          clear hW g0 g1 HX
          go_region_held3 (fun w' => (∀ o, w'.cell? ⟨wr.heap.size, o, none⟩ = W.cell? ⟨wr.heap.size, o, none⟩) ∧ Below w.heap.size W w') (first | exact keepB hg3 (by (repeat' (first | (with_reducible exact Below.refl _ _) | (with_reducible assumption) | (with_reducible refine below_drewN ?_ _) | (with_reducible refine Below.drew ?_) | (with_reducible refine Below.alloc ?_ ?_ _) | (with_reducible refine Below.setCell ?_ ?_ _) | (with_reducible refine via (by with_reducible assumption) ?_ ?_) | go_size))) dl.1 hne hb3 | exact keepA (by (repeat' (first | (with_reducible exact Below.refl _ _) | (with_reducible assumption) | (with_reducible refine below_drewN ?_ _) | (with_reducible refine Below.drew ?_) | (with_reducible refine Below.alloc ?_ ?_ _) | (with_reducible refine Below.setCell ?_ ?_ _) | (with_reducible refine via (by with_reducible assumption) ?_ ?_) | go_size))) dl.1 (by omega))
            ((refine app_step (W := W) (z := .int .i64 0) (.tmp 38) (.tmp 46) (by rfl) (by rfl) Try.underlying32 hi0 hz0 hz1 hz2 rfl (by decide) (by decide) (by rfl) ((HXW.out.alloc _).drew) (by rfl) (by rfl) (news1 (z := .int .i64 (x * m)) (by simp [go_sem])) (by simp [Value.oneCell']) (by omega) (by (repeat' (first | (with_reducible exact Below.refl _ _) | (with_reducible assumption) | (with_reducible refine below_drewN ?_ _) | (with_reducible refine Below.drew ?_) | (with_reducible refine Below.alloc ?_ ?_ _) | (with_reducible refine Below.setCell ?_ ?_ _) | (with_reducible refine via (by with_reducible assumption) ?_ ?_) | go_size))) (by omega) ?_; intro v3 w3 hown3 hg3 _ hb3))
          go_wp2_with fail
          (first | (refine ⟨?_, ?_⟩; rotate_left; (simp [intOf]; omega); (repeat apply Exists.intro); refine ⟨?_, rfl⟩; exact ⟨k + 1, acc ++ [x * m], by omega, by go_num, by simp [HAL.out], HS3.out, hbwW.trans hb3, by simpa using hown3⟩) | exact ⟨⟨k + 1, acc ++ [x * m], by omega, by go_num, by simp [HAL.out], HS3.out, hbwW.trans hb3, by simpa using hown3⟩, by simp [intOf]; omega⟩)
        · have HS3 : Hid (wholA den [] l = ([], 5)) := Lib.hid (by have h9 := HS2.out; rw [if_pos (by omega)] at h9; exact h9.symm)
          go_wp2_with fail
          go_quiet (((go_at_call 51; exact quiet_eq (absolute_c x _ (by omega)))))
          go_wp2_with fail
          refine bodyPost_ret (v := .tuple #[.slice none 0 0, .int .i64 5]) (by simp only [results, Try.results35]; go_simp) rfl ⟨.slice none 0 0, by rw [HWH.out, HS3.out], by rw [HWH.out, HS3.out]; exact World.ownsRow_nil _ _ _ _, ?_⟩
          (repeat' (first | (with_reducible exact Below.refl _ _) | (with_reducible assumption) | (with_reducible refine below_drewN ?_ _) | (with_reducible refine Below.drew ?_) | (with_reducible refine Below.alloc ?_ ?_ _) | (with_reducible refine Below.setCell ?_ ?_ _) | (with_reducible refine via (by with_reducible assumption) ?_ ?_) | go_size))
      · have HS3 : Hid (wholA den [] l = ([], 6)) := Lib.hid (by have h9 := HST.out; rw [if_pos (by simpa using hz)] at h9; exact h9.symm)
        have hz1 : (den % d == 0) = false := by simp [hz]
        go_wp2_with fail
        refine bodyPost_ret (v := .tuple #[.slice none 0 0, .int .i64 6]) (by simp only [results, Try.results35]; go_simp) rfl ⟨.slice none 0 0, by rw [HWH.out, HS3.out], by rw [HWH.out, HS3.out]; exact World.ownsRow_nil _ _ _ _, ?_⟩
        (repeat' (first | (with_reducible exact Below.refl _ _) | (with_reducible assumption) | (with_reducible refine below_drewN ?_ _) | (with_reducible refine Below.drew ?_) | (with_reducible refine Below.alloc ?_ ?_ _) | (with_reducible refine Below.setCell ?_ ?_ _) | (with_reducible refine via (by with_reducible assumption) ?_ ?_) | go_size))
    · have hkn : k = n := by omega
      have h6 := HWA.out
      rw [List.drop_of_length_le (by rw [HN.out]; omega), wholA] at h6
      have H6 := Lib.hid h6.symm; clear h6
      have h1 := HX.out
      have H1 := Lib.hid h1; clear h1 HX
      obtain ⟨v1, rfl⟩ : ∃ v : Value, v = u6 := ⟨_, rfl⟩
      go_wp2_with fail
      refine bodyPost_ret (v := .tuple #[v1, .int .i64 0]) (by simp only [results, Try.results35]; go_simp) rfl ⟨v1, by rw [HWH.out, H6.out], by rw [HWH.out, H6.out]; simp only; rw [HAL.out]; exact H1.out, hb⟩

set_option maxHeartbeats 4000000 in
theorem WholeTableS_c (A : Option Addr) (n c : Nat) (l : List (Int × Int)) (den : Int) (w : World) (hn : l.length = n) (hm : n ≤ 1048576) (hr : Rd w w.heap.size 2 fcell A l) (ok : ∀ d ∈ l, okF d) :
    Calls Try.prog 34 #[.slice A n c, .int .i64 den] w fun e w' => ∃ v, e = .returned (.tuple #[v, .int .i64 (whole l den).2]) ∧ w'.ownsRow w.heap.size 2 1 v (whole l den).1.length ((whole l den).1.map (Value.int .i64)) ∧ Below w.heap.size w w' := by
  obtain ⟨i0, hi0, hz0, hz1, hz2⟩ := info_parts info_i64
  have HN := Lib.hid hn; clear hn
  go_enter Try.func34, Try.ntmps34
  go_wp2_with fail
  refine (l19List_c A n c l w HN.out hm hr ok).mono ?_
  rintro e w0 ⟨rfl, hb0⟩
  have hb0s := hb0.size
  cases hpl : plainsB l
  · have HP := Lib.hid hpl
    go_wp2_with fail
    refine bodyPost_ret (v := .tuple #[.slice none 0 0, .int .i64 1]) (by simp only [results, Try.results34]; go_simp) rfl ⟨.slice none 0 0, by rw [whole, if_pos HP.out], by rw [whole, if_pos HP.out]; exact World.ownsRow_nil _ _ _ _, hb0⟩
  cases hdn : inB den 1 1000000000000
  · have HP := Lib.hid hpl
    have HQ := Lib.hid hdn
    go_wp2_with (go_at_call 58; refine (l00In_c _ _ _ _).mono ?_; rintro e w' ⟨rfl, rfl⟩)
    refine bodyPost_ret (v := .tuple #[.slice none 0 0, .int .i64 2]) (by simp only [results, Try.results34]; go_simp) rfl ⟨.slice none 0 0, by rw [whole, if_neg (by rw [HP.out]; simp), if_pos HQ.out], by rw [whole, if_neg (by rw [HP.out]; simp), if_pos HQ.out]; exact World.ownsRow_nil _ _ _ _, hb0⟩
  have HP := Lib.hid hpl
  have HWH := Lib.hid (whole_go hpl hdn)
  have hdb := inB_iff.1 hdn
  go_wp2_with (go_at_call 58; refine (l00In_c _ _ _ _).mono ?_; rintro e w' ⟨rfl, rfl⟩)
  have hown0 : (w0.alloc (.cells #[] 2)).ownsRow w.heap.size 2 1 (.slice (some ⟨w0.heap.size, 0, none⟩) 0 0) 0 [] := World.ownsRow_made w0 #[] 0 hb0s (by simp [maxLen]) (by simp)
  clear hpl hdn
  go_loopw [6, 7] (fun o i wr => ∃ k : Nat, ∃ acc : List Int, k ≤ n ∧ i = .int .i64 k ∧ acc.length = k ∧ wholA den acc (l.drop k) = wholA den [] l ∧ Below w.heap.size w wr ∧ wr.ownsRow w.heap.size 2 1 o k (acc.map (Value.int .i64))) (fun _ i _ => n - (intOf i).toNat)
  case atStart => exact ⟨0, [], Nat.zero_le _, rfl, rfl, rfl, by (repeat' (first | (with_reducible exact Below.refl _ _) | (with_reducible assumption) | (with_reducible refine below_drewN ?_ _) | (with_reducible refine Below.drew ?_) | (with_reducible refine Below.alloc ?_ ?_ _) | (with_reducible refine Below.setCell ?_ ?_ _) | (with_reducible refine via (by with_reducible assumption) ?_ ?_) | go_size)), by simpa using hown0⟩
  case round =>
    clear hown0 hb0 hb0s
    obtain ⟨k, acc, hk, rfl, hal, hwa, hb, hx⟩ := hrel
    have HX := Lib.hid hx; clear hx
    have HAL := Lib.hid hal; clear hal
    have HWA := Lib.hid hwa; clear hwa
    have hbs := hb.size
    by_cases hlt : k < n
    · have hrk := hr.below hb
      obtain ⟨b1, off, rfl, hbl, hc⟩ := hrk.frac (by rw [HN.out]; omega)
      obtain ⟨⟨x, d⟩, hd⟩ := get_ex l k (by rw [HN.out]; omega)
      obtain ⟨g0, g1⟩ := hc k _ hd
      simp only at g0 g1
      have hp0 := plainB_iff.1 (plains_at hd HP.out)
      simp only at hp0
      obtain ⟨hp1, hp2, _⟩ := hp0
      have hstep := HWA.out
      rw [drop_at hd, wholA] at hstep
      simp only at hstep
      have HST := Lib.hid hstep; clear hstep hd hc hrk
      have n1 : ¬ d = 0 := by omega
      have n3 : (d == 0) = false := by simp [n1]
      have n5 : (0 : Int) ≤ den := by omega
      have n6 : (0 : Int) ≤ d := by omega
      have hf1 := far (show b1 < wr.heap.size by omega)
      by_cases hz : den % d = 0
      · obtain ⟨p1, p2⟩ := part_bd den d hdb (by omega) hz
        obtain ⟨m, hmm⟩ : ∃ m : Int, den / d = m := ⟨_, rfl⟩
        rw [hmm] at p1 p2
        obtain ⟨q, hq⟩ : ∃ q : Int, 1000000000000 / m = q := ⟨_, rfl⟩
        have hs2 := HST.out
        rw [if_neg (by simpa using hz)] at hs2
        simp only [hmm, hq] at hs2
        have HS2 := Lib.hid hs2; clear hs2 HST
        have n2 : ¬ m = 0 := by omega
        have n4 : (m == 0) = false := by simp [n2]
        have n7 : (0 : Int) ≤ m := by omega
        have HQ := Lib.hid hq
        by_cases hxq : (x.natAbs : Int) ≤ q
        · have hpb := prod_bd x m q p1 HQ.out hxq
          have e1 : IntKind.i64.wrap (x * m) = x * m := IntWalk.i64_in _ (by omega)
          have HS3 : Hid (wholA den (acc ++ [x * m]) (l.drop (k + 1)) = wholA den [] l) := Lib.hid (by have h9 := HS2.out; rwa [if_neg (by omega)] at h9)
          go_wp2_with fail
          go_quiet (((go_at_call 49; exact quiet_eq (l03Size_c x _ (by omega)))))
          go_upto_region 14 with fail
          refine gen_world fun W hW => ?_
          have HXW := Lib.hid (show W.ownsRow w.heap.size 2 1 u6 k (acc.map (Value.int .i64)) by rw [hW.out]; exact own_drewN HX.out nq)
          have hbwW : Below w.heap.size w W := by rw [hW.out]; exact below_drewN hb nq
          have d0 : W.cell? ⟨b1, off + k * 2, none⟩ = some (.int .i64 x) := by rw [hW.out]; exact g0
          have hbWs := hbwW.size
          clear hW g0 g1 HX
          go_wp2_with (at_builtin; refine app_list (W := w) (z := .int .i64 0) (.tmp 46) (.tmp 54) rfl rfl Try.underlying32 hi0 hz0 hz1 hz2 rfl (by decide) (by decide) rfl (HXW.out.alloc _) rfl rfl (news1 (z := .int .i64 (x * m)) (by simp [go_sem])) (by simp [Value.oneCell']) (by omega) (by (repeat' (first | (with_reducible exact Below.refl _ _) | (with_reducible assumption) | (with_reducible refine below_drewN ?_ _) | (with_reducible refine Below.drew ?_) | (with_reducible refine Below.alloc ?_ ?_ _) | (with_reducible refine Below.setCell ?_ ?_ _) | (with_reducible refine via (by with_reducible assumption) ?_ ?_) | go_size))) (Nat.le_refl _) ?_; intro v1 w1 hown1 hg1 hblk1 hb1)
          have HO := Lib.hid hown1; clear hown1
          (first | (refine ⟨?_, ?_⟩; rotate_left; (simp [intOf]; omega); (repeat apply Exists.intro); refine ⟨?_, rfl⟩; exact ⟨k + 1, acc ++ [x * m], by omega, by go_num, by simp [HAL.out], HS3.out, hb1, by simpa using HO.out⟩) | exact ⟨⟨k + 1, acc ++ [x * m], by omega, by go_num, by simp [HAL.out], HS3.out, hb1, by simpa using HO.out⟩, by simp [intOf]; omega⟩)
        · have HS3 : Hid (wholA den [] l = ([], 5)) := Lib.hid (by have h9 := HS2.out; rw [if_pos (by omega)] at h9; exact h9.symm)
          go_wp2_with fail
          go_quiet (((go_at_call 49; exact quiet_eq (l03Size_c x _ (by omega)))))
          go_wp2_with fail
          refine bodyPost_ret (v := .tuple #[.slice none 0 0, .int .i64 5]) (by simp only [results, Try.results34]; go_simp) rfl ⟨.slice none 0 0, by rw [HWH.out, HS3.out], by rw [HWH.out, HS3.out]; exact World.ownsRow_nil _ _ _ _, ?_⟩
          (repeat' (first | (with_reducible exact Below.refl _ _) | (with_reducible assumption) | (with_reducible refine below_drewN ?_ _) | (with_reducible refine Below.drew ?_) | (with_reducible refine Below.alloc ?_ ?_ _) | (with_reducible refine Below.setCell ?_ ?_ _) | (with_reducible refine via (by with_reducible assumption) ?_ ?_) | go_size))
      · have HS3 : Hid (wholA den [] l = ([], 6)) := Lib.hid (by have h9 := HST.out; rw [if_pos (by simpa using hz)] at h9; exact h9.symm)
        have hz1 : (den % d == 0) = false := by simp [hz]
        go_wp2_with fail
        refine bodyPost_ret (v := .tuple #[.slice none 0 0, .int .i64 6]) (by simp only [results, Try.results34]; go_simp) rfl ⟨.slice none 0 0, by rw [HWH.out, HS3.out], by rw [HWH.out, HS3.out]; exact World.ownsRow_nil _ _ _ _, ?_⟩
        (repeat' (first | (with_reducible exact Below.refl _ _) | (with_reducible assumption) | (with_reducible refine below_drewN ?_ _) | (with_reducible refine Below.drew ?_) | (with_reducible refine Below.alloc ?_ ?_ _) | (with_reducible refine Below.setCell ?_ ?_ _) | (with_reducible refine via (by with_reducible assumption) ?_ ?_) | go_size))
    · have hkn : k = n := by omega
      have h6 := HWA.out
      rw [List.drop_of_length_le (by rw [HN.out]; omega), wholA] at h6
      have H6 := Lib.hid h6.symm; clear h6
      have h1 := HX.out
      have H1 := Lib.hid h1; clear h1 HX
      obtain ⟨v1, rfl⟩ : ∃ v : Value, v = u6 := ⟨_, rfl⟩
      go_wp2_with fail
      refine bodyPost_ret (v := .tuple #[v1, .int .i64 0]) (by simp only [results, Try.results34]; go_simp) rfl ⟨v1, by rw [HWH.out, H6.out], by rw [HWH.out, H6.out]; simp only; rw [HAL.out]; exact H1.out, hb⟩

set_option maxHeartbeats 1000000 in
theorem markFractionS_c (A : Option Addr) (n c : Nat) (k0 : Int) (xs0 : List Value) (base : Nat) (w : World) (hm : n ≤ 1048576) (hk0 : 0 ≤ k0 ∧ k0 ≤ 4611686018427387904)
    (hown : w.ownsRow base 23 2 (.slice A n c) n xs0) :
    Calls Try.prog 36 #[.slice A n c, .int .i64 k0] w fun e w' => e = .returned (.int .i64 (k0 + 2 * n)) ∧ (∃ xs, w'.ownsRow base 23 2 (.slice A n c) n xs) ∧ w.grownBy w' (Value.slice A n c).ownBlock := by
  go_enter Try.func36, Try.ntmps36
  go_wp2
  go_loopw [1, 5] (fun q i wr => ∃ k : Nat, k ≤ n ∧ i = .int .i64 k ∧ q = .int .i64 (k0 + 2 * k) ∧ w.grownBy wr (Value.slice A n c).ownBlock ∧ ∃ xs, wr.ownsRow base 23 2 (.slice A n c) n xs) (fun _ i _ => n - (intOf i).toNat)
  case atStart => exact ⟨0, Nat.zero_le _, rfl, by simp, World.grownBy.refl w _, _, hown⟩
  case round =>
    clear hown
    obtain ⟨k, hk, rfl, rfl, hg, xs, hx⟩ := hrel
    have HX := Lib.hid hx; clear hx
    have HG := Lib.hid hg; clear hg
    by_cases hlt : k < n
    · have hA : ∃ g, A = some ⟨g, 0, none⟩ := by
        rcases HX.out.2 with ⟨hv, h0⟩ | ⟨g, cap, cur, hv, _⟩
        · omega
        · exact ⟨g, by injection hv⟩
      obtain ⟨g, rfl⟩ := hA
      have hxl : xs.length = n * 2 := HX.out.1
      obtain ⟨z0, hz0'⟩ : ∃ x, xs[k * 2]? = some x := ⟨_, List.getElem?_eq_getElem (by omega)⟩
      have c0 : wr.cell? ⟨g, k * 2, none⟩ = some z0 := by rw [HX.out.cellAt _ (by omega)]; exact hz0'
      have f0 : wr.frozen? ⟨g, k * 2, none⟩ = false := HX.out.frozenAt _
      obtain ⟨z1, hz1'⟩ : ∃ x, xs[k * 2 + 1]? = some x := ⟨_, List.getElem?_eq_getElem (by omega)⟩
      have c1 : wr.cell? ⟨g, k * 2 + 1, none⟩ = some z1 := by rw [HX.out.cellAt _ (by omega)]; exact hz1'
      have f1 : wr.frozen? ⟨g, k * 2 + 1, none⟩ = false := HX.out.frozenAt _
      have HL := Lib.hid hxl; clear hxl hz0' hz1'
      go_wp2
      go_roundw
      case rel =>
        have s0 := HX.out.stored (k * 2) (.int .i64 (k0 + 2 * k))
        have s1 := s0.1.stored (k * 2 + 1) (.int .i64 (k0 + 2 * k + 1))
        exact ⟨k + 1, by omega, by go_num, ret_val (by omega), (HG.out.trans s0.2).trans s1.2, _, s1.1⟩
      case measure => simp [intOf]; omega
    · have hkn : k = n := by omega
      subst hkn
      go_wp2
      go_ret
      exact ⟨rfl, ⟨_, HX.out⟩, HG.out⟩

end Go.Proofs.Ytphckllloiogjaa
