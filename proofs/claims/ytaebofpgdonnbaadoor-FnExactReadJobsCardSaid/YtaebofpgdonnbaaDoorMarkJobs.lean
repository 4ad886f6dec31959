/- Contracts: jobs of the call's own marked, held. -/
import Derived.Test.YtaebofpgdonnbaaDoorJobRow
set_option linter.unusedVariables false
set_option linter.unusedSimpArgs false
namespace Go.Proofs.YtaebofpgdonnbaaDoor
open Go.RowKit

/-- the mark at which job i begins -/
def qJ (l : List JobD) (k0 : Int) : Nat → Int
  | 0 => k0
  | i + 1 => qJ l k0 i + 1 + 1 + 1 + ((getJ l i).needs.length : Int)
def mkJ (l : List JobD) (k0 : Int) (i : Nat) : JobD := ⟨mtxt (qJ l k0 i), qJ l k0 i + 1, qJ l k0 i + 1 + 1, marks (qJ l k0 i + 1 + 1 + 1) (getJ l i).needs.length⟩
/-- jobs of which the first k are marked -/
def mixJ (l : List JobD) (k0 : Int) (k : Nat) : List JobD := (List.range l.length).map fun i => if i < k then mkJ l k0 i else getJ l i
theorem mixJ_len (l : List JobD) (k0 : Int) (k : Nat) : (mixJ l k0 k).length = l.length := by rw [mixJ, List.length_map, List.length_range]
theorem mixJ_get (l : List JobD) (k0 : Int) (k i : Nat) (h : i < l.length) : (mixJ l k0 k)[i]? = some (if i < k then mkJ l k0 i else getJ l i) := by
  rw [mixJ, List.getElem?_map, List.getElem?_range h]; rfl
theorem mixJ_zero (l : List JobD) (k0 : Int) : mixJ l k0 0 = l := by
  apply List.ext_getElem?
  intro i
  by_cases h : i < l.length
  · rw [mixJ_get l k0 0 i h, if_neg (Nat.not_lt_zero i), List.getElem?_eq_getElem h]
    unfold getJ
    rw [List.getElem?_eq_getElem h]
    rfl
  · rw [List.getElem?_eq_none (by rw [mixJ_len]; omega), List.getElem?_eq_none (by omega)]
theorem qJ_bd (l : List JobD) (k0 : Int) (M : Nat) (hM : ∀ (i : Nat) (d : JobD), l[i]? = some d → d.needs.length ≤ M) : ∀ k, k ≤ l.length → k0 ≤ qJ l k0 k ∧ qJ l k0 k ≤ k0 + (3 + (M : Int)) * (k : Int)
  | 0, _ => by simp [qJ]
  | k + 1, h => by
    have ih := qJ_bd l k0 M hM k (by omega)
    obtain ⟨d, hd⟩ := get_ex l k (by omega)
    have := hM k d hd
    simp only [qJ]
    rw [getJ_eq hd]
    have e : (3 + (M : Int)) * ((k + 1 : Nat) : Int) = (3 + (M : Int)) * (k : Int) + (3 + (M : Int)) := by rw [Int.natCast_succ, Int.mul_add, Int.mul_one]
    rw [e]
    omega

theorem JX.store {w : World} {lo hi g n c : Nat} {l : List JobD} {xs : List Value} {V : Nat → Value} (h : JX w lo hi (.slice (some ⟨g, 0, none⟩) n c) n l xs V) {k : Nat} {d : JobD} (hd : l[k]? = some d) (d' : JobD) (hm : d'.needs.length = d.needs.length) {W : World} {u0 u1 u2 : Value}
    (hW : W.ownsRow lo 93 4 (.slice (some ⟨g, 0, none⟩) n c) n (((xs.set (k * 4) (.string d'.name)).set (k * 4 + 1) (.int .i64 d'.days)).set (k * 4 + 2) (.int .i64 d'.cost))) (hg : w.grownBy W (some g))
    {w' : World} (hV : w'.ownsRow lo 2 1 (V k) d.needs.length (d'.needs.map (Value.int .i64))) (hg2 : W.grownBy w' (V k).ownBlock) :
    JX w' lo hi (.slice (some ⟨g, 0, none⟩) n c) n (l.set k d') (((xs.set (k * 4) (.string d'.name)).set (k * 4 + 1) (.int .i64 d'.days)).set (k * 4 + 2) (.int .i64 d'.cost)) V := by
  have hxl : xs.length = n * 4 := h.own.1
  have hkl : k < n := by rw [← h.len]; exact (List.getElem?_eq_some_iff.1 hd).1
  have jk := h.each k d hd
  have hs := hg.size
  have hs2 := hg2.size
  have hle := h.le
  have hown : w'.ownsRow lo 93 4 (.slice (some ⟨g, 0, none⟩) n c) n (((xs.set (k * 4) (.string d'.name)).set (k * 4 + 1) (.int .i64 d'.days)).set (k * 4 + 2) (.int .i64 d'.cost)) :=
    own_ne hW hg2 (fun q hq hc => by
      exact jk.ne q hc.symm hq)
  refine ⟨by omega, by rw [List.length_set]; exact h.len, hown, h.lt, h.mono, fun i di hi' => ?_⟩
  have hil := (List.getElem?_eq_some_iff.1 hi').1
  rw [List.length_set, h.len] at hil
  by_cases hik : i = k
  · subst hik
    rw [List.getElem?_set_self (by rw [h.len]; exact hil)] at hi'
    injection hi' with hi'
    subst hi'
    refine ⟨?_, ?_, ?_, ?_, by rw [hm]; exact hV, jk.lt, jk.ne⟩
    · rw [List.getElem?_set_ne (by omega), List.getElem?_set_ne (by omega), List.getElem?_set_self (by omega)]
    · rw [List.getElem?_set_ne (by omega), List.getElem?_set_self (by rw [List.length_set]; omega)]
    · rw [List.getElem?_set_self (by rw [List.length_set, List.length_set]; omega)]
    · rw [List.getElem?_set_ne (by omega), List.getElem?_set_ne (by omega), List.getElem?_set_ne (by omega)]; exact jk.x3
  · rw [List.getElem?_set_ne (by omega)] at hi'
    have j := h.each i di hi'
    refine ⟨?_, ?_, ?_, ?_, own_ne (own_ne j.own hg (fun q hq hc => j.ne q hq (by rw [hc]; rfl))) hg2 (fun q hq hc => ?_), j.lt, j.ne⟩
    · rw [List.getElem?_set_ne (by omega), List.getElem?_set_ne (by omega), List.getElem?_set_ne (by omega)]; exact j.x0
    · rw [List.getElem?_set_ne (by omega), List.getElem?_set_ne (by omega), List.getElem?_set_ne (by omega)]; exact j.x1
    · rw [List.getElem?_set_ne (by omega), List.getElem?_set_ne (by omega), List.getElem?_set_ne (by omega)]; exact j.x2
    · rw [List.getElem?_set_ne (by omega), List.getElem?_set_ne (by omega), List.getElem?_set_ne (by omega)]; exact j.x3
    · rcases Nat.lt_or_ge i k with h1 | h1
      · have := h.mono i k h1 hkl q q hq hc.symm; omega
      · have := h.mono k i (by omega) hil q q hc.symm hq; omega
theorem mixJ_succ (l : List JobD) (k0 : Int) (k : Nat) (h : k < l.length) : (mixJ l k0 k).set k (mkJ l k0 k) = mixJ l k0 (k + 1) := by
  apply List.ext_getElem?
  intro i
  by_cases hi : i < l.length
  · rw [List.getElem?_set, mixJ_get l k0 (k + 1) i hi]
    by_cases hik : k = i
    · subst hik
      rw [if_pos rfl, if_pos (by rw [mixJ_len]; exact hi), if_pos (by omega)]
    · rw [if_neg hik, mixJ_get l k0 k i hi]
      by_cases h2 : i < k
      · rw [if_pos h2, if_pos (by omega)]
      · rw [if_neg h2, if_neg (by omega)]
  · rw [List.getElem?_eq_none (by rw [List.length_set, mixJ_len]; omega), List.getElem?_eq_none (by rw [mixJ_len]; omega)]

set_option maxHeartbeats 4000000 in
theorem markJobS2_c (lo hi : Nat) (A : Option Addr) (n c : Nat) (l : List JobD) (k0 : Int) (w : World) (hm : n ≤ 1048576) (hk0 : 1 ≤ k0 ∧ k0 ≤ 1000) (hk : ∀ (i : Nat) (d : JobD), l[i]? = some d → d.needs.length ≤ 1048576)
    (hown : JOwnS w lo hi (.slice A n c) n l) : Calls Tryd.prog 42 #[.slice A n c, .int .i64 k0] w fun e w' => e = .returned (.int .i64 (qJ l k0 n)) ∧ JOwnS w' lo hi (.slice A n c) n (mixJ l k0 n) ∧ Outer lo hi w w' := by
  obtain ⟨hk1, hk2⟩ := hk0
  obtain ⟨xs0, V, hown⟩ := hown
  have HN := Lib.hid hown.len
  have HQB := Lib.hid (qJ_bd l k0 1048576 hk)
  have HK := Lib.hid hk; clear hk
  have HO0 := Lib.hid hown; clear hown
  go_enter Tryd.func42, Tryd.ntmps42
  go_wp2
  go_loopw [1, 5] (fun q i wr => ∃ (k : Nat), k ≤ n ∧ i = .int .i64 k ∧ q = .int .i64 (qJ l k0 k) ∧ Outer lo hi w wr ∧ ∃ xs, JX wr lo hi (.slice A n c) n (mixJ l k0 k) xs V) (fun _ i _ => n - (intOf i).toNat)
  case atStart => exact ⟨0, Nat.zero_le _, rfl, rfl, Outer.refl _ _ _, _, by rw [mixJ_zero]; exact HO0.out⟩
  case round =>
    clear HO0
    obtain ⟨k, hk, rfl, rfl, ho, xs, hj⟩ := hrel
    have hqb := HQB.out k (by rw [HN.out]; exact hk)
    have HO := Lib.hid ho; clear ho
    have HJ := Lib.hid hj; clear hj
    by_cases hlt : k < n
    · obtain ⟨d, hd⟩ := get_ex l k (by rw [HN.out]; omega)
      have hkd := HK.out k d hd
      have HMG := Lib.hid (show (mixJ l k0 k)[k]? = some d by rw [mixJ_get l k0 k k (by rw [HN.out]; exact hlt), if_neg (Nat.lt_irrefl k), getJ_eq hd])
      have HQS := Lib.hid (show qJ l k0 (k + 1) = qJ l k0 k + 1 + 1 + 1 + (d.needs.length : Int) by simp only [qJ]; rw [getJ_eq hd])
      have HMK := Lib.hid (show mkJ l k0 k = ⟨mtxt (qJ l k0 k), qJ l k0 k + 1, qJ l k0 k + 1 + 1, marks (qJ l k0 k + 1 + 1 + 1) d.needs.length⟩ by unfold mkJ; rw [getJ_eq hd])
      have HMS := Lib.hid (mixJ_succ l k0 k (by rw [HN.out]; exact hlt))
      have jk := HJ.out.each k d HMG.out
      obtain ⟨An, cn, hVk, _⟩ := own_form jk.own
      have x3 := jk.x3
      rw [hVk] at x3
      have HVK := Lib.hid hVk; clear hVk
      have HJK := Lib.hid jk; clear jk
      obtain ⟨g, rfl⟩ : ∃ g, A = some ⟨g, 0, none⟩ := by
        rcases HJ.out.own.2 with ⟨hv, h0⟩ | ⟨g, cap, cur, hv, _⟩
        · omega
        · exact ⟨g, by injection hv⟩
      have hxl : xs.length = n * 4 := HJ.out.own.1
      have hglo := (HJ.out.own.lt g rfl).1
      have hghi := HJ.out.lt g rfl
      generalize qJ l k0 k = a at *
      have HX3 := Lib.hid x3; clear x3
      have HL := Lib.hid hxl; clear hxl hd
      have p1 : (0 : Int) ≤ (k : Int) := by omega
      have p2 : (k : Int) < (n : Int) := by omega
      have r1 : 1 ≤ a := by omega
      have r2 : a ≤ 1200000000000 := by omega
      clear hqb
      go_wp2_with fail
      refine (markText_c a _ (by omega) (by omega)).mono ?_
      rintro e w1 ⟨rfl, hb1⟩
      have hj1 := HJ.out.below hb1 HJ.out.le
      have hx1 := hj1.own
      obtain ⟨z0, hz0⟩ : ∃ x, xs[k * 4]? = some x := ⟨_, List.getElem?_eq_getElem (by have := HL.out; omega)⟩
      obtain ⟨z1, hz1⟩ : ∃ x, xs[k * 4 + 1]? = some x := ⟨_, List.getElem?_eq_getElem (by have := HL.out; omega)⟩
      obtain ⟨z2, hz2⟩ : ∃ x, xs[k * 4 + 2]? = some x := ⟨_, List.getElem?_eq_getElem (by have := HL.out; omega)⟩
      have c0 : w1.cell? ⟨g, k * 4, none⟩ = some z0 := by rw [hx1.cellAt _ (by omega)]; exact hz0
      have c1 : w1.cell? ⟨g, k * 4 + 1, none⟩ = some z1 := by rw [hx1.cellAt _ (by omega)]; exact hz1
      have c2 : w1.cell? ⟨g, k * 4 + 2, none⟩ = some z2 := by rw [hx1.cellAt _ (by omega)]; exact hz2
      have c3 : w1.cell? ⟨g, k * 4 + 3, none⟩ = some (.slice An d.needs.length cn) := by rw [hx1.cellAt _ (by omega)]; exact HX3.out
      have f0 : w1.frozen? ⟨g, k * 4, none⟩ = false := hx1.frozenAt _
      have f1 : w1.frozen? ⟨g, k * 4 + 1, none⟩ = false := hx1.frozenAt _
      have f2 : w1.frozen? ⟨g, k * 4 + 2, none⟩ = false := hx1.frozenAt _
      have HJ1 := Lib.hid hj1; clear hj1
      have HX1 := Lib.hid hx1; clear hx1 hz0 hz1 hz2
      have ho1 : Outer lo hi w w1 := HO.out.trans (Outer.call hb1)
      have HO1 := Lib.hid ho1; clear ho1
      obtain ⟨m, hmm⟩ : ∃ m, d.needs.length = m := ⟨_, rfl⟩
      rw [hmm] at c3 hkd HQS HMK HVK
      have HM := Lib.hid hmm; clear hmm
      go_wp2_with fail
      refine gen_calls fun W hV => ?_
      have s0 := HX1.out.stored (k * 4) (.string (mtxt a))
      have s1 := s0.1.stored (k * 4 + 1) (.int .i64 (a + 1))
      have s2 := s1.1.stored (k * 4 + 2) (.int .i64 (a + 1 + 1))
      have hgs := (s0.2.trans s1.2).trans s2.2
      have hxv := s2.1
      rw [← hV.out] at hgs hxv
      have jk1 := HJ1.out.each k d HMG.out
      have hyv := own_ne jk1.own hgs (fun q hq hc => jk1.ne q hq (by rw [hc]; rfl))
      have HNE := Lib.hid jk1.ne
      have HVL := Lib.hid (fun q hq => And.intro (jk1.own.lt q hq).1 (jk1.lt q hq))
      rw [HVK.out, HM.out] at hyv
      have HGS := Lib.hid hgs; clear hgs s0 s1 s2
      have HXV := Lib.hid hxv; clear hxv
      clear hV c0 c1 c2 c3 f0 f1 f2 jk1
      refine (markInt64S_c An m cn (a + 1 + 1 + 1) _ lo W hkd (by omega) hyv).mono ?_
      rintro e w3 ⟨rfl, hy3, hg3⟩
      rw [← HVK.out] at hg3 hy3
      have hj3 := JX.store HJ1.out HMG.out (mkJ l k0 k) (by rw [HMK.out]; show (marks _ m).length = _; rw [marks_len, HM.out]) (u0 := undef) (u1 := undef) (u2 := undef) (by rw [HMK.out]; exact HXV.out) HGS.out (w' := w3) (by rw [HMK.out, HM.out]; exact hy3) hg3
      rw [HMS.out] at hj3
      have ho3 : Outer lo hi w w3 := (HO1.out.trans (Outer.grown HGS.out (fun q hq => by simp only [Option.some.injEq] at hq; omega))).trans (Outer.grown hg3 (fun q hq => HVL.out q hq))
      have HJ3 := Lib.hid hj3; clear hj3
      have HO3 := Lib.hid ho3; clear ho3 hy3 hg3
      go_wp2_with fail
      (first | (refine ⟨?_, ?_⟩; rotate_left; (first | (simp [intOf]; done) | (simp [intOf]; omega)); (repeat apply Exists.intro); refine ⟨?_, rfl⟩; exact ⟨k + 1, by omega, by go_num, by rw [HQS.out], HO3.out, _, HJ3.out⟩) | exact ⟨⟨k + 1, by omega, by go_num, by rw [HQS.out], HO3.out, _, HJ3.out⟩, by first | (simp [intOf]; done) | (simp [intOf]; omega)⟩)
    · obtain rfl : k = n := by omega
      go_wp2_with fail
      go_ret
      exact ⟨rfl, ⟨_, _, HJ.out⟩, HO.out⟩

set_option maxHeartbeats 4000000 in
theorem heldJobS2_c (A : Option Addr) (n c : Nat) (l : List JobD) (k0 : Int) (w : World) (hm : n ≤ 1048576) (hk0 : 1 ≤ k0 ∧ k0 ≤ 1000) (hk : ∀ (i : Nat) (d : JobD), l[i]? = some d → d.needs.length ≤ 1048576) (hn : l.length = n)
    (hr : JRd w w.heap.size A (mixJ l k0 n)) : Calls Tryd.prog 43 #[.slice A n c, .int .i64 k0] w fun e w' => e = .returned (.int .i64 (qJ l k0 n)) ∧ Below w.heap.size w w' := by
  obtain ⟨hk1, hk2⟩ := hk0
  have HN := Lib.hid hn; clear hn
  have HQB := Lib.hid (qJ_bd l k0 1048576 hk)
  have HK := Lib.hid hk; clear hk
  go_enter Tryd.func43, Tryd.ntmps43
  go_wp2
  go_loopw [1, 5] (fun q i wr => ∃ k : Nat, k ≤ n ∧ i = .int .i64 k ∧ q = .int .i64 (qJ l k0 k) ∧ Below w.heap.size w wr) (fun _ i _ => n - (intOf i).toNat)
  case atStart => exact ⟨0, Nat.zero_le _, rfl, rfl, Below.refl _ _⟩
  case round =>
    obtain ⟨k, hk, rfl, rfl, hb⟩ := hrel
    have hbs := hb.size
    have hqb := HQB.out k (by rw [HN.out]; exact hk)
    by_cases hlt : k < n
    · obtain ⟨b, off, rfl, hbl, hc⟩ := (hr.below hb) (by rw [mixJ_len, HN.out]; omega)
      obtain ⟨d, hd⟩ := get_ex l k (by rw [HN.out]; omega)
      have hkd := HK.out k d hd
      obtain ⟨g0, g1, g2, An, cn, g3, g4⟩ := hc k _ (mixJ_get l k0 n k (by rw [HN.out]; exact hlt))
      rw [if_pos hlt] at g0 g1 g2 g3 g4
      unfold mkJ at g0 g1 g2 g3 g4
      rw [getJ_eq hd] at g3 g4
      dsimp only at g0 g1 g2 g3 g4
      rw [marks_len] at g3
      have HQS := Lib.hid (show qJ l k0 (k + 1) = qJ l k0 k + 1 + 1 + 1 + (d.needs.length : Int) by simp only [qJ]; rw [getJ_eq hd])
      generalize qJ l k0 k = q at *
      have qb1 : 1 ≤ q := by omega
      have qb2 : q ≤ 1200000000000 := by omega
      have HG4 := Lib.hid (g4.mono hbs); clear g4
      obtain ⟨m, hmm⟩ : ∃ m, d.needs.length = m := ⟨_, rfl⟩
      rw [hmm] at g3 hkd HQS HG4
      clear hqb hc hd hmm
      have hbl' : b < wr.heap.size := by omega
      have p1 : (0 : Int) ≤ (k : Int) := by omega
      have p2 : (k : Int) < (n : Int) := by omega
      go_wp2_with fail
      (refine wp_region_quiet_below (by kernel_rfl) (by kernel_rfl) ?_; (repeat (go_big_quiet_step (first | ((go_at_call 47; exact rg_of (fun w' hb => markText_c (q) w' (by omega) (by omega))))))); refine wpQuiet_nil ?_; refine qg_end ?_; intro wq hbq)
      obtain ⟨v0, rfl⟩ : ∃ W : World, W = wq := ⟨_, rfl⟩
      have hbs0 := hbq.size
      rw [← hbq.cell (p := ⟨b, off + k * 4 + 1, none⟩) (by first | exact hbl' | (simp only; omega))] at g1
      rw [← hbq.cell (p := ⟨b, off + k * 4 + 2, none⟩) (by first | exact hbl' | (simp only; omega))] at g2
      rw [← hbq.cell (p := ⟨b, off + k * 4 + 3, none⟩) (by first | exact hbl' | (simp only; omega))] at g3
      have hbl0 : b < v0.heap.size := by omega
      have hrd := HG4.out.below hbq
      have hbw0 : Below w.heap.size w v0 := hb.trans (hbq.mono hbs)
      have HRD := Lib.hid hrd
      clear hbq hrd g0
      go_wp2_with fail
      refine (heldInt64S_c An m cn (q + 1 + 1 + 1) _ v0 hkd (by omega) HRD.out).mono ?_
      rintro e w5 ⟨rfl, rfl⟩
      go_wp2_with fail
      (first | (refine ⟨?_, ?_⟩; rotate_left; (first | (simp [intOf]; done) | (simp [intOf]; omega)); (repeat apply Exists.intro); refine ⟨?_, rfl⟩; exact ⟨k + 1, by omega, by go_num, by rw [HQS.out], hbw0⟩) | exact ⟨⟨k + 1, by omega, by go_num, by rw [HQS.out], hbw0⟩, by first | (simp [intOf]; done) | (simp [intOf]; omega)⟩)
    · obtain rfl : k = n := by omega
      go_wp2
      go_ret
      exact ⟨rfl, hb⟩
end Go.Proofs.YtaebofpgdonnbaaDoor
