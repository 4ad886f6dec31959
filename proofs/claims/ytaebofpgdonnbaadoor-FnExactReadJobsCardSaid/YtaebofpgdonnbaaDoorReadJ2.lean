/- Contracts: a job's line read by the reference. -/
import Derived.Test.YtaebofpgdonnbaaDoorReadJ1
set_option linter.unusedVariables false
set_option linter.unusedSimpArgs false
namespace Go.Proofs.YtaebofpgdonnbaaDoor
open Go.RowKit

/-- the job of a line behind others, and whether the line has its form -/
def lineJ (out : List JobD) (ln : ByteArray) : JobD × Bool := if 3 ≤ (splL ln 32).length then (jobW out (splL ln 32), okW (splL ln 32)) else (⟨ByteArray.empty, 0, 0, []⟩, false)
theorem lineJ_no {out : List JobD} {ln : ByteArray} (h : ¬ 3 ≤ (splL ln 32).length) : lineJ out ln = (⟨ByteArray.empty, 0, 0, []⟩, false) := by unfold lineJ; rw [if_neg h]
theorem lineJ_at {out : List JobD} {ln x0 x1 x2 : ByteArray} {r : List ByteArray} (h : splL ln 32 = x0 :: x1 :: x2 :: r) : lineJ out ln = (⟨x0, (rdec x1).1, (rdec x2).1, needsR out r⟩, (rdec x1).2 && (rdec x2).2) := by
  unfold lineJ
  rw [h, if_pos (by simp)]
  rfl
theorem parseS_line (ln : ByteArray) (r : List ByteArray) (out : List JobD) : parseS (ln :: r) out = if (lineJ out ln).2 = true then parseS r (out ++ [(lineJ out ln).1]) else none := by
  conv => lhs; unfold parseS
  unfold lineJ
  by_cases h : 3 ≤ (splL ln 32).length
  · rw [if_pos h]
    by_cases h2 : okW (splL ln 32) = true
    · rw [if_pos ⟨h, h2⟩, if_pos h2]
    · rw [if_neg (fun h' => h2 h'.2), if_neg h2]
  · rw [if_neg h, if_neg (fun h' => h h'.1)]
    rfl
theorem lineJ_okN (out : List JobD) {ln : ByteArray} (hs : ln.size ≤ 1048575) : okN (lineJ out ln).1 := by
  by_cases h : 3 ≤ (splL ln 32).length
  · obtain ⟨x0, x1, x2, r, hX⟩ := list3p h
    have h1 := splL_size ln 32 x0 (by rw [hX]; simp)
    have h2 := (splL_len ln 32).2
    rw [lineJ_at hX]
    rw [hX] at h2
    simp at h2
    exact ⟨by show x0.size ≤ _; omega, by show (needsR out r).length ≤ _; rw [needsR_len]; omega⟩
  · rw [lineJ_no h]
    exact ⟨Nat.zero_le _, Nat.zero_le _⟩

set_option maxRecDepth 100000 in
set_option maxHeartbeats 8000000 in
theorem l22Line_c (oA : Option Addr) (n oc : Nat) (out : List JobD) (ln : ByteArray) (w : World) (hn : out.length = n) (hm : n ≤ 1048576) (hr : JRd w w.heap.size oA out) (hs : ln.size ≤ 1048576) :
    Calls Tryd.prog 77 #[.slice oA n oc, .string ln] w fun e w' => ∃ (U : Option Addr) (C : Nat), e = .returned (.tuple #[jagg (lineJ out ln).1 U C, .bool (lineJ out ln).2]) ∧ w'.ownsRow w.heap.size 2 1 (.slice U (lineJ out ln).1.needs.length C) (lineJ out ln).1.needs.length ((lineJ out ln).1.needs.map (Value.int .i64)) ∧ Below w.heap.size w w' := by
  obtain ⟨ii, hii, hyi0, hyi1, hyi2⟩ := info_parts info_i64
  have HN := Lib.hid hn; clear hn
  have HR := Lib.hid hr; clear hr
  have HWS := Lib.hid (splL_size ln 32)
  have HWL := Lib.hid (splL_len ln 32)
  go_enter Tryd.func77, Tryd.ntmps77
  go_wp2_with fail
  refine gen_calls fun W0 hW0 => ?_
  have hb0 : Below w.heap.size w W0 := by rw [hW0.out]; (repeat' (first | (with_reducible exact Below.refl _ _) | (with_reducible assumption) | (with_reducible refine below_drewN ?_ _) | (with_reducible refine Below.drew ?_) | (with_reducible refine Below.alloc ?_ ?_ _) | (with_reducible refine Below.setCell ?_ ?_ _) | (with_reducible refine via (by with_reducible assumption) ?_ ?_) | go_size))
  have hR0 : w.heap.size < W0.heap.size := by rw [hW0.out]; simp [go_sem]
  have k0 : W0.cell? ⟨w.heap.size, 0, none⟩ = some (.string ByteArray.empty) := by rw [hW0.out]; simp [go_sem]; rfl
  have k1 : W0.cell? ⟨w.heap.size, 1, none⟩ = some (.int .i64 0) := by rw [hW0.out]; simp [go_sem]
  have k2 : W0.cell? ⟨w.heap.size, 2, none⟩ = some (.int .i64 0) := by rw [hW0.out]; simp [go_sem]
  have k3 : W0.cell? ⟨w.heap.size, 3, none⟩ = some (.slice none 0 0) := by rw [hW0.out]; simp [go_sem]
  have HK : Hid (∀ w', Below W0.heap.size W0 w' → w'.cell? ⟨w.heap.size, 0, none⟩ = some (.string ByteArray.empty) ∧ w'.cell? ⟨w.heap.size, 1, none⟩ = some (.int .i64 0) ∧ w'.cell? ⟨w.heap.size, 2, none⟩ = some (.int .i64 0) ∧ w'.cell? ⟨w.heap.size, 3, none⟩ = some (.slice none 0 0)) :=
    Lib.hid fun w' hb' => ⟨((bcell hb').1 _ _ hR0).trans k0, ((bcell hb').1 _ _ hR0).trans k1, ((bcell hb').1 _ _ hR0).trans k2, ((bcell hb').1 _ _ hR0).trans k3⟩
  have HF0 : Hid (∀ w', Below W0.heap.size W0 w' → ∀ o, w'.frozen? ⟨w.heap.size, o, none⟩ = false) :=
    Lib.hid fun w' hb' o => ((bcell hb').2 _ _ hR0).trans (by rw [hW0.out]; simp [go_sem])
  clear hW0 k0 k1 k2 k3
  have hs0 := hb0.size
  refine (l01Split_c ln 32 W0 hs).mono ?_
  rintro e w1 ⟨v, rfl, hown, hb1⟩
  have hb01 : Below w.heap.size w w1 := hb0.trans (hb1.mono hs0)
  have hs1 := hb1.size
  by_cases hL : 3 ≤ (splL ln 32).length
  rotate_left
  · have HE := Lib.hid (lineJ_no (out := out) hL)
    obtain ⟨A9, c9, rfl, _⟩ := own_form hown
    have q1 : ((splL ln 32).length : Int) < 3 := by omega
    have q2 : (splL ln 32).length < 3 := by omega
    obtain ⟨k0, k1, k2, k3⟩ := HK.out w1 hb1
    have hf := HF0.out w1 hb1
    have f0 := hf 0
    have f1 := hf 1
    have f2 := hf 2
    have f3 := hf 3
    clear hf hown hL
    generalize (splL ln 32).length = kk at *
    have hR1 := far (Nat.lt_of_lt_of_le hR0 hs1)
    go_wp2_with fail
    refine bodyPost_ret (v := .tuple #[jagg ⟨ByteArray.empty, 0, 0, []⟩ none 0, .bool false]) (by simp only [results, Tryd.results77, jagg]; go_simp; rfl) rfl ⟨none, 0, by rw [HE.out], by rw [HE.out]; exact World.ownsRow_nil _ _ _ _, by (repeat' (first | (with_reducible exact Below.refl _ _) | (with_reducible assumption) | (with_reducible refine below_drewN ?_ _) | (with_reducible refine Below.drew ?_) | (with_reducible refine Below.alloc ?_ ?_ _) | (with_reducible refine Below.setCell ?_ ?_ _) | (with_reducible refine via (by with_reducible assumption) ?_ ?_) | go_size))⟩
  obtain ⟨q, hq⟩ : ∃ q, (splL ln 32).length = q + 3 := ⟨(splL ln 32).length - 3, by omega⟩
  have hqm : q ≤ 1048576 := by have := HWL.out.2; omega
  obtain ⟨g, cap, rfl, hcap, hgB, hgl, hcell⟩ := words_in2 hown (n := q + 2) hq
  obtain ⟨x0, x1, x2, r, hX⟩ := list3p hL
  rw [hX] at hcell hown hq
  have HRL := Lib.hid (show r.length = q by simp at hq; exact hq)
  have f0 := hcell 0 x0 rfl
  have f1 := hcell 1 x1 rfl
  have f2 := hcell 2 x2 rfl
  have HFR := Lib.hid (fun i x (hx : r[i]? = some x) => hcell (i + 3) x hx)
  have s0 := HWS.out x0 (by rw [hX]; simp)
  have s1 := HWS.out x1 (by rw [hX]; simp)
  have s2 := HWS.out x2 (by rw [hX]; simp)
  rcases ha : rdec x1 with ⟨a, oa⟩
  rcases hbq : rdec x2 with ⟨b2, ob⟩
  have HE := Lib.hid (show lineJ out ln = (⟨x0, a, b2, needsR out r⟩, oa && ob) by rw [lineJ_at hX, ha, hbq])
  have HA := Lib.hid (fun w' => ha ▸ l01Number_c x1 w' (by unfold maxLen; omega))
  have HB := Lib.hid (fun w' => hbq ▸ l01Number_c x2 w' (by unfold maxLen; omega))
  clear ha hbq hcell hown hL HWS hq HWL hX
  rw [show q + 2 + 1 = q + 3 by omega]
  have t1 : ¬ ((q + 3 : Nat) : Int) < 3 := by omega
  have t2 : ¬ q + 3 < 3 := by omega
  have t3 : (1 : Int) < ((q + 3 : Nat) : Int) := by omega
  have t4 : 1 < q + 3 := by omega
  have t5 : (2 : Int) < ((q + 3 : Nat) : Int) := by omega
  have t6 : 2 < q + 3 := by omega
  have t7 : (0 : Int) < ((q + 3 : Nat) : Int) := by omega
  have t8 : 0 < q + 3 := by omega
  go_wp2_with fail
  refine (HA.out _).mono ?_
  rintro e w4 ⟨rfl, hb4⟩
  obtain ⟨hc, _⟩ := bcell hb4
  have HFR4 := Lib.hid (fun i x hx => (hc g (i + 3) hgl).trans (HFR.out i x hx))
  rw [← hc _ _ hgl] at f0 f1 f2
  have hg4 : g < w4.heap.size := Nat.lt_of_lt_of_le hgl hb4.size
  have hbw4 : Below w.heap.size w w4 := hb01.trans (hb4.mono hb01.size)
  have hbb4 : Below W0.heap.size W0 w4 := hb1.trans (hb4.mono hs1)
  clear hc HFR hb4
  go_wp2_with fail
  refine (HB.out _).mono ?_
  rintro e w5 ⟨rfl, hb5⟩
  obtain ⟨hc, _⟩ := bcell hb5
  have HFR5 := Lib.hid (fun i x hx => (hc g (i + 3) hg4).trans (HFR4.out i x hx))
  rw [← hc _ _ hg4] at f0 f1 f2
  have hg5 : g < w5.heap.size := Nat.lt_of_lt_of_le hg4 hb5.size
  have hbw5 : Below w.heap.size w w5 := hbw4.trans (hb5.mono hbw4.size)
  have hbb5 : Below W0.heap.size W0 w5 := hbb4.trans (hb5.mono hbb4.size)
  clear hc hb5 hbw4 hbb4 hg4 hgl HFR4 hb1 hb01 hs1 hb0
  have hfg := far hg5
  have hsw5 := hbw5.size
  have hsb5 := hbb5.size
  go_wp2_with fail
  go_loopw [12] (fun x wi => ∃ (m : Nat) (U : Value), m ≤ q ∧ x = .int .i64 ((m : Int) + 3) ∧ wi.cell? ⟨w5.heap.size, 0, none⟩ = some (.string x0) ∧ wi.cell? ⟨w5.heap.size, 1, none⟩ = some (.int .i64 a) ∧ wi.cell? ⟨w5.heap.size, 2, none⟩ = some (.int .i64 b2) ∧ wi.cell? ⟨w5.heap.size, 3, none⟩ = some U ∧ (∀ o, wi.frozen? ⟨w5.heap.size, o, none⟩ = false) ∧ w5.heap.size < wi.heap.size ∧ Below w5.heap.size w5 wi ∧ wi.ownsRow w5.heap.size 2 1 U m ((needsR out (r.take m)).map (Value.int .i64)) ∧ ∀ p, U.ownBlock = some p → w5.heap.size < p) (fun x _ => q + 3 - (intOf x).toNat)
  case atStart => exact ⟨0, .slice none 0 0, Nat.zero_le _, rfl, by simp [go_sem], by simp [go_sem], by simp [go_sem], by simp [go_sem], fun o => by simp [go_sem], by simp [go_sem], by (repeat' (first | (with_reducible exact Below.refl _ _) | (with_reducible assumption) | (with_reducible refine below_drewN ?_ _) | (with_reducible refine Below.drew ?_) | (with_reducible refine Below.alloc ?_ ?_ _) | (with_reducible refine Below.setCell ?_ ?_ _) | (with_reducible refine via (by with_reducible assumption) ?_ ?_) | go_size)), World.ownsRow_nil _ _ _ _, fun p hp => by cases hp⟩
  case round =>
    obtain ⟨m, U, hm', rfl, c0, c1, c2, c3, hfz, hlt3, hb6, hU, hUlt⟩ := hrel
    obtain ⟨wk, rfl⟩ : ∃ w' : World, w' = wr := ⟨_, rfl⟩
    obtain ⟨Un, Uc, rfl, _⟩ := own_form hU
    have HFZ := Lib.hid hfz; clear hfz
    have HU := Lib.hid hU; clear hU
    have HUL := Lib.hid hUlt; clear hUlt
    have hb6s := hb6.size
    have hbw6 : Below w.heap.size w wk := hbw5.trans (hb6.mono hsw5)
    have hbb6 : Below W0.heap.size W0 wk := hbb5.trans (hb6.mono hsb5)
    have hg6 := Nat.lt_of_lt_of_le hg5 hb6s
    have hfg6 := far hg6
    have hfx6 := far hlt3
    clear f0 f1 f2
    by_cases hmq : m < q
    · obtain ⟨x, hx⟩ := get_ex r m (by rw [HRL.out]; exact hmq)
      have e2 := ((bcell hb6).1 g (m + 3) hg5).trans (HFR5.out m x hx)
      have HND := Lib.hid (needsR_snoc out r m x hx)
      rw [HN.out] at HND
      clear hx
      have u1 : (m : Int) + 3 < ((q + 3 : Nat) : Int) := by omega
      have u2 : (0 : Int) ≤ (m : Int) + 3 := by omega
      have u3 : (m : Int) + 3 < (q : Int) + 3 := by omega
      have u4 : ((m : Int) + 3).toNat = m + 3 := by omega
      go_wp2_with fail
      go_loopw [13, 14] (fun p j wi => ∃ (i : Nat), i ≤ n ∧ j = .int .i64 i ∧ p = .int .i64 (lastJ out x i) ∧ Below wk.heap.size wk wi) (fun _ j _ => n - (intOf j).toNat)
      case atStart => exact ⟨0, Nat.zero_le _, rfl, rfl, Below.refl _ _⟩
      case round =>
        obtain ⟨i, hi, rfl, rfl, hb7⟩ := hrel
        have hb7s := hb7.size
        have hg7 := Nat.lt_of_lt_of_le hg6 hb7s
        have e3 := ((bcell hb7).1 g (m + 3) hg6).trans e2
        have hfg7 := far hg7
        have hl7 := Nat.lt_of_lt_of_le hlt3 hb7s
        by_cases hin : i < n
        · obtain ⟨bo, oo, rfl, hbo, hco⟩ := (HR.out.below (hbw6.trans (hb7.mono hbw6.size))) (by rw [HN.out]; omega)
          obtain ⟨d, hd⟩ := get_ex out i (by rw [HN.out]; omega)
          have d0 := (hco i d hd).1
          have HG := Lib.hid (getJ_eq hd)
          have hfo := far (show bo < wr.heap.size by omega)
          have v1 : (0 : Int) ≤ (i : Int) := by omega
          have v2 : (i : Int) < (n : Int) := by omega
          clear hco hd
          cases hq : (d.name.toList == x.toList)
          · have HLP := Lib.hid (show lastJ out x (i + 1) = lastJ out x i by simp only [lastJ]; rw [HG.out, hq]; rfl)
            go_wp2_with fail
            (refine wp_region_quiet_below (by kernel_rfl) (by kernel_rfl) ?_; (repeat (go_big_quiet_step (first | fail))); refine wpQuiet_nil ?_; refine qg_end ?_; intro wq hbq)
            go_wp2_with fail
            (first | (refine ⟨?_, ?_⟩; rotate_left; (first | (simp [intOf]; done) | (simp [intOf]; omega)); (repeat apply Exists.intro); refine ⟨?_, rfl⟩; exact ⟨i + 1, by omega, by go_num, by rw [HLP.out], hb7.trans (hbq.mono hb7s)⟩) | exact ⟨⟨i + 1, by omega, by go_num, by rw [HLP.out], hb7.trans (hbq.mono hb7s)⟩, by first | (simp [intOf]; done) | (simp [intOf]; omega)⟩)
          · have HLP := Lib.hid (show lastJ out x (i + 1) = (i : Int) by simp only [lastJ]; rw [HG.out, hq]; rfl)
            have q5 : d.name.toList = x.toList := eq_of_beq hq
            go_wp2_with fail
            (refine wp_region_quiet_below (by kernel_rfl) (by kernel_rfl) ?_; (repeat (go_big_quiet_step (first | fail))); refine wpQuiet_nil ?_; refine qg_end ?_; intro wq hbq)
            go_wp2_with fail
            (first | (refine ⟨?_, ?_⟩; rotate_left; (first | (simp [intOf]; done) | (simp [intOf]; omega)); (repeat apply Exists.intro); refine ⟨?_, rfl⟩; exact ⟨i + 1, by omega, by go_num, by rw [HLP.out], hb7.trans (hbq.mono hb7s)⟩) | exact ⟨⟨i + 1, by omega, by go_num, by rw [HLP.out], hb7.trans (hbq.mono hb7s)⟩, by first | (simp [intOf]; done) | (simp [intOf]; omega)⟩)
        · obtain rfl : i = n := by omega
          have hlb := lastJ_bd out x i
          generalize lastJ out x i = pl at *
          obtain ⟨hc7, hf7⟩ := bcell hb7
          rw [← hc7 _ _ hlt3] at c0 c1 c2 c3
          have HFZ7 := Lib.hid (fun o => (hf7 w5.heap.size o hlt3).trans (HFZ.out o))
          have HU7 := Lib.hid (own_call HU.out hb7)
          have hb57 : Below w5.heap.size w5 wr := hb6.trans (hb7.mono hb6s)
          have hfx7 := far hl7
          clear hc7 hf7 e2
          go_wp2_with (at_builtin; refine app_list (W := w5) (news := [.int .i64 pl]) (z := .int .i64 0) (.tmp 65) (.tmp 67) rfl rfl Tryd.underlying29 hii hyi0 hyi1 hyi2 rfl (by decide) (by decide) rfl (HU7.out.alloc _) rfl rfl (news1 (by simp [go_sem])) (by simp [Value.oneCell']) (by omega) (by (repeat' (first | (with_reducible exact Below.refl _ _) | (with_reducible assumption) | (with_reducible refine below_drewN ?_ _) | (with_reducible refine Below.drew ?_) | (with_reducible refine Below.alloc ?_ ?_ _) | (with_reducible refine Below.setCell ?_ ?_ _) | (with_reducible refine via (by with_reducible assumption) ?_ ?_) | go_size))) (Nat.le_refl _) ?_; intro v1 w2 hown1 hg1 hblk1 hb2; obtain ⟨U1, C1, rfl, _⟩ := own_form hown1; obtain ⟨hk1, hk2, hk3⟩ := keepJ hg1 hl7 (fun p hp he => by have := HUL.out p hp; omega); have z3 := (hk2 3).trans (HFZ7.out 3); have d3 := (hk1 3).trans c3; have HK1 := Lib.hid hk1; have HK2 := Lib.hid hk2; have HO1 := Lib.hid hown1; have HB1 := Lib.hid hblk1; clear hk1 hk2 hown1 hg1 hblk1)
          have HUL1 := Lib.hid (show ∀ p, (Value.slice U1 (m + 1) C1).ownBlock = some p → w5.heap.size < p from fun p hp => by
            rcases HB1.out with h | h
            · rw [h] at hp; exact HUL.out p hp
            · rw [h] at hp
              injection hp with hp
              simp [go_sem] at hp
              omega)
          have ne : ∀ o', 3 ≠ o' → (⟨w5.heap.size, 3, none⟩ : Addr) ≠ ⟨w5.heap.size, o', none⟩ := fun o' h e => h (by injection e)
          (first | (refine ⟨?_, ?_⟩; rotate_left; (first | (simp [intOf]; done) | (simp [intOf]; omega)); (repeat apply Exists.intro); refine ⟨?_, rfl⟩; exact ⟨m + 1, .slice U1 (m + 1) C1, by omega, by go_num, by rw [World.cell?_setCell_other (h := ne 0 (by decide)), HK1.out]; exact c0, by rw [World.cell?_setCell_other (h := ne 1 (by decide)), HK1.out]; exact c1, by rw [World.cell?_setCell_other (h := ne 2 (by decide)), HK1.out]; exact c2, by rw [World.cell?_setCell_same (h := d3)], fun o => by rw [World.frozen?_setCell, HK2.out]; exact HFZ7.out o, by simp only [World.size_setCell]; exact hk3, hb2.setCell (Nat.le_refl _) _, by rw [HND.out, List.map_append]; exact own_ne HO1.out (grown_set w2 w5.heap.size 3 _) (fun p hp hc => by have := HUL1.out p hp; simp only [Option.some.injEq] at hc; omega), HUL1.out⟩) | exact ⟨⟨m + 1, .slice U1 (m + 1) C1, by omega, by go_num, by rw [World.cell?_setCell_other (h := ne 0 (by decide)), HK1.out]; exact c0, by rw [World.cell?_setCell_other (h := ne 1 (by decide)), HK1.out]; exact c1, by rw [World.cell?_setCell_other (h := ne 2 (by decide)), HK1.out]; exact c2, by rw [World.cell?_setCell_same (h := d3)], fun o => by rw [World.frozen?_setCell, HK2.out]; exact HFZ7.out o, by simp only [World.size_setCell]; exact hk3, hb2.setCell (Nat.le_refl _) _, by rw [HND.out, List.map_append]; exact own_ne HO1.out (grown_set w2 w5.heap.size 3 _) (fun p hp hc => by have := HUL1.out p hp; simp only [Option.some.injEq] at hc; omega), HUL1.out⟩, by first | (simp [intOf]; done) | (simp [intOf]; omega)⟩)
    · obtain rfl : m = q := by omega
      have htk : r.take m = r := List.take_of_length_le (by rw [HRL.out]; exact Nat.le_refl _)
      have HNL := Lib.hid (show (needsR out r).length = m by rw [needsR_len, HRL.out])
      have hU2 := HU.out
      rw [htk] at hU2
      have HU2 := Lib.hid hU2
      clear htk hU2 HU
      obtain ⟨k0, k1, k2, k3⟩ := HK.out wk hbb6
      have hf := HF0.out wk hbb6
      have f0 := hf 0
      have f1 := hf 1
      have f2 := hf 2
      have f3 := hf 3
      have hRk := far (show w.heap.size < wk.heap.size by omega)
      have hR5 : ¬ w5.heap.size = w.heap.size := by omega
      have hR5' : ¬ w.heap.size = w5.heap.size := by omega
      have z5 := HFZ.out 0
      clear hf
      have HUF : Hid (∀ W, World.grownBy wk W (some w.heap.size) → W.ownsRow w.heap.size 2 1 (.slice Un m Uc) m ((needsR out r).map (Value.int .i64))) := Lib.hid fun W hW => Go.Joins.ownsRow_le (own_ne HU2.out hW (fun p hp hc => by have := HUL.out p hp; simp only [Option.some.injEq] at hc; omega)) hsw5
      cases oa
      · go_wp2_with fail
        refine bodyPost_ret (v := .tuple #[jagg ⟨x0, a, b2, needsR out r⟩ Un Uc, .bool false]) (by simp only [results, Tryd.results77, jagg, HNL.out]; go_simp) rfl ⟨Un, Uc, by rw [HE.out]; rfl, by rw [HE.out]; simp only [HNL.out]; exact HUF.out _ (by first | exact grown_set _ _ _ _ | exact ((((grown_set _ _ _ _).trans (grown_set _ _ _ _)).trans (grown_set _ _ _ _)).trans (grown_set _ _ _ _))), by (repeat' (first | (with_reducible exact Below.refl _ _) | (with_reducible assumption) | (with_reducible refine below_drewN ?_ _) | (with_reducible refine Below.drew ?_) | (with_reducible refine Below.alloc ?_ ?_ _) | (with_reducible refine Below.setCell ?_ ?_ _) | (with_reducible refine via (by with_reducible assumption) ?_ ?_) | go_size))⟩
      cases ob
      · go_wp2_with fail
        refine bodyPost_ret (v := .tuple #[jagg ⟨x0, a, b2, needsR out r⟩ Un Uc, .bool false]) (by simp only [results, Tryd.results77, jagg, HNL.out]; go_simp) rfl ⟨Un, Uc, by rw [HE.out]; rfl, by rw [HE.out]; simp only [HNL.out]; exact HUF.out _ (by first | exact grown_set _ _ _ _ | exact ((((grown_set _ _ _ _).trans (grown_set _ _ _ _)).trans (grown_set _ _ _ _)).trans (grown_set _ _ _ _))), by (repeat' (first | (with_reducible exact Below.refl _ _) | (with_reducible assumption) | (with_reducible refine below_drewN ?_ _) | (with_reducible refine Below.drew ?_) | (with_reducible refine Below.alloc ?_ ?_ _) | (with_reducible refine Below.setCell ?_ ?_ _) | (with_reducible refine via (by with_reducible assumption) ?_ ?_) | go_size))⟩
      · go_wp2_with fail
        refine bodyPost_ret (v := .tuple #[jagg ⟨x0, a, b2, needsR out r⟩ Un Uc, .bool true]) (by simp only [results, Tryd.results77, jagg, HNL.out]; go_simp) rfl ⟨Un, Uc, by rw [HE.out]; rfl, by rw [HE.out]; simp only [HNL.out]; exact HUF.out _ (by first | exact grown_set _ _ _ _ | exact ((((grown_set _ _ _ _).trans (grown_set _ _ _ _)).trans (grown_set _ _ _ _)).trans (grown_set _ _ _ _))), by (repeat' (first | (with_reducible exact Below.refl _ _) | (with_reducible assumption) | (with_reducible refine below_drewN ?_ _) | (with_reducible refine Below.drew ?_) | (with_reducible refine Below.alloc ?_ ?_ _) | (with_reducible refine Below.setCell ?_ ?_ _) | (with_reducible refine via (by with_reducible assumption) ?_ ?_) | go_size))⟩
end Go.Proofs.YtaebofpgdonnbaaDoor
