/- Contracts: reading a fraction, both sides. -/
import Derived.Test.YtphckllloiogjaaDoorRFrac
set_option linter.unusedVariables false
set_option linter.unusedSimpArgs false
namespace Go.Proofs.YtphckllloiogjaaDoor
open Go.RowKit

theorem rf1_no (n : Int) : rf1 (n, false) = ((0, 0), false) := if_neg (by simp)
theorem rf1_yes {n : Int} (h : plainB n 1 = true) : rf1 (n, true) = ((n, 1), true) := if_pos ⟨rfl, h⟩
theorem rf1_bad {n : Int} (h : ¬ plainB n 1 = true) : rf1 (n, true) = ((0, 0), false) := if_neg (fun hc => h hc.2)
theorem rf2_no (n : Int) (b : Int × Bool) : rf2 (n, false) b = ((0, 0), false) := if_neg (by simp)
theorem rf2_no2 (a : Int × Bool) (m : Int) : rf2 a (m, false) = ((0, 0), false) := if_neg (by simp)
theorem rf2_yes {n m : Int} (h : 1 < m ∧ plainB n m = true) : rf2 (n, true) (m, true) = ((n, m), true) := if_pos ⟨rfl, rfl, h⟩
theorem rf2_bad {n m : Int} (h : ¬ (1 < m ∧ plainB n m = true)) : rf2 (n, true) (m, true) = ((0, 0), false) := if_neg (fun hc => h hc.2.2)
theorem ret_fr {p : Int × Int} {q : Bool} {r : (Int × Int) × Bool} (h : r = (p, q)) : Ending.returned (.tuple #[.agg #[.int .i64 p.1, .int .i64 p.2], .bool q]) = .returned (.tuple #[fr r.1, .bool r.2]) := by rw [h]; rfl

set_option maxHeartbeats 2000000 in
theorem ReadFractionI_no (s : ByteArray) (h : ∀ j, j < s.size → ¬ byteAt s j = 47) (w : World) (hs : s.size ≤ 1048576) (ht : Tab w) :
    Calls Tryd.prog 9 #[.string s] w fun e w' => e = .returned (.tuple #[fr (rf1 (rdec s)).1, .bool (rf1 (rdec s)).2]) ∧ Below w.heap.size w w' := by
  have HT := Lib.hid ht; clear ht
  have H := Lib.hid h; clear h
  have hba := rdec_bd s
  have hsa : s.size ≤ maxLen := by unfold maxLen; omega
  have HX := Lib.hid (show ∀ a : Int, rdec s = (a, true) → (ftx (a, 1) = s ↔ plainB a 1 = true) from fun a h1 => text_one h1)
  have HC := Lib.hid (cut_no s 47 (hs := hs) (h := fun j hj => H.out j hj))
  have ha := ReadDecimal_c s
  obtain ⟨na, oa, hqa⟩ : ∃ na oa, rdec s = (na, oa) := ⟨_, _, rfl⟩
  rw [hqa] at hba ha ⊢
  have HA := Lib.hid ha; clear ha
  have HQA := Lib.hid hqa; clear hqa
  simp only at hba
  go_enter Tryd.func9, Tryd.ntmps9
  go_wp2_with fail
  refine (HC.out _).mono ?_
  rintro e w1 ⟨rfl, hb1⟩
  obtain ⟨hc1, hf1⟩ := bcell hb1; have hz1 := hb1.size; (try simp only [World.size_alloc, size_drewN, World.size_setCell, World.size_drew] at hz1 hc1 hf1); have hl1_0 := far (show w.heap.size < w1.heap.size by omega)
  have hbw1 : Below w.heap.size w w1 := by (repeat' (first | (with_reducible exact Below.refl _ _) | (with_reducible assumption) | (with_reducible refine below_drewN ?_ _) | (with_reducible refine Below.drew ?_) | (with_reducible refine Below.alloc ?_ ?_ _) | (with_reducible refine Below.setCell ?_ ?_ _) | (with_reducible refine via (by with_reducible assumption) ?_ ?_) | go_size))
  go_wp2_with fail
  refine (HA.out w1 hsa (HT.out.below hbw1)).mono ?_
  rintro e w2 ⟨rfl, hb2⟩
  obtain ⟨hc2, hf2⟩ := bcell hb2; have hz2 := hb2.size; (try simp only [World.size_alloc, size_drewN, World.size_setCell, World.size_drew] at hz2 hc2 hf2); have hl2_0 := far (show w.heap.size < w2.heap.size by omega)
  have hbw2 : Below w.heap.size w w2 := by (repeat' (first | (with_reducible exact Below.refl _ _) | (with_reducible assumption) | (with_reducible refine below_drewN ?_ _) | (with_reducible refine Below.drew ?_) | (with_reducible refine Below.alloc ?_ ?_ _) | (with_reducible refine Below.setCell ?_ ?_ _) | (with_reducible refine via (by with_reducible assumption) ?_ ?_) | go_size))
  cases oa
  · have HR := Lib.hid (rf1_no na)
    go_wp2_with fail
    refine bodyPost_ret (v := .tuple #[.agg #[.int .i64 0, .int .i64 0], .bool false]) (by simp only [results, Tryd.results9]; go_simp; try rfl) rfl ⟨ret_fr (p := (0, 0)) HR.out, ?_⟩; (repeat' (first | (with_reducible exact Below.refl _ _) | (with_reducible assumption) | (with_reducible refine below_drewN ?_ _) | (with_reducible refine Below.drew ?_) | (with_reducible refine Below.alloc ?_ ?_ _) | (with_reducible refine Below.setCell ?_ ?_ _) | (with_reducible refine via (by with_reducible assumption) ?_ ?_) | go_size))
  have HX2 := Lib.hid (HX.out na HQA.out)
  have hft := FractionTextI_c na 1
  generalize ftx (na, 1) = X at *
  simp only [fr] at hft
  have HF := Lib.hid hft; clear hft
  go_wp2_with fail
  refine (HF.out _ (by omega) (by omega) (HT.out.below (by (repeat' (first | (with_reducible exact Below.refl _ _) | (with_reducible assumption) | (with_reducible refine below_drewN ?_ _) | (with_reducible refine Below.drew ?_) | (with_reducible refine Below.alloc ?_ ?_ _) | (with_reducible refine Below.setCell ?_ ?_ _) | (with_reducible refine via (by with_reducible assumption) ?_ ?_) | go_size))))).mono ?_
  rintro e w4 ⟨rfl, hb4⟩
  obtain ⟨hc4, hf4⟩ := bcell hb4; have hz4 := hb4.size; (try simp only [World.size_alloc, size_drewN, World.size_setCell, World.size_drew] at hz4 hc4 hf4); have hl4_0 := far (show w.heap.size < w4.heap.size by omega); have hl4_1 := far (show w2.heap.size < w4.heap.size by omega)
  by_cases hx : X = s
  · have HR := Lib.hid (rf1_yes (HX2.out.1 hx))
    have q7 : (X.toList == s.toList) = true := by rw [hx]; exact beq_self_eq_true _
    have q8 : (X.toList != s.toList) = false := by rw [hx]; exact bne_self_eq_false _
    have q9 : X.toList = s.toList := by rw [hx]
    have HXX := Lib.hid hx; clear hx
    go_wp2_with fail
    refine bodyPost_ret (v := .tuple #[.agg #[.int .i64 na, .int .i64 1], .bool true]) (by simp only [results, Tryd.results9]; go_simp; try rfl) rfl ⟨ret_fr (p := (na, 1)) HR.out, ?_⟩; (repeat' (first | (with_reducible exact Below.refl _ _) | (with_reducible assumption) | (with_reducible refine below_drewN ?_ _) | (with_reducible refine Below.drew ?_) | (with_reducible refine Below.alloc ?_ ?_ _) | (with_reducible refine Below.setCell ?_ ?_ _) | (with_reducible refine via (by with_reducible assumption) ?_ ?_) | go_size))
  · have HR := Lib.hid (rf1_bad (fun hc => hx (HX2.out.2 hc)))
    have q9 := str_ne hx
    have q7 : (X.toList == s.toList) = false := by rw [beq_eq_false_iff_ne]; exact q9
    have q8 : (X.toList != s.toList) = true := by rw [bne_iff_ne]; exact q9
    clear hx
    go_wp2_with fail
    refine bodyPost_ret (v := .tuple #[.agg #[.int .i64 0, .int .i64 0], .bool false]) (by simp only [results, Tryd.results9]; go_simp; try rfl) rfl ⟨ret_fr (p := (0, 0)) HR.out, ?_⟩; (repeat' (first | (with_reducible exact Below.refl _ _) | (with_reducible assumption) | (with_reducible refine below_drewN ?_ _) | (with_reducible refine Below.drew ?_) | (with_reducible refine Below.alloc ?_ ?_ _) | (with_reducible refine Below.setCell ?_ ?_ _) | (with_reducible refine via (by with_reducible assumption) ?_ ?_) | go_size))

set_option maxHeartbeats 2000000 in
theorem ReadFractionI_at (s : ByteArray) (m : Nat) (hm : m < s.size) (hb : byteAt s m = 47) (h : ∀ j, j < m → ¬ byteAt s j = 47) (w : World) (hs : s.size ≤ 1048576) (ht : Tab w) :
    Calls Tryd.prog 9 #[.string s] w fun e w' => e = .returned (.tuple #[fr (rf2 (rdec (s.extract 0 m)) (rdec (s.extract (m + 1) s.size))).1, .bool (rf2 (rdec (s.extract 0 m)) (rdec (s.extract (m + 1) s.size))).2]) ∧ Below w.heap.size w w' := by
  have HT := Lib.hid ht; clear ht
  have H := Lib.hid h; clear h
  have hba := rdec_bd (s.extract 0 m)
  have hbb := rdec_bd (s.extract (m + 1) s.size)
  have hsa : (s.extract 0 m).size ≤ maxLen := by rw [ByteArray.size_extract]; unfold maxLen; omega
  have hsb : (s.extract (m + 1) s.size).size ≤ maxLen := by rw [ByteArray.size_extract]; unfold maxLen; omega
  have HX := Lib.hid (show ∀ a b : Int, rdec (s.extract 0 m) = (a, true) → rdec (s.extract (m + 1) s.size) = (b, true) → (ftx (a, b) = s ↔ 1 < b ∧ plainB a b = true) from fun a b h1 h2 => text_two hm hb h1 h2)
  have HC := Lib.hid (cut_at s 47 m (hs := hs) (hm := hm) (hb := hb) (h := fun j hj => H.out j hj))
  have ha := ReadDecimal_c (s.extract 0 m)
  have hbd := ReadDecimal_c (s.extract (m + 1) s.size)
  generalize s.extract 0 m = SA at *
  generalize s.extract (m + 1) s.size = SB at *
  obtain ⟨na, oa, hqa⟩ : ∃ na oa, rdec SA = (na, oa) := ⟨_, _, rfl⟩
  obtain ⟨nb, ob, hqb⟩ : ∃ nb ob, rdec SB = (nb, ob) := ⟨_, _, rfl⟩
  rw [hqa] at hba ha ⊢
  rw [hqb] at hbb hbd ⊢
  have HA := Lib.hid ha; clear ha
  have HB := Lib.hid hbd; clear hbd
  have HQA := Lib.hid hqa; clear hqa
  have HQB := Lib.hid hqb; clear hqb
  clear hb
  simp only at hba hbb
  go_enter Tryd.func9, Tryd.ntmps9
  go_wp2_with fail
  refine (HC.out _).mono ?_
  rintro e w1 ⟨rfl, hb1⟩
  obtain ⟨hc1, hf1⟩ := bcell hb1; have hz1 := hb1.size; (try simp only [World.size_alloc, size_drewN, World.size_setCell, World.size_drew] at hz1 hc1 hf1); have hl1_0 := far (show w.heap.size < w1.heap.size by omega)
  have hbw1 : Below w.heap.size w w1 := by (repeat' (first | (with_reducible exact Below.refl _ _) | (with_reducible assumption) | (with_reducible refine below_drewN ?_ _) | (with_reducible refine Below.drew ?_) | (with_reducible refine Below.alloc ?_ ?_ _) | (with_reducible refine Below.setCell ?_ ?_ _) | (with_reducible refine via (by with_reducible assumption) ?_ ?_) | go_size))
  go_wp2_with fail
  refine (HA.out w1 hsa (HT.out.below hbw1)).mono ?_
  rintro e w2 ⟨rfl, hb2⟩
  obtain ⟨hc2, hf2⟩ := bcell hb2; have hz2 := hb2.size; (try simp only [World.size_alloc, size_drewN, World.size_setCell, World.size_drew] at hz2 hc2 hf2); have hl2_0 := far (show w.heap.size < w2.heap.size by omega)
  have hbw2 : Below w.heap.size w w2 := by (repeat' (first | (with_reducible exact Below.refl _ _) | (with_reducible assumption) | (with_reducible refine below_drewN ?_ _) | (with_reducible refine Below.drew ?_) | (with_reducible refine Below.alloc ?_ ?_ _) | (with_reducible refine Below.setCell ?_ ?_ _) | (with_reducible refine via (by with_reducible assumption) ?_ ?_) | go_size))
  go_wp2_with fail
  refine (HB.out w2 hsb (HT.out.below hbw2)).mono ?_
  rintro e w3 ⟨rfl, hb3⟩
  obtain ⟨hc3, hf3⟩ := bcell hb3; have hz3 := hb3.size; (try simp only [World.size_alloc, size_drewN, World.size_setCell, World.size_drew] at hz3 hc3 hf3); have hl3_0 := far (show w.heap.size < w3.heap.size by omega)
  have hbw3 : Below w.heap.size w w3 := by (repeat' (first | (with_reducible exact Below.refl _ _) | (with_reducible assumption) | (with_reducible refine below_drewN ?_ _) | (with_reducible refine Below.drew ?_) | (with_reducible refine Below.alloc ?_ ?_ _) | (with_reducible refine Below.setCell ?_ ?_ _) | (with_reducible refine via (by with_reducible assumption) ?_ ?_) | go_size))
  cases oa
  · have HR := Lib.hid (rf2_no na (nb, ob))
    go_wp2_with fail
    refine bodyPost_ret (v := .tuple #[.agg #[.int .i64 0, .int .i64 0], .bool false]) (by simp only [results, Tryd.results9]; go_simp; try rfl) rfl ⟨ret_fr (p := (0, 0)) HR.out, ?_⟩; (repeat' (first | (with_reducible exact Below.refl _ _) | (with_reducible assumption) | (with_reducible refine below_drewN ?_ _) | (with_reducible refine Below.drew ?_) | (with_reducible refine Below.alloc ?_ ?_ _) | (with_reducible refine Below.setCell ?_ ?_ _) | (with_reducible refine via (by with_reducible assumption) ?_ ?_) | go_size))
  cases ob
  · have HR := Lib.hid (rf2_no2 (na, true) nb)
    go_wp2_with fail
    refine bodyPost_ret (v := .tuple #[.agg #[.int .i64 0, .int .i64 0], .bool false]) (by simp only [results, Tryd.results9]; go_simp; try rfl) rfl ⟨ret_fr (p := (0, 0)) HR.out, ?_⟩; (repeat' (first | (with_reducible exact Below.refl _ _) | (with_reducible assumption) | (with_reducible refine below_drewN ?_ _) | (with_reducible refine Below.drew ?_) | (with_reducible refine Below.alloc ?_ ?_ _) | (with_reducible refine Below.setCell ?_ ?_ _) | (with_reducible refine via (by with_reducible assumption) ?_ ?_) | go_size))
  have HX2 := Lib.hid (HX.out na nb HQA.out HQB.out)
  have hft := FractionTextI_c na nb
  generalize ftx (na, nb) = X at *
  simp only [fr] at hft
  have HF := Lib.hid hft; clear hft
  go_wp2_with fail
  refine (HF.out _ (by omega) (by omega) (HT.out.below (by (repeat' (first | (with_reducible exact Below.refl _ _) | (with_reducible assumption) | (with_reducible refine below_drewN ?_ _) | (with_reducible refine Below.drew ?_) | (with_reducible refine Below.alloc ?_ ?_ _) | (with_reducible refine Below.setCell ?_ ?_ _) | (with_reducible refine via (by with_reducible assumption) ?_ ?_) | go_size))))).mono ?_
  rintro e w4 ⟨rfl, hb4⟩
  obtain ⟨hc4, hf4⟩ := bcell hb4; have hz4 := hb4.size; (try simp only [World.size_alloc, size_drewN, World.size_setCell, World.size_drew] at hz4 hc4 hf4); have hl4_0 := far (show w.heap.size < w4.heap.size by omega); have hl4_1 := far (show w3.heap.size < w4.heap.size by omega)
  by_cases hx : X = s
  · have HR := Lib.hid (rf2_yes (HX2.out.1 hx))
    have q7 : (X.toList == s.toList) = true := by rw [hx]; exact beq_self_eq_true _
    have q8 : (X.toList != s.toList) = false := by rw [hx]; exact bne_self_eq_false _
    have q9 : X.toList = s.toList := by rw [hx]
    have HXX := Lib.hid hx; clear hx
    go_wp2_with fail
    refine bodyPost_ret (v := .tuple #[.agg #[.int .i64 na, .int .i64 nb], .bool true]) (by simp only [results, Tryd.results9]; go_simp; try rfl) rfl ⟨ret_fr (p := (na, nb)) HR.out, ?_⟩; (repeat' (first | (with_reducible exact Below.refl _ _) | (with_reducible assumption) | (with_reducible refine below_drewN ?_ _) | (with_reducible refine Below.drew ?_) | (with_reducible refine Below.alloc ?_ ?_ _) | (with_reducible refine Below.setCell ?_ ?_ _) | (with_reducible refine via (by with_reducible assumption) ?_ ?_) | go_size))
  · have HR := Lib.hid (rf2_bad (fun hc => hx (HX2.out.2 hc)))
    have q9 := str_ne hx
    have q7 : (X.toList == s.toList) = false := by rw [beq_eq_false_iff_ne]; exact q9
    have q8 : (X.toList != s.toList) = true := by rw [bne_iff_ne]; exact q9
    clear hx
    go_wp2_with fail
    refine bodyPost_ret (v := .tuple #[.agg #[.int .i64 0, .int .i64 0], .bool false]) (by simp only [results, Tryd.results9]; go_simp; try rfl) rfl ⟨ret_fr (p := (0, 0)) HR.out, ?_⟩; (repeat' (first | (with_reducible exact Below.refl _ _) | (with_reducible assumption) | (with_reducible refine below_drewN ?_ _) | (with_reducible refine Below.drew ?_) | (with_reducible refine Below.alloc ?_ ?_ _) | (with_reducible refine Below.setCell ?_ ?_ _) | (with_reducible refine via (by with_reducible assumption) ?_ ?_) | go_size))

end Go.Proofs.YtphckllloiogjaaDoor
