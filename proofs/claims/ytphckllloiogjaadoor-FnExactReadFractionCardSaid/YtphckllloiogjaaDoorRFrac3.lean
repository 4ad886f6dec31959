/- Contracts: reading a fraction, the reference. -/
import Derived.Test.YtphckllloiogjaaDoorRFrac2
set_option linter.unusedVariables false
set_option linter.unusedSimpArgs false
namespace Go.Proofs.YtphckllloiogjaaDoor
open Go.RowKit

theorem spl_no {s : ByteArray} {c : Int} : ∀ k, (∀ j, j < k → ¬ byteAt s j = c) → spl s c k = ([], 0)
  | 0, _ => rfl
  | k + 1, h => by
    simp only [spl]
    rw [if_neg (h k (Nat.lt_succ_self k))]
    exact spl_no k (fun j hj => h j (by omega))
theorem spl_at {s : ByteArray} {c : Int} {m : Nat} (hm : byteAt s m = c) (h : ∀ j, j < m → ¬ byteAt s j = c) : ∀ k, (∀ j, m < j → j < m + 1 + k → ¬ byteAt s j = c) → spl s c (m + 1 + k) = ([s.extract 0 m], m + 1)
  | 0, _ => by
    show spl s c (m + 1) = _
    simp only [spl]
    rw [if_pos hm, spl_no m h]
    rfl
  | k + 1, h2 => by
    show spl s c (m + 1 + k + 1) = _
    simp only [spl]
    rw [if_neg (h2 (m + 1 + k) (by omega) (by omega))]
    exact spl_at hm h k (fun j h3 h4 => h2 j h3 (by omega))
theorem spl_more (s : ByteArray) (c : Int) (i : Nat) : ∀ k, ∃ r, (spl s c (i + k)).1 = (spl s c i).1 ++ r
  | 0 => ⟨[], by simp⟩
  | k + 1 => by
    obtain ⟨r, hr⟩ := spl_more s c i k
    show ∃ r, (spl s c (i + k + 1)).1 = _
    simp only [spl]
    split
    · exact ⟨r ++ [s.extract (spl s c (i + k)).2 (i + k)], by simp only [hr, List.append_assoc]⟩
    · exact ⟨r, hr⟩
theorem splL_no {s : ByteArray} {c : Int} (h : ∀ j, j < s.size → ¬ byteAt s j = c) : splL s c = [s] := by
  unfold splL
  rw [spl_no s.size h]
  simp only [List.nil_append]
  rw [ByteArray.extract_zero_size]
theorem splL_at {s : ByteArray} {c : Int} {m : Nat} (hm : m < s.size) (hb : byteAt s m = c) (h : ∀ j, j < m → ¬ byteAt s j = c) (h2 : ∀ j, m < j → j < s.size → ¬ byteAt s j = c) : splL s c = [s.extract 0 m, s.extract (m + 1) s.size] := by
  obtain ⟨k, hk⟩ : ∃ k, s.size = m + 1 + k := ⟨s.size - (m + 1), by omega⟩
  have e := spl_at hb h k (fun j h3 h4 => h2 j h3 (by omega))
  unfold splL
  rw [show spl s c s.size = ([s.extract 0 m], m + 1) by rw [hk]; exact e]
  rfl
theorem splL_more {s : ByteArray} {c : Int} {m i : Nat} (hb : byteAt s m = c) (h : ∀ j, j < m → ¬ byteAt s j = c) (hmi : m < i) (hi : i < s.size) (hc : byteAt s i = c) : ∃ x r, splL s c = s.extract 0 m :: x :: r ∧ 3 ≤ (splL s c).length := by
  have e0 : spl s c (m + 1) = ([s.extract 0 m], m + 1) := spl_at hb h 0 (fun j h3 h4 => by omega)
  obtain ⟨k, hk⟩ : ∃ k, i = m + 1 + k := ⟨i - (m + 1), by omega⟩
  obtain ⟨r1, hr1⟩ := spl_more s c (m + 1) k
  rw [e0, ← hk] at hr1
  have e1 : (spl s c (i + 1)).1 = s.extract 0 m :: (r1 ++ [s.extract (spl s c i).2 i]) := by
    simp only [spl]
    rw [if_pos hc, hr1]
    rfl
  obtain ⟨k2, hk2⟩ : ∃ k, s.size = i + 1 + k := ⟨s.size - (i + 1), by omega⟩
  obtain ⟨r2, hr2⟩ := spl_more s c (i + 1) k2
  rw [e1, ← hk2] at hr2
  unfold splL
  rw [hr2]
  cases r1 with
  | nil => exact ⟨_, _, rfl, by simp⟩
  | cons x r => exact ⟨_, _, rfl, by simp; omega⟩
theorem own_some {w : World} {B : Nat} {e : TypeId} {v : Value} {n : Nat} {xs : List Value} (h : w.ownsRow B e 1 v (n + 1) xs) : ∃ g cap, v = .slice (some ⟨g, 0, none⟩) (n + 1) cap ∧ g < w.heap.size ∧ B ≤ g := by
  have hl := h.lt
  rcases h.2 with ⟨hv, h0⟩ | ⟨g, cap, cur, rfl, _⟩
  · omega
  · exact ⟨g, cap, rfl, (hl g rfl).2, (hl g rfl).1⟩

set_option maxHeartbeats 2000000 in
theorem ReadFractionS_no (s : ByteArray) (h : ∀ j, j < s.size → ¬ byteAt s j = 47) (w : World) (hs : s.size ≤ 1048576) :
    Calls Tryd.prog 8 #[.string s] w fun e w' => e = .returned (.tuple #[fr (rf1 (rdec s)).1, .bool (rf1 (rdec s)).2]) ∧ Below w.heap.size w w' := by
  have HC := Lib.hid (l01Split_c s 47)
  have HL := Lib.hid (splL_no h)
  clear h
  have hba := rdec_bd s
  have hsa : s.size ≤ maxLen := by unfold maxLen; omega
  have ha := l01Number_c s
  obtain ⟨na, oa, hqa⟩ : ∃ na oa, rdec s = (na, oa) := ⟨_, _, rfl⟩
  rw [hqa] at hba ha ⊢
  have HA := Lib.hid ha; clear ha hqa
  simp only at hba
  go_enter Tryd.func8, Tryd.ntmps8
  go_wp2_with fail
  refine (HC.out _ hs).mono ?_
  rintro e w1 ⟨v, rfl, hx, hb1⟩
  obtain ⟨hc1, hf1⟩ := bcell hb1; have hz1 := hb1.size; (try simp only [World.size_alloc, size_drewN, World.size_setCell, World.size_drew] at hz1 hc1 hf1); have hl1_0 := far (show w.heap.size < w1.heap.size by omega)
  rw [HL.out] at hx
  obtain ⟨g, cap, rfl, hg1, hg2⟩ := own_some (n := 0) hx
  have c0 := World.ownsRow.cellAt (n := 1) hx 0 (by omega)
  simp only [List.map_cons, List.map_nil, List.getElem?_cons_zero] at c0
  clear hx
  have hgf := far hg1
  go_wp2_with fail
  refine (HA.out _ hsa).mono ?_
  rintro e w2 ⟨rfl, hb2⟩
  obtain ⟨hc2, hf2⟩ := bcell hb2; have hz2 := hb2.size; (try simp only [World.size_alloc, size_drewN, World.size_setCell, World.size_drew] at hz2 hc2 hf2); have hl2_0 := far (show w.heap.size < w2.heap.size by omega); have hl2_1 := far (show g < w2.heap.size by omega)
  cases oa
  · have HR := Lib.hid (rf1_no na)
    go_wp2_with fail
    refine bodyPost_ret (v := .tuple #[.agg #[.int .i64 0, .int .i64 0], .bool false]) (by simp only [results, Tryd.results8]; go_simp; try rfl) rfl ⟨ret_fr (p := (0, 0)) HR.out, ?_⟩; (repeat' (first | (with_reducible exact Below.refl _ _) | (with_reducible assumption) | (with_reducible refine below_drewN ?_ _) | (with_reducible refine Below.drew ?_) | (with_reducible refine Below.alloc ?_ ?_ _) | (with_reducible refine Below.setCell ?_ ?_ _) | (with_reducible refine via (by with_reducible assumption) ?_ ?_) | go_size))
  have hok := l19Ok_c (na, 1)
  simp only [fr] at hok
  have HO := Lib.hid hok; clear hok
  go_wp2_with fail
  refine (HO.out _ (by simp)).mono ?_
  rintro e w4 ⟨rfl, hb4⟩
  obtain ⟨hc4, hf4⟩ := bcell hb4; have hz4 := hb4.size; (try simp only [World.size_alloc, size_drewN, World.size_setCell, World.size_drew] at hz4 hc4 hf4); have hl4_0 := far (show w.heap.size < w4.heap.size by omega); have hl4_1 := far (show w2.heap.size < w4.heap.size by omega)
  cases hp : plainB na 1
  · have HR := Lib.hid (rf1_bad (n := na)  (by rw [hp]; simp))
    go_wp2_with fail
    refine bodyPost_ret (v := .tuple #[.agg #[.int .i64 0, .int .i64 0], .bool false]) (by simp only [results, Tryd.results8]; go_simp; try rfl) rfl ⟨ret_fr (p := (0, 0)) HR.out, ?_⟩; (repeat' (first | (with_reducible exact Below.refl _ _) | (with_reducible assumption) | (with_reducible refine below_drewN ?_ _) | (with_reducible refine Below.drew ?_) | (with_reducible refine Below.alloc ?_ ?_ _) | (with_reducible refine Below.setCell ?_ ?_ _) | (with_reducible refine via (by with_reducible assumption) ?_ ?_) | go_size))
  · have HR := Lib.hid (rf1_yes hp)
    go_wp2_with fail
    refine bodyPost_ret (v := .tuple #[.agg #[.int .i64 na, .int .i64 1], .bool true]) (by simp only [results, Tryd.results8]; go_simp; try rfl) rfl ⟨ret_fr (p := (na, 1)) HR.out, ?_⟩; (repeat' (first | (with_reducible exact Below.refl _ _) | (with_reducible assumption) | (with_reducible refine below_drewN ?_ _) | (with_reducible refine Below.drew ?_) | (with_reducible refine Below.alloc ?_ ?_ _) | (with_reducible refine Below.setCell ?_ ?_ _) | (with_reducible refine via (by with_reducible assumption) ?_ ?_) | go_size))

set_option maxHeartbeats 2000000 in
theorem ReadFractionS_at (s : ByteArray) (m : Nat) (hm : m < s.size) (hb : byteAt s m = 47) (h : ∀ j, j < m → ¬ byteAt s j = 47) (h2 : ∀ j, m < j → j < s.size → ¬ byteAt s j = 47) (w : World) (hs : s.size ≤ 1048576) :
    Calls Tryd.prog 8 #[.string s] w fun e w' => e = .returned (.tuple #[fr (rf2 (rdec (s.extract 0 m)) (rdec (s.extract (m + 1) s.size))).1, .bool (rf2 (rdec (s.extract 0 m)) (rdec (s.extract (m + 1) s.size))).2]) ∧ Below w.heap.size w w' := by
  have HC := Lib.hid (l01Split_c s 47)
  have HL := Lib.hid (splL_at hm hb h h2)
  clear h h2
  have hba := rdec_bd (s.extract 0 m)
  have hsa : (s.extract 0 m).size ≤ maxLen := by rw [ByteArray.size_extract]; unfold maxLen; omega
  have ha := l01Number_c (s.extract 0 m)
  have hbb := rdec_bd (s.extract (m + 1) s.size)
  have hsb : (s.extract (m + 1) s.size).size ≤ maxLen := by rw [ByteArray.size_extract]; unfold maxLen; omega
  have hbd := l01Number_c (s.extract (m + 1) s.size)
  generalize s.extract (m + 1) s.size = SB at *
  generalize s.extract 0 m = SA at *
  obtain ⟨na, oa, hqa⟩ : ∃ na oa, rdec SA = (na, oa) := ⟨_, _, rfl⟩
  rw [hqa] at hba ha ⊢
  have HA := Lib.hid ha; clear ha hqa hb
  simp only at hba
  obtain ⟨nb, ob, hqb⟩ : ∃ nb ob, rdec SB = (nb, ob) := ⟨_, _, rfl⟩
  rw [hqb] at hbb hbd ⊢
  have HB := Lib.hid hbd; clear hbd hqb
  simp only at hbb
  go_enter Tryd.func8, Tryd.ntmps8
  go_wp2_with fail
  refine (HC.out _ hs).mono ?_
  rintro e w1 ⟨v, rfl, hx, hb1⟩
  obtain ⟨hc1, hf1⟩ := bcell hb1; have hz1 := hb1.size; (try simp only [World.size_alloc, size_drewN, World.size_setCell, World.size_drew] at hz1 hc1 hf1); have hl1_0 := far (show w.heap.size < w1.heap.size by omega)
  rw [HL.out] at hx
  obtain ⟨g, cap, rfl, hg1, hg2⟩ := own_some (n := 1) hx
  have c0 := World.ownsRow.cellAt (n := 2) hx 0 (by omega)
  simp only [List.map_cons, List.map_nil, List.getElem?_cons_zero] at c0
  have c1 := World.ownsRow.cellAt (n := 2) hx 1 (by omega)
  simp only [List.map_cons, List.map_nil, List.getElem?_cons_succ, List.getElem?_cons_zero] at c1
  clear hx
  have hgf := far hg1
  go_wp2_with fail
  refine (HA.out _ hsa).mono ?_
  rintro e w2 ⟨rfl, hb2⟩
  obtain ⟨hc2, hf2⟩ := bcell hb2; have hz2 := hb2.size; (try simp only [World.size_alloc, size_drewN, World.size_setCell, World.size_drew] at hz2 hc2 hf2); have hl2_0 := far (show w.heap.size < w2.heap.size by omega); have hl2_1 := far (show g < w2.heap.size by omega)
  go_wp2_with fail
  refine (HB.out _ hsb).mono ?_
  rintro e w3 ⟨rfl, hb3⟩
  obtain ⟨hc3, hf3⟩ := bcell hb3; have hz3 := hb3.size; (try simp only [World.size_alloc, size_drewN, World.size_setCell, World.size_drew] at hz3 hc3 hf3); have hl3_0 := far (show w.heap.size < w3.heap.size by omega); have hl3_1 := far (show w2.heap.size < w3.heap.size by omega)
  cases oa
  · have HR := Lib.hid (rf2_no na (nb, ob))
    cases ob
    · go_wp2_with fail
      refine bodyPost_ret (v := .tuple #[.agg #[.int .i64 0, .int .i64 0], .bool false]) (by simp only [results, Tryd.results8]; go_simp; try rfl) rfl ⟨ret_fr (p := (0, 0)) HR.out, ?_⟩; (repeat' (first | (with_reducible exact Below.refl _ _) | (with_reducible assumption) | (with_reducible refine below_drewN ?_ _) | (with_reducible refine Below.drew ?_) | (with_reducible refine Below.alloc ?_ ?_ _) | (with_reducible refine Below.setCell ?_ ?_ _) | (with_reducible refine via (by with_reducible assumption) ?_ ?_) | go_size))
    · by_cases h1 : 1 < nb
      · go_wp2_with fail
        refine bodyPost_ret (v := .tuple #[.agg #[.int .i64 0, .int .i64 0], .bool false]) (by simp only [results, Tryd.results8]; go_simp; try rfl) rfl ⟨ret_fr (p := (0, 0)) HR.out, ?_⟩; (repeat' (first | (with_reducible exact Below.refl _ _) | (with_reducible assumption) | (with_reducible refine below_drewN ?_ _) | (with_reducible refine Below.drew ?_) | (with_reducible refine Below.alloc ?_ ?_ _) | (with_reducible refine Below.setCell ?_ ?_ _) | (with_reducible refine via (by with_reducible assumption) ?_ ?_) | go_size))
      · go_wp2_with fail
        refine bodyPost_ret (v := .tuple #[.agg #[.int .i64 0, .int .i64 0], .bool false]) (by simp only [results, Tryd.results8]; go_simp; try rfl) rfl ⟨ret_fr (p := (0, 0)) HR.out, ?_⟩; (repeat' (first | (with_reducible exact Below.refl _ _) | (with_reducible assumption) | (with_reducible refine below_drewN ?_ _) | (with_reducible refine Below.drew ?_) | (with_reducible refine Below.alloc ?_ ?_ _) | (with_reducible refine Below.setCell ?_ ?_ _) | (with_reducible refine via (by with_reducible assumption) ?_ ?_) | go_size))
  cases ob
  · have HR := Lib.hid (rf2_no2 (na, true) nb)
    go_wp2_with fail
    refine bodyPost_ret (v := .tuple #[.agg #[.int .i64 0, .int .i64 0], .bool false]) (by simp only [results, Tryd.results8]; go_simp; try rfl) rfl ⟨ret_fr (p := (0, 0)) HR.out, ?_⟩; (repeat' (first | (with_reducible exact Below.refl _ _) | (with_reducible assumption) | (with_reducible refine below_drewN ?_ _) | (with_reducible refine Below.drew ?_) | (with_reducible refine Below.alloc ?_ ?_ _) | (with_reducible refine Below.setCell ?_ ?_ _) | (with_reducible refine via (by with_reducible assumption) ?_ ?_) | go_size))
  by_cases h1 : 1 < nb
  rotate_left
  · have HR := Lib.hid (rf2_bad (n := na) (m := nb) (fun hc => h1 hc.1))
    go_wp2_with fail
    refine bodyPost_ret (v := .tuple #[.agg #[.int .i64 0, .int .i64 0], .bool false]) (by simp only [results, Tryd.results8]; go_simp; try rfl) rfl ⟨ret_fr (p := (0, 0)) HR.out, ?_⟩; (repeat' (first | (with_reducible exact Below.refl _ _) | (with_reducible assumption) | (with_reducible refine below_drewN ?_ _) | (with_reducible refine Below.drew ?_) | (with_reducible refine Below.alloc ?_ ?_ _) | (with_reducible refine Below.setCell ?_ ?_ _) | (with_reducible refine via (by with_reducible assumption) ?_ ?_) | go_size))
  have hok := l19Ok_c (na, nb)
  simp only [fr] at hok
  have HO := Lib.hid hok; clear hok
  go_wp2_with fail
  refine (HO.out _ (by omega)).mono ?_
  rintro e w4 ⟨rfl, hb4⟩
  obtain ⟨hc4, hf4⟩ := bcell hb4; have hz4 := hb4.size; (try simp only [World.size_alloc, size_drewN, World.size_setCell, World.size_drew] at hz4 hc4 hf4); have hl4_0 := far (show w.heap.size < w4.heap.size by omega); have hl4_1 := far (show w2.heap.size < w4.heap.size by omega)
  cases hp : plainB na nb
  · have HR := Lib.hid (rf2_bad (n := na) (m := nb) (by rw [hp]; simp))
    go_wp2_with fail
    refine bodyPost_ret (v := .tuple #[.agg #[.int .i64 0, .int .i64 0], .bool false]) (by simp only [results, Tryd.results8]; go_simp; try rfl) rfl ⟨ret_fr (p := (0, 0)) HR.out, ?_⟩; (repeat' (first | (with_reducible exact Below.refl _ _) | (with_reducible assumption) | (with_reducible refine below_drewN ?_ _) | (with_reducible refine Below.drew ?_) | (with_reducible refine Below.alloc ?_ ?_ _) | (with_reducible refine Below.setCell ?_ ?_ _) | (with_reducible refine via (by with_reducible assumption) ?_ ?_) | go_size))
  · have HR := Lib.hid (rf2_yes ⟨h1, hp⟩)
    go_wp2_with fail
    refine bodyPost_ret (v := .tuple #[.agg #[.int .i64 na, .int .i64 nb], .bool true]) (by simp only [results, Tryd.results8]; go_simp; try rfl) rfl ⟨ret_fr (p := (na, nb)) HR.out, ?_⟩; (repeat' (first | (with_reducible exact Below.refl _ _) | (with_reducible assumption) | (with_reducible refine below_drewN ?_ _) | (with_reducible refine Below.drew ?_) | (with_reducible refine Below.alloc ?_ ?_ _) | (with_reducible refine Below.setCell ?_ ?_ _) | (with_reducible refine via (by with_reducible assumption) ?_ ?_) | go_size))

set_option maxHeartbeats 2000000 in
theorem ReadFractionS_more (s : ByteArray) (m i : Nat) (hm : m < s.size) (hb : byteAt s m = 47) (h : ∀ j, j < m → ¬ byteAt s j = 47) (hmi : m < i) (hi : i < s.size) (hc : byteAt s i = 47) (w : World) (hs : s.size ≤ 1048576) :
    Calls Tryd.prog 8 #[.string s] w fun e w' => e = .returned (.tuple #[fr (rf2 (rdec (s.extract 0 m)) (rdec (s.extract (m + 1) s.size))).1, .bool (rf2 (rdec (s.extract 0 m)) (rdec (s.extract (m + 1) s.size))).2]) ∧ Below w.heap.size w w' := by
  have HC := Lib.hid (l01Split_c s 47)
  have hll := splL_more hb h hmi hi hc
  have hq2 : rdec (s.extract (m + 1) s.size) = (0, false) := by
    obtain ⟨j, rfl⟩ : ∃ j, i = m + 1 + j := ⟨i - (m + 1), by omega⟩
    exact rdec_slash (j := j) (by rw [ByteArray.size_extract]; omega) (by rw [byteAt_behind (by omega)]; exact hc)
  rw [hq2]
  clear h hq2
  obtain ⟨x, r, hll1, hll2⟩ := hll
  have HL := Lib.hid hll1
  have HLL := Lib.hid hll2
  clear hll1 hll2 hc
  have hba := rdec_bd (s.extract 0 m)
  have hsa : (s.extract 0 m).size ≤ maxLen := by rw [ByteArray.size_extract]; unfold maxLen; omega
  have ha := l01Number_c (s.extract 0 m)
  generalize s.extract 0 m = SA at *
  obtain ⟨na, oa, hqa⟩ : ∃ na oa, rdec SA = (na, oa) := ⟨_, _, rfl⟩
  rw [hqa] at hba ha ⊢
  have HA := Lib.hid ha; clear ha hqa hb
  simp only at hba
  go_enter Tryd.func8, Tryd.ntmps8
  go_wp2_with fail
  refine (HC.out _ hs).mono ?_
  rintro e w1 ⟨v, rfl, hx, hb1⟩
  obtain ⟨hc1, hf1⟩ := bcell hb1; have hz1 := hb1.size; (try simp only [World.size_alloc, size_drewN, World.size_setCell, World.size_drew] at hz1 hc1 hf1); have hl1_0 := far (show w.heap.size < w1.heap.size by omega)
  obtain ⟨L, hLq⟩ : ∃ L, splL s 47 = L := ⟨_, rfl⟩
  rw [hLq] at hx
  have hL3 : 3 ≤ L.length := by rw [← hLq]; exact HLL.out
  have hL0 : L[0]? = some SA := by rw [← hLq, HL.out]; rfl
  obtain ⟨q, hq⟩ : ∃ q, L.length = q + 3 := ⟨L.length - 3, by omega⟩
  rw [hq] at hx
  obtain ⟨g, cap, rfl, hg1, hg2⟩ := own_some (n := q + 2) hx
  have c0 := World.ownsRow.cellAt (n := q + 3) hx 0 (by omega)
  rw [List.getElem?_map, hL0] at c0
  simp only [Option.map_some] at c0
  clear hLq hL3 hL0
  have q1 : (((q + 3 : Nat) : Int) == 1) = false := by rw [beq_eq_false_iff_ne]; omega
  have q2 : (((q + 3 : Nat) : Int) == 2) = false := by rw [beq_eq_false_iff_ne]; omega
  clear hx hq
  have hgf := far hg1
  go_wp2_with fail
  refine (HA.out _ hsa).mono ?_
  rintro e w2 ⟨rfl, hb2⟩
  obtain ⟨hc2, hf2⟩ := bcell hb2; have hz2 := hb2.size; (try simp only [World.size_alloc, size_drewN, World.size_setCell, World.size_drew] at hz2 hc2 hf2); have hl2_0 := far (show w.heap.size < w2.heap.size by omega); have hl2_1 := far (show g < w2.heap.size by omega)
  have HR := Lib.hid (rf2_no2 (na, oa) 0)
  cases oa
  · go_wp2_with fail
    refine bodyPost_ret (v := .tuple #[.agg #[.int .i64 0, .int .i64 0], .bool false]) (by simp only [results, Tryd.results8]; go_simp; try rfl) rfl ⟨ret_fr (p := (0, 0)) HR.out, ?_⟩; (repeat' (first | (with_reducible exact Below.refl _ _) | (with_reducible assumption) | (with_reducible refine below_drewN ?_ _) | (with_reducible refine Below.drew ?_) | (with_reducible refine Below.alloc ?_ ?_ _) | (with_reducible refine Below.setCell ?_ ?_ _) | (with_reducible refine via (by with_reducible assumption) ?_ ?_) | go_size))
  · go_wp2_with fail
    refine bodyPost_ret (v := .tuple #[.agg #[.int .i64 0, .int .i64 0], .bool false]) (by simp only [results, Tryd.results8]; go_simp; try rfl) rfl ⟨ret_fr (p := (0, 0)) HR.out, ?_⟩; (repeat' (first | (with_reducible exact Below.refl _ _) | (with_reducible assumption) | (with_reducible refine below_drewN ?_ _) | (with_reducible refine Below.drew ?_) | (with_reducible refine Below.alloc ?_ ?_ _) | (with_reducible refine Below.setCell ?_ ?_ _) | (with_reducible refine via (by with_reducible assumption) ?_ ?_) | go_size))

end Go.Proofs.YtphckllloiogjaaDoor
