/- Contracts: the lines of a page read, both sides. -/
import Derived.Test.YtaebofpgdonnbaaDoorPageRead3
set_option linter.unusedVariables false
set_option linter.unusedSimpArgs false
namespace Go.Proofs.YtaebofpgdonnbaaDoor
open Go.RowKit

structure PgR where (s : ByteArray) (f t : Int) (l : List Int)
def pz : PgR := ⟨ByteArray.empty, 0, 0, []⟩
def goM (lines : List ByteArray) (f t : Int) : Nat → Nat → List Int → List Int × Int × Int
  | 0, _, vs => (vs, -1, 0)
  | k + 1, i, vs => match lines[i + 1]? with
    | none => ([], (i : Int) + 1, 2)
    | some ln => if (rowWs (splL ln 32) (f + (i : Int) * t)).2 = 0 then goM lines f t k (i + 1) (vs ++ [(rowWs (splL ln 32) (f + (i : Int) * t)).1]) else ([], (i : Int) + 1, (rowWs (splL ln 32) (f + (i : Int) * t)).2)
def readR (lines : List ByteArray) : PgR × Int × Int :=
  match lines[0]? with
  | none => (pz, 0, 1)
  | some h => if headWs (splL h 32) = true then
      (if (goM lines (headVs (splL h 32)).2.1 (headVs (splL h 32)).2.2.1 (headVs (splL h 32)).2.2.2.toNat 0 []).2.2 = 0 then
        (if lines.length = (headVs (splL h 32)).2.2.2.toNat + 2 ∧ ((lines.getD ((headVs (splL h 32)).2.2.2.toNat + 1) ByteArray.empty).toList == (footT (goM lines (headVs (splL h 32)).2.1 (headVs (splL h 32)).2.2.1 (headVs (splL h 32)).2.2.2.toNat 0 []).1).toList) = true then
          (⟨(headVs (splL h 32)).1, (headVs (splL h 32)).2.1, (headVs (splL h 32)).2.2.1, (goM lines (headVs (splL h 32)).2.1 (headVs (splL h 32)).2.2.1 (headVs (splL h 32)).2.2.2.toNat 0 []).1⟩, -1, 0)
        else (pz, ((headVs (splL h 32)).2.2.2.toNat : Int) + 1, 5))
      else (pz, (goM lines (headVs (splL h 32)).2.1 (headVs (splL h 32)).2.2.1 (headVs (splL h 32)).2.2.2.toNat 0 []).2.1, (goM lines (headVs (splL h 32)).2.1 (headVs (splL h 32)).2.2.1 (headVs (splL h 32)).2.2.2.toNat 0 []).2.2))
    else (pz, 0, 1)
theorem readR_eq {lines : List ByteArray} {h nm : ByteArray} {f t : Int} {n : Nat} (h0 : lines[0]? = some h) (hw : headWs (splL h 32) = true) (hv : headVs (splL h 32) = (nm, f, t, (n : Int))) :
    readR lines = if (goM lines f t n 0 []).2.2 = 0 then (if lines.length = n + 2 ∧ ((lines.getD (n + 1) ByteArray.empty).toList == (footT (goM lines f t n 0 []).1).toList) = true then (⟨nm, f, t, (goM lines f t n 0 []).1⟩, -1, 0) else (pz, (n : Int) + 1, 5)) else (pz, (goM lines f t n 0 []).2.1, (goM lines f t n 0 []).2.2) := by
  unfold readR
  rw [h0]
  simp only [hw, hv, if_true, Int.toNat_natCast]
theorem readR_none {lines : List ByteArray} (h0 : lines.length = 0) : readR lines = (pz, 0, 1) := by
  unfold readR
  rw [List.getElem?_eq_none (by omega)]
theorem readR_head {lines : List ByteArray} {h : ByteArray} (h0 : lines[0]? = some h) (hw : headWs (splL h 32) = false) : readR lines = (pz, 0, 1) := by
  unfold readR
  rw [h0]
  simp only [hw]
  rfl
theorem rowWs_val {L : List ByteArray} {arg : Int} (h : (rowWs L arg).2 = 0) : -1000000000000 ≤ (rowWs L arg).1 ∧ (rowWs L arg).1 ≤ 1000000000000 := by
  unfold rowWs at h ⊢
  split at h
  · split at h
    · rename_i h1
      split at h
      · rename_i h2
        split at h
        · rename_i h3
          simp only [Bool.and_eq_true] at h1
          simp only [h1.1.1, h1.1.2, h1.2, h2, h3, if_true, Bool.and_self]
          exact valB_iff.1 h1.2
        · cases h
      · cases h
    · cases h
  · cases h
theorem rowWs_range (L : List ByteArray) (arg : Int) : 0 ≤ (rowWs L arg).2 ∧ (rowWs L arg).2 ≤ 4 := by
  unfold rowWs
  split
  · split
    · split
      · split
        · exact ⟨Int.le_refl 0, (by decide : (0 : Int) ≤ 4)⟩
        · exact ⟨(by decide : (0 : Int) ≤ 4), (by decide : (4 : Int) ≤ 4)⟩
      · exact ⟨(by decide : (0 : Int) ≤ 3), (by decide : (3 : Int) ≤ 4)⟩
    · exact ⟨(by decide : (0 : Int) ≤ 2), (by decide : (2 : Int) ≤ 4)⟩
  · exact ⟨(by decide : (0 : Int) ≤ 2), (by decide : (2 : Int) ≤ 4)⟩
theorem headB_bd {s : ByteArray} {f t n : Int} (h : headB s f t n = true) : (-1000000 ≤ f ∧ f ≤ 1000000) ∧ (1 ≤ t ∧ t ≤ 1000) ∧ 1 ≤ n ∧ n ≤ 60 := by
  unfold headB at h
  simp only [Bool.and_eq_true, inB_iff] at h
  obtain ⟨⟨⟨⟨_, h1⟩, h2⟩, h3⟩, _⟩ := h
  exact ⟨h1, h2, h3⟩
theorem headWs_bd {L : List ByteArray} {nm : ByteArray} {f t n : Int} (h : headWs L = true) (hv : headVs L = (nm, f, t, n)) : (-1000000 ≤ f ∧ f ≤ 1000000) ∧ (1 ≤ t ∧ t ≤ 1000) ∧ 1 ≤ n ∧ n ≤ 60 := by
  unfold headWs at h
  unfold headVs at hv
  split at h
  · simp only at hv
    injection hv with h0 hv
    injection hv with h1 hv
    injection hv with h2 h3
    rw [h0, h1, h2, h3] at h
    simp only [Bool.and_eq_true] at h
    exact headB_bd h.2
  · cases h
theorem goM_none {lines : List ByteArray} {f t : Int} {k i : Nat} {vs : List Int} (hi : lines.length ≤ i + 1) : goM lines f t (k + 1) i vs = ([], (i : Int) + 1, 2) := by
  unfold goM
  rw [List.getElem?_eq_none hi]
theorem goM_bad {lines : List ByteArray} {f t : Int} {k i : Nat} {vs : List Int} {ln : ByteArray} (h : lines[i + 1]? = some ln) (hr : ¬ (rowWs (splL ln 32) (f + (i : Int) * t)).2 = 0) : goM lines f t (k + 1) i vs = ([], (i : Int) + 1, (rowWs (splL ln 32) (f + (i : Int) * t)).2) := by
  unfold goM
  rw [h]
  simp only [if_neg hr]
theorem goM_ok {lines : List ByteArray} {f t : Int} {k i : Nat} {vs : List Int} {ln : ByteArray} (h : lines[i + 1]? = some ln) (hr : (rowWs (splL ln 32) (f + (i : Int) * t)).2 = 0) : goM lines f t (k + 1) i vs = goM lines f t k (i + 1) (vs ++ [(rowWs (splL ln 32) (f + (i : Int) * t)).1]) := by
  conv => lhs; unfold goM
  rw [h]
  simp only [if_pos hr]
def RetRead (R : PgR × Int × Int) (W : World) (e : Ending) (w' : World) : Prop := ∃ A' c', e = .returned (.tuple #[.agg #[.string R.1.s, .int .i64 R.1.f, .int .i64 R.1.t, .slice A' R.1.l.length c'], .int .i64 R.2.1, .int .i64 R.2.2]) ∧ w'.ownsRow W.heap.size 2 1 (.slice A' R.1.l.length c') R.1.l.length (R.1.l.map (Value.int .i64)) ∧ Below W.heap.size W w'

set_option maxRecDepth 100000 in
set_option maxHeartbeats 8000000 in
theorem readPage_c (A : Option Addr) (n c : Nat) (lines : List ByteArray) (w : World) (hn : lines.length = n) (hm : n ≤ 1048576) (hr : Rd w w.heap.size 1 scell A lines) (hsz : ∀ x ∈ lines, x.size ≤ 1048576) (ht : Tab w) :
    Calls Tryd.prog 45 #[.slice A n c] w (RetRead (readR lines) w) := by
  have HN := Lib.hid hn; clear hn
  have HSZ := Lib.hid hsz; clear hsz
  have HT := Lib.hid ht; clear ht
  by_cases hn0 : n = 0
  · have HR := Lib.hid (readR_none (by rw [HN.out]; exact hn0))
    subst hn0
    go_enter Tryd.func45, Tryd.ntmps45
    go_wp2_with fail
    refine bodyPost_ret (v := .tuple #[.agg #[.string ByteArray.empty, .int .i64 0, .int .i64 0, .slice none 0 0], .int .i64 0, .int .i64 1]) (by simp only [results, Tryd.results45]; go_simp; try rfl) rfl ⟨none, 0, (by rw [HR.out]; rfl), by rw [HR.out]; exact World.ownsRow_nil _ _ _ _, by (repeat' (first | (with_reducible exact Below.refl _ _) | (with_reducible assumption) | (with_reducible refine below_drewN ?_ _) | (with_reducible refine Below.drew ?_) | (with_reducible refine Below.alloc ?_ ?_ _) | (with_reducible refine Below.setCell ?_ ?_ _) | (with_reducible refine via (by with_reducible assumption) ?_ ?_) | go_size))⟩
  obtain ⟨hl, eh⟩ := get_ex lines 0 (by rw [HN.out]; omega)
  obtain ⟨bl, ol, rfl, hbl, hcl⟩ := hr.strs (by rw [HN.out]; omega)
  have HCL := Lib.hid hcl
  have el := hcl 0 hl eh
  rw [Nat.add_zero] at el
  have hls := HSZ.out hl (List.mem_of_getElem? eh)
  have HEH := Lib.hid eh
  have hfl := far hbl
  have n1 : ¬ (n : Int) = 0 := by omega
  have n2 : (0 : Int) < (n : Int) := by omega
  have n3 : 0 < n := by omega
  clear hcl eh hr
  go_enter Tryd.func45, Tryd.ntmps45
  go_wp2_with fail
  refine gen_calls fun V hV => ?_
  have hbV : Below w.heap.size w V := by rw [hV.out]; (repeat' (first | (with_reducible exact Below.refl _ _) | (with_reducible assumption) | (with_reducible refine below_drewN ?_ _) | (with_reducible refine Below.drew ?_) | (with_reducible refine Below.alloc ?_ ?_ _) | (with_reducible refine Below.setCell ?_ ?_ _) | (with_reducible refine via (by with_reducible assumption) ?_ ?_) | go_size))
  have hlt : w.heap.size < V.heap.size := by rw [hV.out]; simp [go_sem]
  have z0 : V.cell? ⟨w.heap.size, 0, none⟩ = some (.string ByteArray.empty) := by rw [hV.out]; simp [go_sem]; rfl
  have z1 : V.cell? ⟨w.heap.size, 1, none⟩ = some (.int .i64 0) := by rw [hV.out]; simp [go_sem]
  have z2 : V.cell? ⟨w.heap.size, 2, none⟩ = some (.int .i64 0) := by rw [hV.out]; simp [go_sem]
  have z3 : V.cell? ⟨w.heap.size, 3, none⟩ = some (.slice none 0 0) := by rw [hV.out]; simp [go_sem]
  have fz : ∀ o, V.frozen? ⟨w.heap.size, o, none⟩ = false := fun o => by rw [hV.out]; simp [go_sem]
  clear hV
  have HH := Lib.hid (readHead_c hl V hls (HT.out.below hbV))
  refine HH.out.mono ?_
  rintro e w1 ⟨nm, f, t, nq, rfl, hhv, hb1⟩
  have hbw1 : Below w.heap.size w w1 := hbV.trans (hb1.mono hbV.size)
  have hlt1 : w.heap.size < w1.heap.size := Nat.lt_of_lt_of_le hlt hb1.size
  obtain ⟨hc, hf⟩ := bcell hb1
  rw [← hc _ _ hlt] at z0
  rw [← hc _ _ hlt] at z1
  rw [← hc _ _ hlt] at z2
  rw [← hc _ _ hlt] at z3
  replace fz : ∀ o, w1.frozen? ⟨w.heap.size, o, none⟩ = false := fun o => by rw [hf _ _ hlt]; exact fz o
  clear hc hf HH
  cases hw : headWs (splL hl 32)
  · have HR := Lib.hid (readR_head HEH.out hw)
    have fz0 := fz 0
    have fz1 := fz 1
    have fz2 := fz 2
    have fz3 := fz 3
    have hfar := far hlt1
    clear hhv hw
    go_wp2_with fail
    refine bodyPost_ret (v := .tuple #[.agg #[.string ByteArray.empty, .int .i64 0, .int .i64 0, .slice none 0 0], .int .i64 0, .int .i64 1]) (by simp only [results, Tryd.results45]; go_simp; try rfl) rfl ⟨none, 0, (by rw [HR.out]; rfl), by rw [HR.out]; exact World.ownsRow_nil _ _ _ _, by (repeat' (first | (with_reducible exact Below.refl _ _) | (with_reducible assumption) | (with_reducible refine below_drewN ?_ _) | (with_reducible refine Below.drew ?_) | (with_reducible refine Below.alloc ?_ ?_ _) | (with_reducible refine Below.setCell ?_ ?_ _) | (with_reducible refine via (by with_reducible assumption) ?_ ?_) | go_size))⟩
  have hv := hhv hw
  obtain ⟨hfb, htb, hnb1, hnb2⟩ := headWs_bd hw hv
  obtain ⟨N, rfl⟩ := Int.eq_ofNat_of_zero_le (by omega : 0 ≤ nq)
  have HRQ := Lib.hid (readR_eq HEH.out hw hv)
  clear hhv hw hv
  obtain ⟨G, hG⟩ : ∃ G, G = goM lines f t N 0 [] := ⟨_, rfl⟩
  rw [← hG] at HRQ
  have HG := Lib.hid hG; clear hG
  go_wp2_with fail
  go_loopw [8] (fun r wr => ∃ (i : Nat) (vs : List Int) (A' : Option Addr) (c' : Nat), i ≤ N ∧ vs.length = i ∧ r = .int .i64 ((i : Int) + 1) ∧ PgAt wr w1.heap.size nm f t A' i c' ∧ wr.ownsRow (w1.heap.size + 1) 2 1 (.slice A' i c') i (vs.map (Value.int .i64)) ∧ (∀ o, wr.frozen? ⟨w1.heap.size, o, none⟩ = false) ∧ Below w1.heap.size w1 wr ∧ w1.heap.size + 1 ≤ wr.heap.size ∧ goM lines f t (N - i) i vs = G ∧ (∀ x ∈ vs, -1000000000000 ≤ x ∧ x ≤ 1000000000000)) (fun r _ => N + 1 - (intOf r).toNat)
  case atStart => exact ⟨0, [], none, 0, Nat.zero_le _, rfl, by simp, (by unfold PgAt; simp [go_sem]), World.ownsRow_nil _ _ _ _, fun o => by simp [go_sem], by (repeat' (first | (with_reducible exact Below.refl _ _) | (with_reducible assumption) | (with_reducible refine below_drewN ?_ _) | (with_reducible refine Below.drew ?_) | (with_reducible refine Below.alloc ?_ ?_ _) | (with_reducible refine Below.setCell ?_ ?_ _) | (with_reducible refine via (by with_reducible assumption) ?_ ?_) | go_size)), by simp [go_sem], by rw [HG.out]; rfl, fun x hx => by cases hx⟩
  case round =>
    obtain ⟨i, vs, A', c', hi, hvl, rfl, hp, hown, hfz, hb, hbz, hgo, hvv⟩ := hrel
    have HP := Lib.hid hp; have HO := Lib.hid hown; have HFZ := Lib.hid hfz; have HGO := Lib.hid hgo; have HVV := Lib.hid hvv; have HVL := Lib.hid hvl
    clear hown hfz hgo hvv hvl
    have hbw : Below w.heap.size w wr := hbw1.trans (hb.mono hbw1.size)
    obtain ⟨hcr, hfr⟩ := bcell hb
    have y0 := (hcr _ 0 hlt1).trans z0
    have y1 := (hcr _ 1 hlt1).trans z1
    have y2 := (hcr _ 2 hlt1).trans z2
    have y3 := (hcr _ 3 hlt1).trans z3
    have g0 := (hfr _ 0 hlt1).trans (fz 0)
    have g1 := (hfr _ 1 hlt1).trans (fz 1)
    have g2 := (hfr _ 2 hlt1).trans (fz 2)
    have g3 := (hfr _ 3 hlt1).trans (fz 3)
    have hlr := far (show w.heap.size < wr.heap.size by omega)
    have hlp := far (show w1.heap.size < wr.heap.size by omega)
    have hlbl := far (Nat.lt_of_lt_of_le hbl hbw.size)
    have hne := (show ¬ w1.heap.size = w.heap.size by omega)
    have hne2 := (show ¬ w.heap.size = w1.heap.size by omega)
    have hcw := (bcell hbw).1
    by_cases hlt2 : i < N
    · have hN : N - i = (N - i - 1) + 1 := by omega
      by_cases hln : n ≤ i + 1
      · have HR := Lib.hid (show readR lines = (pz, (i : Int) + 1, 2) by
          rw [HRQ.out, ← HGO.out, hN, goM_none (by rw [HN.out]; exact hln)]
          rfl)
        have p1 : (n : Int) ≤ (i : Int) + 1 := by omega
        have p2 : ((i : Int) + 1 ≤ (N : Int)) := by omega
        have p3 : ((i : Int) < (N : Int)) := by omega
        have e1 : IntKind.i64.wrap ((i : Int) + 1) = (i : Int) + 1 := IntWalk.i64_in _ (by omega)
        clear hcr hfr hp
        go_wp2_with fail
        refine bodyPost_ret (v := .tuple #[.agg #[.string ByteArray.empty, .int .i64 0, .int .i64 0, .slice none 0 0], .int .i64 ((i : Int) + 1), .int .i64 2]) (by simp only [results, Tryd.results45]; go_simp; try rfl) rfl ⟨none, 0, (by rw [HR.out]; rfl), by rw [HR.out]; exact World.ownsRow_nil _ _ _ _, by (repeat' (first | (with_reducible exact Below.refl _ _) | (with_reducible assumption) | (with_reducible refine below_drewN ?_ _) | (with_reducible refine Below.drew ?_) | (with_reducible refine Below.alloc ?_ ?_ _) | (with_reducible refine Below.setCell ?_ ?_ _) | (with_reducible refine via (by with_reducible assumption) ?_ ?_) | go_size))⟩
      obtain ⟨ln, eln⟩ := get_ex lines (i + 1) (by rw [HN.out]; omega)
      have hls2 := HSZ.out ln (List.mem_of_getElem? eln)
      have ec := HCL.out (i + 1) ln eln
      rw [← hcw _ _ hbl] at ec
      have ec2 : wr.cell? ⟨bl, ol + i + 1, none⟩ = some (.string ln) := by rw [Nat.add_assoc]; exact ec
      have HELN := Lib.hid eln; clear eln
      have p1 : ¬ (n : Int) ≤ (i : Int) + 1 := by omega
      have p2 : ((i : Int) + 1 ≤ (N : Int)) := by omega
      have p3 : ((i : Int) < (N : Int)) := by omega
      have p4 : (0 : Int) ≤ (i : Int) + 1 := by omega
      have p5 : (i : Int) + 1 < (n : Int) := by omega
      have p6 : i + 1 < n := by omega
      have p7 : ((i : Int) + 1).toNat = i + 1 := by omega
      have e1 : IntKind.i64.wrap ((i : Int) + 1) = (i : Int) + 1 := IntWalk.i64_in _ (by omega)
      have e1b : IntKind.i64.wrap ((i : Int) + 1 + 1) = (i : Int) + 1 + 1 := IntWalk.i64_in _ (by omega)
      obtain ⟨r, hr⟩ : ∃ r, r = rowWs (splL ln 32) (f + (i : Int) * t) := ⟨_, rfl⟩
      have HRW := Lib.hid hr
      have hrr := rowWs_range (splL ln 32) (f + (i : Int) * t)
      rw [← hr] at hrr
      have HRR := Lib.hid (readRow_c w1.heap.size nm f t A' c' vs (w1.heap.size + 1) ln wr hls2 hfb htb (by rw [HVL.out]; omega) (Nat.lt_succ_self _) hbz (by rw [HVL.out]; exact HP.out) (by rw [HVL.out]; exact HO.out) HFZ.out (HT.out.below hbw))
      rw [HVL.out, ← hr] at HRR
      clear hr hp hcw hcr hfr
      go_wp2_with fail
      refine HRR.out.mono ?_
      rintro e w3 ⟨rfl, hbad, hgood⟩
      by_cases hr0 : r.2 = 0
      rotate_left
      · have hb3 := hbad hr0
        have HR := Lib.hid (show readR lines = (pz, (i : Int) + 1, r.2) by
          rw [HRQ.out, ← HGO.out, hN, goM_bad HELN.out (by rw [← HRW.out]; exact hr0), ← HRW.out, if_neg hr0])
        obtain ⟨hc3, hf3⟩ := bcell hb3
        rw [← hc3 _ _ hlr.1] at y0
        rw [← hf3 _ _ hlr.1] at g0
        rw [← hc3 _ _ hlr.1] at y1
        rw [← hf3 _ _ hlr.1] at g1
        rw [← hc3 _ _ hlr.1] at y2
        rw [← hf3 _ _ hlr.1] at g2
        rw [← hc3 _ _ hlr.1] at y3
        rw [← hf3 _ _ hlr.1] at g3
        have hl3 := far (Nat.lt_of_lt_of_le hlr.1 hb3.size)
        have hbw3 : Below w.heap.size w w3 := hbw.trans (hb3.mono hbw.size)
        have q1 : (r.2 == 0) = false := by rw [beq_eq_false_iff_ne]; exact hr0
        have q2 : (r.2 != 0) = true := by rw [bne_iff_ne]; exact hr0
        generalize r.2 = rf at *
        clear hbad hgood hb3 hc3 hf3
        go_wp2_with fail
        refine bodyPost_ret (v := .tuple #[.agg #[.string ByteArray.empty, .int .i64 0, .int .i64 0, .slice none 0 0], .int .i64 ((i : Int) + 1), .int .i64 rf]) (by simp only [results, Tryd.results45]; go_simp; try rfl) rfl ⟨none, 0, (by rw [HR.out]; rfl), by rw [HR.out]; exact World.ownsRow_nil _ _ _ _, by (repeat' (first | (with_reducible exact Below.refl _ _) | (with_reducible assumption) | (with_reducible refine below_drewN ?_ _) | (with_reducible refine Below.drew ?_) | (with_reducible refine Below.alloc ?_ ?_ _) | (with_reducible refine Below.setCell ?_ ?_ _) | (with_reducible refine via (by with_reducible assumption) ?_ ?_) | go_size))⟩
      · obtain ⟨A3, c3, hp3, ho3, hf3, hb3, hz3⟩ := hgood hr0
        rw [HVL.out] at hp3 ho3
        have HP3 := Lib.hid hp3; have HO3 := Lib.hid ho3; have HF3 := Lib.hid hf3
        have HGO3 := Lib.hid (show goM lines f t (N - (i + 1)) (i + 1) (vs ++ [r.1]) = G by
          have h := HGO.out
          rw [hN, goM_ok HELN.out (by rw [← HRW.out]; exact hr0), ← HRW.out] at h
          rw [show N - (i + 1) = N - i - 1 by omega]
          exact h)
        have HV3 := Lib.hid (show ∀ x ∈ vs ++ [r.1], -1000000000000 ≤ x ∧ x ≤ 1000000000000 from fun x hx => by
          rw [List.mem_append] at hx
          rcases hx with hx | hx
          · exact HVV.out x hx
          · simp at hx
            rw [hx, HRW.out]
            exact rowWs_val (by rw [← HRW.out]; exact hr0))
        have HL3 := Lib.hid (show (vs ++ [r.1]).length = i + 1 by rw [List.length_append, HVL.out]; rfl)
        have HB3 := Lib.hid (show Below w1.heap.size w1 w3 from hb.trans hb3)
        have HZ3 := Lib.hid (show w1.heap.size + 1 ≤ w3.heap.size by omega)
        have q1 : (r.2 == 0) = true := by rw [beq_iff_eq]; exact hr0
        have q2 : (r.2 != 0) = false := by rw [bne_eq_false_iff_eq]; exact hr0
        rw [hr0]
        clear hbad hgood hp3 ho3 hf3 hb3
        go_wp2_with fail
        (first | (refine ⟨?_, ?_⟩; rotate_left; (first | (simp [intOf]; done) | (simp [intOf]; omega)); (repeat apply Exists.intro); refine ⟨?_, rfl⟩; exact ⟨i + 1, vs ++ [r.1], A3, c3, by omega, HL3.out, by go_num, HP3.out, HO3.out, HF3.out, HB3.out, HZ3.out, HGO3.out, HV3.out⟩) | exact ⟨⟨i + 1, vs ++ [r.1], A3, c3, by omega, HL3.out, by go_num, HP3.out, HO3.out, HF3.out, HB3.out, HZ3.out, HGO3.out, HV3.out⟩, by first | (simp [intOf]; done) | (simp [intOf]; omega)⟩)
    · obtain rfl : i = N := by omega
      have hG2 : (vs, (-1 : Int), (0 : Int)) = G := by
        have h := HGO.out
        rw [Nat.sub_self] at h
        exact h
      have p1 : ¬ ((i : Int) + 1 ≤ (i : Int)) := by omega
      have p2 : ¬ ((i : Int) < (i : Int)) := by omega
      have e2 : IntKind.i64.wrap ((i : Int) + 2) = (i : Int) + 2 := IntWalk.i64_in _ (by omega)
      have e1 : IntKind.i64.wrap ((i : Int) + 1) = (i : Int) + 1 := IntWalk.i64_in _ (by omega)
      obtain ⟨c0, c1, c2, c3⟩ := hp
      by_cases hnl : n = i + 2
      rotate_left
      · have HR := Lib.hid (show readR lines = (pz, (i : Int) + 1, 5) by
          rw [HRQ.out, ← hG2, if_pos rfl, if_neg (fun h => hnl (by rw [← HN.out]; exact h.1))])
        have q1 : ((n : Int) == (i : Int) + 2) = false := by rw [beq_eq_false_iff_ne]; omega
        have q2 : ((n : Int) != (i : Int) + 2) = true := by rw [bne_iff_ne]; omega
        clear hcr hfr
        go_wp2_with fail
        (refine wp_region_quiet_below (by kernel_rfl) (by kernel_rfl) ?_; (repeat (go_big_quiet_step (first | fail))); refine wpQuiet_nil ?_; refine qg_end ?_; intro wq hbq)
        obtain ⟨w3, rfl⟩ : ∃ u : World, u = wq := ⟨_, rfl⟩
        obtain ⟨hc3, hf3⟩ := bcell hbq
        rw [← hc3 _ _ hlr.1] at y0
        rw [← hf3 _ _ hlr.1] at g0
        rw [← hc3 _ _ hlr.1] at y1
        rw [← hf3 _ _ hlr.1] at g1
        rw [← hc3 _ _ hlr.1] at y2
        rw [← hf3 _ _ hlr.1] at g2
        rw [← hc3 _ _ hlr.1] at y3
        rw [← hf3 _ _ hlr.1] at g3
        have hl3 := far (Nat.lt_of_lt_of_le hlr.1 hbq.size)
        have hbw3 : Below w.heap.size w w3 := hbw.trans (hbq.mono hbw.size)
        clear hbq hc3 hf3 c0 c1 c2 c3
        go_wp2_with fail
        refine bodyPost_ret (v := .tuple #[.agg #[.string ByteArray.empty, .int .i64 0, .int .i64 0, .slice none 0 0], .int .i64 ((i : Int) + 1), .int .i64 5]) (by simp only [results, Tryd.results45]; go_simp; try rfl) rfl ⟨none, 0, (by rw [HR.out]; rfl), by rw [HR.out]; exact World.ownsRow_nil _ _ _ _, by (repeat' (first | (with_reducible exact Below.refl _ _) | (with_reducible assumption) | (with_reducible refine below_drewN ?_ _) | (with_reducible refine Below.drew ?_) | (with_reducible refine Below.alloc ?_ ?_ _) | (with_reducible refine Below.setCell ?_ ?_ _) | (with_reducible refine via (by with_reducible assumption) ?_ ?_) | go_size))⟩
      obtain ⟨ln, eln⟩ := get_ex lines (i + 1) (by rw [HN.out]; omega)
      have ec := HCL.out (i + 1) ln eln
      rw [← hcw _ _ hbl] at ec
      have ec2 : wr.cell? ⟨bl, ol + i + 1, none⟩ = some (.string ln) := by rw [Nat.add_assoc]; exact ec
      have HGD := Lib.hid (show lines.getD (i + 1) ByteArray.empty = ln by rw [List.getD_eq_getElem?_getD, eln]; rfl)
      have q1 : ((n : Int) == (i : Int) + 2) = true := by rw [beq_iff_eq]; omega
      have q2 : ((n : Int) != (i : Int) + 2) = false := by rw [bne_eq_false_iff_eq]; omega
      have p4 : (0 : Int) ≤ (i : Int) + 1 := by omega
      have p5 : (i : Int) + 1 < (n : Int) := by omega
      have p6 : i + 1 < n := by omega
      have p7 : ((i : Int) + 1).toNat = i + 1 := by omega
      have HFT := Lib.hid (fun w' (h : Below wr.heap.size wr w') => footLine_c nm f t A' i c' vs w' HVL.out (by omega) ((rd_own (own_call HO.out h))) HVV.out (HT.out.below (hbw.trans (h.mono hbw.size))))
      unfold pg at HFT
      clear eln hcw hcr hfr
      cases hft : (ln.toList == (footT vs).toList)
      · have HR := Lib.hid (show readR lines = (pz, (i : Int) + 1, 5) by
          rw [HRQ.out, ← hG2, if_pos rfl, if_neg (fun h => by have h2 := h.2; rw [HGD.out, hft] at h2; cases h2)])
        generalize footT vs = FT at *
        have q3 : (ln.toList != FT.toList) = true := by unfold bne; rw [hft]; rfl
        go_wp2_with fail
        (refine wp_region_quiet_below (by kernel_rfl) (by kernel_rfl) ?_; (repeat (go_big_quiet_step (first | ((go_at_call 57; exact rg_of (fun w' hb => HFT.out w' (by (repeat' (first | (with_reducible exact Below.refl _ _) | (with_reducible assumption) | (with_reducible refine below_drewN ?_ _) | (with_reducible refine Below.drew ?_) | (with_reducible refine Below.alloc ?_ ?_ _) | (with_reducible refine Below.setCell ?_ ?_ _) | (with_reducible refine via (by with_reducible assumption) ?_ ?_) | go_size))))))))); refine wpQuiet_nil ?_; refine qg_end ?_; intro wq hbq)
        obtain ⟨w3, rfl⟩ : ∃ u : World, u = wq := ⟨_, rfl⟩
        obtain ⟨hc3, hf3⟩ := bcell hbq
        rw [← hc3 _ _ hlr.1] at y0
        rw [← hf3 _ _ hlr.1] at g0
        rw [← hc3 _ _ hlr.1] at y1
        rw [← hf3 _ _ hlr.1] at g1
        rw [← hc3 _ _ hlr.1] at y2
        rw [← hf3 _ _ hlr.1] at g2
        rw [← hc3 _ _ hlr.1] at y3
        rw [← hf3 _ _ hlr.1] at g3
        have hl3 := far (Nat.lt_of_lt_of_le hlr.1 hbq.size)
        have hbw3 : Below w.heap.size w w3 := hbw.trans (hbq.mono hbw.size)
        clear hbq hc3 hf3 c0 c1 c2 c3
        go_wp2_with fail
        refine bodyPost_ret (v := .tuple #[.agg #[.string ByteArray.empty, .int .i64 0, .int .i64 0, .slice none 0 0], .int .i64 ((i : Int) + 1), .int .i64 5]) (by simp only [results, Tryd.results45]; go_simp; try rfl) rfl ⟨none, 0, (by rw [HR.out]; rfl), by rw [HR.out]; exact World.ownsRow_nil _ _ _ _, by (repeat' (first | (with_reducible exact Below.refl _ _) | (with_reducible assumption) | (with_reducible refine below_drewN ?_ _) | (with_reducible refine Below.drew ?_) | (with_reducible refine Below.alloc ?_ ?_ _) | (with_reducible refine Below.setCell ?_ ?_ _) | (with_reducible refine via (by with_reducible assumption) ?_ ?_) | go_size))⟩
      · have HR := Lib.hid (show readR lines = (⟨nm, f, t, vs⟩, -1, 0) by
          rw [HRQ.out, ← hG2, if_pos rfl, if_pos ⟨by rw [HN.out]; exact hnl, by rw [HGD.out]; exact hft⟩])
        generalize footT vs = FT at *
        have q3 : (ln.toList != FT.toList) = false := by unfold bne; rw [hft]; rfl
        go_wp2_with fail
        (refine wp_region_quiet_below (by kernel_rfl) (by kernel_rfl) ?_; (repeat (go_big_quiet_step (first | ((go_at_call 57; exact rg_of (fun w' hb => HFT.out w' (by (repeat' (first | (with_reducible exact Below.refl _ _) | (with_reducible assumption) | (with_reducible refine below_drewN ?_ _) | (with_reducible refine Below.drew ?_) | (with_reducible refine Below.alloc ?_ ?_ _) | (with_reducible refine Below.setCell ?_ ?_ _) | (with_reducible refine via (by with_reducible assumption) ?_ ?_) | go_size))))))))); refine wpQuiet_nil ?_; refine qg_end ?_; intro wq hbq)
        obtain ⟨w3, rfl⟩ : ∃ u : World, u = wq := ⟨_, rfl⟩
        obtain ⟨hc3, hf3⟩ := bcell hbq
        rw [← hc3 _ _ hlr.1] at y0
        rw [← hf3 _ _ hlr.1] at g0
        rw [← hc3 _ _ hlp.1] at c0
        rw [← hc3 _ _ hlr.1] at y1
        rw [← hf3 _ _ hlr.1] at g1
        rw [← hc3 _ _ hlp.1] at c1
        rw [← hc3 _ _ hlr.1] at y2
        rw [← hf3 _ _ hlr.1] at g2
        rw [← hc3 _ _ hlp.1] at c2
        rw [← hc3 _ _ hlr.1] at y3
        rw [← hf3 _ _ hlr.1] at g3
        rw [← hc3 _ _ hlp.1] at c3
        have hl3 := far (Nat.lt_of_lt_of_le hlr.1 hbq.size)
        have hl4 := far (Nat.lt_of_lt_of_le hlp.1 hbq.size)
        have hbw3 : Below w.heap.size w w3 := hbw.trans (hbq.mono hbw.size)
        have HO3 := Lib.hid (own_call HO.out hbq)
        clear hbq hc3 hf3
        go_wp2_with fail
        refine bodyPost_ret (v := .tuple #[.agg #[.string nm, .int .i64 f, .int .i64 t, .slice A' i c'], .int .i64 (-1), .int .i64 0]) (by simp only [results, Tryd.results45]; go_simp) rfl ⟨A', c', by rw [HR.out]; simp only [HVL.out], ?_, by (repeat' (first | (with_reducible exact Below.refl _ _) | (with_reducible assumption) | (with_reducible refine below_drewN ?_ _) | (with_reducible refine Below.drew ?_) | (with_reducible refine Below.alloc ?_ ?_ _) | (with_reducible refine Below.setCell ?_ ?_ _) | (with_reducible refine via (by with_reducible assumption) ?_ ?_) | go_size))⟩
        rw [HR.out]
        simp only [HVL.out]
        refine Go.Joins.ownsRow_le ?_ (show w.heap.size ≤ w1.heap.size + 1 by omega)
        repeat (refine ownsRow_setCell_below ?_ (by simp only; omega) _)
        exact HO3.out

set_option maxRecDepth 100000 in
set_option maxHeartbeats 8000000 in
theorem l18Read_c (A : Option Addr) (n c : Nat) (lines : List ByteArray) (w : World) (hn : lines.length = n) (hm : n ≤ 1048576) (hr : Rd w w.heap.size 1 scell A lines) (hsz : ∀ x ∈ lines, x.size ≤ 1048576) :
    Calls Tryd.prog 44 #[.slice A n c] w (RetRead (readR lines) w) := by
  have HN := Lib.hid hn; clear hn
  have HSZ := Lib.hid hsz; clear hsz
  obtain ⟨i0, hi0, hy0, hy1, hy2⟩ := info_parts info_i64
  by_cases hn0 : n = 0
  · have HR := Lib.hid (readR_none (by rw [HN.out]; exact hn0))
    subst hn0
    go_enter Tryd.func44, Tryd.ntmps44
    go_wp2_with fail
    refine bodyPost_ret (v := .tuple #[.agg #[.string ByteArray.empty, .int .i64 0, .int .i64 0, .slice none 0 0], .int .i64 0, .int .i64 1]) (by simp only [results, Tryd.results44]; go_simp; try rfl) rfl ⟨none, 0, (by rw [HR.out]; rfl), by rw [HR.out]; exact World.ownsRow_nil _ _ _ _, by (repeat' (first | (with_reducible exact Below.refl _ _) | (with_reducible assumption) | (with_reducible refine below_drewN ?_ _) | (with_reducible refine Below.drew ?_) | (with_reducible refine Below.alloc ?_ ?_ _) | (with_reducible refine Below.setCell ?_ ?_ _) | (with_reducible refine via (by with_reducible assumption) ?_ ?_) | go_size))⟩
  obtain ⟨hl, eh⟩ := get_ex lines 0 (by rw [HN.out]; omega)
  obtain ⟨bl, ol, rfl, hbl, hcl⟩ := hr.strs (by rw [HN.out]; omega)
  have HCL := Lib.hid hcl
  have el := hcl 0 hl eh
  rw [Nat.add_zero] at el
  have hls := HSZ.out hl (List.mem_of_getElem? eh)
  have HEH := Lib.hid eh
  have hfl := far hbl
  have n1 : ¬ (n : Int) = 0 := by omega
  have n2 : (0 : Int) < (n : Int) := by omega
  have n3 : 0 < n := by omega
  clear hcl eh hr
  go_enter Tryd.func44, Tryd.ntmps44
  go_wp2_with fail
  refine gen_calls fun V hV => ?_
  have hbV : Below w.heap.size w V := by rw [hV.out]; (repeat' (first | (with_reducible exact Below.refl _ _) | (with_reducible assumption) | (with_reducible refine below_drewN ?_ _) | (with_reducible refine Below.drew ?_) | (with_reducible refine Below.alloc ?_ ?_ _) | (with_reducible refine Below.setCell ?_ ?_ _) | (with_reducible refine via (by with_reducible assumption) ?_ ?_) | go_size))
  have hlt : w.heap.size < V.heap.size := by rw [hV.out]; simp [go_sem]
  have z0 : V.cell? ⟨w.heap.size, 0, none⟩ = some (.string ByteArray.empty) := by rw [hV.out]; simp [go_sem]; rfl
  have z1 : V.cell? ⟨w.heap.size, 1, none⟩ = some (.int .i64 0) := by rw [hV.out]; simp [go_sem]
  have z2 : V.cell? ⟨w.heap.size, 2, none⟩ = some (.int .i64 0) := by rw [hV.out]; simp [go_sem]
  have z3 : V.cell? ⟨w.heap.size, 3, none⟩ = some (.slice none 0 0) := by rw [hV.out]; simp [go_sem]
  have fz : ∀ o, V.frozen? ⟨w.heap.size, o, none⟩ = false := fun o => by rw [hV.out]; simp [go_sem]
  clear hV
  have HH := Lib.hid (l18Head_c hl V hls)
  refine HH.out.mono ?_
  rintro e w1 ⟨nm, f, t, nq, rfl, hhv, hb1⟩
  have hbw1 : Below w.heap.size w w1 := hbV.trans (hb1.mono hbV.size)
  have hlt1 : w.heap.size < w1.heap.size := Nat.lt_of_lt_of_le hlt hb1.size
  obtain ⟨hc, hf⟩ := bcell hb1
  rw [← hc _ _ hlt] at z0
  rw [← hc _ _ hlt] at z1
  rw [← hc _ _ hlt] at z2
  rw [← hc _ _ hlt] at z3
  replace fz : ∀ o, w1.frozen? ⟨w.heap.size, o, none⟩ = false := fun o => by rw [hf _ _ hlt]; exact fz o
  clear hc hf HH
  cases hw : headWs (splL hl 32)
  · have HR := Lib.hid (readR_head HEH.out hw)
    have fz0 := fz 0
    have fz1 := fz 1
    have fz2 := fz 2
    have fz3 := fz 3
    have hfar := far hlt1
    clear hhv hw
    go_wp2_with fail
    refine bodyPost_ret (v := .tuple #[.agg #[.string ByteArray.empty, .int .i64 0, .int .i64 0, .slice none 0 0], .int .i64 0, .int .i64 1]) (by simp only [results, Tryd.results44]; go_simp; try rfl) rfl ⟨none, 0, (by rw [HR.out]; rfl), by rw [HR.out]; exact World.ownsRow_nil _ _ _ _, by (repeat' (first | (with_reducible exact Below.refl _ _) | (with_reducible assumption) | (with_reducible refine below_drewN ?_ _) | (with_reducible refine Below.drew ?_) | (with_reducible refine Below.alloc ?_ ?_ _) | (with_reducible refine Below.setCell ?_ ?_ _) | (with_reducible refine via (by with_reducible assumption) ?_ ?_) | go_size))⟩
  have hv := hhv hw
  obtain ⟨hfb, htb, hnb1, hnb2⟩ := headWs_bd hw hv
  obtain ⟨N, rfl⟩ := Int.eq_ofNat_of_zero_le (by omega : 0 ≤ nq)
  have HRQ := Lib.hid (readR_eq HEH.out hw hv)
  clear hhv hw hv
  obtain ⟨G, hG⟩ : ∃ G, G = goM lines f t N 0 [] := ⟨_, rfl⟩
  rw [← hG] at HRQ
  have HG := Lib.hid hG; clear hG
  go_wp2_with fail
  go_loopw [8] (fun r wr => ∃ (i : Nat) (vs : List Int) (A' : Option Addr) (c' : Nat), i ≤ N ∧ vs.length = i ∧ r = .int .i64 ((i : Int)) ∧ PgAt wr w1.heap.size nm f t A' i c' ∧ wr.ownsRow (w1.heap.size + 1) 2 1 (.slice A' i c') i (vs.map (Value.int .i64)) ∧ (∀ o, wr.frozen? ⟨w1.heap.size, o, none⟩ = false) ∧ Below w1.heap.size w1 wr ∧ w1.heap.size + 1 ≤ wr.heap.size ∧ goM lines f t (N - i) i vs = G ∧ (∀ x ∈ vs, -1000000000000 ≤ x ∧ x ≤ 1000000000000)) (fun r _ => N + 1 - (intOf r).toNat)
  case atStart => exact ⟨0, [], none, 0, Nat.zero_le _, rfl, by simp, (by unfold PgAt; simp [go_sem]), World.ownsRow_nil _ _ _ _, fun o => by simp [go_sem], by (repeat' (first | (with_reducible exact Below.refl _ _) | (with_reducible assumption) | (with_reducible refine below_drewN ?_ _) | (with_reducible refine Below.drew ?_) | (with_reducible refine Below.alloc ?_ ?_ _) | (with_reducible refine Below.setCell ?_ ?_ _) | (with_reducible refine via (by with_reducible assumption) ?_ ?_) | go_size)), by simp [go_sem], by rw [HG.out]; rfl, fun x hx => by cases hx⟩
  case round =>
    obtain ⟨i, vs, A', c', hi, hvl, rfl, hp, hown, hfz, hb, hbz, hgo, hvv⟩ := hrel
    have HP := Lib.hid hp; have HO := Lib.hid hown; have HFZ := Lib.hid hfz; have HGO := Lib.hid hgo; have HVV := Lib.hid hvv; have HVL := Lib.hid hvl
    clear hown hfz hgo hvv hvl
    have hbw : Below w.heap.size w wr := hbw1.trans (hb.mono hbw1.size)
    obtain ⟨hcr, hfr⟩ := bcell hb
    have y0 := (hcr _ 0 hlt1).trans z0
    have y1 := (hcr _ 1 hlt1).trans z1
    have y2 := (hcr _ 2 hlt1).trans z2
    have y3 := (hcr _ 3 hlt1).trans z3
    have g0 := (hfr _ 0 hlt1).trans (fz 0)
    have g1 := (hfr _ 1 hlt1).trans (fz 1)
    have g2 := (hfr _ 2 hlt1).trans (fz 2)
    have g3 := (hfr _ 3 hlt1).trans (fz 3)
    have hlr := far (show w.heap.size < wr.heap.size by omega)
    have hlp := far (show w1.heap.size < wr.heap.size by omega)
    have hlbl := far (Nat.lt_of_lt_of_le hbl hbw.size)
    have hne := (show ¬ w1.heap.size = w.heap.size by omega)
    have hne2 := (show ¬ w.heap.size = w1.heap.size by omega)
    have hcw := (bcell hbw).1
    by_cases hlt2 : i < N
    · have hN : N - i = (N - i - 1) + 1 := by omega
      by_cases hln : n ≤ i + 1
      · have HR := Lib.hid (show readR lines = (pz, (i : Int) + 1, 2) by
          rw [HRQ.out, ← HGO.out, hN, goM_none (by rw [HN.out]; exact hln)]
          rfl)
        have p1 : (n : Int) ≤ (i : Int) + 1 := by omega
        have p2 : ((i : Int) + 1 ≤ (N : Int)) := by omega
        have p3 : ((i : Int) < (N : Int)) := by omega
        have e1 : IntKind.i64.wrap ((i : Int) + 1) = (i : Int) + 1 := IntWalk.i64_in _ (by omega)
        clear hcr hfr hp
        go_wp2_with fail
        refine bodyPost_ret (v := .tuple #[.agg #[.string ByteArray.empty, .int .i64 0, .int .i64 0, .slice none 0 0], .int .i64 ((i : Int) + 1), .int .i64 2]) (by simp only [results, Tryd.results44]; go_simp; try rfl) rfl ⟨none, 0, (by rw [HR.out]; rfl), by rw [HR.out]; exact World.ownsRow_nil _ _ _ _, by (repeat' (first | (with_reducible exact Below.refl _ _) | (with_reducible assumption) | (with_reducible refine below_drewN ?_ _) | (with_reducible refine Below.drew ?_) | (with_reducible refine Below.alloc ?_ ?_ _) | (with_reducible refine Below.setCell ?_ ?_ _) | (with_reducible refine via (by with_reducible assumption) ?_ ?_) | go_size))⟩
      obtain ⟨ln, eln⟩ := get_ex lines (i + 1) (by rw [HN.out]; omega)
      have hls2 := HSZ.out ln (List.mem_of_getElem? eln)
      have ec := HCL.out (i + 1) ln eln
      rw [← hcw _ _ hbl] at ec
      have ec2 : wr.cell? ⟨bl, ol + i + 1, none⟩ = some (.string ln) := by rw [Nat.add_assoc]; exact ec
      have HELN := Lib.hid eln; clear eln
      have p1 : ¬ (n : Int) ≤ (i : Int) + 1 := by omega
      have p2 : ((i : Int) + 1 ≤ (N : Int)) := by omega
      have p3 : ((i : Int) < (N : Int)) := by omega
      have p4 : (0 : Int) ≤ (i : Int) + 1 := by omega
      have p5 : (i : Int) + 1 < (n : Int) := by omega
      have p6 : i + 1 < n := by omega
      have p7 : ((i : Int) + 1).toNat = i + 1 := by omega
      have e1 : IntKind.i64.wrap ((i : Int) + 1) = (i : Int) + 1 := IntWalk.i64_in _ (by omega)
      have e1b : IntKind.i64.wrap ((i : Int) + 1 + 1) = (i : Int) + 1 + 1 := IntWalk.i64_in _ (by omega)
      obtain ⟨r, hr⟩ : ∃ r, r = rowWs (splL ln 32) (f + (i : Int) * t) := ⟨_, rfl⟩
      have HRW := Lib.hid hr
      have hrr := rowWs_range (splL ln 32) (f + (i : Int) * t)
      rw [← hr] at hrr
      have hmt := rows_bd (n := (i : Int)) (t := t) (by omega) htb
      have w1' : IntKind.i64.wrap ((i : Int) * t) = (i : Int) * t := IntWalk.i64_in _ (by omega)
      have w2' : IntKind.i64.wrap (f + (i : Int) * t) = f + (i : Int) * t := IntWalk.i64_in _ (by omega)
      have HLV := Lib.hid (fun w' => l18Value_c ln (f + (i : Int) * t) w' hls2)
      rw [← hr] at HLV
      obtain ⟨c0, c1, c2, c3⟩ := hp
      clear hr hcw hcr hfr hmt
      by_cases hr0 : r.2 = 0
      rotate_left
      · have HR := Lib.hid (show readR lines = (pz, (i : Int) + 1, r.2) by
          rw [HRQ.out, ← HGO.out, hN, goM_bad HELN.out (by rw [← HRW.out]; exact hr0), ← HRW.out, if_neg hr0])
        have q1 : (r.2 == 0) = false := by rw [beq_eq_false_iff_ne]; exact hr0
        have q2 : (r.2 != 0) = true := by rw [bne_iff_ne]; exact hr0
        go_wp2_with fail
        (refine wp_region_quiet_below (by kernel_rfl) (by kernel_rfl) ?_; (repeat (go_big_quiet_step (first | ((go_at_call 79; exact rg_of (fun w' hb => HLV.out w')))))); refine wpQuiet_nil ?_; refine qg_end ?_; intro wq hbq)
        obtain ⟨w3, rfl⟩ : ∃ u : World, u = wq := ⟨_, rfl⟩
        obtain ⟨hc3, hf3⟩ := bcell hbq
        rw [← hc3 _ _ hlr.1] at y0
        rw [← hf3 _ _ hlr.1] at g0
        rw [← hc3 _ _ hlr.1] at y1
        rw [← hf3 _ _ hlr.1] at g1
        rw [← hc3 _ _ hlr.1] at y2
        rw [← hf3 _ _ hlr.1] at g2
        rw [← hc3 _ _ hlr.1] at y3
        rw [← hf3 _ _ hlr.1] at g3
        have hl3 := far (Nat.lt_of_lt_of_le hlr.1 hbq.size)
        have hbw3 : Below w.heap.size w w3 := hbw.trans (hbq.mono hbw.size)
        generalize r.2 = rf at *
        clear hbq hc3 hf3 c0 c1 c2 c3
        go_wp2_with fail
        refine bodyPost_ret (v := .tuple #[.agg #[.string ByteArray.empty, .int .i64 0, .int .i64 0, .slice none 0 0], .int .i64 ((i : Int) + 1), .int .i64 rf]) (by simp only [results, Tryd.results44]; go_simp; try rfl) rfl ⟨none, 0, (by rw [HR.out]; rfl), by rw [HR.out]; exact World.ownsRow_nil _ _ _ _, by (repeat' (first | (with_reducible exact Below.refl _ _) | (with_reducible assumption) | (with_reducible refine below_drewN ?_ _) | (with_reducible refine Below.drew ?_) | (with_reducible refine Below.alloc ?_ ?_ _) | (with_reducible refine Below.setCell ?_ ?_ _) | (with_reducible refine via (by with_reducible assumption) ?_ ?_) | go_size))⟩
      · have HGO3 := Lib.hid (show goM lines f t (N - (i + 1)) (i + 1) (vs ++ [r.1]) = G by
          have h := HGO.out
          rw [hN, goM_ok HELN.out (by rw [← HRW.out]; exact hr0), ← HRW.out] at h
          rw [show N - (i + 1) = N - i - 1 by omega]
          exact h)
        have HV3 := Lib.hid (show ∀ x ∈ vs ++ [r.1], -1000000000000 ≤ x ∧ x ≤ 1000000000000 from fun x hx => by
          rw [List.mem_append] at hx
          rcases hx with hx | hx
          · exact HVV.out x hx
          · simp at hx
            rw [hx, HRW.out]
            exact rowWs_val (by rw [← HRW.out]; exact hr0))
        have HL3 := Lib.hid (show (vs ++ [r.1]).length = i + 1 by rw [List.length_append, HVL.out]; rfl)
        have q1 : (r.2 == 0) = true := by rw [beq_iff_eq]; exact hr0
        have q2 : (r.2 != 0) = false := by rw [bne_eq_false_iff_eq]; exact hr0
        rw [hr0] at HLV
        generalize r.1 = v at *
        go_wp2_with fail
        (refine wp_region_quiet_below (by kernel_rfl) (by kernel_rfl) ?_; (repeat (go_big_quiet_step (first | ((go_at_call 79; exact rg_of (fun w' hb => HLV.out w')))))); refine wpQuiet_nil ?_; refine qg_end ?_; intro wq hbq)
        obtain ⟨w3, rfl⟩ : ∃ u : World, u = wq := ⟨_, rfl⟩
        have hp3 := HP.out.below hbq hlp.1
        have HP3 := Lib.hid hp3
        have HO3 := Lib.hid (own_call HO.out hbq)
        have HF3 := Lib.hid (fun o => ((bcell hbq).2 w1.heap.size o hlp.1).trans (HFZ.out o))
        have hb3 : Below w1.heap.size w1 w3 := hb.trans (hbq.mono (by omega))
        have hz3 : w1.heap.size + 1 ≤ w3.heap.size := Nat.le_trans hbz hbq.size
        clear hbq c0 c1 c2 c3 HP HO HFZ y0 y1 y2 y3 g0 g1 g2 g3
        obtain ⟨c0, c1, c2, c3⟩ := hp3
        have fz3 := HF3.out 3
        have hl3 := far (show w1.heap.size < w3.heap.size by omega)
        go_wp2_with (at_builtin; refine app_list (W := w3) (z := .int .i64 0) (.tmp 62) (.tmp 64) rfl rfl Tryd.underlying29 hi0 hy0 hy1 hy2 rfl (by decide) (by decide) rfl (HO3.out.alloc _) rfl rfl (news1 (z := .int .i64 v) (by simp [go_sem])) (by simp [Value.oneCell']) (by omega) (by (repeat' (first | (with_reducible exact Below.refl _ _) | (with_reducible assumption) | (with_reducible refine below_drewN ?_ _) | (with_reducible refine Below.drew ?_) | (with_reducible refine Below.alloc ?_ ?_ _) | (with_reducible refine Below.setCell ?_ ?_ _) | (with_reducible refine via (by with_reducible assumption) ?_ ?_) | go_size))) (by omega) ?_; intro v4 w7 hown3 hg7 hblk7 hb7; have h3' : w7.cell? ⟨w1.heap.size, 3, none⟩ = some (.slice A' i c') := (hb7.cell (p := ⟨w1.heap.size, 3, none⟩) (Nat.lt_succ_self _)).trans c3; have f3' : w7.frozen? ⟨w1.heap.size, 3, none⟩ = false := (hb7.frozen (p := ⟨w1.heap.size, 3, none⟩) (Nat.lt_succ_self _)).trans fz3; obtain ⟨A7, c7, rfl, _⟩ := own_form hown3)
        have HP7 := Lib.hid (show PgAt (w7.setCell ⟨w1.heap.size, 3, none⟩ (.slice A7 (i + 1) c7)) w1.heap.size nm f t A7 (i + 1) c7 from by
          obtain ⟨q0, q1', q2', q3'⟩ := HP3.out.below hb7 (Nat.lt_succ_self _)
          have ne : ∀ o', 3 ≠ o' → (⟨w1.heap.size, 3, none⟩ : Addr) ≠ ⟨w1.heap.size, o', none⟩ := fun o' h e => h (by injection e)
          exact ⟨by rw [World.cell?_setCell_other (h := ne 0 (by decide))]; exact q0, by rw [World.cell?_setCell_other (h := ne 1 (by decide))]; exact q1', by rw [World.cell?_setCell_other (h := ne 2 (by decide))]; exact q2', by rw [World.cell?_setCell_same (h := q3')]⟩)
        have HO7 := Lib.hid (show (w7.setCell ⟨w1.heap.size, 3, none⟩ (.slice A7 (i + 1) c7)).ownsRow (w1.heap.size + 1) 2 1 (.slice A7 (i + 1) c7) (i + 1) ((vs ++ [v]).map (Value.int .i64)) from by
          rw [List.map_append]
          exact ownsRow_setCell_below hown3 (Nat.lt_succ_self _) _)
        have HF7 := Lib.hid (show ∀ o, (w7.setCell ⟨w1.heap.size, 3, none⟩ (.slice A7 (i + 1) c7)).frozen? ⟨w1.heap.size, o, none⟩ = false from fun o => by
          rw [World.frozen?_setCell, hb7.frozen (p := ⟨w1.heap.size, o, none⟩) (Nat.lt_succ_self _)]
          exact HF3.out o)
        have HB7 := Lib.hid (show Below w1.heap.size w1 (w7.setCell ⟨w1.heap.size, 3, none⟩ (.slice A7 (i + 1) c7)) from (hb3.trans (hb7.mono (Nat.le_succ _))).setCell (Nat.le_refl _) _)
        have hz7 := Nat.le_trans hz3 hb7.size
        (first | (refine ⟨?_, ?_⟩; rotate_left; (first | (simp [intOf]; done) | (simp [intOf]; omega)); (repeat apply Exists.intro); refine ⟨?_, rfl⟩; exact ⟨i + 1, vs ++ [v], A7, c7, by omega, HL3.out, by go_num, HP7.out, HO7.out, HF7.out, HB7.out, by first | (simp only [World.size_setCell]; exact hz7) | exact hz7, HGO3.out, HV3.out⟩) | exact ⟨⟨i + 1, vs ++ [v], A7, c7, by omega, HL3.out, by go_num, HP7.out, HO7.out, HF7.out, HB7.out, by first | (simp only [World.size_setCell]; exact hz7) | exact hz7, HGO3.out, HV3.out⟩, by first | (simp [intOf]; done) | (simp [intOf]; omega)⟩)
    · obtain rfl : i = N := by omega
      have hG2 : (vs, (-1 : Int), (0 : Int)) = G := by
        have h := HGO.out
        rw [Nat.sub_self] at h
        exact h
      have p1 : ¬ ((i : Int) + 1 ≤ (i : Int)) := by omega
      have p2 : ¬ ((i : Int) < (i : Int)) := by omega
      have e2 : IntKind.i64.wrap ((i : Int) + 2) = (i : Int) + 2 := IntWalk.i64_in _ (by omega)
      have e1 : IntKind.i64.wrap ((i : Int) + 1) = (i : Int) + 1 := IntWalk.i64_in _ (by omega)
      obtain ⟨c0, c1, c2, c3⟩ := hp
      by_cases hnl : n = i + 2
      rotate_left
      · have HR := Lib.hid (show readR lines = (pz, (i : Int) + 1, 5) by
          rw [HRQ.out, ← hG2, if_pos rfl, if_neg (fun h => hnl (by rw [← HN.out]; exact h.1))])
        have q1 : ((n : Int) == (i : Int) + 2) = false := by rw [beq_eq_false_iff_ne]; omega
        have q2 : ((n : Int) != (i : Int) + 2) = true := by rw [bne_iff_ne]; omega
        clear hcr hfr
        go_wp2_with fail
        (refine wp_region_quiet_below (by kernel_rfl) (by kernel_rfl) ?_; (repeat (go_big_quiet_step (first | fail))); refine wpQuiet_nil ?_; refine qg_end ?_; intro wq hbq)
        obtain ⟨w3, rfl⟩ : ∃ u : World, u = wq := ⟨_, rfl⟩
        obtain ⟨hc3, hf3⟩ := bcell hbq
        rw [← hc3 _ _ hlr.1] at y0
        rw [← hf3 _ _ hlr.1] at g0
        rw [← hc3 _ _ hlr.1] at y1
        rw [← hf3 _ _ hlr.1] at g1
        rw [← hc3 _ _ hlr.1] at y2
        rw [← hf3 _ _ hlr.1] at g2
        rw [← hc3 _ _ hlr.1] at y3
        rw [← hf3 _ _ hlr.1] at g3
        have hl3 := far (Nat.lt_of_lt_of_le hlr.1 hbq.size)
        have hbw3 : Below w.heap.size w w3 := hbw.trans (hbq.mono hbw.size)
        clear hbq hc3 hf3 c0 c1 c2 c3
        go_wp2_with fail
        refine bodyPost_ret (v := .tuple #[.agg #[.string ByteArray.empty, .int .i64 0, .int .i64 0, .slice none 0 0], .int .i64 ((i : Int) + 1), .int .i64 5]) (by simp only [results, Tryd.results44]; go_simp; try rfl) rfl ⟨none, 0, (by rw [HR.out]; rfl), by rw [HR.out]; exact World.ownsRow_nil _ _ _ _, by (repeat' (first | (with_reducible exact Below.refl _ _) | (with_reducible assumption) | (with_reducible refine below_drewN ?_ _) | (with_reducible refine Below.drew ?_) | (with_reducible refine Below.alloc ?_ ?_ _) | (with_reducible refine Below.setCell ?_ ?_ _) | (with_reducible refine via (by with_reducible assumption) ?_ ?_) | go_size))⟩
      obtain ⟨ln, eln⟩ := get_ex lines (i + 1) (by rw [HN.out]; omega)
      have ec := HCL.out (i + 1) ln eln
      rw [← hcw _ _ hbl] at ec
      have ec2 : wr.cell? ⟨bl, ol + i + 1, none⟩ = some (.string ln) := by rw [Nat.add_assoc]; exact ec
      have HGD := Lib.hid (show lines.getD (i + 1) ByteArray.empty = ln by rw [List.getD_eq_getElem?_getD, eln]; rfl)
      have q1 : ((n : Int) == (i : Int) + 2) = true := by rw [beq_iff_eq]; omega
      have q2 : ((n : Int) != (i : Int) + 2) = false := by rw [bne_eq_false_iff_eq]; omega
      have p4 : (0 : Int) ≤ (i : Int) + 1 := by omega
      have p5 : (i : Int) + 1 < (n : Int) := by omega
      have p6 : i + 1 < n := by omega
      have p7 : ((i : Int) + 1).toNat = i + 1 := by omega
      have HFT := Lib.hid (fun w' (h : Below wr.heap.size wr w') => l18Foot_c w1.heap.size nm f t A' i c' vs w' HVL.out (by omega) (rd_own (own_call HO.out h)) HVV.out (HP.out.below h hlp.1))
      have hfp := footP_bd vs i (by omega)
      have HFD := Lib.hid (fun w' => l01Dec_c (footP vs i % 97) w' (by omega))
      have hds := dec_size (footP vs i % 97) (by omega)
      have HFX := Lib.hid (show footT vs = ⟨#[115, 117, 109, 32]⟩ ++ dec (footP vs i % 97) by unfold footT; rw [HVL.out])
      have s1 : (⟨#[115, 117, 109, 32]⟩ : ByteArray).size = 4 := rfl
      clear eln hcw hcr hfr
      cases hft : (ln.toList == (footT vs).toList)
      · have HR := Lib.hid (show readR lines = (pz, (i : Int) + 1, 5) by
          rw [HRQ.out, ← hG2, if_pos rfl, if_neg (fun h => by have h2 := h.2; rw [HGD.out, hft] at h2; cases h2)])
        rw [HFX.out] at hft
        have y9 : ¬ 9223372036854775807 < 4 + (dec (footP vs i % 97)).size := by omega
        generalize dec (footP vs i % 97) = DF at *
        obtain ⟨FT, hFT⟩ : ∃ FT : ByteArray, FT = ⟨#[115, 117, 109, 32]⟩ ++ DF := ⟨_, rfl⟩
        rw [← hFT] at hft
        have q3 : (ln.toList != ((⟨#[115, 117, 109, 32]⟩ : ByteArray) ++ DF).toList) = true := by rw [← hFT]; unfold bne; rw [hft]; rfl
        have q4 : (ln.toList == ((⟨#[115, 117, 109, 32]⟩ : ByteArray) ++ DF).toList) = false := by rw [← hFT]; exact hft
        have q5 : ¬ ln.toList = ((⟨#[115, 117, 109, 32]⟩ : ByteArray) ++ DF).toList := by rw [← hFT]; exact beq_eq_false_iff_ne.1 hft
        clear hFT
        go_wp2_with fail
        (refine wp_region_quiet_below (by kernel_rfl) (by kernel_rfl) ?_; (repeat (go_big_quiet_step (first | ((go_at_call 81; exact rg_same (fun w' hb => HFT.out w' (by (repeat' (first | (with_reducible exact Below.refl _ _) | (with_reducible assumption) | (with_reducible refine below_drewN ?_ _) | (with_reducible refine Below.drew ?_) | (with_reducible refine Below.alloc ?_ ?_ _) | (with_reducible refine Below.setCell ?_ ?_ _) | (with_reducible refine via (by with_reducible assumption) ?_ ?_) | go_size)))))) | ((go_at_call 80; exact rg_of (fun w' hb => HFD.out w')))))); refine wpQuiet_nil ?_; refine qg_end ?_; intro wq hbq)
        obtain ⟨w3, rfl⟩ : ∃ u : World, u = wq := ⟨_, rfl⟩
        obtain ⟨hc3, hf3⟩ := bcell hbq
        rw [← hc3 _ _ hlr.1] at y0
        rw [← hf3 _ _ hlr.1] at g0
        rw [← hc3 _ _ hlr.1] at y1
        rw [← hf3 _ _ hlr.1] at g1
        rw [← hc3 _ _ hlr.1] at y2
        rw [← hf3 _ _ hlr.1] at g2
        rw [← hc3 _ _ hlr.1] at y3
        rw [← hf3 _ _ hlr.1] at g3
        have hl3 := far (Nat.lt_of_lt_of_le hlr.1 hbq.size)
        have hbw3 : Below w.heap.size w w3 := hbw.trans (hbq.mono hbw.size)
        clear hbq hc3 hf3 c0 c1 c2 c3
        go_wp2_with fail
        refine bodyPost_ret (v := .tuple #[.agg #[.string ByteArray.empty, .int .i64 0, .int .i64 0, .slice none 0 0], .int .i64 ((i : Int) + 1), .int .i64 5]) (by simp only [results, Tryd.results44]; go_simp; try rfl) rfl ⟨none, 0, (by rw [HR.out]; rfl), by rw [HR.out]; exact World.ownsRow_nil _ _ _ _, by (repeat' (first | (with_reducible exact Below.refl _ _) | (with_reducible assumption) | (with_reducible refine below_drewN ?_ _) | (with_reducible refine Below.drew ?_) | (with_reducible refine Below.alloc ?_ ?_ _) | (with_reducible refine Below.setCell ?_ ?_ _) | (with_reducible refine via (by with_reducible assumption) ?_ ?_) | go_size))⟩
      · have HR := Lib.hid (show readR lines = (⟨nm, f, t, vs⟩, -1, 0) by
          rw [HRQ.out, ← hG2, if_pos rfl, if_pos ⟨by rw [HN.out]; exact hnl, by rw [HGD.out]; exact hft⟩])
        rw [HFX.out] at hft
        have y9 : ¬ 9223372036854775807 < 4 + (dec (footP vs i % 97)).size := by omega
        generalize dec (footP vs i % 97) = DF at *
        obtain ⟨FT, hFT⟩ : ∃ FT : ByteArray, FT = ⟨#[115, 117, 109, 32]⟩ ++ DF := ⟨_, rfl⟩
        rw [← hFT] at hft
        have q3 : (ln.toList != ((⟨#[115, 117, 109, 32]⟩ : ByteArray) ++ DF).toList) = false := by rw [← hFT]; unfold bne; rw [hft]; rfl
        have q5 : ln.toList = ((⟨#[115, 117, 109, 32]⟩ : ByteArray) ++ DF).toList := by rw [← hFT]; exact eq_of_beq hft
        clear hFT q3
        go_wp2_with fail
        (refine wp_region_quiet_below (by kernel_rfl) (by kernel_rfl) ?_; (repeat (go_big_quiet_step (first | ((go_at_call 81; exact rg_same (fun w' hb => HFT.out w' (by (repeat' (first | (with_reducible exact Below.refl _ _) | (with_reducible assumption) | (with_reducible refine below_drewN ?_ _) | (with_reducible refine Below.drew ?_) | (with_reducible refine Below.alloc ?_ ?_ _) | (with_reducible refine Below.setCell ?_ ?_ _) | (with_reducible refine via (by with_reducible assumption) ?_ ?_) | go_size)))))) | ((go_at_call 80; exact rg_of (fun w' hb => HFD.out w')))))); refine wpQuiet_nil ?_; refine qg_end ?_; intro wq hbq)
        obtain ⟨w3, rfl⟩ : ∃ u : World, u = wq := ⟨_, rfl⟩
        obtain ⟨hc3, hf3⟩ := bcell hbq
        rw [← hc3 _ _ hlr.1] at y0
        rw [← hf3 _ _ hlr.1] at g0
        rw [← hc3 _ _ hlp.1] at c0
        rw [← hc3 _ _ hlr.1] at y1
        rw [← hf3 _ _ hlr.1] at g1
        rw [← hc3 _ _ hlp.1] at c1
        rw [← hc3 _ _ hlr.1] at y2
        rw [← hf3 _ _ hlr.1] at g2
        rw [← hc3 _ _ hlp.1] at c2
        rw [← hc3 _ _ hlr.1] at y3
        rw [← hf3 _ _ hlr.1] at g3
        rw [← hc3 _ _ hlp.1] at c3
        have hl3 := far (Nat.lt_of_lt_of_le hlr.1 hbq.size)
        have hl4 := far (Nat.lt_of_lt_of_le hlp.1 hbq.size)
        have hbw3 : Below w.heap.size w w3 := hbw.trans (hbq.mono hbw.size)
        have HO3 := Lib.hid (own_call HO.out hbq)
        clear hbq hc3 hf3
        go_wp2_with fail
        refine bodyPost_ret (v := .tuple #[.agg #[.string nm, .int .i64 f, .int .i64 t, .slice A' i c'], .int .i64 (-1), .int .i64 0]) (by simp only [results, Tryd.results44]; go_simp) rfl ⟨A', c', by rw [HR.out]; simp only [HVL.out], ?_, by (repeat' (first | (with_reducible exact Below.refl _ _) | (with_reducible assumption) | (with_reducible refine below_drewN ?_ _) | (with_reducible refine Below.drew ?_) | (with_reducible refine Below.alloc ?_ ?_ _) | (with_reducible refine Below.setCell ?_ ?_ _) | (with_reducible refine via (by with_reducible assumption) ?_ ?_) | go_size))⟩
        rw [HR.out]
        simp only [HVL.out]
        refine Go.Joins.ownsRow_le ?_ (show w.heap.size ≤ w1.heap.size + 1 by omega)
        repeat (refine ownsRow_setCell_below ?_ (by simp only; omega) _)
        exact HO3.out

end Go.Proofs.YtaebofpgdonnbaaDoor
