/- Contracts: lists of trials copied. -/
import Derived.Test.YtaebofpgdonnbaaTrials2
set_option linter.unusedVariables false
set_option linter.unusedSimpArgs false
namespace Go.Proofs.Ytaebofpgdonnbaa
open Go.RowKit

/-- trial d as it lies at place i of the row xs in block g -/
def InT (w : World) (lo g : Nat) (xs : List Value) (i : Nat) (d : TrD) : Prop := ∃ g1 g2 g3 : Nat, xs[i * 7]? = some (.int .i64 d.a.base) ∧ xs[i * 7 + 1]? = some (.slice (some ⟨g1, 0, none⟩) d.a.digs.length d.a.digs.length) ∧ xs[i * 7 + 2]? = some (.int .i64 d.b.base) ∧ xs[i * 7 + 3]? = some (.slice (some ⟨g2, 0, none⟩) d.b.digs.length d.b.digs.length) ∧
  xs[i * 7 + 4]? = some (.int .i64 d.s.base) ∧ xs[i * 7 + 5]? = some (.slice (some ⟨g3, 0, none⟩) d.s.digs.length d.s.digs.length) ∧ xs[i * 7 + 6]? = some (.int .i64 d.ca) ∧ IOwn w lo g1 d.a.digs ∧ IOwn w lo g2 d.b.digs ∧ IOwn w lo g3 d.s.digs ∧ ¬ g1 = g ∧ ¬ g2 = g ∧ ¬ g3 = g
theorem set7_ne {xs : List Value} {k j : Nat} (u0 u1 u2 u3 u4 u5 u6 : Value) (h : j < k * 7) : (((((((xs.set (k * 7) u0).set (k * 7 + 1) u1).set (k * 7 + 2) u2).set (k * 7 + 3) u3).set (k * 7 + 4) u4).set (k * 7 + 5) u5).set (k * 7 + 6) u6)[j]? = xs[j]? := by
  rw [List.getElem?_set_ne (by omega), List.getElem?_set_ne (by omega), List.getElem?_set_ne (by omega), List.getElem?_set_ne (by omega), List.getElem?_set_ne (by omega), List.getElem?_set_ne (by omega), List.getElem?_set_ne (by omega)]
theorem set7_0 {xs : List Value} {k : Nat} (u0 u1 u2 u3 u4 u5 u6 : Value) (h : k * 7 + 6 < xs.length) : (((((((xs.set (k * 7) u0).set (k * 7 + 1) u1).set (k * 7 + 2) u2).set (k * 7 + 3) u3).set (k * 7 + 4) u4).set (k * 7 + 5) u5).set (k * 7 + 6) u6)[k * 7]? = some u0 := by
  rw [List.getElem?_set_ne (by omega), List.getElem?_set_ne (by omega), List.getElem?_set_ne (by omega), List.getElem?_set_ne (by omega), List.getElem?_set_ne (by omega), List.getElem?_set_ne (by omega), List.getElem?_set_self (by omega)]
theorem set7_1 {xs : List Value} {k : Nat} (u0 u1 u2 u3 u4 u5 u6 : Value) (h : k * 7 + 6 < xs.length) : (((((((xs.set (k * 7) u0).set (k * 7 + 1) u1).set (k * 7 + 2) u2).set (k * 7 + 3) u3).set (k * 7 + 4) u4).set (k * 7 + 5) u5).set (k * 7 + 6) u6)[k * 7 + 1]? = some u1 := by
  rw [List.getElem?_set_ne (by omega), List.getElem?_set_ne (by omega), List.getElem?_set_ne (by omega), List.getElem?_set_ne (by omega), List.getElem?_set_ne (by omega), List.getElem?_set_self (by simp; omega)]
theorem set7_2 {xs : List Value} {k : Nat} (u0 u1 u2 u3 u4 u5 u6 : Value) (h : k * 7 + 6 < xs.length) : (((((((xs.set (k * 7) u0).set (k * 7 + 1) u1).set (k * 7 + 2) u2).set (k * 7 + 3) u3).set (k * 7 + 4) u4).set (k * 7 + 5) u5).set (k * 7 + 6) u6)[k * 7 + 2]? = some u2 := by
  rw [List.getElem?_set_ne (by omega), List.getElem?_set_ne (by omega), List.getElem?_set_ne (by omega), List.getElem?_set_ne (by omega), List.getElem?_set_self (by simp; omega)]
theorem set7_3 {xs : List Value} {k : Nat} (u0 u1 u2 u3 u4 u5 u6 : Value) (h : k * 7 + 6 < xs.length) : (((((((xs.set (k * 7) u0).set (k * 7 + 1) u1).set (k * 7 + 2) u2).set (k * 7 + 3) u3).set (k * 7 + 4) u4).set (k * 7 + 5) u5).set (k * 7 + 6) u6)[k * 7 + 3]? = some u3 := by
  rw [List.getElem?_set_ne (by omega), List.getElem?_set_ne (by omega), List.getElem?_set_ne (by omega), List.getElem?_set_self (by simp; omega)]
theorem set7_4 {xs : List Value} {k : Nat} (u0 u1 u2 u3 u4 u5 u6 : Value) (h : k * 7 + 6 < xs.length) : (((((((xs.set (k * 7) u0).set (k * 7 + 1) u1).set (k * 7 + 2) u2).set (k * 7 + 3) u3).set (k * 7 + 4) u4).set (k * 7 + 5) u5).set (k * 7 + 6) u6)[k * 7 + 4]? = some u4 := by
  rw [List.getElem?_set_ne (by omega), List.getElem?_set_ne (by omega), List.getElem?_set_self (by simp; omega)]
theorem set7_5 {xs : List Value} {k : Nat} (u0 u1 u2 u3 u4 u5 u6 : Value) (h : k * 7 + 6 < xs.length) : (((((((xs.set (k * 7) u0).set (k * 7 + 1) u1).set (k * 7 + 2) u2).set (k * 7 + 3) u3).set (k * 7 + 4) u4).set (k * 7 + 5) u5).set (k * 7 + 6) u6)[k * 7 + 5]? = some u5 := by
  rw [List.getElem?_set_ne (by omega), List.getElem?_set_self (by simp; omega)]
theorem set7_6 {xs : List Value} {k : Nat} (u0 u1 u2 u3 u4 u5 u6 : Value) (h : k * 7 + 6 < xs.length) : (((((((xs.set (k * 7) u0).set (k * 7 + 1) u1).set (k * 7 + 2) u2).set (k * 7 + 3) u3).set (k * 7 + 4) u4).set (k * 7 + 5) u5).set (k * 7 + 6) u6)[k * 7 + 6]? = some u6 := by
  rw [List.getElem?_set_self (by simp; omega)]

set_option maxRecDepth 100000 in
set_option maxHeartbeats 4000000 in
theorem toTrialS_c (A : Option Addr) (n c : Nat) (l : List TrD) (w : World) (hn : l.length = n) (hm : n ≤ 1048576) (hr : TRd w w.heap.size A l) (hk : ∀ (i : Nat) (d : TrD), l[i]? = some d → smallT d) :
    Calls Try.prog 16 #[.slice A n c] w fun e w' => e = .returned (.slice (some ⟨w.heap.size, 0, none⟩) n n) ∧ (w.heap.size < w'.heap.size ∧ TRd w' w'.heap.size (some ⟨w.heap.size, 0, none⟩) l) ∧ Below w.heap.size w w' := by
  obtain ⟨i0, hi0, hz0, hz1, hz2⟩ := info_parts info_trial
  have HK := Lib.hid hk; clear hk
  have HN := Lib.hid hn; clear hn
  go_enter Try.func16, Try.ntmps16
  go_wp2_with (at_make; refine wpList_make_full _ rfl _ _ 37 rfl w.heap.size 64 i0 _ 7 Try.underlying37 hi0 hz0 hz1 _ _ _ _ n rfl rfl rfl rfl (by rw [hz2]; omega) (by unfold maxLen; omega) (Nat.le_refl _) ?_; intro w1 hown hg)
  have hb1 : Below w.heap.size w w1 := (Below.refl _ _).grown hg (Nat.le_refl _) (fun k hk => by cases hk)
  clear hg
  go_loopw [4] (fun i wr => ∃ k : Nat, k ≤ n ∧ i = .int .i64 k ∧ Below w.heap.size w wr ∧ ∃ (xs : List Value), wr.ownsRow w.heap.size 64 7 (.slice (some ⟨w.heap.size, 0, none⟩) n n) n xs ∧ ∀ (i : Nat) (d : TrD), i < k → l[i]? = some d → InT wr w.heap.size w.heap.size xs i d) (fun i _ => n - (intOf i).toNat)
  case atStart => exact ⟨0, Nat.zero_le _, rfl, hb1, _, hown, fun i d hi => by omega⟩
  case round =>
    clear hb1 hown
    obtain ⟨k, hk, rfl, hb, xs, hx, hj⟩ := hrel
    have HX := Lib.hid hx; clear hx
    have HJ := Lib.hid hj; clear hj
    by_cases hlt : k < n
    · obtain ⟨b, off, rfl, hbl, hc⟩ := (hr.below hb) (by rw [HN.out]; omega)
      obtain ⟨d, ed⟩ := get_ex l k (by rw [HN.out]; omega)
      obtain ⟨⟨g0, A1, c1, g1, p1⟩, ⟨g2, A2, c2, g3, p2⟩, ⟨g4, A3, c3, g5, p3⟩, g6⟩ := hc k d ed
      have hkd := HK.out k d ed
      have HKD := Lib.hid hkd; clear hkd
      have HE := Lib.hid ed; clear ed hc
      have P1 := Lib.hid p1; have P2 := Lib.hid p2; have P3 := Lib.hid p3
      clear p1 p2 p3
      have hxl : xs.length = n * 7 := HX.out.1
      have hbs := hb.size
      go_wp2_with fail
      refine (toTrial_c d A1 c1 A2 c2 A3 c3 wr HKD.out (P1.out.mono hbs) (P2.out.mono hbs) (P3.out.mono hbs)).mono ?_
      rintro e w2 ⟨G1, G2, G3, rfl, q1, q2, q3, hb2⟩
      have hx2 := own_call HX.out hb2
      have hw2 : w.heap.size < w2.heap.size := (hx2.lt w.heap.size rfl).2
      have hw1 : w.heap.size < wr.heap.size := (HX.out.lt w.heap.size rfl).2
      have l1 := (World.ownsRow.lt q1 G1 rfl).1
      have l2 := (World.ownsRow.lt q2 G2 rfl).1
      have l3 := (World.ownsRow.lt q3 G3 rfl).1
      have Q1 := Lib.hid q1; have Q2 := Lib.hid q2; have Q3 := Lib.hid q3
      clear q1 q2 q3
      obtain ⟨z0, hz0'⟩ : ∃ x, xs[k * 7]? = some x := ⟨_, List.getElem?_eq_getElem (by omega)⟩
      have c0' : w2.cell? ⟨w.heap.size, k * 7, none⟩ = some z0 := by rw [hx2.cellAt _ (by omega)]; exact hz0'
      have f0 : w2.frozen? ⟨w.heap.size, k * 7, none⟩ = false := hx2.frozenAt _
      obtain ⟨z1, hz1'⟩ : ∃ x, xs[k * 7 + 1]? = some x := ⟨_, List.getElem?_eq_getElem (by omega)⟩
      have c1' : w2.cell? ⟨w.heap.size, k * 7 + 1, none⟩ = some z1 := by rw [hx2.cellAt _ (by omega)]; exact hz1'
      have f1 : w2.frozen? ⟨w.heap.size, k * 7 + 1, none⟩ = false := hx2.frozenAt _
      obtain ⟨z2, hz2'⟩ : ∃ x, xs[k * 7 + 2]? = some x := ⟨_, List.getElem?_eq_getElem (by omega)⟩
      have c2' : w2.cell? ⟨w.heap.size, k * 7 + 2, none⟩ = some z2 := by rw [hx2.cellAt _ (by omega)]; exact hz2'
      have f2 : w2.frozen? ⟨w.heap.size, k * 7 + 2, none⟩ = false := hx2.frozenAt _
      obtain ⟨z3, hz3'⟩ : ∃ x, xs[k * 7 + 3]? = some x := ⟨_, List.getElem?_eq_getElem (by omega)⟩
      have c3' : w2.cell? ⟨w.heap.size, k * 7 + 3, none⟩ = some z3 := by rw [hx2.cellAt _ (by omega)]; exact hz3'
      have f3 : w2.frozen? ⟨w.heap.size, k * 7 + 3, none⟩ = false := hx2.frozenAt _
      obtain ⟨z4, hz4'⟩ : ∃ x, xs[k * 7 + 4]? = some x := ⟨_, List.getElem?_eq_getElem (by omega)⟩
      have c4' : w2.cell? ⟨w.heap.size, k * 7 + 4, none⟩ = some z4 := by rw [hx2.cellAt _ (by omega)]; exact hz4'
      have f4 : w2.frozen? ⟨w.heap.size, k * 7 + 4, none⟩ = false := hx2.frozenAt _
      obtain ⟨z5, hz5'⟩ : ∃ x, xs[k * 7 + 5]? = some x := ⟨_, List.getElem?_eq_getElem (by omega)⟩
      have c5' : w2.cell? ⟨w.heap.size, k * 7 + 5, none⟩ = some z5 := by rw [hx2.cellAt _ (by omega)]; exact hz5'
      have f5 : w2.frozen? ⟨w.heap.size, k * 7 + 5, none⟩ = false := hx2.frozenAt _
      obtain ⟨z6, hz6'⟩ : ∃ x, xs[k * 7 + 6]? = some x := ⟨_, List.getElem?_eq_getElem (by omega)⟩
      have c6' : w2.cell? ⟨w.heap.size, k * 7 + 6, none⟩ = some z6 := by rw [hx2.cellAt _ (by omega)]; exact hz6'
      have f6 : w2.frozen? ⟨w.heap.size, k * 7 + 6, none⟩ = false := hx2.frozenAt _
      have HX2 := Lib.hid hx2; clear hx2
      have HL := Lib.hid hxl; clear hxl
      clear hz0' hz1' hz2' hz3' hz4' hz5' hz6'
      simp only [tagg]
      go_wp2_with fail
      go_roundw
      case rel =>
        have s0 := HX2.out.stored (k * 7) (.int .i64 d.a.base)
        have s1 := s0.1.stored (k * 7 + 1) (.slice (some ⟨G1, 0, none⟩) d.a.digs.length d.a.digs.length)
        have s2 := s1.1.stored (k * 7 + 2) (.int .i64 d.b.base)
        have s3 := s2.1.stored (k * 7 + 3) (.slice (some ⟨G2, 0, none⟩) d.b.digs.length d.b.digs.length)
        have s4 := s3.1.stored (k * 7 + 4) (.int .i64 d.s.base)
        have s5 := s4.1.stored (k * 7 + 5) (.slice (some ⟨G3, 0, none⟩) d.s.digs.length d.s.digs.length)
        have s6 := s5.1.stored (k * 7 + 6) (.int .i64 d.ca)
        have hxl := HL.out
        have hlen : k * 7 + 6 < xs.length := by omega
        have hgg := ((((((s0.2.trans s1.2).trans s2.2).trans s3.2).trans s4.2).trans s5.2).trans s6.2)
        refine ⟨k + 1, by omega, by go_num, by (repeat' (first | (with_reducible exact Below.refl _ _) | (with_reducible assumption) | (with_reducible refine below_drewN ?_ _) | (with_reducible refine Below.drew ?_) | (with_reducible refine Below.alloc ?_ ?_ _) | (with_reducible refine Below.setCell ?_ ?_ _) | (with_reducible refine via (by with_reducible assumption) ?_ ?_) | go_size)), _, s6.1, fun i d' hi he => ?_⟩
        have keep : ∀ (g : Nat) (l : List Int), ¬ g = w.heap.size → IOwn w2 w.heap.size g l → IOwn _ w.heap.size g l := fun g l hg h => own_ne h hgg (fun q hq hc => by simp only [Value.ownBlock, Option.some.injEq] at hq hc; omega)
        by_cases hik : i < k
        · obtain ⟨t1, t2, t3, x0, x1, x2, x3, x4, x5, x6, y1, y2, y3, y4, y5, y6⟩ := HJ.out i d' hik he
          unfold InT
          rw [set7_ne _ _ _ _ _ _ _ (by omega), set7_ne _ _ _ _ _ _ _ (by omega), set7_ne _ _ _ _ _ _ _ (by omega), set7_ne _ _ _ _ _ _ _ (by omega), set7_ne _ _ _ _ _ _ _ (by omega), set7_ne _ _ _ _ _ _ _ (by omega), set7_ne _ _ _ _ _ _ _ (by omega)]
          exact ⟨t1, t2, t3, x0, x1, x2, x3, x4, x5, x6, keep _ _ y4 (own_call y1 hb2), keep _ _ y5 (own_call y2 hb2), keep _ _ y6 (own_call y3 hb2), y4, y5, y6⟩
        · obtain rfl : i = k := by omega
          have e2 := HE.out
          rw [he] at e2
          injection e2 with e2
          subst e2
          exact ⟨G1, G2, G3, set7_0 _ _ _ _ _ _ _ hlen, set7_1 _ _ _ _ _ _ _ hlen, set7_2 _ _ _ _ _ _ _ hlen, set7_3 _ _ _ _ _ _ _ hlen, set7_4 _ _ _ _ _ _ _ hlen, set7_5 _ _ _ _ _ _ _ hlen, set7_6 _ _ _ _ _ _ _ hlen, keep _ _ (by omega) (Go.Joins.ownsRow_le Q1.out hbs), keep _ _ (by omega) (Go.Joins.ownsRow_le Q2.out hbs), keep _ _ (by omega) (Go.Joins.ownsRow_le Q3.out hbs), by omega, by omega, by omega⟩
      case measure => simp [intOf]; omega
    · have hkn : k = n := by omega
      have hxlt := (HX.out.lt w.heap.size rfl).2
      have hfin : TRd wr wr.heap.size (some ⟨w.heap.size, 0, none⟩) l := fun hl => by
        refine ⟨w.heap.size, 0, rfl, hxlt, fun i d he => ?_⟩
        have hil : i < n := by have := (List.getElem?_eq_some_iff.1 he).1; rw [HN.out] at this; omega
        obtain ⟨t1, t2, t3, x0, x1, x2, x3, x4, x5, x6, y1, y2, y3, y4, y5, y6⟩ := HJ.out i d (by omega) he
        simp only [Nat.zero_add]
        refine ⟨⟨?_, some ⟨t1, 0, none⟩, d.a.digs.length, ?_, rd_own y1⟩, ⟨?_, some ⟨t2, 0, none⟩, d.b.digs.length, ?_, rd_own y2⟩, ⟨?_, some ⟨t3, 0, none⟩, d.s.digs.length, ?_, rd_own y3⟩, ?_⟩
        · rw [HX.out.cellAt _ (by omega)]; exact x0
        · rw [HX.out.cellAt _ (by omega)]; exact x1
        · rw [HX.out.cellAt _ (by omega)]; exact x2
        · rw [HX.out.cellAt _ (by omega)]; exact x3
        · rw [HX.out.cellAt _ (by omega)]; exact x4
        · rw [HX.out.cellAt _ (by omega)]; exact x5
        · rw [HX.out.cellAt _ (by omega)]; exact x6
      have HF := Lib.hid hfin; clear hfin hkn
      go_wp2
      go_ret
      exact ⟨rfl, ⟨hxlt, HF.out⟩, hb⟩
end Go.Proofs.Ytaebofpgdonnbaa
