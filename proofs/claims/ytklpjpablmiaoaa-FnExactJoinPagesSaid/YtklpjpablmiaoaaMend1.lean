/- Contracts: a row mended; both sides. -/
import Derived.Test.YtklpjpablmiaoaaOdd1
set_option linter.unusedVariables false
set_option linter.unusedSimpArgs false
namespace Go.Proofs.Ytklpjpablmiaoaa
open Go.RowKit

structure PgD where
  s : ByteArray
  f : Int
  t : Int
  l : List Int
def pg0 : PgD := ⟨ByteArray.empty, 0, 0, []⟩
def mendR (s : ByteArray) (f t : Int) (l : List Int) (row order : Int) : PgD × Int :=
  if guessR s f t l order = 0 then (if inB row 0 ((l.length : Int) - 1) then (if valB (gss l row.toNat order.toNat) then (⟨s, f, t, l.set row.toNat (gss l row.toNat order.toNat)⟩, 0) else (pg0, 5)) else (pg0, 2)) else (pg0, guessR s f t l order)
theorem mendR_len (s : ByteArray) (f t : Int) (l : List Int) (row order : Int) : (mendR s f t l row order).1.l.length ≤ l.length := by
  unfold mendR
  split
  · split
    · split
      · simp
      · simp [pg0]
    · simp [pg0]
  · simp [pg0]
/-- a page in four cells that can be written -/
def PgW (w : World) (b : Nat) (s : ByteArray) (f t : Int) (A : Option Addr) (n c : Nat) : Prop := PgAt w b s f t A n c ∧ w.frozen? ⟨b, 0, none⟩ = false ∧ w.frozen? ⟨b, 1, none⟩ = false ∧ w.frozen? ⟨b, 2, none⟩ = false ∧ w.frozen? ⟨b, 3, none⟩ = false
theorem PgW.below {w w' : World} {B b : Nat} {s : ByteArray} {f t : Int} {A : Option Addr} {n c : Nat} (h : PgW w b s f t A n c) (hb : Below B w w') (hB : b < B) : PgW w' b s f t A n c := by
  obtain ⟨h0, h1, h2, h3, h4⟩ := h
  obtain ⟨_, hf⟩ := bcell hb
  exact ⟨h0.below hb hB, by rw [hf _ _ hB]; exact h1, by rw [hf _ _ hB]; exact h2, by rw [hf _ _ hB]; exact h3, by rw [hf _ _ hB]; exact h4⟩
theorem own_nil0 (w : World) : w.ownsRow w.heap.size 2 1 (.slice none 0 0) 0 (([] : List Int).map (Value.int .i64)) := World.ownsRow_nil _ _ _ _
theorem own_nil1 (w : World) (B : Nat) : w.ownsRow B 2 1 (.slice none (pg0.l.length) 0) (pg0.l.length) (pg0.l.map (Value.int .i64)) := World.ownsRow_nil _ _ _ _
theorem page_eq {R : PgD × Int} {p : PgD} {q : Int} (h : R = (p, q)) {A : Option Addr} {c : Nat} : Ending.returned (.tuple #[pg p.s p.f p.t A p.l.length c, .int .i64 q]) = .returned (.tuple #[pg R.1.s R.1.f R.1.t A R.1.l.length c, .int .i64 R.2]) := by rw [h]

set_option maxRecDepth 100000 in
set_option maxHeartbeats 4000000 in
theorem MendRowI_c (s : ByteArray) (f t : Int) (A : Option Addr) (n c : Nat) (l : List Int) (row order : Int) (w : World) (hs : s.size ≤ 1048576) (hn : l.length = n) (hm : n ≤ 1048576) (hr : Rd w w.heap.size 1 icell A l) :
    Calls Try.prog 38 #[pg s f t A n c, .int .i64 row, .int .i64 order] w fun e w' => ∃ RA Rc, e = .returned (.tuple #[pg (mendR s f t l row order).1.s (mendR s f t l row order).1.f (mendR s f t l row order).1.t RA (mendR s f t l row order).1.l.length Rc, .int .i64 (mendR s f t l row order).2]) ∧ w'.ownsRow w.heap.size 2 1 (.slice RA (mendR s f t l row order).1.l.length Rc) (mendR s f t l row order).1.l.length ((mendR s f t l row order).1.l.map (Value.int .i64)) ∧ Below w.heap.size w w' := by
  have hA : A = none → n = 0 := fun h => by rw [← hn]; exact hr.none_len h
  have HGB := guessR_bd s f t l order
  have HR0 := Lib.hid (show ¬ guessR s f t l order = 0 → mendR s f t l row order = (pg0, guessR s f t l order) from fun h => by unfold mendR; rw [if_neg h])
  have HR1 := Lib.hid (show guessR s f t l order = 0 → inB row 0 ((n : Int) - 1) = false → mendR s f t l row order = (pg0, 2) from fun h h2 => by unfold mendR; rw [if_pos h, hn, h2]; rfl)
  have HR2 := Lib.hid (show guessR s f t l order = 0 → inB row 0 ((n : Int) - 1) = true → mendR s f t l row order = if valB (gss l row.toNat order.toNat) then (⟨s, f, t, l.set row.toNat (gss l row.toNat order.toNat)⟩, 0) else (pg0, 5) from fun h h2 => by unfold mendR; rw [if_pos h, hn, h2]; rfl)
  have HZ := Lib.hid (show guessR s f t l order = 0 → _ from guessR_zero)
  have HN := Lib.hid hn; clear hn
  generalize hq : guessR s f t l order = q at *
  have HQ := Lib.hid hq; clear hq
  have hpgz : PgAt = PgAt := rfl
  clear hpgz
  unfold pg
  go_enter Try.func38, Try.ntmps38
  go_wp2_with fail
  refine gen_calls fun W hW => ?_
  have hbW : Below w.heap.size w W := by rw [hW.out]; (repeat' (first | (with_reducible exact Below.refl _ _) | (with_reducible assumption) | (with_reducible refine below_drewN ?_ _) | (with_reducible refine Below.drew ?_) | (with_reducible refine Below.alloc ?_ ?_ _) | (with_reducible refine Below.setCell ?_ ?_ _) | (with_reducible refine via (by with_reducible assumption) ?_ ?_) | go_size))
  have hp : PgW W w.heap.size s f t A n c := by rw [hW.out]; unfold PgW PgAt; simp [go_sem]
  have hp2 : PgW W (w.heap.size + 1) ByteArray.empty 0 0 none 0 0 := by rw [hW.out]; unfold PgW PgAt; simp [go_sem]; try rfl
  have hlt : w.heap.size + 1 < W.heap.size := by rw [hW.out]; simp [go_sem]
  clear hW
  refine (guessCode_c s f t A n c l order W hs HN.out hm ((hr.below hbW).mono hbW.size)).mono ?_
  rw [HQ.out]
  rintro e W1 ⟨rfl, hb1⟩
  have hp1 := hp.below hb1 (by omega)
  have hp21 := hp2.below hb1 hlt
  have hlt1 : w.heap.size + 1 < W1.heap.size := Nat.lt_of_lt_of_le hlt hb1.size
  have hbW1 : Below w.heap.size w W1 := hbW.trans (hb1.mono hbW.size)
  clear hp hp2 hb1 hbW hlt
  have HP1 := Lib.hid hp1; have HP2 := Lib.hid hp21
  obtain ⟨⟨g0, g1, g2, g3⟩, ff0, ff1, ff2, ff3⟩ := hp1
  obtain ⟨⟨k0, k1, k2, k3⟩, fk0, fk1, fk2, fk3⟩ := hp21
  have hfar := far (show w.heap.size < W1.heap.size by omega)
  have hfar2 := far hlt1
  by_cases hq0 : q = 0
  rotate_left
  · have HR := Lib.hid (HR0.out hq0)
    have q1 : (q == 0) = false := by simpa using hq0
    have q2 : (q != 0) = true := by simpa using hq0
    go_wp2_with fail
    refine bodyPost_ret (v := .tuple #[pg pg0.s pg0.f pg0.t none pg0.l.length 0, .int .i64 q]) (by simp only [results, Try.results38, pg, pg0]; go_simp; try rfl) rfl ⟨none, 0, by rw [HR.out]; rfl, by rw [HR.out]; exact own_nil1 _ _, ?_⟩
    (repeat' (first | (with_reducible exact Below.refl _ _) | (with_reducible assumption) | (with_reducible refine below_drewN ?_ _) | (with_reducible refine Below.drew ?_) | (with_reducible refine Below.alloc ?_ ?_ _) | (with_reducible refine Below.setCell ?_ ?_ _) | (with_reducible refine via (by with_reducible assumption) ?_ ?_) | go_size))
  subst hq0
  obtain ⟨hpb, hob, hlb⟩ := HZ.out rfl
  rw [HN.out] at hlb
  obtain ⟨d, rfl⟩ : ∃ d : Nat, order = (d : Int) := ⟨order.toNat, by omega⟩
  have HSM := Lib.hid (page_small hpb)
  have hd : 1 ≤ d ∧ d ≤ 8 := by omega
  have hdl : 2 * d + 1 ≤ n := by omega
  have e1 : IntKind.i64.wrap ((n : Int) - 1) = (n : Int) - 1 := IntWalk.i64_in _ (by omega)
  cases hin : inB row 0 ((n : Int) - 1)
  · have HR := Lib.hid (HR1.out rfl hin)
    go_wp2_with (go_at_call 40; refine (between_c _ _ _ _).mono ?_; rintro e w' ⟨rfl, rfl⟩)
    refine bodyPost_ret (v := .tuple #[pg pg0.s pg0.f pg0.t none pg0.l.length 0, .int .i64 2]) (by simp only [results, Try.results38, pg, pg0]; go_simp; try rfl) rfl ⟨none, 0, by rw [HR.out]; rfl, by rw [HR.out]; exact own_nil1 _ _, ?_⟩
    (repeat' (first | (with_reducible exact Below.refl _ _) | (with_reducible assumption) | (with_reducible refine below_drewN ?_ _) | (with_reducible refine Below.drew ?_) | (with_reducible refine Below.alloc ?_ ?_ _) | (with_reducible refine Below.setCell ?_ ?_ _) | (with_reducible refine via (by with_reducible assumption) ?_ ?_) | go_size))
  obtain ⟨r, rfl⟩ : ∃ r : Nat, row = (r : Int) := ⟨row.toNat, by have := inB_iff.1 hin; omega⟩
  have hrn : r < n := by have := inB_iff.1 hin; omega
  have HR3 := Lib.hid (HR2.out rfl hin)
  rw [Int.toNat_natCast, Int.toNat_natCast] at HR3
  have hbs1 := hbW1.size
  go_wp2_with (go_at_call 40; refine (between_c _ _ _ _).mono ?_; rintro e w' ⟨rfl, rfl⟩)
  clear hin
  have hyb := gss_bd (row := r) HSM.out hd.2
  have HGU := Lib.hid (guess_c A n c l r d w.heap.size W1 HN.out hm (hr.below hbW1) HSM.out hd hdl hrn)
  generalize hy : gss l r d = y at *
  have HY := Lib.hid hy; clear hy
  refine HGU.out.mono ?_
  rintro e w2 ⟨rfl, mg, hw2⟩
  have hb2 : Below W1.heap.size W1 w2 := by rw [hw2]; exact below_drewN (Below.refl _ _) mg
  clear hw2 HR0 HR1 HR2 HZ g0 g1 g2 g3 ff0 ff1 ff2 ff3 k0 k1 k2 k3 fk0 fk1 fk2 fk3 hfar hfar2 HGU
  have HP12 := Lib.hid (HP1.out.below hb2 (by omega)); have HP22 := Lib.hid (HP2.out.below hb2 hlt1)
  have hlt2 : w.heap.size + 1 < w2.heap.size := Nat.lt_of_lt_of_le hlt1 hb2.size
  have hbW2 : Below w.heap.size w w2 := hbW1.trans (hb2.mono hbs1)
  clear HP1 HP2
  obtain ⟨⟨g0, g1, g2, g3⟩, ff0, ff1, ff2, ff3⟩ := HP12.out
  obtain ⟨⟨k0, k1, k2, k3⟩, fk0, fk1, fk2, fk3⟩ := HP22.out
  have hfar := far (show w.heap.size < w2.heap.size by omega)
  have hfar2 := far hlt2
  cases hvl : valB y
  · have HR := Lib.hid (show mendR s f t l (r : Int) (d : Int) = (pg0, 5) by rw [HR3.out, hvl]; rfl)
    go_wp2_with (go_at_call 43; refine (isValue_c _ _).mono ?_; rintro e w' ⟨rfl, rfl⟩)
    refine bodyPost_ret (v := .tuple #[pg pg0.s pg0.f pg0.t none pg0.l.length 0, .int .i64 5]) (by simp only [results, Try.results38, pg, pg0]; go_simp; try rfl) rfl ⟨none, 0, by rw [HR.out]; rfl, by rw [HR.out]; exact own_nil1 _ _, ?_⟩
    (repeat' (first | (with_reducible exact Below.refl _ _) | (with_reducible assumption) | (with_reducible refine below_drewN ?_ _) | (with_reducible refine Below.drew ?_) | (with_reducible refine Below.alloc ?_ ?_ _) | (with_reducible refine Below.setCell ?_ ?_ _) | (with_reducible refine via (by with_reducible assumption) ?_ ?_) | go_size))
  have HR := Lib.hid (show mendR s f t l (r : Int) (d : Int) = (⟨s, f, t, l.set r y⟩, 0) by rw [HR3.out, hvl]; rfl)
  have hbs2 := hbW2.size
  go_wp2_with (go_at_call 43; refine (isValue_c _ _).mono ?_; rintro e w' ⟨rfl, rfl⟩)
  refine (copyNumbers_c A n c l w2 HN.out hm hA ((hr.below hbW2).mono hbs2)).mono ?_
  rintro e w3 ⟨v3, rfl, hx3, hb3⟩
  clear g0 g1 g2 g3 ff0 ff1 ff2 ff3 k0 k1 k2 k3 fk0 fk1 fk2 fk3 hfar hfar2
  have HP13 := Lib.hid (HP12.out.below hb3 (by omega)); have HP23 := Lib.hid (HP22.out.below hb3 hlt2)
  have hlt3 : w.heap.size + 1 < w3.heap.size := Nat.lt_of_lt_of_le hlt2 hb3.size
  have hbW3 : Below w.heap.size w w3 := hbW2.trans (hb3.mono hbs2)
  obtain ⟨⟨g0, g1, g2, g3⟩, ff0, ff1, ff2, ff3⟩ := HP13.out
  obtain ⟨⟨k0, k1, k2, k3⟩, fk0, fk1, fk2, fk3⟩ := HP23.out
  have hfar := far (show w.heap.size < w3.heap.size by omega)
  have hfar2 := far (show w.heap.size + 1 < w3.heap.size by omega)
  obtain ⟨A3, c3, rfl, _⟩ := own_form hx3
  have hg : ∃ g, A3 = some ⟨g, 0, none⟩ := by
    rcases hx3.2 with ⟨hv, h0⟩ | ⟨g, cap, cur, hv, _⟩
    · omega
    · exact ⟨g, by injection hv⟩
  obtain ⟨g, rfl⟩ := hg
  have hgl := hx3.lt g rfl
  obtain ⟨x, hx⟩ := get_ex l r (by rw [HN.out]; exact hrn)
  have hgk : w3.cell? ⟨g, r, none⟩ = some (.int .i64 x) := by rw [hx3.cellAt r (by omega), List.getElem?_map, hx]; rfl
  have hfk : w3.frozen? ⟨g, r, none⟩ = false := hx3.frozenAt r
  have hx35 : (w3.setCell ⟨w.heap.size, 3, none⟩ (.slice (some ⟨g, 0, none⟩) n c3)).ownsRow w2.heap.size 2 1 (.slice (some ⟨g, 0, none⟩) n c3) n (l.map (Value.int .i64)) := ownsRow_setCell_below hx3 (by dsimp only; omega) _
  have hx4 := hx35.stored r (.int .i64 y)
  rw [map_set_int] at hx4
  have HX4 := Lib.hid hx4.1; clear hx4 hx3 hx hx35
  have n1 : ¬ w.heap.size = g := by omega
  have n2 : ¬ g = w.heap.size := by omega
  have n3 : ¬ w.heap.size + 1 = g := by omega
  have n4 : ¬ g = w.heap.size + 1 := by omega
  have n5 : ¬ w.heap.size = w.heap.size + 1 := by omega
  have n6 : ¬ w.heap.size + 1 = w.heap.size := by omega
  have hfg := far hgl.2
  go_wp2_with fail
  refine bodyPost_ret (v := .tuple #[pg s f t (some ⟨g, 0, none⟩) n c3, .int .i64 0]) (by simp only [results, Try.results38, pg]; go_simp) rfl ⟨some ⟨g, 0, none⟩, c3, by rw [HR.out]; simp only [List.length_set, HN.out]; rfl, ?_, ?_⟩
  · rw [HR.out]
    simp only [List.length_set, HN.out]
    refine own_base ?_ (show w.heap.size ≤ w2.heap.size by omega)
    iterate 4 refine ownsRow_setCell_below ?_ (by dsimp only; omega) _
    exact HX4.out
  · (repeat' (first | (with_reducible exact Below.refl _ _) | (with_reducible assumption) | (with_reducible refine below_drewN ?_ _) | (with_reducible refine Below.drew ?_) | (with_reducible refine Below.alloc ?_ ?_ _) | (with_reducible refine Below.setCell ?_ ?_ _) | (with_reducible refine via (by with_reducible assumption) ?_ ?_) | go_size))

set_option maxRecDepth 100000 in
set_option maxHeartbeats 4000000 in
theorem MendRowS_c (s : ByteArray) (f t : Int) (A : Option Addr) (n c : Nat) (l : List Int) (row order : Int) (w : World) (hs : s.size ≤ 1048576) (hn : l.length = n) (hm : n ≤ 1048576) (hr : Rd w w.heap.size 1 icell A l) :
    Calls Try.prog 37 #[pg s f t A n c, .int .i64 row, .int .i64 order] w fun e w' => ∃ RA Rc, e = .returned (.tuple #[pg (mendR s f t l row order).1.s (mendR s f t l row order).1.f (mendR s f t l row order).1.t RA (mendR s f t l row order).1.l.length Rc, .int .i64 (mendR s f t l row order).2]) ∧ w'.ownsRow w.heap.size 2 1 (.slice RA (mendR s f t l row order).1.l.length Rc) (mendR s f t l row order).1.l.length ((mendR s f t l row order).1.l.map (Value.int .i64)) ∧ Below w.heap.size w w' := by
  have hA : A = none → n = 0 := fun h => by rw [← hn]; exact hr.none_len h
  have HGB := guessR_bd s f t l order
  have HR0 := Lib.hid (show ¬ guessR s f t l order = 0 → mendR s f t l row order = (pg0, guessR s f t l order) from fun h => by unfold mendR; rw [if_neg h])
  have HR1 := Lib.hid (show guessR s f t l order = 0 → inB row 0 ((n : Int) - 1) = false → mendR s f t l row order = (pg0, 2) from fun h h2 => by unfold mendR; rw [if_pos h, hn, h2]; rfl)
  have HR2 := Lib.hid (show guessR s f t l order = 0 → inB row 0 ((n : Int) - 1) = true → mendR s f t l row order = if valB (gss l row.toNat order.toNat) then (⟨s, f, t, l.set row.toNat (gss l row.toNat order.toNat)⟩, 0) else (pg0, 5) from fun h h2 => by unfold mendR; rw [if_pos h, hn, h2]; rfl)
  have HZ := Lib.hid (show guessR s f t l order = 0 → _ from guessR_zero)
  have HN := Lib.hid hn; clear hn
  generalize hq : guessR s f t l order = q at *
  have HQ := Lib.hid hq; clear hq
  have hpgz : PgAt = PgAt := rfl
  clear hpgz
  unfold pg
  go_enter Try.func37, Try.ntmps37
  go_wp2_with fail
  refine gen_calls fun W hW => ?_
  have hbW : Below w.heap.size w W := by rw [hW.out]; (repeat' (first | (with_reducible exact Below.refl _ _) | (with_reducible assumption) | (with_reducible refine below_drewN ?_ _) | (with_reducible refine Below.drew ?_) | (with_reducible refine Below.alloc ?_ ?_ _) | (with_reducible refine Below.setCell ?_ ?_ _) | (with_reducible refine via (by with_reducible assumption) ?_ ?_) | go_size))
  have hp : PgW W w.heap.size s f t A n c := by rw [hW.out]; unfold PgW PgAt; simp [go_sem]
  have hp2 : PgW W (w.heap.size + 1) ByteArray.empty 0 0 none 0 0 := by rw [hW.out]; unfold PgW PgAt; simp [go_sem]; try rfl
  have hlt : w.heap.size + 1 < W.heap.size := by rw [hW.out]; simp [go_sem]
  clear hW
  refine (l18Code_c w.heap.size s f t A n c l order w.heap.size W (by unfold maxLen; omega) HN.out hm (hr.below hbW) hp.1).mono ?_
  rw [HQ.out]
  rintro e W1 ⟨rfl, mq, hW1⟩
  have hb1 : Below W.heap.size W W1 := by rw [hW1]; exact below_drewN (Below.refl _ _) mq
  clear hW1
  have hp1 := hp.below hb1 (by omega)
  have hp21 := hp2.below hb1 hlt
  have hlt1 : w.heap.size + 1 < W1.heap.size := Nat.lt_of_lt_of_le hlt hb1.size
  have hbW1 : Below w.heap.size w W1 := hbW.trans (hb1.mono hbW.size)
  clear hp hp2 hb1 hbW hlt
  have HP1 := Lib.hid hp1; have HP2 := Lib.hid hp21
  obtain ⟨⟨g0, g1, g2, g3⟩, ff0, ff1, ff2, ff3⟩ := hp1
  obtain ⟨⟨k0, k1, k2, k3⟩, fk0, fk1, fk2, fk3⟩ := hp21
  have hfar := far (show w.heap.size < W1.heap.size by omega)
  have hfar2 := far hlt1
  by_cases hq0 : q = 0
  rotate_left
  · have HR := Lib.hid (HR0.out hq0)
    have q1 : (q == 0) = false := by simpa using hq0
    have q2 : (q != 0) = true := by simpa using hq0
    go_wp2_with fail
    refine bodyPost_ret (v := .tuple #[pg pg0.s pg0.f pg0.t none pg0.l.length 0, .int .i64 q]) (by simp only [results, Try.results37, pg, pg0]; go_simp; try rfl) rfl ⟨none, 0, by rw [HR.out]; rfl, by rw [HR.out]; exact own_nil1 _ _, ?_⟩
    (repeat' (first | (with_reducible exact Below.refl _ _) | (with_reducible assumption) | (with_reducible refine below_drewN ?_ _) | (with_reducible refine Below.drew ?_) | (with_reducible refine Below.alloc ?_ ?_ _) | (with_reducible refine Below.setCell ?_ ?_ _) | (with_reducible refine via (by with_reducible assumption) ?_ ?_) | go_size))
  subst hq0
  obtain ⟨hpb, hob, hlb⟩ := HZ.out rfl
  rw [HN.out] at hlb
  obtain ⟨d, rfl⟩ : ∃ d : Nat, order = (d : Int) := ⟨order.toNat, by omega⟩
  have HSM := Lib.hid (page_small hpb)
  have hd : 1 ≤ d ∧ d ≤ 8 := by omega
  have hdl : 2 * d + 1 ≤ n := by omega
  have e1 : IntKind.i64.wrap ((n : Int) - 1) = (n : Int) - 1 := IntWalk.i64_in _ (by omega)
  cases hin : inB row 0 ((n : Int) - 1)
  · have HR := Lib.hid (HR1.out rfl hin)
    go_wp2_with (go_at_call 39; refine (l00In_c _ _ _ _).mono ?_; rintro e w' ⟨rfl, rfl⟩)
    refine bodyPost_ret (v := .tuple #[pg pg0.s pg0.f pg0.t none pg0.l.length 0, .int .i64 2]) (by simp only [results, Try.results37, pg, pg0]; go_simp; try rfl) rfl ⟨none, 0, by rw [HR.out]; rfl, by rw [HR.out]; exact own_nil1 _ _, ?_⟩
    (repeat' (first | (with_reducible exact Below.refl _ _) | (with_reducible assumption) | (with_reducible refine below_drewN ?_ _) | (with_reducible refine Below.drew ?_) | (with_reducible refine Below.alloc ?_ ?_ _) | (with_reducible refine Below.setCell ?_ ?_ _) | (with_reducible refine via (by with_reducible assumption) ?_ ?_) | go_size))
  obtain ⟨r, rfl⟩ : ∃ r : Nat, row = (r : Int) := ⟨row.toNat, by have := inB_iff.1 hin; omega⟩
  have hrn : r < n := by have := inB_iff.1 hin; omega
  have HR3 := Lib.hid (HR2.out rfl hin)
  rw [Int.toNat_natCast, Int.toNat_natCast] at HR3
  have hbs1 := hbW1.size
  go_wp2_with (go_at_call 39; refine (l00In_c _ _ _ _).mono ?_; rintro e w' ⟨rfl, rfl⟩)
  clear hin
  have hyb := gss_bd (row := r) HSM.out hd.2
  have HGU := Lib.hid (l18Guess_c A n c l r d w.heap.size W1 HN.out hm (hr.below hbW1) HSM.out hd hdl hrn)
  generalize hy : gss l r d = y at *
  have HY := Lib.hid hy; clear hy
  refine HGU.out.mono ?_
  rintro e w2 ⟨rfl, mg, hw2⟩
  have hb2 : Below W1.heap.size W1 w2 := by rw [hw2]; exact below_drewN (Below.refl _ _) mg
  clear hw2 HR0 HR1 HR2 HZ g0 g1 g2 g3 ff0 ff1 ff2 ff3 k0 k1 k2 k3 fk0 fk1 fk2 fk3 hfar hfar2 HGU
  have HP12 := Lib.hid (HP1.out.below hb2 (by omega)); have HP22 := Lib.hid (HP2.out.below hb2 hlt1)
  have hlt2 : w.heap.size + 1 < w2.heap.size := Nat.lt_of_lt_of_le hlt1 hb2.size
  have hbW2 : Below w.heap.size w w2 := hbW1.trans (hb2.mono hbs1)
  clear HP1 HP2
  obtain ⟨⟨g0, g1, g2, g3⟩, ff0, ff1, ff2, ff3⟩ := HP12.out
  obtain ⟨⟨k0, k1, k2, k3⟩, fk0, fk1, fk2, fk3⟩ := HP22.out
  have hfar := far (show w.heap.size < w2.heap.size by omega)
  have hfar2 := far hlt2
  cases hvl : valB y
  · have HR := Lib.hid (show mendR s f t l (r : Int) (d : Int) = (pg0, 5) by rw [HR3.out, hvl]; rfl)
    go_wp2_with (go_at_call 41; refine (l17Most_c _ _).mono ?_; rintro e w' ⟨rfl, rfl⟩)
    refine bodyPost_ret (v := .tuple #[pg pg0.s pg0.f pg0.t none pg0.l.length 0, .int .i64 5]) (by simp only [results, Try.results37, pg, pg0]; go_simp; try rfl) rfl ⟨none, 0, by rw [HR.out]; rfl, by rw [HR.out]; exact own_nil1 _ _, ?_⟩
    (repeat' (first | (with_reducible exact Below.refl _ _) | (with_reducible assumption) | (with_reducible refine below_drewN ?_ _) | (with_reducible refine Below.drew ?_) | (with_reducible refine Below.alloc ?_ ?_ _) | (with_reducible refine Below.setCell ?_ ?_ _) | (with_reducible refine via (by with_reducible assumption) ?_ ?_) | go_size))
  have HR := Lib.hid (show mendR s f t l (r : Int) (d : Int) = (⟨s, f, t, l.set r y⟩, 0) by rw [HR3.out, hvl]; rfl)
  have hbs2 := hbW2.size
  go_wp2_with (go_at_call 41; refine (l17Most_c _ _).mono ?_; rintro e w' ⟨rfl, rfl⟩)
  refine gen_calls fun W3 hW => ?_
  have hbX : Below w2.heap.size w2 W3 := by rw [hW.out]; (repeat' (first | (with_reducible exact Below.refl _ _) | (with_reducible assumption) | (with_reducible refine below_drewN ?_ _) | (with_reducible refine Below.drew ?_) | (with_reducible refine Below.alloc ?_ ?_ _) | (with_reducible refine Below.setCell ?_ ?_ _) | (with_reducible refine via (by with_reducible assumption) ?_ ?_) | go_size))
  have hq3 : PgW W3 w2.heap.size s f t A n c := by rw [hW.out]; unfold PgW PgAt; simp [go_sem]
  have hltX : w2.heap.size < W3.heap.size := by rw [hW.out]; simp [go_sem]
  have hbWX : Below w.heap.size w W3 := hbW2.trans (hbX.mono hbs2)
  clear hW
  refine (l00Own_c A n c l W3 HN.out hm hA ((hr.below hbWX).mono hbWX.size)).mono ?_
  rintro e w3 ⟨v3, rfl, hx3, hb3⟩
  clear g0 g1 g2 g3 ff0 ff1 ff2 ff3 k0 k1 k2 k3 fk0 fk1 fk2 fk3 hfar hfar2
  have HP13 := Lib.hid (hq3.below hb3 hltX); have HP23 := Lib.hid ((HP22.out.below hbX hlt2).below hb3 (by omega))
  have hlt3 : w2.heap.size < w3.heap.size := Nat.lt_of_lt_of_le hltX hb3.size
  have hbW3 : Below w.heap.size w w3 := hbWX.trans (hb3.mono hbWX.size)
  obtain ⟨⟨g0, g1, g2, g3⟩, ff0, ff1, ff2, ff3⟩ := HP13.out
  obtain ⟨⟨k0, k1, k2, k3⟩, fk0, fk1, fk2, fk3⟩ := HP23.out
  clear hq3
  have hfar := far (show w2.heap.size < w3.heap.size by omega)
  have hfar2 := far (show w.heap.size + 1 < w3.heap.size by omega)
  obtain ⟨A3, c3, rfl, _⟩ := own_form hx3
  have hg : ∃ g, A3 = some ⟨g, 0, none⟩ := by
    rcases hx3.2 with ⟨hv, h0⟩ | ⟨g, cap, cur, hv, _⟩
    · omega
    · exact ⟨g, by injection hv⟩
  obtain ⟨g, rfl⟩ := hg
  have hgl := hx3.lt g rfl
  obtain ⟨x, hx⟩ := get_ex l r (by rw [HN.out]; exact hrn)
  have hgk : w3.cell? ⟨g, r, none⟩ = some (.int .i64 x) := by rw [hx3.cellAt r (by omega), List.getElem?_map, hx]; rfl
  have hfk : w3.frozen? ⟨g, r, none⟩ = false := hx3.frozenAt r
  have hx35 : (w3.setCell ⟨w2.heap.size, 3, none⟩ (.slice (some ⟨g, 0, none⟩) n c3)).ownsRow W3.heap.size 2 1 (.slice (some ⟨g, 0, none⟩) n c3) n (l.map (Value.int .i64)) := ownsRow_setCell_below hx3 (by dsimp only; omega) _
  have hx4 := hx35.stored r (.int .i64 y)
  rw [map_set_int] at hx4
  have HX4 := Lib.hid hx4.1; clear hx4 hx3 hx hx35
  have n1 : ¬ w2.heap.size = g := by omega
  have n2 : ¬ g = w2.heap.size := by omega
  have n3 : ¬ w.heap.size + 1 = g := by omega
  have n4 : ¬ g = w.heap.size + 1 := by omega
  have n5 : ¬ w2.heap.size = w.heap.size + 1 := by omega
  have n6 : ¬ w.heap.size + 1 = w2.heap.size := by omega
  have hfg := far hgl.2
  go_wp2_with fail
  refine bodyPost_ret (v := .tuple #[pg s f t (some ⟨g, 0, none⟩) n c3, .int .i64 0]) (by simp only [results, Try.results37, pg]; go_simp) rfl ⟨some ⟨g, 0, none⟩, c3, by rw [HR.out]; simp only [List.length_set, HN.out]; rfl, ?_, ?_⟩
  · rw [HR.out]
    simp only [List.length_set, HN.out]
    refine own_base ?_ (show w.heap.size ≤ W3.heap.size by omega)
    iterate 4 refine ownsRow_setCell_below ?_ (by dsimp only; omega) _
    exact HX4.out
  · (repeat' (first | (with_reducible exact Below.refl _ _) | (with_reducible assumption) | (with_reducible refine below_drewN ?_ _) | (with_reducible refine Below.drew ?_) | (with_reducible refine Below.alloc ?_ ?_ _) | (with_reducible refine Below.setCell ?_ ?_ _) | (with_reducible refine via (by with_reducible assumption) ?_ ?_) | go_size))

end Go.Proofs.Ytklpjpablmiaoaa
