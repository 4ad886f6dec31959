/- Contracts: trials measured, compared by the law. -/
import Derived.Test.YtaebofpgdonnbaaTrialOpen
import Derived.Test.YtaebofpgdonnbaaFL
import Derived.Test.YtaebofpgdonnbaaInts
import Derived.Test.YtaebofpgdonnbaaHush
set_option linter.unusedVariables false
set_option linter.unusedSimpArgs false
namespace Go.Proofs.Ytaebofpgdonnbaa
open Go.RowKit

structure RegD where (base : Int) (digs : List Int)
structure TrD where (a b s : RegD) (ca : Int)
instance : Inhabited TrD := ⟨⟨⟨0, []⟩, ⟨0, []⟩, ⟨0, []⟩, 0⟩⟩
def getT (l : List TrD) (i : Nat) : TrD := l[i]?.getD default
theorem getT_eq {l : List TrD} {i : Nat} {d : TrD} (h : l[i]? = some d) : getT l i = d := by rw [getT, h]; rfl
/-- a register's two cells at an address -/
def RegAt (w : World) (B b o : Nat) (r : RegD) : Prop := w.cell? ⟨b, o, none⟩ = some (.int .i64 r.base) ∧ ∃ An cn, w.cell? ⟨b, o + 1, none⟩ = some (.slice An r.digs.length cn) ∧ Rd w B 1 icell An r.digs
theorem RegAt.keep {w w' : World} {B b o : Nat} {r : RegD} (h : RegAt w B b o r) (hb : b < B) (hk : ∀ p : Addr, p.block < B → w'.cell? p = w.cell? p) : RegAt w' B b o r := by
  obtain ⟨h0, An, cn, h1, h2⟩ := h
  exact ⟨by rw [hk _ hb]; exact h0, An, cn, by rw [hk _ hb]; exact h1, h2.keep hk⟩
theorem RegAt.mono {w : World} {B B' b o : Nat} {r : RegD} (h : RegAt w B b o r) (hB : B ≤ B') : RegAt w B' b o r := by
  obtain ⟨h0, An, cn, h1, h2⟩ := h
  exact ⟨h0, An, cn, h1, h2.mono hB⟩
/-- a list of trials, where it lies -/
def TRd (w : World) (B : Nat) (A : Option Addr) (l : List TrD) : Prop := 0 < l.length → ∃ b off, A = some ⟨b, off, none⟩ ∧ b < B ∧ ∀ i d, l[i]? = some d →
  RegAt w B b (off + i * 7) d.a ∧ RegAt w B b (off + i * 7 + 2) d.b ∧ RegAt w B b (off + i * 7 + 4) d.s ∧ w.cell? ⟨b, off + i * 7 + 6, none⟩ = some (.int .i64 d.ca)
theorem TRd.keep {w w' : World} {B : Nat} {A : Option Addr} {l : List TrD} (h : TRd w B A l) (hk : ∀ p : Addr, p.block < B → w'.cell? p = w.cell? p) : TRd w' B A l := fun hl => by
  obtain ⟨b, off, e, hb, hc⟩ := h hl
  refine ⟨b, off, e, hb, fun i d hi => ?_⟩
  obtain ⟨h0, h1, h2, h3⟩ := hc i d hi
  exact ⟨h0.keep hb hk, h1.keep hb hk, h2.keep hb hk, by rw [hk _ hb]; exact h3⟩
theorem TRd.below {w w' : World} {B : Nat} {A : Option Addr} {l : List TrD} (h : TRd w B A l) (hb : Below B w w') : TRd w' B A l := h.keep fun _ hp => hb.cell hp
theorem TRd.mono {w : World} {B B' : Nat} {A : Option Addr} {l : List TrD} (h : TRd w B A l) (hB : B ≤ B') : TRd w B' A l := fun hl => by
  obtain ⟨b, off, e, hb, hc⟩ := h hl
  refine ⟨b, off, e, by omega, fun i d hi => ?_⟩
  obtain ⟨h0, h1, h2, h3⟩ := hc i d hi
  exact ⟨h0.mono hB, h1.mono hB, h2.mono hB, h3⟩
theorem TRd.none_len {w : World} {B : Nat} {A : Option Addr} {l : List TrD} (h : TRd w B A l) (hA : A = none) : l.length = 0 := by
  rcases Nat.eq_zero_or_pos l.length with h0 | h0
  · exact h0
  · obtain ⟨b, off, e, _⟩ := h h0
    rw [hA] at e
    cases e
def okTD (d : TrD) : Prop := d.a.digs.length ≤ maxLen ∧ d.b.digs.length ≤ maxLen ∧ d.s.digs.length ≤ maxLen
def ragg (r : RegD) (A : Option Addr) (c : Nat) : Value := .agg #[.int .i64 r.base, .slice A r.digs.length c]
def tagg (d : TrD) (A : Option Addr) (a : Nat) (B : Option Addr) (b : Nat) (C : Option Addr) (c : Nat) : Value := .agg #[.int .i64 d.a.base, .slice A d.a.digs.length a, .int .i64 d.b.base, .slice B d.b.digs.length b, .int .i64 d.s.base, .slice C d.s.digs.length c, .int .i64 d.ca]

theorem trials_of {w : World} {A : Option Addr} {lc : List TrialC} (hr : Rd w w.heap.size 7 tcell A lc) (ok : ∀ x ∈ lc, okT w w.heap.size x) :
    ∃ l : List TrD, l.length = lc.length ∧ TRd w w.heap.size A l ∧ ∀ d ∈ l, okTD d := by
  have each : ∀ i, i < lc.length → ∃ d : TrD, okTD d ∧ ∃ x, lc[i]? = some x ∧ x.ab = d.a.base ∧ x.bb = d.b.base ∧ x.sb = d.s.base ∧ x.ca = d.ca ∧ IsInts w w.heap.size x.av d.a.digs ∧ IsInts w w.heap.size x.bv d.b.digs ∧ IsInts w w.heap.size x.sv d.s.digs := by
    intro i hi
    obtain ⟨_, _, _, _, ⟨l1, h1⟩, ⟨l2, h2⟩, l3, h3⟩ := ok lc[i] (List.getElem_mem hi)
    have q1 : l1.length ≤ maxLen := by obtain ⟨_, _, _, h, _⟩ := h1; exact h
    have q2 : l2.length ≤ maxLen := by obtain ⟨_, _, _, h, _⟩ := h2; exact h
    have q3 : l3.length ≤ maxLen := by obtain ⟨_, _, _, h, _⟩ := h3; exact h
    exact ⟨⟨⟨lc[i].ab, l1⟩, ⟨lc[i].bb, l2⟩, ⟨lc[i].sb, l3⟩, lc[i].ca⟩, ⟨q1, q2, q3⟩, _, List.getElem?_eq_getElem hi, rfl, rfl, rfl, rfl, h1, h2, h3⟩
  obtain ⟨l, hl, hp⟩ := list_of lc.length each
  refine ⟨l, hl, fun h0 => ?_, fun d hd => ?_⟩
  · obtain ⟨b, off, e, hb, hc⟩ := hr (by omega)
    refine ⟨b, off, e, hb, fun i d hi => ?_⟩
    obtain ⟨_, x, hx, e1, e2, e3, e4, ⟨A1, c1, f1, _, g1, _⟩, ⟨A2, c2, f2, _, g2, _⟩, A3, c3, f3, _, g3, _⟩ := hp i d hi
    have c0 := hc i x hx
    refine ⟨⟨?_, A1, c1, ?_, g1⟩, ⟨?_, A2, c2, ?_, g2⟩, ⟨?_, A3, c3, ?_, g3⟩, ?_⟩
    · rw [← e1]; exact c0 0 _ rfl
    · rw [← f1]; exact c0 1 _ rfl
    · rw [← e2]; exact c0 2 _ rfl
    · rw [← f2]; exact c0 3 _ rfl
    · rw [← e3]; exact c0 4 _ rfl
    · rw [← f3]; exact c0 5 _ rfl
    · rw [← e4]; exact c0 6 _ rfl
  · obtain ⟨i, hi⟩ := List.getElem?_of_mem hd
    exact (hp i d hi).1

def RetSzJ (m : Nat) (left : Int) (W : World) (e : Ending) (w' : World) : Prop := ∃ r : Int, e = .returned (.int .i64 r) ∧ -1 ≤ r ∧ r ≤ left ∧ (0 ≤ r → (m : Int) ≤ left) ∧ Below W.heap.size W w'
theorem szInt64S_c (A : Option Addr) (n c : Nat) (left : Int) (w : World) (hm : n ≤ maxLen) (h0 : 0 ≤ left) (h1 : left ≤ 1048576) : Calls Try.prog 36 #[.slice A n c, .int .i64 left] w (RetSzJ n left w) := by
  unfold maxLen at hm
  by_cases t : left - n < 0
  · go_enter Try.func36, Try.ntmps36
    go_wp2
    go_ret
    exact ⟨-1, rfl, by omega, by omega, fun h => by omega, by (repeat' (first | (with_reducible exact Below.refl _ _) | (with_reducible assumption) | (with_reducible refine below_drewN ?_ _) | (with_reducible refine Below.drew ?_) | (with_reducible refine Below.alloc ?_ ?_ _) | (with_reducible refine Below.setCell ?_ ?_ _) | (with_reducible refine via (by with_reducible assumption) ?_ ?_) | go_size))⟩
  · go_enter Try.func36, Try.ntmps36
    go_wp2
    go_ret
    exact ⟨_, rfl, by omega, by omega, fun h => by omega, by (repeat' (first | (with_reducible exact Below.refl _ _) | (with_reducible assumption) | (with_reducible refine below_drewN ?_ _) | (with_reducible refine Below.drew ?_) | (with_reducible refine Below.alloc ?_ ?_ _) | (with_reducible refine Below.setCell ?_ ?_ _) | (with_reducible refine via (by with_reducible assumption) ?_ ?_) | go_size))⟩

theorem szRegister_c (r : RegD) (An : Option Addr) (cn : Nat) (left : Int) (w : World) (h0 : 0 ≤ left) (h1 : left ≤ 1048576) (hd : r.digs.length ≤ maxLen) : Calls Try.prog 47 #[ragg r An cn, .int .i64 left] w (RetSzJ r.digs.length left w) := by
  have hd2 := hd
  unfold maxLen at hd
  simp only [ragg]
  go_enter Try.func47, Try.ntmps47
  go_wp2_with fail
  refine (szInt64S_c An r.digs.length cn left _ hd2 (by omega) (by omega)).mono ?_
  rintro e w1 ⟨r1, rfl, q1, q2, q3, hb1⟩
  by_cases t2 : r1 < 0
  · go_wp2_with fail
    go_ret
    exact ⟨-1, rfl, by omega, by omega, fun h => by omega, by (repeat' (first | (with_reducible exact Below.refl _ _) | (with_reducible assumption) | (with_reducible refine below_drewN ?_ _) | (with_reducible refine Below.drew ?_) | (with_reducible refine Below.alloc ?_ ?_ _) | (with_reducible refine Below.setCell ?_ ?_ _) | (with_reducible refine via (by with_reducible assumption) ?_ ?_) | go_size))⟩
  · go_wp2_with fail
    go_ret
    exact ⟨r1, rfl, by omega, by omega, fun h => by have := q3 (by omega); omega, by (repeat' (first | (with_reducible exact Below.refl _ _) | (with_reducible assumption) | (with_reducible refine below_drewN ?_ _) | (with_reducible refine Below.drew ?_) | (with_reducible refine Below.alloc ?_ ?_ _) | (with_reducible refine Below.setCell ?_ ?_ _) | (with_reducible refine via (by with_reducible assumption) ?_ ?_) | go_size))⟩

def smallT (d : TrD) : Prop := d.a.digs.length ≤ 1048576 ∧ d.b.digs.length ≤ 1048576 ∧ d.s.digs.length ≤ 1048576
def RetSzT (d : TrD) (left : Int) (W : World) (e : Ending) (w' : World) : Prop := ∃ r : Int, e = .returned (.int .i64 r) ∧ -1 ≤ r ∧ r ≤ left ∧ (0 ≤ r → smallT d) ∧ Below W.heap.size W w'
theorem szTrial_c (d : TrD) (A1 : Option Addr) (c1 : Nat) (A2 : Option Addr) (c2 : Nat) (A3 : Option Addr) (c3 : Nat) (left : Int) (w : World) (h0 : 0 ≤ left) (h1 : left ≤ 1048576) (hd : okTD d) : Calls Try.prog 31 #[tagg d A1 c1 A2 c2 A3 c3, .int .i64 left] w (RetSzT d left w) := by
  obtain ⟨k1, k2, k3⟩ := hd
  simp only [tagg]
  go_enter Try.func31, Try.ntmps31
  go_wp2_with fail
  refine gen_calls fun V hV => ?_
  have hbV : Below w.heap.size w V := by rw [hV.out]; (repeat' (first | (with_reducible exact Below.refl _ _) | (with_reducible assumption) | (with_reducible refine below_drewN ?_ _) | (with_reducible refine Below.drew ?_) | (with_reducible refine Below.alloc ?_ ?_ _) | (with_reducible refine Below.setCell ?_ ?_ _) | (with_reducible refine via (by with_reducible assumption) ?_ ?_) | go_size))
  have hVz : V.heap.size = w.heap.size + 1 := by rw [hV.out]; simp [go_sem]
  have x0 : V.cell? ⟨w.heap.size, 0, none⟩ = some (.int .i64 d.a.base) := by rw [hV.out]; simp [go_sem]
  have x1 : V.cell? ⟨w.heap.size, 1, none⟩ = some (.slice A1 d.a.digs.length c1) := by rw [hV.out]; simp [go_sem]
  have x2 : V.cell? ⟨w.heap.size, 2, none⟩ = some (.int .i64 d.b.base) := by rw [hV.out]; simp [go_sem]
  have x3 : V.cell? ⟨w.heap.size, 3, none⟩ = some (.slice A2 d.b.digs.length c2) := by rw [hV.out]; simp [go_sem]
  have x4 : V.cell? ⟨w.heap.size, 4, none⟩ = some (.int .i64 d.s.base) := by rw [hV.out]; simp [go_sem]
  have x5 : V.cell? ⟨w.heap.size, 5, none⟩ = some (.slice A3 d.s.digs.length c3) := by rw [hV.out]; simp [go_sem]
  have x6 : V.cell? ⟨w.heap.size, 6, none⟩ = some (.int .i64 d.ca) := by rw [hV.out]; simp [go_sem]
  clear hV
  refine (szRegister_c d.a A1 c1 left V (by omega) (by omega) k1).mono ?_
  rintro e w1 ⟨r1, rfl, q1, p1, o1, hb1⟩
  replace o1 := Lib.hid o1
  have hbw1 : Below w.heap.size w w1 := hbV.trans (hb1.mono hbV.size)
  by_cases t1 : r1 < 0
  · go_wp2_with fail
    go_ret
    exact ⟨-1, rfl, by omega, by omega, fun h => by omega, by (repeat' (first | (with_reducible exact Below.refl _ _) | (with_reducible assumption) | (with_reducible refine below_drewN ?_ _) | (with_reducible refine Below.drew ?_) | (with_reducible refine Below.alloc ?_ ?_ _) | (with_reducible refine Below.setCell ?_ ?_ _) | (with_reducible refine via (by with_reducible assumption) ?_ ?_) | go_size))⟩
  obtain ⟨hc1, _⟩ := bcell hb1
  have hz1 := hb1.size
  rw [← hc1 _ _ (by omega)] at x0
  rw [← hc1 _ _ (by omega)] at x1
  rw [← hc1 _ _ (by omega)] at x2
  rw [← hc1 _ _ (by omega)] at x3
  rw [← hc1 _ _ (by omega)] at x4
  rw [← hc1 _ _ (by omega)] at x5
  rw [← hc1 _ _ (by omega)] at x6
  clear hc1
  go_wp2_with fail
  refine (szRegister_c d.b A2 c2 r1 w1 (by omega) (by omega) k2).mono ?_
  rintro e w2 ⟨r2, rfl, q2, p2, o2, hb2⟩
  replace o2 := Lib.hid o2
  have hbw2 : Below w.heap.size w w2 := hbw1.trans (hb2.mono hbw1.size)
  by_cases t2 : r2 < 0
  · go_wp2_with fail
    go_ret
    exact ⟨-1, rfl, by omega, by omega, fun h => by omega, by (repeat' (first | (with_reducible exact Below.refl _ _) | (with_reducible assumption) | (with_reducible refine below_drewN ?_ _) | (with_reducible refine Below.drew ?_) | (with_reducible refine Below.alloc ?_ ?_ _) | (with_reducible refine Below.setCell ?_ ?_ _) | (with_reducible refine via (by with_reducible assumption) ?_ ?_) | go_size))⟩
  obtain ⟨hc2, _⟩ := bcell hb2
  have hz2 := hb2.size
  rw [← hc2 _ _ (by omega)] at x0
  rw [← hc2 _ _ (by omega)] at x1
  rw [← hc2 _ _ (by omega)] at x2
  rw [← hc2 _ _ (by omega)] at x3
  rw [← hc2 _ _ (by omega)] at x4
  rw [← hc2 _ _ (by omega)] at x5
  rw [← hc2 _ _ (by omega)] at x6
  clear hc2
  go_wp2_with fail
  refine (szRegister_c d.s A3 c3 r2 w2 (by omega) (by omega) k3).mono ?_
  rintro e w3 ⟨r3, rfl, q3, p3, o3, hb3⟩
  replace o3 := Lib.hid o3
  have hbw3 : Below w.heap.size w w3 := hbw2.trans (hb3.mono hbw2.size)
  by_cases t3 : r3 < 0
  · go_wp2_with fail
    go_ret
    exact ⟨-1, rfl, by omega, by omega, fun h => by omega, by (repeat' (first | (with_reducible exact Below.refl _ _) | (with_reducible assumption) | (with_reducible refine below_drewN ?_ _) | (with_reducible refine Below.drew ?_) | (with_reducible refine Below.alloc ?_ ?_ _) | (with_reducible refine Below.setCell ?_ ?_ _) | (with_reducible refine via (by with_reducible assumption) ?_ ?_) | go_size))⟩
  obtain ⟨hc3, _⟩ := bcell hb3
  have hz3 := hb3.size
  rw [← hc3 _ _ (by omega)] at x0
  rw [← hc3 _ _ (by omega)] at x1
  rw [← hc3 _ _ (by omega)] at x2
  rw [← hc3 _ _ (by omega)] at x3
  rw [← hc3 _ _ (by omega)] at x4
  rw [← hc3 _ _ (by omega)] at x5
  rw [← hc3 _ _ (by omega)] at x6
  clear hc3
  go_wp2_with fail
  go_ret
  exact ⟨r3, rfl, by omega, by omega, fun h => ⟨by have := o1.out (by omega); omega, by have := o2.out (by omega); omega, by have := o3.out (by omega); omega⟩, by (repeat' (first | (with_reducible exact Below.refl _ _) | (with_reducible assumption) | (with_reducible refine below_drewN ?_ _) | (with_reducible refine Below.drew ?_) | (with_reducible refine Below.alloc ?_ ?_ _) | (with_reducible refine Below.setCell ?_ ?_ _) | (with_reducible refine via (by with_reducible assumption) ?_ ?_) | go_size))⟩

def RetSzTS (n : Nat) (l : List TrD) (left : Int) (W : World) (e : Ending) (w' : World) : Prop := ∃ r : Int, e = .returned (.int .i64 r) ∧ -1 ≤ r ∧ r ≤ left ∧ (0 ≤ r → (n : Int) ≤ left ∧ ∀ (i : Nat) (d : TrD), l[i]? = some d → smallT d) ∧ Below W.heap.size W w'
set_option maxHeartbeats 1000000 in
theorem szTrialS_c (A : Option Addr) (n c : Nat) (l : List TrD) (left : Int) (w : World) (hn : l.length = n) (hm : n ≤ maxLen) (h0 : 0 ≤ left) (h1 : left ≤ 1048576) (hr : TRd w w.heap.size A l) (ok : ∀ d ∈ l, okTD d) :
    Calls Try.prog 14 #[.slice A n c, .int .i64 left] w (RetSzTS n l left w) := by
  unfold maxLen at hm
  have HN := Lib.hid hn; clear hn
  by_cases t1 : left - n < 0
  · go_enter Try.func14, Try.ntmps14
    go_wp2
    go_ret
    exact ⟨-1, rfl, by omega, by omega, fun h => by omega, by (repeat' (first | (with_reducible exact Below.refl _ _) | (with_reducible assumption) | (with_reducible refine below_drewN ?_ _) | (with_reducible refine Below.drew ?_) | (with_reducible refine Below.alloc ?_ ?_ _) | (with_reducible refine Below.setCell ?_ ?_ _) | (with_reducible refine via (by with_reducible assumption) ?_ ?_) | go_size))⟩
  · go_enter Try.func14, Try.ntmps14
    go_wp2
    go_loopw [1, 5] (fun q i wr => ∃ (k : Nat) (r : Int), k ≤ n ∧ i = .int .i64 k ∧ q = .int .i64 r ∧ 0 ≤ r ∧ r ≤ left - n ∧ (∀ (i : Nat) (d : TrD), i < k → l[i]? = some d → smallT d) ∧ Below w.heap.size w wr) (fun _ i _ => n - (intOf i).toNat)
    case atStart => exact ⟨0, _, Nat.zero_le _, rfl, rfl, by omega, by omega, fun i d hi => by omega, Below.refl _ _⟩
    case round =>
      obtain ⟨k, r, hk, rfl, rfl, hr0, hr1, hall, hb⟩ := hrel
      have HALL := Lib.hid hall; clear hall
      by_cases hlt : k < n
      · obtain ⟨b, off, rfl, hbl, hc⟩ := (hr.below hb) (by rw [HN.out]; omega)
        obtain ⟨d, ed⟩ := get_ex l k (by rw [HN.out]; omega)
        have hd := ok d (List.mem_of_getElem? ed)
        obtain ⟨⟨g0, A1, c1, g1, _⟩, ⟨g2, A2, c2, g3, _⟩, ⟨g4, A3, c3, g5, _⟩, g6⟩ := hc k d ed
        have HED := Lib.hid ed
        clear hc ed
        have hbs := hb.size
        have HD := Lib.hid hd; clear hd
        go_wp2_with fail
        refine (szTrial_c d A1 c1 A2 c2 A3 c3 r wr (by omega) (by omega) HD.out).mono ?_
        rintro e w1 ⟨r1, rfl, q1, q2, q3, hb1⟩
        by_cases t2 : r1 < 0
        · go_wp2_with fail
          go_ret
          exact ⟨-1, rfl, by omega, by omega, fun h => by omega, by (repeat' (first | (with_reducible exact Below.refl _ _) | (with_reducible assumption) | (with_reducible refine below_drewN ?_ _) | (with_reducible refine Below.drew ?_) | (with_reducible refine Below.alloc ?_ ?_ _) | (with_reducible refine Below.setCell ?_ ?_ _) | (with_reducible refine via (by with_reducible assumption) ?_ ?_) | go_size))⟩
        · have HALL2 := Lib.hid (show ∀ i d, i < k + 1 → l[i]? = some d → smallT d from fun i d' hi he => by
            by_cases hik : i < k
            · exact HALL.out i d' hik he
            · obtain rfl : i = k := by omega
              rw [HED.out] at he
              injection he with he
              subst he
              exact q3 (by omega))
          clear q3
          go_wp2_with fail
          go_roundw
          case rel => exact ⟨k + 1, r1, by omega, by go_num, rfl, by omega, by omega, HALL2.out, by (repeat' (first | (with_reducible exact Below.refl _ _) | (with_reducible assumption) | (with_reducible refine below_drewN ?_ _) | (with_reducible refine Below.drew ?_) | (with_reducible refine Below.alloc ?_ ?_ _) | (with_reducible refine Below.setCell ?_ ?_ _) | (with_reducible refine via (by with_reducible assumption) ?_ ?_) | go_size))⟩
          case measure => simp [intOf]; omega
      · go_wp2
        go_ret
        exact ⟨r, rfl, by omega, by omega, fun h => ⟨by omega, fun i d he => HALL.out i d (by have := (List.getElem?_eq_some_iff.1 he).1; rw [HN.out] at this; omega) he⟩, hb⟩

theorem eqRegister_c (r : RegD) (An Am : Option Addr) (cn cm : Nat) (B : Nat) (w : World) (hd : r.digs.length ≤ maxLen) (hB : B ≤ w.heap.size) (h1 : Rd w B 1 icell An r.digs) (h2 : Rd w B 1 icell Am r.digs) :
    Calls Try.prog 51 #[ragg r An cn, ragg r Am cm] w fun e w' => e = .returned (.bool true) ∧ Below w.heap.size w w' := by
  simp only [ragg]
  go_enter Try.func51, Try.ntmps51
  go_wp2_with fail
  refine (to_below (eqInt64S_c An Am r.digs.length cn cm r.digs B _ rfl hd (h1.below (by (repeat' (first | (with_reducible exact Below.refl _ _) | (with_reducible assumption) | (with_reducible refine below_drewN ?_ _) | (with_reducible refine Below.drew ?_) | (with_reducible refine Below.alloc ?_ ?_ _) | (with_reducible refine Below.setCell ?_ ?_ _) | (with_reducible refine via (by with_reducible assumption) ?_ ?_) | go_size)))) (h2.below (by (repeat' (first | (with_reducible exact Below.refl _ _) | (with_reducible assumption) | (with_reducible refine below_drewN ?_ _) | (with_reducible refine Below.drew ?_) | (with_reducible refine Below.alloc ?_ ?_ _) | (with_reducible refine Below.setCell ?_ ?_ _) | (with_reducible refine via (by with_reducible assumption) ?_ ?_) | go_size)))))).mono ?_
  rintro e w1 ⟨rfl, hb1⟩
  go_wp2_with fail
  go_ret
  refine ⟨rfl, ?_⟩
  (repeat' (first | (with_reducible exact Below.refl _ _) | (with_reducible assumption) | (with_reducible refine below_drewN ?_ _) | (with_reducible refine Below.drew ?_) | (with_reducible refine Below.alloc ?_ ?_ _) | (with_reducible refine Below.setCell ?_ ?_ _) | (with_reducible refine via (by with_reducible assumption) ?_ ?_) | go_size))

end Go.Proofs.Ytaebofpgdonnbaa
