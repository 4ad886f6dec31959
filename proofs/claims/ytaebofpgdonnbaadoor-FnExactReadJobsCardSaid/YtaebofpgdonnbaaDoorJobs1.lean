/- Contracts: jobs read, measured, copied, compared. -/
import Derived.Test.YtaebofpgdonnbaaDoorFL
import Derived.Test.YtaebofpgdonnbaaDoorInts
set_option linter.unusedVariables false
set_option linter.unusedSimpArgs false
namespace Go.Proofs.YtaebofpgdonnbaaDoor
open Go.RowKit

structure JobD where (name : ByteArray) (days cost : Int) (needs : List Int)
instance : Inhabited JobD := ⟨⟨ByteArray.empty, 0, 0, []⟩⟩
def getJ (l : List JobD) (i : Nat) : JobD := l[i]?.getD default
theorem getJ_eq {l : List JobD} {i : Nat} {d : JobD} (h : l[i]? = some d) : getJ l i = d := by rw [getJ, h]; rfl
/-- a list of jobs, where it lies -/
def JRd (w : World) (B : Nat) (A : Option Addr) (l : List JobD) : Prop := 0 < l.length → ∃ b off, A = some ⟨b, off, none⟩ ∧ b < B ∧ ∀ i d, l[i]? = some d →
  w.cell? ⟨b, off + i * 4, none⟩ = some (.string d.name) ∧ w.cell? ⟨b, off + i * 4 + 1, none⟩ = some (.int .i64 d.days) ∧ w.cell? ⟨b, off + i * 4 + 2, none⟩ = some (.int .i64 d.cost) ∧
  ∃ An cn, w.cell? ⟨b, off + i * 4 + 3, none⟩ = some (.slice An d.needs.length cn) ∧ Rd w B 1 icell An d.needs
theorem JRd.keep {w w' : World} {B : Nat} {A : Option Addr} {l : List JobD} (h : JRd w B A l) (hk : ∀ p : Addr, p.block < B → w'.cell? p = w.cell? p) : JRd w' B A l := fun hl => by
  obtain ⟨b, off, e, hb, hc⟩ := h hl
  refine ⟨b, off, e, hb, fun i d hi => ?_⟩
  obtain ⟨h0, h1, h2, An, cn, h3, h5⟩ := hc i d hi
  rw [hk _ hb, hk _ hb, hk _ hb]
  exact ⟨h0, h1, h2, An, cn, by rw [hk _ hb]; exact h3, h5.keep hk⟩
theorem JRd.below {w w' : World} {B : Nat} {A : Option Addr} {l : List JobD} (h : JRd w B A l) (hb : Below B w w') : JRd w' B A l := h.keep fun _ hp => hb.cell hp
theorem JRd.mono {w : World} {B B' : Nat} {A : Option Addr} {l : List JobD} (h : JRd w B A l) (hB : B ≤ B') : JRd w B' A l := fun hl => by
  obtain ⟨b, off, e, hb, hc⟩ := h hl
  refine ⟨b, off, e, by omega, fun i d hi => ?_⟩
  obtain ⟨h0, h1, h2, An, cn, h3, h5⟩ := hc i d hi
  exact ⟨h0, h1, h2, An, cn, h3, h5.mono hB⟩
theorem JRd.none_len {w : World} {B : Nat} {A : Option Addr} {l : List JobD} (h : JRd w B A l) (hA : A = none) : l.length = 0 := by
  rcases Nat.eq_zero_or_pos l.length with h0 | h0
  · exact h0
  · obtain ⟨b, off, e, _⟩ := h h0
    rw [hA] at e
    cases e
def okJD (d : JobD) : Prop := d.name.size ≤ maxLen ∧ d.needs.length ≤ maxLen
def jagg (d : JobD) (An : Option Addr) (cn : Nat) : Value := .agg #[.string d.name, .int .i64 d.days, .int .i64 d.cost, .slice An d.needs.length cn]

theorem info_job : (Tryd.prog.info? 93).map (fun i => (i.zero, i.size, i.bytes)) = some (some (.agg #[.string ByteArray.empty, .int .i64 0, .int .i64 0, .slice none 0 0]), 4, 56) := by kernel_rfl

def RetSz (left : Int) (W : World) (e : Ending) (w' : World) : Prop := ∃ r : Int, e = .returned (.int .i64 r) ∧ -1 ≤ r ∧ r ≤ left ∧ Below W.heap.size W w'
def RetSzJ (m : Nat) (left : Int) (W : World) (e : Ending) (w' : World) : Prop := ∃ r : Int, e = .returned (.int .i64 r) ∧ -1 ≤ r ∧ r ≤ left ∧ (0 ≤ r → (m : Int) ≤ left) ∧ Below W.heap.size W w'
theorem szInt64S_c (A : Option Addr) (n c : Nat) (left : Int) (w : World) (hm : n ≤ maxLen) (h0 : 0 ≤ left) (h1 : left ≤ 1048576) : Calls Tryd.prog 50 #[.slice A n c, .int .i64 left] w (RetSzJ n left w) := by
  unfold maxLen at hm
  by_cases t : left - n < 0
  · go_enter Tryd.func50, Tryd.ntmps50
    go_wp2
    go_ret
    exact ⟨-1, rfl, by omega, by omega, fun h => by omega, by (repeat' (first | (with_reducible exact Below.refl _ _) | (with_reducible assumption) | (with_reducible refine below_drewN ?_ _) | (with_reducible refine Below.drew ?_) | (with_reducible refine Below.alloc ?_ ?_ _) | (with_reducible refine Below.setCell ?_ ?_ _) | (with_reducible refine via (by with_reducible assumption) ?_ ?_) | go_size))⟩
  · go_enter Tryd.func50, Tryd.ntmps50
    go_wp2
    go_ret
    exact ⟨_, rfl, by omega, by omega, fun h => by omega, by (repeat' (first | (with_reducible exact Below.refl _ _) | (with_reducible assumption) | (with_reducible refine below_drewN ?_ _) | (with_reducible refine Below.drew ?_) | (with_reducible refine Below.alloc ?_ ?_ _) | (with_reducible refine Below.setCell ?_ ?_ _) | (with_reducible refine via (by with_reducible assumption) ?_ ?_) | go_size))⟩

theorem szJob_c (d : JobD) (An : Option Addr) (cn : Nat) (left : Int) (w : World) (h0 : 0 ≤ left) (h1 : left ≤ 1048576) (hd : okJD d) : Calls Tryd.prog 71 #[jagg d An cn, .int .i64 left] w (RetSzJ d.needs.length left w) := by
  obtain ⟨k0, k1⟩ := hd
  have k2 := k1
  unfold maxLen at k0 k1
  simp only [jagg]
  by_cases t_name : left - d.name.size < 0
  · go_enter Tryd.func71, Tryd.ntmps71
    go_wp2
    go_ret
    exact ⟨-1, rfl, by omega, by omega, fun h => by omega, by (repeat' (first | (with_reducible exact Below.refl _ _) | (with_reducible assumption) | (with_reducible refine below_drewN ?_ _) | (with_reducible refine Below.drew ?_) | (with_reducible refine Below.alloc ?_ ?_ _) | (with_reducible refine Below.setCell ?_ ?_ _) | (with_reducible refine via (by with_reducible assumption) ?_ ?_) | go_size))⟩
  · go_enter Tryd.func71, Tryd.ntmps71
    go_wp2_with fail
    refine (szInt64S_c An d.needs.length cn (left - d.name.size) _ k2 (by omega) (by omega)).mono ?_
    rintro e w1 ⟨r1, rfl, q1, q2, q3, hb1⟩
    by_cases t2 : r1 < 0
    · go_wp2_with fail
      go_ret
      exact ⟨-1, rfl, by omega, by omega, fun h => by omega, by (repeat' (first | (with_reducible exact Below.refl _ _) | (with_reducible assumption) | (with_reducible refine below_drewN ?_ _) | (with_reducible refine Below.drew ?_) | (with_reducible refine Below.alloc ?_ ?_ _) | (with_reducible refine Below.setCell ?_ ?_ _) | (with_reducible refine via (by with_reducible assumption) ?_ ?_) | go_size))⟩
    · go_wp2_with fail
      go_ret
      exact ⟨r1, rfl, by omega, by omega, fun h => by have := q3 (by omega); omega, by (repeat' (first | (with_reducible exact Below.refl _ _) | (with_reducible assumption) | (with_reducible refine below_drewN ?_ _) | (with_reducible refine Below.drew ?_) | (with_reducible refine Below.alloc ?_ ?_ _) | (with_reducible refine Below.setCell ?_ ?_ _) | (with_reducible refine via (by with_reducible assumption) ?_ ?_) | go_size))⟩

def RetSzJS (n : Nat) (l : List JobD) (left : Int) (W : World) (e : Ending) (w' : World) : Prop := ∃ r : Int, e = .returned (.int .i64 r) ∧ -1 ≤ r ∧ r ≤ left ∧ (0 ≤ r → (n : Int) ≤ left ∧ ∀ (i : Nat) (d : JobD), l[i]? = some d → d.needs.length ≤ 1048576) ∧ Below W.heap.size W w'
set_option maxHeartbeats 1000000 in
theorem szJobS_c (A : Option Addr) (n c : Nat) (l : List JobD) (left : Int) (w : World) (hn : l.length = n) (hm : n ≤ maxLen) (h0 : 0 ≤ left) (h1 : left ≤ 1048576) (hr : JRd w w.heap.size A l) (ok : ∀ d ∈ l, okJD d) :
    Calls Tryd.prog 35 #[.slice A n c, .int .i64 left] w (RetSzJS n l left w) := by
  unfold maxLen at hm
  have HN := Lib.hid hn; clear hn
  by_cases t1 : left - n < 0
  · go_enter Tryd.func35, Tryd.ntmps35
    go_wp2
    go_ret
    exact ⟨-1, rfl, by omega, by omega, fun h => by omega, by (repeat' (first | (with_reducible exact Below.refl _ _) | (with_reducible assumption) | (with_reducible refine below_drewN ?_ _) | (with_reducible refine Below.drew ?_) | (with_reducible refine Below.alloc ?_ ?_ _) | (with_reducible refine Below.setCell ?_ ?_ _) | (with_reducible refine via (by with_reducible assumption) ?_ ?_) | go_size))⟩
  · go_enter Tryd.func35, Tryd.ntmps35
    go_wp2
    go_loopw [1, 5] (fun q i wr => ∃ (k : Nat) (r : Int), k ≤ n ∧ i = .int .i64 k ∧ q = .int .i64 r ∧ 0 ≤ r ∧ r ≤ left - n ∧ (∀ (i : Nat) (d : JobD), i < k → l[i]? = some d → d.needs.length ≤ 1048576) ∧ Below w.heap.size w wr) (fun _ i _ => n - (intOf i).toNat)
    case atStart => exact ⟨0, _, Nat.zero_le _, rfl, rfl, by omega, by omega, fun i d hi => by omega, Below.refl _ _⟩
    case round =>
      obtain ⟨k, r, hk, rfl, rfl, hr0, hr1, hall, hb⟩ := hrel
      have HALL := Lib.hid hall; clear hall
      by_cases hlt : k < n
      · obtain ⟨b, off, rfl, hbl, hc⟩ := (hr.below hb) (by rw [HN.out]; omega)
        obtain ⟨d, ed⟩ := get_ex l k (by rw [HN.out]; omega)
        have hd := ok d (List.mem_of_getElem? ed)
        obtain ⟨g0, g1, g2, An, cn, g3, _⟩ := hc k d ed
        have HED := Lib.hid ed
        clear hc ed
        have hbs := hb.size
        have HD := Lib.hid hd; clear hd
        go_wp2_with fail
        refine (szJob_c d An cn r wr (by omega) (by omega) HD.out).mono ?_
        rintro e w1 ⟨r1, rfl, q1, q2, q3, hb1⟩
        by_cases t2 : r1 < 0
        · go_wp2_with fail
          go_ret
          exact ⟨-1, rfl, by omega, by omega, fun h => by omega, by (repeat' (first | (with_reducible exact Below.refl _ _) | (with_reducible assumption) | (with_reducible refine below_drewN ?_ _) | (with_reducible refine Below.drew ?_) | (with_reducible refine Below.alloc ?_ ?_ _) | (with_reducible refine Below.setCell ?_ ?_ _) | (with_reducible refine via (by with_reducible assumption) ?_ ?_) | go_size))⟩
        · have HALL2 := Lib.hid (show ∀ i d, i < k + 1 → l[i]? = some d → d.needs.length ≤ 1048576 from fun i d' hi he => by
            by_cases hik : i < k
            · exact HALL.out i d' hik he
            · obtain rfl : i = k := by omega
              rw [HED.out] at he
              injection he with he
              subst he
              have := q3 (by omega)
              omega)
          clear q3
          go_wp2_with fail
          go_roundw
          case rel => exact ⟨k + 1, r1, by omega, by go_num, rfl, by omega, by omega, HALL2.out, by (repeat' (first | (with_reducible exact Below.refl _ _) | (with_reducible assumption) | (with_reducible refine below_drewN ?_ _) | (with_reducible refine Below.drew ?_) | (with_reducible refine Below.alloc ?_ ?_ _) | (with_reducible refine Below.setCell ?_ ?_ _) | (with_reducible refine via (by with_reducible assumption) ?_ ?_) | go_size))⟩
          case measure => simp [intOf]; omega
      · go_wp2
        go_ret
        exact ⟨r, rfl, by omega, by omega, fun h => ⟨by omega, fun i d he => HALL.out i d (by have := (List.getElem?_eq_some_iff.1 he).1; rw [HN.out] at this; omega) he⟩, hb⟩

theorem eqJob_c (d : JobD) (An Am : Option Addr) (cn cm : Nat) (B : Nat) (w : World) (hd : okJD d) (hB : B ≤ w.heap.size) (h1 : Rd w B 1 icell An d.needs) (h2 : Rd w B 1 icell Am d.needs) :
    Calls Tryd.prog 76 #[jagg d An cn, jagg d Am cm] w fun e w' => e = .returned (.bool true) ∧ Below w.heap.size w w' := by
  obtain ⟨k0, k1⟩ := hd
  simp only [jagg]
  go_enter Tryd.func76, Tryd.ntmps76
  go_wp2_with fail
  refine (to_below (eqInt64S_c An Am d.needs.length cn cm d.needs B _ rfl k1 (h1.below (by (repeat' (first | (with_reducible exact Below.refl _ _) | (with_reducible assumption) | (with_reducible refine below_drewN ?_ _) | (with_reducible refine Below.drew ?_) | (with_reducible refine Below.alloc ?_ ?_ _) | (with_reducible refine Below.setCell ?_ ?_ _) | (with_reducible refine via (by with_reducible assumption) ?_ ?_) | go_size)))) (h2.below (by (repeat' (first | (with_reducible exact Below.refl _ _) | (with_reducible assumption) | (with_reducible refine below_drewN ?_ _) | (with_reducible refine Below.drew ?_) | (with_reducible refine Below.alloc ?_ ?_ _) | (with_reducible refine Below.setCell ?_ ?_ _) | (with_reducible refine via (by with_reducible assumption) ?_ ?_) | go_size)))))).mono ?_
  rintro e w1 ⟨rfl, hb1⟩
  go_wp2_with fail
  go_ret
  refine ⟨rfl, ?_⟩
  (repeat' (first | (with_reducible exact Below.refl _ _) | (with_reducible assumption) | (with_reducible refine below_drewN ?_ _) | (with_reducible refine Below.drew ?_) | (with_reducible refine Below.alloc ?_ ?_ _) | (with_reducible refine Below.setCell ?_ ?_ _) | (with_reducible refine via (by with_reducible assumption) ?_ ?_) | go_size))

set_option maxHeartbeats 1000000 in
theorem eqJobS_c (A A' : Option Addr) (n c c' : Nat) (l : List JobD) (w : World) (hn : l.length = n) (hm : n ≤ maxLen) (hr : JRd w w.heap.size A l) (hr' : JRd w w.heap.size A' l) (ok : ∀ d ∈ l, okJD d) :
    Calls Tryd.prog 39 #[.slice A n c, .slice A' n c'] w fun e w' => e = .returned (.bool true) ∧ Below w.heap.size w w' := by
  unfold maxLen at hm
  have HN := Lib.hid hn; clear hn
  go_enter Tryd.func39, Tryd.ntmps39
  go_wp2
  go_loopw [5] (fun i wr => ∃ k : Nat, k ≤ n ∧ i = .int .i64 k ∧ Below w.heap.size w wr) (fun i _ => n - (intOf i).toNat)
  case atStart => exact ⟨0, Nat.zero_le _, rfl, Below.refl _ _⟩
  case round =>
    obtain ⟨k, hk, rfl, hb⟩ := hrel
    by_cases hlt : k < n
    · have hbs := hb.size
      obtain ⟨b, off, rfl, hbl, hc⟩ := ((hr.below hb).mono hbs) (by rw [HN.out]; omega)
      obtain ⟨b', off', rfl, hbl', hc'⟩ := ((hr'.below hb).mono hbs) (by rw [HN.out]; omega)
      obtain ⟨d, ed⟩ := get_ex l k (by rw [HN.out]; omega)
      have HD := Lib.hid (ok d (List.mem_of_getElem? ed))
      obtain ⟨g0, g1, g2, An, cn, g3, g4⟩ := hc k d ed
      obtain ⟨m0, m1, m2, Am, cm, m3, m4⟩ := hc' k d ed
      clear hc hc' ed
      have HG4 := Lib.hid g4; clear g4
      have HM4 := Lib.hid m4; clear m4
      have y3 : (k : Int) < (n : Int) := by omega
      have y4 : (0 : Int) ≤ (k : Int) := by omega
      go_wp2_with fail
      (refine wp_region_quiet_below (by kernel_rfl) (by kernel_rfl) ?_; (repeat (go_big_quiet_step (first | ((go_at_call 76; exact rg_of (fun w' hb => eqJob_c d An Am cn cm wr.heap.size w' HD.out hb.size (HG4.out.below hb) (HM4.out.below hb))))))); refine wpQuiet_nil ?_; refine qg_end ?_; intro wq hbq)
      go_wp2_with fail
      (first | (refine ⟨?_, ?_⟩; rotate_left; (first | (simp [intOf]; done) | (simp [intOf]; omega)); (repeat apply Exists.intro); refine ⟨?_, rfl⟩; exact ⟨k + 1, by omega, by go_num, by (repeat' (first | (with_reducible exact Below.refl _ _) | (with_reducible assumption) | (with_reducible refine below_drewN ?_ _) | (with_reducible refine Below.drew ?_) | (with_reducible refine Below.alloc ?_ ?_ _) | (with_reducible refine Below.setCell ?_ ?_ _) | (with_reducible refine via (by with_reducible assumption) ?_ ?_) | go_size))⟩) | exact ⟨⟨k + 1, by omega, by go_num, by (repeat' (first | (with_reducible exact Below.refl _ _) | (with_reducible assumption) | (with_reducible refine below_drewN ?_ _) | (with_reducible refine Below.drew ?_) | (with_reducible refine Below.alloc ?_ ?_ _) | (with_reducible refine Below.setCell ?_ ?_ _) | (with_reducible refine via (by with_reducible assumption) ?_ ?_) | go_size))⟩, by first | (simp [intOf]; done) | (simp [intOf]; omega)⟩)
    · go_wp2
      go_ret
      exact ⟨rfl, hb⟩

end Go.Proofs.YtaebofpgdonnbaaDoor
