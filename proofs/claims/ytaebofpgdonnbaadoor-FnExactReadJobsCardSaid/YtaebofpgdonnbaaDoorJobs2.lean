/- Contracts: jobs copied. -/
import Derived.Test.YtaebofpgdonnbaaDoorJobs1
set_option linter.unusedVariables false
set_option linter.unusedSimpArgs false
namespace Go.Proofs.YtaebofpgdonnbaaDoor
open Go.RowKit

theorem jobs_of {w : World} {A : Option Addr} {lc : List JobC} (hr : Rd w w.heap.size 4 jcell A lc) (ok : ∀ x ∈ lc, okJ w w.heap.size x) :
    ∃ l : List JobD, l.length = lc.length ∧ JRd w w.heap.size A l ∧ ∀ d ∈ l, okJD d := by
  have each : ∀ i, i < lc.length → ∃ d : JobD, okJD d ∧ ∃ x, lc[i]? = some x ∧ x.name = d.name ∧ x.days = d.days ∧ x.cost = d.cost ∧ IsInts w w.heap.size x.needs d.needs := by
    intro i hi
    obtain ⟨h1, _, _, l, h2⟩ := ok lc[i] (List.getElem_mem hi)
    obtain ⟨A', c', e4, h3, h4, h5⟩ := h2
    exact ⟨⟨lc[i].name, lc[i].days, lc[i].cost, l⟩, ⟨h1, h3⟩, _, List.getElem?_eq_getElem hi, rfl, rfl, rfl, ⟨A', c', e4, h3, h4, h5⟩⟩
  obtain ⟨l, hl, hp⟩ := list_of lc.length each
  refine ⟨l, hl, fun h0 => ?_, fun d hd => ?_⟩
  · obtain ⟨b, off, e, hb, hc⟩ := hr (by omega)
    refine ⟨b, off, e, hb, fun i d hi => ?_⟩
    obtain ⟨_, x, hx, e1, e2, e3, A', c', e4, _, e5, _⟩ := hp i d hi
    have c0 := hc i x hx
    refine ⟨?_, ?_, ?_, A', c', ?_, e5⟩
    · rw [← e1]; exact c0 0 _ rfl
    · rw [← e2]; exact c0 1 _ rfl
    · rw [← e3]; exact c0 2 _ rfl
    · rw [← e4]; exact c0 3 _ rfl
  · obtain ⟨i, hi⟩ := List.getElem?_of_mem hd
    exact (hp i d hi).1

/-- jobs of the call's own: their row lies in block g, each list of needs in a block G i, all from lo on and below hi -/
def JOwn (w : World) (lo hi g n : Nat) (l : List JobD) : Prop := lo ≤ g ∧ g < hi ∧ hi ≤ w.heap.size ∧ l.length = n ∧ ∃ (xs : List Value) (G : Nat → Nat), w.ownsRow lo 93 4 (.slice (some ⟨g, 0, none⟩) n n) n xs ∧ (∀ i j, i < j → j < n → G i < G j) ∧
  ∀ i d, l[i]? = some d → xs[i * 4]? = some (.string d.name) ∧ xs[i * 4 + 1]? = some (.int .i64 d.days) ∧ xs[i * 4 + 2]? = some (.int .i64 d.cost) ∧ xs[i * 4 + 3]? = some (.slice (some ⟨G i, 0, none⟩) d.needs.length d.needs.length) ∧
    lo ≤ G i ∧ G i < hi ∧ G i ≠ g ∧ w.ownsRow lo 2 1 (.slice (some ⟨G i, 0, none⟩) d.needs.length d.needs.length) d.needs.length (d.needs.map (Value.int .i64))
theorem JOwn.rd {w : World} {lo hi g n : Nat} {l : List JobD} (h : JOwn w lo hi g n l) : JRd w w.heap.size (some ⟨g, 0, none⟩) l := fun hl => by
  obtain ⟨h1, h2, h3, hn, xs, G, h4, hG, h5⟩ := h
  refine ⟨g, 0, rfl, by omega, fun i d hi => ?_⟩
  have hil : i < n := by rw [← hn]; exact (List.getElem?_eq_some_iff.1 hi).1
  obtain ⟨x0, x1, x2, x3, y1, y2, y3, y4⟩ := h5 i d hi
  simp only [Nat.zero_add]
  refine ⟨?_, ?_, ?_, some ⟨G i, 0, none⟩, d.needs.length, ?_, ?_⟩
  · rw [h4.cellAt _ (by omega)]; exact x0
  · rw [h4.cellAt _ (by omega)]; exact x1
  · rw [h4.cellAt _ (by omega)]; exact x2
  · rw [h4.cellAt _ (by omega)]; exact x3
  · exact (rd_own y4)
theorem JOwn.call {w w' : World} {lo hi g n : Nat} {l : List JobD} (h : JOwn w lo hi g n l) (hb : Below w.heap.size w w') : JOwn w' lo hi g n l := by
  obtain ⟨h1, h2, h3, hn, xs, G, h4, hG, h5⟩ := h
  have := hb.size
  refine ⟨h1, h2, by omega, hn, xs, G, own_call h4 hb, hG, fun i d hi => ?_⟩
  obtain ⟨x0, x1, x2, x3, y1, y2, y3, y4⟩ := h5 i d hi
  exact ⟨x0, x1, x2, x3, y1, y2, y3, own_call y4 hb⟩
theorem JOwn.ne {w w' : World} {lo hi g n : Nat} {l : List JobD} {row : Option Nat} (h : JOwn w lo hi g n l) (hg : w.grownBy w' row) (hr : ∀ k, row = some k → hi ≤ k) : JOwn w' lo hi g n l := by
  obtain ⟨h1, h2, h3, hn, xs, G, h4, hG, h5⟩ := h
  have := hg.size
  refine ⟨h1, h2, by omega, hn, xs, G, own_ne h4 hg (fun q hq hc => by have := hr q hc.symm; simp only [Value.ownBlock, Option.some.injEq] at hq; omega), hG, fun i d hi => ?_⟩
  obtain ⟨x0, x1, x2, x3, y1, y2, y3, y4⟩ := h5 i d hi
  exact ⟨x0, x1, x2, x3, y1, y2, y3, own_ne y4 hg (fun q hq hc => by have := hr q hc.symm; simp only [Value.ownBlock, Option.some.injEq] at hq; omega)⟩

def RetJob (d : JobD) (W : World) (e : Ending) (w' : World) : Prop := ∃ g : Nat, e = .returned (jagg d (some ⟨g, 0, none⟩) d.needs.length) ∧ W.heap.size ≤ g ∧ g < w'.heap.size ∧ w'.ownsRow W.heap.size 2 1 (.slice (some ⟨g, 0, none⟩) d.needs.length d.needs.length) d.needs.length (d.needs.map (Value.int .i64)) ∧ Below W.heap.size W w'
set_option maxHeartbeats 1000000 in
theorem toJob_c (d : JobD) (An : Option Addr) (cn : Nat) (w : World) (hm : d.needs.length ≤ 1048576) (hr : Rd w w.heap.size 1 icell An d.needs) : Calls Tryd.prog 74 #[jagg d An cn] w (RetJob d w) := by
  simp only [jagg]
  go_enter Tryd.func74, Tryd.ntmps74
  go_wp2_with fail
  refine gen_calls fun V hV => ?_
  have hbV : Below w.heap.size w V := by rw [hV.out]; (repeat' (first | (with_reducible exact Below.refl _ _) | (with_reducible assumption) | (with_reducible refine below_drewN ?_ _) | (with_reducible refine Below.drew ?_) | (with_reducible refine Below.alloc ?_ ?_ _) | (with_reducible refine Below.setCell ?_ ?_ _) | (with_reducible refine via (by with_reducible assumption) ?_ ?_) | go_size))
  have hVs := hbV.size
  have hVz : V.heap.size = w.heap.size + 1 + 1 + 1 := by rw [hV.out]; simp [go_sem]
  have c1 : ∀ o, o < 4 → V.cell? ⟨w.heap.size + 1 + 1, o, none⟩ = (#[Value.string d.name, .int .i64 d.days, .int .i64 d.cost, .slice none 0 0] : Array Value)[o]? := fun o ho => by
    rw [hV.out]
    match o, ho with
    | 0, _ => simp [go_sem]
    | 1, _ => simp [go_sem]
    | 2, _ => simp [go_sem]
    | 3, _ => simp [go_sem]
  have f1 : ∀ o, V.frozen? ⟨w.heap.size + 1 + 1, o, none⟩ = false := fun o => by rw [hV.out]; simp [go_sem]
  have f0 : ∀ o, V.frozen? ⟨w.heap.size + 1, o, none⟩ = false := fun o => by rw [hV.out]; simp [go_sem]
  have c2 : ∀ o, o < 4 → ∃ v, V.cell? ⟨w.heap.size + 1, o, none⟩ = some v := fun o ho => by
    rw [hV.out]
    match o, ho with
    | 0, _ => exact ⟨_, by simp [go_sem]; rfl⟩
    | 1, _ => exact ⟨_, by simp [go_sem]; rfl⟩
    | 2, _ => exact ⟨_, by simp [go_sem]; rfl⟩
    | 3, _ => exact ⟨_, by simp [go_sem]; rfl⟩
  clear hV
  refine (toInt64S_c An d.needs.length cn d.needs V rfl hm ((hr.below hbV).mono hVs)).mono ?_
  rintro e w2 ⟨rfl, hx, hb2⟩
  have hb2s := hb2.size
  have hlt2 : V.heap.size < w2.heap.size := (hx.lt V.heap.size rfl).2
  have HX := Lib.hid hx; clear hx
  have k1 : ∀ o, w2.cell? ⟨w.heap.size + 1 + 1, o, none⟩ = V.cell? ⟨w.heap.size + 1 + 1, o, none⟩ := fun o => hb2.cell (p := ⟨w.heap.size + 1 + 1, o, none⟩) (by show w.heap.size + 1 + 1 < V.heap.size; omega)
  have k2 : ∀ o, w2.cell? ⟨w.heap.size + 1, o, none⟩ = V.cell? ⟨w.heap.size + 1, o, none⟩ := fun o => hb2.cell (p := ⟨w.heap.size + 1, o, none⟩) (by show w.heap.size + 1 < V.heap.size; omega)
  have f2 : w2.frozen? ⟨w.heap.size + 1 + 1, 3, none⟩ = false := by rw [hb2.frozen (p := ⟨w.heap.size + 1 + 1, 3, none⟩) (by show w.heap.size + 1 + 1 < V.heap.size; omega)]; exact f1 3
  have a0 : w2.cell? ⟨w.heap.size + 1 + 1, 0, none⟩ = some (.string d.name) := by rw [k1, c1 0 (by omega)]; rfl
  have a1 : w2.cell? ⟨w.heap.size + 1 + 1, 1, none⟩ = some (.int .i64 d.days) := by rw [k1, c1 1 (by omega)]; rfl
  have a2 : w2.cell? ⟨w.heap.size + 1 + 1, 2, none⟩ = some (.int .i64 d.cost) := by rw [k1, c1 2 (by omega)]; rfl
  have a3 : w2.cell? ⟨w.heap.size + 1 + 1, 3, none⟩ = some (.slice none 0 0) := by rw [k1, c1 3 (by omega)]; rfl
  obtain ⟨v0, b0⟩ := c2 0 (by omega)
  obtain ⟨v1, b1⟩ := c2 1 (by omega)
  obtain ⟨v2, b2⟩ := c2 2 (by omega)
  obtain ⟨v3, b3⟩ := c2 3 (by omega)
  rw [← k2] at b0 b1 b2 b3
  have fz : ∀ o, w2.frozen? ⟨w.heap.size + 1, o, none⟩ = false := fun o => by rw [hb2.frozen (p := ⟨w.heap.size + 1, o, none⟩) (by show w.heap.size + 1 < V.heap.size; omega)]; exact f0 o
  have fz0 := fz 0
  have fz1 := fz 1
  have fz2 := fz 2
  have fz3 := fz 3
  have HVZ := Lib.hid hVz
  clear c1 c2 k1 k2 f1 fz hVz
  go_wp2_with fail
  have hvz := HVZ.out
  refine bodyPost_ret (v := jagg d (some ⟨V.heap.size, 0, none⟩) d.needs.length) (by simp only [results, Tryd.results74, jagg]; go_simp) rfl ⟨V.heap.size, rfl, by omega, by simp only [World.size_setCell]; omega, ?_, ?_⟩
  · refine Go.Joins.ownsRow_le ?_ hVs
    repeat (refine ownsRow_setCell_below ?_ (by simp only; omega) _)
    exact HX.out
  · (repeat' (first | (with_reducible exact Below.refl _ _) | (with_reducible assumption) | (with_reducible refine below_drewN ?_ _) | (with_reducible refine Below.drew ?_) | (with_reducible refine Below.alloc ?_ ?_ _) | (with_reducible refine Below.setCell ?_ ?_ _) | (with_reducible refine via (by with_reducible assumption) ?_ ?_) | go_size))

/-- job i as it lies in the row xs -/
def InJ (w : World) (lo g : Nat) (xs : List Value) (G : Nat → Nat) (i : Nat) (d : JobD) : Prop := xs[i * 4]? = some (.string d.name) ∧ xs[i * 4 + 1]? = some (.int .i64 d.days) ∧ xs[i * 4 + 2]? = some (.int .i64 d.cost) ∧ xs[i * 4 + 3]? = some (.slice (some ⟨G i, 0, none⟩) d.needs.length d.needs.length) ∧
    lo ≤ G i ∧ G i < w.heap.size ∧ G i ≠ g ∧ w.ownsRow lo 2 1 (.slice (some ⟨G i, 0, none⟩) d.needs.length d.needs.length) d.needs.length (d.needs.map (Value.int .i64))
theorem set4_ne {xs : List Value} {k j : Nat} (u0 u1 u2 u3 : Value) (h : j < k * 4) : ((((xs.set (k * 4) u0).set (k * 4 + 1) u1).set (k * 4 + 2) u2).set (k * 4 + 3) u3)[j]? = xs[j]? := by
  rw [List.getElem?_set_ne (by omega), List.getElem?_set_ne (by omega), List.getElem?_set_ne (by omega), List.getElem?_set_ne (by omega)]
theorem set4_0 {xs : List Value} {k : Nat} (u0 u1 u2 u3 : Value) (h : k * 4 + 3 < xs.length) : ((((xs.set (k * 4) u0).set (k * 4 + 1) u1).set (k * 4 + 2) u2).set (k * 4 + 3) u3)[k * 4]? = some u0 := by
  rw [List.getElem?_set_ne (by omega), List.getElem?_set_ne (by omega), List.getElem?_set_ne (by omega), List.getElem?_set_self (by omega)]
theorem set4_1 {xs : List Value} {k : Nat} (u0 u1 u2 u3 : Value) (h : k * 4 + 3 < xs.length) : ((((xs.set (k * 4) u0).set (k * 4 + 1) u1).set (k * 4 + 2) u2).set (k * 4 + 3) u3)[k * 4 + 1]? = some u1 := by
  rw [List.getElem?_set_ne (by omega), List.getElem?_set_ne (by omega), List.getElem?_set_self (by simp; omega)]
theorem set4_2 {xs : List Value} {k : Nat} (u0 u1 u2 u3 : Value) (h : k * 4 + 3 < xs.length) : ((((xs.set (k * 4) u0).set (k * 4 + 1) u1).set (k * 4 + 2) u2).set (k * 4 + 3) u3)[k * 4 + 2]? = some u2 := by
  rw [List.getElem?_set_ne (by omega), List.getElem?_set_self (by simp; omega)]
theorem set4_3 {xs : List Value} {k : Nat} (u0 u1 u2 u3 : Value) (h : k * 4 + 3 < xs.length) : ((((xs.set (k * 4) u0).set (k * 4 + 1) u1).set (k * 4 + 2) u2).set (k * 4 + 3) u3)[k * 4 + 3]? = some u3 := by
  rw [List.getElem?_set_self (by simp; omega)]

set_option maxHeartbeats 2000000 in
theorem toJobS_c (A : Option Addr) (n c : Nat) (l : List JobD) (w : World) (hn : l.length = n) (hm : n ≤ 1048576) (hr : JRd w w.heap.size A l) (hk : ∀ (i : Nat) (d : JobD), l[i]? = some d → d.needs.length ≤ 1048576) :
    Calls Tryd.prog 37 #[.slice A n c] w fun e w' => e = .returned (.slice (some ⟨w.heap.size, 0, none⟩) n n) ∧ JOwn w' w.heap.size w'.heap.size w.heap.size n l ∧ Below w.heap.size w w' := by
  obtain ⟨i0, hi0, hz0, hz1, hz2⟩ := info_parts info_job
  have HK := Lib.hid hk; clear hk
  have HN := Lib.hid hn; clear hn
  go_enter Tryd.func37, Tryd.ntmps37
  go_wp2_with (at_make; refine wpList_make_full _ rfl _ _ 56 rfl w.heap.size 93 i0 _ 4 Tryd.underlying56 hi0 hz0 hz1 _ _ _ _ n rfl rfl rfl rfl (by rw [hz2]; omega) (by unfold maxLen; omega) (Nat.le_refl _) ?_; intro w1 hown hg)
  have hb1 : Below w.heap.size w w1 := (Below.refl _ _).grown hg (Nat.le_refl _) (fun k hk => by cases hk)
  clear hg
  go_loopw [4] (fun i wr => ∃ k : Nat, k ≤ n ∧ i = .int .i64 k ∧ Below w.heap.size w wr ∧ ∃ (xs : List Value) (G : Nat → Nat), wr.ownsRow w.heap.size 93 4 (.slice (some ⟨w.heap.size, 0, none⟩) n n) n xs ∧ (∀ i j, i < j → j < k → G i < G j) ∧ ∀ (i : Nat) (d : JobD), i < k → l[i]? = some d → InJ wr w.heap.size w.heap.size xs G i d) (fun i _ => n - (intOf i).toNat)
  case atStart => exact ⟨0, Nat.zero_le _, rfl, hb1, _, (fun _ => 0), hown, fun i j _ hj => by omega, fun i d hi => by omega⟩
  case round =>
    clear hb1 hown
    obtain ⟨k, hk, rfl, hb, xs, G, hx, hg, hj⟩ := hrel
    have HX := Lib.hid hx; clear hx
    have HGM := Lib.hid hg; clear hg
    have HJ := Lib.hid hj; clear hj
    by_cases hlt : k < n
    · obtain ⟨b, off, rfl, hbl, hc⟩ := (hr.below hb) (by rw [HN.out]; omega)
      obtain ⟨d, ed⟩ := get_ex l k (by rw [HN.out]; omega)
      obtain ⟨g0, g1, g2, An, cn, g3, g4⟩ := hc k d ed
      have hkd := HK.out k d ed
      have HE := Lib.hid ed; clear ed hc
      have HG4 := Lib.hid g4; clear g4
      have hxl : xs.length = n * 4 := HX.out.1
      have hbs := hb.size
      go_wp2_with fail
      refine (toJob_c d An cn wr hkd ((HG4.out).mono hbs)).mono ?_
      rintro e w2 ⟨gi, rfl, q1, q2, qo, hb2⟩
      have hx2 := own_call HX.out hb2
      have hw2 : w.heap.size < w2.heap.size := (hx2.lt w.heap.size rfl).2
      have hw1 : w.heap.size < wr.heap.size := (HX.out.lt w.heap.size rfl).2
      have HQO := Lib.hid qo; clear qo
      obtain ⟨z0, hz0'⟩ : ∃ x, xs[k * 4]? = some x := ⟨_, List.getElem?_eq_getElem (by omega)⟩
      have c0 : w2.cell? ⟨w.heap.size, k * 4, none⟩ = some z0 := by rw [hx2.cellAt _ (by omega)]; exact hz0'
      have f0 : w2.frozen? ⟨w.heap.size, k * 4, none⟩ = false := hx2.frozenAt _
      obtain ⟨z1, hz1'⟩ : ∃ x, xs[k * 4 + 1]? = some x := ⟨_, List.getElem?_eq_getElem (by omega)⟩
      have c1 : w2.cell? ⟨w.heap.size, k * 4 + 1, none⟩ = some z1 := by rw [hx2.cellAt _ (by omega)]; exact hz1'
      have f1 : w2.frozen? ⟨w.heap.size, k * 4 + 1, none⟩ = false := hx2.frozenAt _
      obtain ⟨z2, hz2'⟩ : ∃ x, xs[k * 4 + 2]? = some x := ⟨_, List.getElem?_eq_getElem (by omega)⟩
      have c2 : w2.cell? ⟨w.heap.size, k * 4 + 2, none⟩ = some z2 := by rw [hx2.cellAt _ (by omega)]; exact hz2'
      have f2 : w2.frozen? ⟨w.heap.size, k * 4 + 2, none⟩ = false := hx2.frozenAt _
      obtain ⟨z3, hz3'⟩ : ∃ x, xs[k * 4 + 3]? = some x := ⟨_, List.getElem?_eq_getElem (by omega)⟩
      have c3 : w2.cell? ⟨w.heap.size, k * 4 + 3, none⟩ = some z3 := by rw [hx2.cellAt _ (by omega)]; exact hz3'
      have f3 : w2.frozen? ⟨w.heap.size, k * 4 + 3, none⟩ = false := hx2.frozenAt _
      have HX2 := Lib.hid hx2; clear hx2
      have HL := Lib.hid hxl; clear hxl
      clear hz0' hz1' hz2' hz3'
      simp only [jagg]
      go_wp2_with fail
      go_roundw
      case rel =>
        have s0 := HX2.out.stored (k * 4) (.string d.name)
        have s1 := s0.1.stored (k * 4 + 1) (.int .i64 d.days)
        have s2 := s1.1.stored (k * 4 + 2) (.int .i64 d.cost)
        have s3 := s2.1.stored (k * 4 + 3) (.slice (some ⟨gi, 0, none⟩) d.needs.length d.needs.length)
        have hxl := HL.out
        have hlen : k * 4 + 3 < xs.length := by omega
        have hgg := ((s0.2.trans s1.2).trans s2.2).trans s3.2
        refine ⟨k + 1, by omega, by go_num, by (repeat' (first | (with_reducible exact Below.refl _ _) | (with_reducible assumption) | (with_reducible refine below_drewN ?_ _) | (with_reducible refine Below.drew ?_) | (with_reducible refine Below.alloc ?_ ?_ _) | (with_reducible refine Below.setCell ?_ ?_ _) | (with_reducible refine via (by with_reducible assumption) ?_ ?_) | go_size)), _, (fun j => if j = k then gi else G j), s3.1, fun i j hij hjk => ?_, fun i d' hi he => ?_⟩
        · dsimp only
          by_cases hjk2 : j = k
          · rw [if_pos hjk2, if_neg (by omega)]
            obtain ⟨d', hd'⟩ := get_ex l i (by rw [HN.out]; omega)
            have := (HJ.out i d' (by omega) hd').2.2.2.2.2.1
            omega
          · rw [if_neg (by omega), if_neg hjk2]
            exact HGM.out i j hij (by omega)
        by_cases hik : i < k
        · obtain ⟨x0, x1, x2, x3, y1, y2, y3, y4⟩ := HJ.out i d' hik he
          have e1 : (if i = k then gi else G i) = G i := if_neg (by omega)
          unfold InJ
          dsimp only
          rw [e1, set4_ne _ _ _ _ (by omega), set4_ne _ _ _ _ (by omega), set4_ne _ _ _ _ (by omega), set4_ne _ _ _ _ (by omega)]
          refine ⟨x0, x1, x2, x3, y1, ?_, y3, ?_⟩
          · simp only [World.size_setCell]
            have := hb2.size
            omega
          · exact own_ne (own_call y4 hb2) hgg (fun q hq hc => by simp only [Value.ownBlock, Option.some.injEq] at hq hc; omega)
        · obtain rfl : i = k := by omega
          have e2 := HE.out
          rw [he] at e2
          injection e2 with e2
          subst e2
          unfold InJ
          dsimp only
          rw [if_pos rfl]
          refine ⟨set4_0 _ _ _ _ hlen, set4_1 _ _ _ _ hlen, set4_2 _ _ _ _ hlen, set4_3 _ _ _ _ hlen, by omega, by simp only [World.size_setCell]; exact q2, by omega, ?_⟩
          exact own_ne (Go.Joins.ownsRow_le HQO.out hbs) hgg (fun q hq hc => by simp only [Value.ownBlock, Option.some.injEq] at hq hc; omega)
      case measure => simp [intOf]; omega
    · have hkn : k = n := by omega
      have hxlt := (HX.out.lt w.heap.size rfl).2
      have hfin : JOwn wr w.heap.size wr.heap.size w.heap.size n l := ⟨Nat.le_refl _, hxlt, Nat.le_refl _, HN.out, xs, G, HX.out, by rw [← hkn]; exact HGM.out, fun i d he => HJ.out i d (by have := (List.getElem?_eq_some_iff.1 he).1; rw [HN.out] at this; omega) he⟩
      have HF := Lib.hid hfin; clear hfin hkn
      go_wp2
      go_ret
      exact ⟨rfl, HF.out, hb⟩
end Go.Proofs.YtaebofpgdonnbaaDoor
