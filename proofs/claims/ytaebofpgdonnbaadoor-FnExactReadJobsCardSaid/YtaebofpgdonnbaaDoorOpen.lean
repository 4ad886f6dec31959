/- How the arguments that came in are read: slices of numbers, of texts, of structs; structs by value. -/
import Derived.Test.YtaebofpgdonnbaaDoorCore
import Derived.Deep.Slices
import Derived.Deep.Fields
import Derived.ChangeSame
import Derived.SliceStrings
import Derived.Lib.SmallJoins
set_option linter.unusedVariables false
set_option linter.unusedSimpArgs false
namespace Go.Proofs.YtaebofpgdonnbaaDoor
open Go.RowKit Go.ChangeShapes Go.WideShapes Go.Deep

theorem list_of {D : Type} {P : Nat → D → Prop} (n : Nat) (h : ∀ i, i < n → ∃ d, P i d) : ∃ l : List D, l.length = n ∧ ∀ i d, l[i]? = some d → P i d := by
  induction n with
  | zero => exact ⟨[], rfl, fun i d h => by simp at h⟩
  | succ n ih =>
    obtain ⟨l, hl, hp⟩ := ih fun i hi => h i (by omega)
    obtain ⟨d, hd⟩ := h n (by omega)
    refine ⟨l ++ [d], by simp [hl], fun i x hx => ?_⟩
    by_cases hi : i < l.length
    · rw [List.getElem?_append_left hi] at hx
      exact hp i x hx
    · rw [List.getElem?_append_right (by omega)] at hx
      have : i - l.length = 0 := by
        by_cases h0 : i - l.length = 0
        · exact h0
        · rw [List.getElem?_eq_none (by simp; omega)] at hx
          cases hx
      rw [this] at hx
      simp at hx
      subst hx
      rw [show i = n by omega]
      exact hd

section
variable {H : Type} {enc : TypeId × Value → H} {P : Program} {w : World} {base : Nat} {spare : Nat → Bool} {held : Bool}

theorem rd_ints {t e : TypeId} {r : Reach} {b0 : Nat} {v : Value} {d : DataW H} {p : List MemPlace} (ht : P.underlying t = some (.slice e)) (he : P.underlying e = some (.int .i64)) (hc : P.cellsOf e = 1)
    (hv : Value.okWide P w r b0 t v) (h : DataW.Trod enc P w base spare held t v d p) :
    ∃ A n c, ∃ l : List Int, v = .slice A n c ∧ l.length = n ∧ n ≤ maxLen ∧ Rd w w.heap.size 1 icell A l ∧ (∀ x ∈ l, (Lit.int .i64 x).wf = true) := by
  obtain ⟨A, n, c, rfl⟩ := okWide_slice ht hv
  obtain ⟨fuel, hf⟩ := h
  rcases open_ints ht he hc hf with ⟨hcs, _⟩ | ⟨x, n', c', zs, hcs, _, hl, hm, hz, _, hcell, hwz⟩
  · simp [Value.cells] at hcs
    obtain ⟨rfl, rfl, rfl⟩ := hcs
    exact ⟨_, _, _, [], rfl, rfl, Nat.zero_le _, Rd.nil, fun x h => by cases h⟩
  · simp [Value.cells] at hcs
    obtain ⟨rfl, rfl, rfl⟩ := hcs
    have hlz : n ≤ zs.length := by rw [hz]; split <;> omega
    refine ⟨_, _, _, zs.take n, rfl, by simp; omega, by omega, fun hp => ?_, fun x hx => hwz x (List.mem_of_mem_take hx)⟩
    obtain ⟨b, off, rfl, hc⟩ := ints_at hcell (by simp at hp; omega)
    refine ⟨b, off, rfl, World.block_lt_of_cell? w _ (hc 0 (by simp at hp; omega)), fun i d hi j u hj => ?_⟩
    have hj0 : j = 0 := by
      have := (List.getElem?_eq_some_iff.1 hj).1
      simp [icell] at this
      omega
    subst hj0
    have hin : i < n := by have := (List.getElem?_eq_some_iff.1 hi).1; simp at this; omega
    rw [List.getElem?_take_of_lt hin] at hi
    have := hc i (by omega)
    simp [icell] at hj
    subst hj
    rw [List.getD_eq_getElem?_getD, hi] at this
    simpa using this

theorem rd_strings {t e : TypeId} {r : Reach} {b0 : Nat} {v : Value} {d : DataW H} {p : List MemPlace} (ht : P.underlying t = some (.slice e)) (he : P.underlying e = some .string) (hc : P.cellsOf e = 1)
    (hv : Value.okWide P w r b0 t v) (h : DataW.Trod enc P w base spare held t v d p) :
    ∃ A n c, ∃ l : List ByteArray, v = .slice A n c ∧ l.length = n ∧ n ≤ maxLen ∧ Rd w w.heap.size 1 scell A l ∧ (∀ x ∈ l, x.size ≤ maxLen) := by
  obtain ⟨A, n, c, rfl⟩ := okWide_slice ht hv
  obtain ⟨fuel, hf⟩ := h
  rcases open_strings ht he hc hf with ⟨hcs, _⟩ | ⟨x, n', c', zs, hcs, _, hl, hm, hz, _, hcell, hwz⟩
  · simp [Value.cells] at hcs
    obtain ⟨rfl, rfl, rfl⟩ := hcs
    exact ⟨_, _, _, [], rfl, rfl, Nat.zero_le _, Rd.nil, fun x h => by cases h⟩
  · simp [Value.cells] at hcs
    obtain ⟨rfl, rfl, rfl⟩ := hcs
    have hlz : n ≤ zs.length := by rw [hz]; split <;> omega
    refine ⟨_, _, _, zs.take n, rfl, by simp; omega, by omega, fun hp => ?_, fun x hx => hwz x (List.mem_of_mem_take hx)⟩
    have hp' : 0 < zs.length := by simp at hp; omega
    obtain ⟨b, off, spot⟩ := x
    have hspot : spot = none := by simpa [Addr.add] using World.cell?_spot (hcell 0 hp')
    subst hspot
    have hc : ∀ j, j < zs.length → w.cell? ⟨b, off + j, none⟩ = some (.string (zs.getD j ByteArray.empty)) := fun j hj => by rw [← Go.WideShapes.add_plain]; exact hcell j hj
    refine ⟨b, off, rfl, World.block_lt_of_cell? w _ (hc 0 hp'), fun i d hi j u hj => ?_⟩
    have hj0 : j = 0 := by
      have := (List.getElem?_eq_some_iff.1 hj).1
      simp [scell] at this
      omega
    subst hj0
    have hin : i < n := by have := (List.getElem?_eq_some_iff.1 hi).1; simp at this; omega
    rw [List.getElem?_take_of_lt hin] at hi
    have := hc i (by omega)
    simp [scell] at hj
    subst hj
    rw [List.getD_eq_getElem?_getD, hi] at this
    simpa using this
end

section
variable {H : Type} {enc : TypeId × Value → H} {P : Program} {w : World} {base : Nat} {spare : Nat → Bool} {held : Bool}
theorem open_slice_fields {t e : TypeId} {fs : Array Field} {fuel : Nat} {cs : List Value} {x : DataW H × List MemPlace} (ht : P.underlying t = some (.slice e)) (he : P.underlying e = some (.struct fs))
    (hone : oneCellFields P fs = true) (hC : P.cellsOf e = fs.size) (h : DataW.trod enc P w base spare held fuel t cs = some x) :
    (cs = [.slice none 0 0] ∧ x = (.nil, [])) ∨
    ∃ (a : Addr) (len cap m : Nat) (D : Nat → DataW H) (Pl : Nat → List MemPlace), cs = [.slice (some a) len cap] ∧ base ≤ a.block ∧ len ≤ cap ∧ cap ≤ maxLen ∧ m = (if spare a.block then cap else len) ∧
      x = (.slice ((List.range len).map D) ((List.range (m - len)).map fun j => D (len + j)), MemPlace.row a (m * fs.size) ++ (List.range m).flatMap Pl) ∧
      ∀ i, i < m → ∃ (ys : List (DataW H × List MemPlace)) (n : Nat), D i = .agg (ys.map (·.1)) ∧ Pl i = ys.flatMap (·.2) ∧ ys.length = fs.size ∧
        ∀ (j : Nat) (f : Field), fs[j]? = some f → ∃ (v : Value) (y : DataW H × List MemPlace), w.cell? (a.add (i * fs.size + j)) = some v ∧ ys[j]? = some y ∧ DataW.trod enc P w base spare held n f.type [v] = some y := by
  rcases open_slice ht h with h0 | ⟨a, len, cap, m, n, D, Pl, hcs, hb, hl, hm, hmm, hx, hi⟩
  · exact .inl h0
  · refine .inr ⟨a, len, cap, m, D, Pl, hcs, hb, hl, hm, hmm, by rw [hC] at hx; exact hx, fun i him => ?_⟩
    obtain ⟨cs', hc, ht'⟩ := hi i him
    rw [hC] at hc
    obtain ⟨ys, n', hn', hy, hlen, hyl, hf⟩ := DataW.trod_struct he ht'
    obtain ⟨_, hcl, hat⟩ := World.cells?_some hc
    simp only [Prod.mk.injEq] at hy
    refine ⟨ys, n', hy.1, hy.2, hyl, fun j f hj => ?_⟩
    obtain ⟨ho, hk⟩ := hone_of hone j f hj
    have hjl : j < fs.size := (Array.getElem?_eq_some_iff.1 hj).1
    have hcell := hat j hjl
    have hv : cs'[j]? = some (cs'[j]'(by omega)) := List.getElem?_eq_getElem (by omega)
    have h1 := hf j f hj
    rw [ho, hk] at h1
    have hone' : (cs'.drop j).take 1 = [cs'[j]'(by omega)] := by
      rw [List.drop_eq_getElem_cons (by omega)]
      rfl
    rw [hone'] at h1
    have hys : ys[j]? = some (ys[j]'(by omega)) := List.getElem?_eq_getElem (by omega)
    refine ⟨_, _, ?_, hys, h1.trans hys⟩
    rw [← Go.Deep.add_add, hcell, hv]

/-- a slice of structs of one-cell fields: what each element is, by a reading of its fields -/
theorem rd_structs {D : Type} {t e : TypeId} {fs : Array Field} {r : Reach} {b0 : Nat} {v : Value} {d : DataW H} {p : List MemPlace} (cells : D → List Value) (ok : D → Prop)
    (ht : P.underlying t = some (.slice e)) (he : P.underlying e = some (.struct fs)) (hone : oneCellFields P fs = true) (hC : P.cellsOf e = fs.size) (hfs : 0 < fs.size)
    (hcells : ∀ d, (cells d).length = fs.size)
    (hread : ∀ g : Nat → Value, (∀ j f, fs[j]? = some f → ∃ n y, DataW.trod enc P w base spare held n f.type [g j] = some y) → ∃ d : D, ok d ∧ ∀ j u, (cells d)[j]? = some u → u = g j)
    (hv : Value.okWide P w r b0 t v) (h : DataW.Trod enc P w base spare held t v d p) :
    ∃ A n c, ∃ l : List D, v = .slice A n c ∧ l.length = n ∧ n ≤ maxLen ∧ Rd w w.heap.size fs.size cells A l ∧ (∀ x ∈ l, ok x) := by
  obtain ⟨A, n, c, rfl⟩ := okWide_slice ht hv
  obtain ⟨fuel, hf⟩ := h
  rcases open_slice_fields ht he hone hC hf with ⟨hcs, _⟩ | ⟨a, n', c', m, DD, Pl, hcs, _, hl, hm, hmm, _, hi⟩
  · simp [Value.cells] at hcs
    obtain ⟨rfl, rfl, rfl⟩ := hcs
    exact ⟨_, _, _, [], rfl, rfl, Nat.zero_le _, Rd.nil, fun x h => by cases h⟩
  · simp [Value.cells] at hcs
    obtain ⟨rfl, rfl, rfl⟩ := hcs
    have hnm : n ≤ m := by rw [hmm]; split <;> omega
    have each : ∀ i, i < n → ∃ d : D, ok d ∧ ∀ j u, (cells d)[j]? = some u → w.cell? (a.add (i * fs.size + j)) = some u := by
      intro i hin
      obtain ⟨ys, k, _, _, _, hff⟩ := hi i (by omega)
      have hg : ∀ j, ∃ g : Value, ∀ f, fs[j]? = some f → w.cell? (a.add (i * fs.size + j)) = some g ∧ ∃ n y, DataW.trod enc P w base spare held n f.type [g] = some y := by
        intro j
        cases hj : fs[j]? with
        | none => exact ⟨undef, fun f h => by cases h⟩
        | some f =>
          obtain ⟨v, y, h1, _, h3⟩ := hff j f hj
          exact ⟨v, fun f' h => by cases h; exact ⟨h1, k, y, h3⟩⟩
      obtain ⟨g, hg⟩ := Classical.axiomOfChoice hg
      obtain ⟨d, hok, hd⟩ := hread g fun j f hj => (hg j f hj).2
      refine ⟨d, hok, fun j u hu => ?_⟩
      have hjl : j < fs.size := by rw [← hcells d]; exact (List.getElem?_eq_some_iff.1 hu).1
      rw [hd j u hu]
      exact (hg j fs[j] (Array.getElem?_eq_getElem hjl)).1
    obtain ⟨l, hll, hp⟩ := list_of n each
    refine ⟨_, _, _, l, rfl, hll, by omega, fun h0 => ?_, fun x hx => ?_⟩
    · obtain ⟨b, off, spot⟩ := a
      have h00 := (hp 0 l[0] (List.getElem?_eq_getElem h0)).2 0 ((cells l[0])[0]'(by rw [hcells]; exact hfs)) (List.getElem?_eq_getElem _)
      have hspot : spot = none := by simpa [Addr.add] using World.cell?_spot h00
      subst hspot
      have hat : ∀ i d, l[i]? = some d → ∀ j u, (cells d)[j]? = some u → w.cell? ⟨b, off + i * fs.size + j, none⟩ = some u := fun i d hi j u hj => by
        have := (hp i d hi).2 j u hj
        rw [Go.WideShapes.add_plain] at this
        rw [← this, Nat.add_assoc]
      have := hat 0 l[0] (List.getElem?_eq_getElem h0) 0 ((cells l[0])[0]'(by rw [hcells]; exact hfs)) (List.getElem?_eq_getElem _)
      exact ⟨b, off, rfl, World.block_lt_of_cell? w _ this, hat⟩
    · obtain ⟨i, hi⟩ := List.getElem?_of_mem hx
      exact (hp i x hi).1
end

/-! ### The structs of the program -/
def fcell (p : Int × Int) : List Value := [.int .i64 p.1, .int .i64 p.2]
structure PieceD where (name : ByteArray) (parent each price : Int)
def pcell (p : PieceD) : List Value := [.string p.name, .int .i64 p.parent, .int .i64 p.each, .int .i64 p.price]
structure LoanD where (ex bo : ByteArray) (fr to : Int)
def lcell (p : LoanD) : List Value := [.string p.ex, .string p.bo, .int .i64 p.fr, .int .i64 p.to]
/-- a job's cells: its list of needs as the slice's value -/
structure JobC where (name : ByteArray) (days cost : Int) (needs : Value)
def jcell (p : JobC) : List Value := [.string p.name, .int .i64 p.days, .int .i64 p.cost, p.needs]
def wf64 (n : Int) : Prop := (Lit.int .i64 n).wf = true
theorem wf64_bd {n : Int} (h : wf64 n) : -9223372036854775808 ≤ n ∧ n ≤ 9223372036854775807 := by
  simp [wf64, Lit.wf, IntKind.min, IntKind.max, IntKind.signed, IntKind.bits] at h
  omega
theorem fcell_len (d : Int × Int) : (fcell d).length = 2 := rfl
theorem pcell_len (d : PieceD) : (pcell d).length = 4 := rfl
theorem lcell_len (d : LoanD) : (lcell d).length = 4 := rfl
theorem jcell_len (d : JobC) : (jcell d).length = 4 := rfl
def okF (p : Int × Int) : Prop := wf64 p.1 ∧ wf64 p.2
def okP (p : PieceD) : Prop := p.name.size ≤ maxLen ∧ wf64 p.parent ∧ wf64 p.each ∧ wf64 p.price
def okL (p : LoanD) : Prop := p.ex.size ≤ maxLen ∧ p.bo.size ≤ maxLen ∧ wf64 p.fr ∧ wf64 p.to
/-- a slice value of numbers -/
def IsInts (w : World) (B : Nat) (v : Value) (l : List Int) : Prop := ∃ A c, v = .slice A l.length c ∧ l.length ≤ maxLen ∧ Rd w B 1 icell A l ∧ ∀ x ∈ l, wf64 x
def okJ (w : World) (B : Nat) (p : JobC) : Prop := p.name.size ≤ maxLen ∧ wf64 p.days ∧ wf64 p.cost ∧ ∃ l, IsInts w B p.needs l

section
variable {H : Type} {enc : TypeId × Value → H} {P : Program} {w : World} {base : Nat} {spare : Nat → Bool} {held : Bool}
theorem one_int {t ti : TypeId} {n : Nat} {g : Value} {y : DataW H × List MemPlace} (hi : P.underlying ti = some (.int .i64)) (e : t = ti) (h : DataW.trod enc P w base spare held n t [g] = some y) : ∃ x, g = .int .i64 x ∧ wf64 x := by
  subst e
  obtain ⟨x, hx, _, hw⟩ := DataW.trod_int hi h
  exact ⟨x, by simpa using hx, hw⟩
theorem one_str {t ti : TypeId} {n : Nat} {g : Value} {y : DataW H × List MemPlace} (hi : P.underlying ti = some .string) (e : t = ti) (h : DataW.trod enc P w base spare held n t [g] = some y) : ∃ x, g = .string x ∧ x.size ≤ maxLen := by
  subst e
  obtain ⟨x, hx, _, hw⟩ := DataW.trod_string hi h
  exact ⟨x, by simpa using hx, hw⟩
theorem one_ints {t ts ti : TypeId} {n : Nat} {g : Value} {y : DataW H × List MemPlace} (hs : P.underlying ts = some (.slice ti)) (hi : P.underlying ti = some (.int .i64)) (hc : P.cellsOf ti = 1) (e : t = ts)
    (h : DataW.trod enc P w base spare held n t [g] = some y) : ∃ l, IsInts w w.heap.size g l := by
  subst e
  rcases open_ints hs hi hc h with ⟨hcs, _⟩ | ⟨x, n', c', zs, hcs, _, hl, hm, hz, _, hcell, hwz⟩
  · simp at hcs
    subst hcs
    exact ⟨[], none, 0, rfl, Nat.zero_le _, Rd.nil, fun x h => by cases h⟩
  · simp at hcs
    subst hcs
    have hlz : n' ≤ zs.length := by rw [hz]; split <;> omega
    have hlen : (zs.take n').length = n' := by simp; omega
    refine ⟨zs.take n', some x, c', by rw [hlen], by omega, fun hp => ?_, fun x hx => hwz x (List.mem_of_mem_take hx)⟩
    obtain ⟨b, off, rfl, hc⟩ := ints_at hcell (by simp at hp; omega)
    refine ⟨b, off, rfl, World.block_lt_of_cell? w _ (hc 0 (by simp at hp; omega)), fun i d hi j u hj => ?_⟩
    have hj0 : j = 0 := by
      have := (List.getElem?_eq_some_iff.1 hj).1
      simp [icell] at this
      omega
    subst hj0
    have hin : i < n' := by have := (List.getElem?_eq_some_iff.1 hi).1; simp at this; omega
    rw [List.getElem?_take_of_lt hin] at hi
    have := hc i (by omega)
    simp [icell] at hj
    subst hj
    rw [List.getD_eq_getElem?_getD, hi] at this
    simpa using this

theorem rd_fraction {t ti : TypeId} {f0 f1 : Field} {r : Reach} {b0 : Nat} {v : Value} {d : DataW H} {p : List MemPlace} (ht : P.underlying t = some (.struct #[f0, f1])) (hone : oneCellFields P #[f0, f1] = true) (hC : P.cellsOf t = 2)
    (hi : P.underlying ti = some (.int .i64)) (e0 : f0.type = ti) (e1 : f1.type = ti) (hv : Value.okWide P w r b0 t v) (h : DataW.Trod enc P w base spare held t v d p) :
    ∃ a b, v = .agg #[.int .i64 a, .int .i64 b] ∧ wf64 a ∧ wf64 b := by
  obtain ⟨v0, v1, y0, y1, n, rfl, _, _, h0, h1⟩ := Joins.open_agg2 ht hone hC hv h
  obtain ⟨a, rfl, wa⟩ := one_int hi e0 h0
  obtain ⟨b, rfl, wb⟩ := one_int hi e1 h1
  exact ⟨a, b, rfl, wa, wb⟩

theorem rd_page {t tstr ti ts : TypeId} {f0 f1 f2 f3 : Field} {r : Reach} {b0 : Nat} {v : Value} {d : DataW H} {p : List MemPlace} (ht : P.underlying t = some (.struct #[f0, f1, f2, f3])) (hone : oneCellFields P #[f0, f1, f2, f3] = true) (hC : P.cellsOf t = 4)
    (hstr : P.underlying tstr = some .string) (hi : P.underlying ti = some (.int .i64)) (hs : P.underlying ts = some (.slice ti)) (e0 : f0.type = tstr) (e1 : f1.type = ti) (e2 : f2.type = ti) (e3 : f3.type = ts) (hc1 : P.cellsOf ti = 1)
    (hv : Value.okWide P w r b0 t v) (h : DataW.Trod enc P w base spare held t v d p) :
    ∃ s f st A n c, ∃ l : List Int, v = .agg #[.string s, .int .i64 f, .int .i64 st, .slice A n c] ∧ s.size ≤ maxLen ∧ wf64 f ∧ wf64 st ∧ l.length = n ∧ n ≤ maxLen ∧ Rd w w.heap.size 1 icell A l ∧ (∀ x ∈ l, wf64 x) := by
  obtain ⟨v0, v1, v2, v3, y0, y1, y2, y3, n, rfl, _, _, h0, h1, h2, h3⟩ := Joins.open_agg4 ht hone hC hv h
  obtain ⟨s, rfl, ws⟩ := one_str hstr e0 h0
  obtain ⟨a, rfl, wa⟩ := one_int hi e1 h1
  obtain ⟨b, rfl, wb⟩ := one_int hi e2 h2
  obtain ⟨l, A, c, rfl, hm, hr, ok⟩ := one_ints hs hi hc1 e3 h3
  exact ⟨s, a, b, A, _, c, l, rfl, ws, wa, wb, rfl, hm, hr, ok⟩

theorem rd_fracs {t e ti : TypeId} {f0 f1 : Field} {r : Reach} {b0 : Nat} {v : Value} {d : DataW H} {p : List MemPlace} (ht : P.underlying t = some (.slice e)) (he : P.underlying e = some (.struct #[f0, f1])) (hone : oneCellFields P #[f0, f1] = true) (hC : P.cellsOf e = 2)
    (hi : P.underlying ti = some (.int .i64)) (e0 : f0.type = ti) (e1 : f1.type = ti) (hv : Value.okWide P w r b0 t v) (h : DataW.Trod enc P w base spare held t v d p) :
    ∃ A n c, ∃ l : List (Int × Int), v = .slice A n c ∧ l.length = n ∧ n ≤ maxLen ∧ Rd w w.heap.size 2 fcell A l ∧ (∀ x ∈ l, okF x) := by
  refine rd_structs fcell okF ht he hone hC (by simp) fcell_len (fun g hg => ?_) hv h
  obtain ⟨n0, y0, h0⟩ := hg 0 f0 rfl
  obtain ⟨n1, y1, h1⟩ := hg 1 f1 rfl
  obtain ⟨a, ea, wa⟩ := one_int hi e0 h0
  obtain ⟨b, eb, wb⟩ := one_int hi e1 h1
  refine ⟨(a, b), ⟨wa, wb⟩, fun j u hj => ?_⟩
  match j, hj with
  | 0, hj => simp [fcell] at hj; rw [← hj, ea]
  | 1, hj => simp [fcell] at hj; rw [← hj, eb]
  | j + 2, hj => simp [fcell] at hj

theorem rd_pieces {t e tstr ti : TypeId} {f0 f1 f2 f3 : Field} {r : Reach} {b0 : Nat} {v : Value} {d : DataW H} {p : List MemPlace} (ht : P.underlying t = some (.slice e)) (he : P.underlying e = some (.struct #[f0, f1, f2, f3])) (hone : oneCellFields P #[f0, f1, f2, f3] = true) (hC : P.cellsOf e = 4)
    (hstr : P.underlying tstr = some .string) (hi : P.underlying ti = some (.int .i64)) (e0 : f0.type = tstr) (e1 : f1.type = ti) (e2 : f2.type = ti) (e3 : f3.type = ti) (hv : Value.okWide P w r b0 t v) (h : DataW.Trod enc P w base spare held t v d p) :
    ∃ A n c, ∃ l : List PieceD, v = .slice A n c ∧ l.length = n ∧ n ≤ maxLen ∧ Rd w w.heap.size 4 pcell A l ∧ (∀ x ∈ l, okP x) := by
  refine rd_structs pcell okP ht he hone hC (by simp) pcell_len (fun g hg => ?_) hv h
  obtain ⟨n0, y0, h0⟩ := hg 0 f0 rfl
  obtain ⟨n1, y1, h1⟩ := hg 1 f1 rfl
  obtain ⟨n2, y2, h2⟩ := hg 2 f2 rfl
  obtain ⟨n3, y3, h3⟩ := hg 3 f3 rfl
  obtain ⟨s, es, ws⟩ := one_str hstr e0 h0
  obtain ⟨a, ea, wa⟩ := one_int hi e1 h1
  obtain ⟨b, eb, wb⟩ := one_int hi e2 h2
  obtain ⟨c, ec, wc⟩ := one_int hi e3 h3
  refine ⟨⟨s, a, b, c⟩, ⟨ws, wa, wb, wc⟩, fun j u hj => ?_⟩
  match j, hj with
  | 0, hj => simp [pcell] at hj; rw [← hj, es]
  | 1, hj => simp [pcell] at hj; rw [← hj, ea]
  | 2, hj => simp [pcell] at hj; rw [← hj, eb]
  | 3, hj => simp [pcell] at hj; rw [← hj, ec]
  | j + 4, hj => simp [pcell] at hj

theorem rd_loans {t e tstr ti : TypeId} {f0 f1 f2 f3 : Field} {r : Reach} {b0 : Nat} {v : Value} {d : DataW H} {p : List MemPlace} (ht : P.underlying t = some (.slice e)) (he : P.underlying e = some (.struct #[f0, f1, f2, f3])) (hone : oneCellFields P #[f0, f1, f2, f3] = true) (hC : P.cellsOf e = 4)
    (hstr : P.underlying tstr = some .string) (hi : P.underlying ti = some (.int .i64)) (e0 : f0.type = tstr) (e1 : f1.type = tstr) (e2 : f2.type = ti) (e3 : f3.type = ti) (hv : Value.okWide P w r b0 t v) (h : DataW.Trod enc P w base spare held t v d p) :
    ∃ A n c, ∃ l : List LoanD, v = .slice A n c ∧ l.length = n ∧ n ≤ maxLen ∧ Rd w w.heap.size 4 lcell A l ∧ (∀ x ∈ l, okL x) := by
  refine rd_structs lcell okL ht he hone hC (by simp) lcell_len (fun g hg => ?_) hv h
  obtain ⟨n0, y0, h0⟩ := hg 0 f0 rfl
  obtain ⟨n1, y1, h1⟩ := hg 1 f1 rfl
  obtain ⟨n2, y2, h2⟩ := hg 2 f2 rfl
  obtain ⟨n3, y3, h3⟩ := hg 3 f3 rfl
  obtain ⟨s, es, ws⟩ := one_str hstr e0 h0
  obtain ⟨a, ea, wa⟩ := one_str hstr e1 h1
  obtain ⟨b, eb, wb⟩ := one_int hi e2 h2
  obtain ⟨c, ec, wc⟩ := one_int hi e3 h3
  refine ⟨⟨s, a, b, c⟩, ⟨ws, wa, wb, wc⟩, fun j u hj => ?_⟩
  match j, hj with
  | 0, hj => simp [lcell] at hj; rw [← hj, es]
  | 1, hj => simp [lcell] at hj; rw [← hj, ea]
  | 2, hj => simp [lcell] at hj; rw [← hj, eb]
  | 3, hj => simp [lcell] at hj; rw [← hj, ec]
  | j + 4, hj => simp [lcell] at hj

theorem rd_jobs {t e tstr ti ts : TypeId} {f0 f1 f2 f3 : Field} {r : Reach} {b0 : Nat} {v : Value} {d : DataW H} {p : List MemPlace} (ht : P.underlying t = some (.slice e)) (he : P.underlying e = some (.struct #[f0, f1, f2, f3])) (hone : oneCellFields P #[f0, f1, f2, f3] = true) (hC : P.cellsOf e = 4)
    (hstr : P.underlying tstr = some .string) (hi : P.underlying ti = some (.int .i64)) (hs : P.underlying ts = some (.slice ti)) (e0 : f0.type = tstr) (e1 : f1.type = ti) (e2 : f2.type = ti) (e3 : f3.type = ts) (hc1 : P.cellsOf ti = 1) (hv : Value.okWide P w r b0 t v) (h : DataW.Trod enc P w base spare held t v d p) :
    ∃ A n c, ∃ l : List JobC, v = .slice A n c ∧ l.length = n ∧ n ≤ maxLen ∧ Rd w w.heap.size 4 jcell A l ∧ (∀ x ∈ l, okJ w w.heap.size x) := by
  refine rd_structs jcell (okJ w w.heap.size) ht he hone hC (by simp) jcell_len (fun g hg => ?_) hv h
  obtain ⟨n0, y0, h0⟩ := hg 0 f0 rfl
  obtain ⟨n1, y1, h1⟩ := hg 1 f1 rfl
  obtain ⟨n2, y2, h2⟩ := hg 2 f2 rfl
  obtain ⟨n3, y3, h3⟩ := hg 3 f3 rfl
  obtain ⟨s, es, ws⟩ := one_str hstr e0 h0
  obtain ⟨a, ea, wa⟩ := one_int hi e1 h1
  obtain ⟨b, eb, wb⟩ := one_int hi e2 h2
  obtain ⟨l, hl⟩ := one_ints hs hi hc1 e3 h3
  refine ⟨⟨s, a, b, g 3⟩, ⟨ws, wa, wb, l, hl⟩, fun j u hj => ?_⟩
  match j, hj with
  | 0, hj => simp [jcell] at hj; rw [← hj, es]
  | 1, hj => simp [jcell] at hj; rw [← hj, ea]
  | 2, hj => simp [jcell] at hj; rw [← hj, eb]
  | 3, hj => simp [jcell] at hj; rw [← hj]
  | j + 4, hj => simp [jcell] at hj
end

end Go.Proofs.YtaebofpgdonnbaaDoor
