/- A list of trials, opened: three registers and a carry. -/
import Derived.Test.YtaebofpgdonnbaaOpen
set_option linter.unusedVariables false
set_option linter.unusedSimpArgs false
namespace Go.Proofs.Ytaebofpgdonnbaa
open Go.ChangeShapes Go.WideShapes Go.ChangeAt Go.RowKit Go.Deep
open Go.ChangeMaps (open_string shut_string)

/-- a trial's cells: the digits of a register as the slice's value -/
structure TrialC where (ab : Int) (av : Value) (bb : Int) (bv : Value) (sb : Int) (sv : Value) (ca : Int)
def tcell (p : TrialC) : List Value := [.int .i64 p.ab, p.av, .int .i64 p.bb, p.bv, .int .i64 p.sb, p.sv, .int .i64 p.ca]
theorem tcell_len (d : TrialC) : (tcell d).length = 7 := rfl
def okT (w : World) (B : Nat) (p : TrialC) : Prop := wf64 p.ab ∧ wf64 p.bb ∧ wf64 p.sb ∧ wf64 p.ca ∧ (∃ l, IsInts w B p.av l) ∧ (∃ l, IsInts w B p.bv l) ∧ ∃ l, IsInts w B p.sv l
theorem list7 {cs : List Value} (h : cs.length = 7) : ∃ a b c d e f g, cs = [a, b, c, d, e, f, g] := by
  match cs, h with
  | [a, b, c, d, e, f, g], _ => exact ⟨a, b, c, d, e, f, g, rfl⟩

section
variable {H : Type} {enc : TypeId × Value → H} {P : Program} {w : World} {base : Nat} {spare : Nat → Bool} {held : Bool}
/-- a slice of structs: what each element is, by a reading of its cells -/
theorem rd_wide {D : Type} {t e : TypeId} {sz : Nat} {r : Reach} {b0 : Nat} {v : Value} {d : DataW H} {p : List MemPlace} (cells : D → List Value) (ok : D → Prop)
    (ht : P.underlying t = some (.slice e)) (hC : P.cellsOf e = sz) (hsz : 0 < sz)
    (hcells : ∀ d, (cells d).length = sz)
    (hread : ∀ cs n y, cs.length = sz → DataW.trod enc P w base spare held n e cs = some y → ∃ d : D, ok d ∧ cells d = cs)
    (hv : Value.okWide P w r b0 t v) (h : DataW.Trod enc P w base spare held t v d p) :
    ∃ A n c, ∃ l : List D, v = .slice A n c ∧ l.length = n ∧ n ≤ maxLen ∧ Rd w w.heap.size sz cells A l ∧ (∀ x ∈ l, ok x) := by
  obtain ⟨A, n, c, rfl⟩ := okWide_slice ht hv
  obtain ⟨fuel, hf⟩ := h
  rcases open_slice ht hf with ⟨hcs, _⟩ | ⟨a, n', c', m, k, DD, Pl, hcs, _, hl, hm, hmm, _, hi⟩
  · simp [Value.cells] at hcs
    obtain ⟨rfl, rfl, rfl⟩ := hcs
    exact ⟨_, _, _, [], rfl, rfl, Nat.zero_le _, Rd.nil, fun x h => by cases h⟩
  · simp [Value.cells] at hcs
    obtain ⟨rfl, rfl, rfl⟩ := hcs
    have hnm : n ≤ m := by rw [hmm]; split <;> omega
    have each : ∀ i, i < n → ∃ d : D, ok d ∧ ∀ j u, (cells d)[j]? = some u → w.cell? (a.add (i * sz + j)) = some u := by
      intro i hin
      obtain ⟨cs', hc, ht'⟩ := hi i (by omega)
      rw [hC] at hc
      obtain ⟨_, hcl, hat⟩ := World.cells?_some hc
      obtain ⟨d, hok, hd⟩ := hread cs' k _ hcl ht'
      refine ⟨d, hok, fun j u hu => ?_⟩
      have hjl : j < sz := by rw [← hcells d]; exact (List.getElem?_eq_some_iff.1 hu).1
      rw [← Go.Deep.add_add, hat j hjl, ← hd]
      exact hu
    obtain ⟨l, hll, hp⟩ := list_of n each
    refine ⟨_, _, _, l, rfl, hll, by omega, fun h0 => ?_, fun x hx => ?_⟩
    · obtain ⟨b, off, spot⟩ := a
      have h00 := (hp 0 l[0] (List.getElem?_eq_getElem h0)).2 0 ((cells l[0])[0]'(by rw [hcells]; exact hsz)) (List.getElem?_eq_getElem _)
      have hspot : spot = none := by simpa [Addr.add] using World.cell?_spot h00
      subst hspot
      have hat : ∀ i d, l[i]? = some d → ∀ j u, (cells d)[j]? = some u → w.cell? ⟨b, off + i * sz + j, none⟩ = some u := fun i d hi j u hj => by
        have := (hp i d hi).2 j u hj
        rw [Go.WideShapes.add_plain] at this
        rw [← this, Nat.add_assoc]
      have := hat 0 l[0] (List.getElem?_eq_getElem h0) 0 ((cells l[0])[0]'(by rw [hcells]; exact hsz)) (List.getElem?_eq_getElem _)
      exact ⟨b, off, rfl, World.block_lt_of_cell? w _ this, hat⟩
    · obtain ⟨i, hi⟩ := List.getElem?_of_mem hx
      exact (hp i x hi).1

theorem one_reg {tr t ti ts : TypeId} {g0 g1 : Field} {n : Nat} {a b : Value} {y : DataW H × List MemPlace} (hr : P.underlying tr = some (.struct #[g0, g1])) (ho : g0.offset = 0 ∧ g1.offset = 1)
    (hi : P.underlying ti = some (.int .i64)) (hs : P.underlying ts = some (.slice ti)) (e0 : g0.type = ti) (e1 : g1.type = ts) (hc1 : P.cellsOf ti = 1) (hcs : P.cellsOf ts = 1) (e : t = tr)
    (h : DataW.trod enc P w base spare held n t [a, b] = some y) : (∃ x, a = .int .i64 x ∧ wf64 x) ∧ ∃ l, IsInts w w.heap.size b l := by
  subst e
  obtain ⟨y0, y1, m, _, _, h0, h1⟩ := trod_struct2 hr h
  rw [ho.1, e0, hc1] at h0
  rw [ho.2, e1, hcs] at h1
  exact ⟨one_int hi rfl (by simpa using h0), one_ints hs hi hc1 rfl (by simpa using h1)⟩

theorem rd_trials {t e tr ti ts : TypeId} {f0 f1 f2 f3 g0 g1 : Field} {r : Reach} {b0 : Nat} {v : Value} {d : DataW H} {p : List MemPlace} (ht : P.underlying t = some (.slice e)) (he : P.underlying e = some (.struct #[f0, f1, f2, f3]))
    (hr : P.underlying tr = some (.struct #[g0, g1])) (hi : P.underlying ti = some (.int .i64)) (hs : P.underlying ts = some (.slice ti))
    (ho : f0.offset = 0 ∧ f1.offset = 2 ∧ f2.offset = 4 ∧ f3.offset = 6) (ho' : g0.offset = 0 ∧ g1.offset = 1) (hC : P.cellsOf e = 7) (hCr : P.cellsOf tr = 2) (hc1 : P.cellsOf ti = 1) (hcs : P.cellsOf ts = 1)
    (e0 : f0.type = tr) (e1 : f1.type = tr) (e2 : f2.type = tr) (e3 : f3.type = ti) (e4 : g0.type = ti) (e5 : g1.type = ts) (hv : Value.okWide P w r b0 t v) (h : DataW.Trod enc P w base spare held t v d p) :
    ∃ A n c, ∃ l : List TrialC, v = .slice A n c ∧ l.length = n ∧ n ≤ maxLen ∧ Rd w w.heap.size 7 tcell A l ∧ (∀ x ∈ l, okT w w.heap.size x) := by
  refine rd_wide tcell (okT w w.heap.size) ht hC (by decide) tcell_len (fun cs n y hl hy => ?_) hv h
  obtain ⟨a, b, c, d, e, f, g, rfl⟩ := list7 hl
  obtain ⟨y0, y1, y2, y3, m, _, _, h0, h1, h2, h3⟩ := Go.Joins.trod_struct4 he hy
  obtain ⟨o0, o1, o2, o3⟩ := ho
  rw [o0, e0, hCr] at h0
  rw [o1, e1, hCr] at h1
  rw [o2, e2, hCr] at h2
  rw [o3, e3, hc1] at h3
  obtain ⟨⟨x0, rfl, q0⟩, z0⟩ := one_reg hr ho' hi hs e4 e5 hc1 hcs rfl (a := a) (b := b) (by simpa using h0)
  obtain ⟨⟨x1, rfl, q1⟩, z1⟩ := one_reg hr ho' hi hs e4 e5 hc1 hcs rfl (a := c) (b := d) (by simpa using h1)
  obtain ⟨⟨x2, rfl, q2⟩, z2⟩ := one_reg hr ho' hi hs e4 e5 hc1 hcs rfl (a := e) (b := f) (by simpa using h2)
  obtain ⟨x3, rfl, q3⟩ := one_int hi rfl (g := g) (by simpa using h3)
  exact ⟨⟨x0, b, x1, d, x2, f, x3⟩, ⟨q0, q1, q2, q3, z0, z1, z2⟩, rfl⟩
end

end Go.Proofs.Ytaebofpgdonnbaa
