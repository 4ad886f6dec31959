/- A map of places that the call makes itself (string -> int64): asked with 'ok', written. -/
import Derived.Test.YtaebofpgdonnbaaDoorNameMap
set_option linter.unusedVariables false
set_option linter.unusedSimpArgs false
namespace Go.Proofs.YtaebofpgdonnbaaDoor
open Go.RowKit
open Go.Maps (Keyed)

/-- block b is a map of at most k names; name s lies at f s if that is not below 0, else it is not known -/
def IMap (w : World) (b k : Nat) (f : ByteArray → Int) : Prop :=
  ∃ D : DataW Unit, w.ownsMap Tryd.prog 9 (plainElem Tryd.prog 2) b k D ∧ Maps.IsMap D ∧ ∀ s : ByteArray, s.size ≤ maxLen → Maps.has D (.string s.data.toList) = decide (0 ≤ f s) ∧ (0 ≤ f s → D.atKey (.string s.data.toList) (.lit (.int .i64 0)) = .lit (.int .i64 (f s)))

theorem IMap.made (w : World) (f : ByteArray → Int) (hf : ∀ s, f s < 0) : IMap (w.alloc (.map #[] 0)) w.heap.size 0 f :=
  ⟨.map [], World.ownsMap_made w _ _ _, Maps.isMap_empty, fun s _ => ⟨by rw [decide_eq_false (by have := hf s; omega)]; rfl, fun h => absurd h (by have := hf s; omega)⟩⟩
theorem IMap.lt {w : World} {b k : Nat} {f : ByteArray → Int} (h : IMap w b k f) : b < w.heap.size := by
  obtain ⟨D, h1, _⟩ := h
  exact h1.lt
theorem IMap.congr {w : World} {b k : Nat} {f f' : ByteArray → Int} (h : IMap w b k f) (he : ∀ s, f' s = f s) : IMap w b k f' := by
  rw [show f' = f from funext he]; exact h
theorem IMap.below {w w' : World} {b k B : Nat} {f : ByteArray → Int} (h : IMap w b k f) (hb : Below B w w') (hB : b < B) : IMap w' b k f := by
  obtain ⟨D, ⟨es, clock, h1, h2⟩, h3⟩ := h
  exact ⟨D, ⟨es, clock, (hb.block b hB).trans h1, h2⟩, h3⟩
theorem IMap.grown {w w' : World} {b k : Nat} {row : Option Nat} {f : ByteArray → Int} (h : IMap w b k f) (hg : w.grownBy w' row) (hne : some b ≠ row) : IMap w' b k f := by
  obtain ⟨D, h1, h2⟩ := h
  exact ⟨D, h1.kept hg hne, h2⟩
set_option maxRecDepth 100000 in
theorem IMap.look {w : World} {b k : Nat} {f : ByteArray → Int} (h : IMap w b k f) {s : ByteArray} (hs : s.size ≤ maxLen) :
    (Instr.lookup 98 (.map (some b)) (.string s) true).run Tryd.prog w = .ok (.tuple #[.int .i64 (if 0 ≤ f s then f s else 0), .bool (decide (0 ≤ f s))]) w := by
  obtain ⟨D, h1, _, h3⟩ := h
  obtain ⟨v, ps, hrun, hv⟩ := h1.look_ok (Maps.string_keyed Tryd.underlying9) Tryd.underlying98 (z := .int .i64 0) (by kernel_rfl) (plainElem_int Tryd.underlying2 (by decide)) (WideMaps.keyOf_string_mk Tryd.underlying9 hs)
  obtain ⟨g1, g2⟩ := h3 s hs
  rw [g1] at hrun
  obtain ⟨c, rfl, hc, _⟩ := plainElem_int_inv Tryd.underlying2 hv
  simp only [Prod.mk.injEq] at hc
  have hc := hc.1
  by_cases h0 : 0 ≤ f s
  · rw [g2 h0] at hc
    injection hc with hc
    injection hc with _ hc
    rw [hrun, if_pos h0, hc]
  · rw [decide_eq_false h0] at g1
    rw [Maps.atKey_of_not_has g1] at hc
    injection hc with hc
    injection hc with _ hc
    rw [hrun, if_neg h0, hc]

theorem wpList_putI {ops : Array Oper} {rest : List Oper} {o : Oper} {a : Act} {Q : Exit → Act → World → Prop} (w : World) (hg : o.guard = none) (m x v : Operand) (hop : o.op = Op.mapUpdate 98 m x v)
    (b k : Nat) (f : ByteArray → Int) (s : ByteArray) (i : Int) (h : IMap w b k f) (hk : k ≤ 1048576) (hs : s.size ≤ maxLen) (hi : 0 ≤ i ∧ i ≤ 1048576) (hm : a.eval m = .map (some b)) (hx : a.eval x = .string s) (hv : a.eval v = .int .i64 i)
    (hK : ∀ w', IMap w' b (k + 1) (fun t => if (s.toList == t.toList) = true then i else f t) → w.grownBy w' (some b) → wpList Tryd.prog ops Q rest (a.put o.dst undef) w') : wpList Tryd.prog ops Q (o :: rest) a w := by
  obtain ⟨D, h1, h2, h3⟩ := h
  refine wpList_mapUpdate_own w hg m x v _ hop 9 2 (Maps.string_keyed Tryd.underlying9) Tryd.underlying98 _ b k D hm h1 (by unfold maxLen; omega) _ _ _ hx hv (WideMaps.keyOf_string_mk Tryd.underlying9 hs) _ [] (plainElem_int Tryd.underlying2 (by simp [Lit.wf, IntKind.min, IntKind.max, IntKind.signed, IntKind.bits]; omega)) ?_
  intro w' h4 h5
  refine hK w' ⟨_, h4, h2.put _ _, fun t ht => ?_⟩ h5
  by_cases he : s.data.toList = t.data.toList
  · have hq : (s.toList == t.toList) = true := by rw [ByteArray.toList_eq, ByteArray.toList_eq, he]; exact beq_self_eq_true _
    rw [he, Maps.has_put_same h2 (by trivial), Maps.atKey_put_same h2 (by trivial)]
    simp only [hq, if_true]
    exact ⟨(decide_eq_true hi.1).symm, fun _ => trivial⟩
  · have hq : (s.toList == t.toList) = false := by rw [ByteArray.toList_eq, ByteArray.toList_eq]; exact beq_eq_false_iff_ne.2 he
    have hne : (Lit.string t.data.toList) ≠ Lit.string s.data.toList := by intro h; injection h with h; exact he h.symm
    rw [Maps.has_put_other hne, Maps.atKey_put_other hne]
    simp only [hq, Bool.false_eq_true, if_false]
    exact h3 t ht
end Go.Proofs.YtaebofpgdonnbaaDoor
