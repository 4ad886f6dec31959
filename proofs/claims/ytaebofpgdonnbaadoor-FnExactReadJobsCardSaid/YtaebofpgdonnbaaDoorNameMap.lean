/- A map of names that the call makes itself: asked, written. -/
import Derived.Test.YtaebofpgdonnbaaDoorScal
import Derived.Maps.OwnOps
import Derived.Maps.OwnSet
import Derived.Maps.Views
set_option linter.unusedVariables false
set_option linter.unusedSimpArgs false
namespace Go.Proofs.YtaebofpgdonnbaaDoor
open Go.RowKit
open Go.Maps (Keyed)

def seenB (nm : Nat → ByteArray) (k : Nat) (s : ByteArray) : Bool := (List.range k).any fun i => (nm i).toList == s.toList
theorem seenB_succ (nm : Nat → ByteArray) (k : Nat) (s : ByteArray) : seenB nm (k + 1) s = (seenB nm k s || ((nm k).toList == s.toList)) := by
  unfold seenB
  rw [List.range_succ, List.any_append]
  simp

theorem plainElem_bool_inv {H : Type} {P : Program} {e : TypeId} (he : P.underlying e = some .bool) {v : Value} {z : DataW H × List MemPlace} (h : plainElem P e v = some z) : ∃ a, v = .bool a ∧ z = (.lit (.bool a), []) := by
  unfold plainElem at h
  rw [he] at h
  cases v <;> simp at h
  exact ⟨_, rfl, h.symm⟩
theorem look_bool {H : Type} {P : Program} {k e t : TypeId} {w : World} {b n : Nat} {D : DataW H} (h : w.ownsMap P k (plainElem P e) b n D) (K : Keyed P k) (ht : P.underlying t = some (.map k e)) (he : P.underlying e = some .bool) (hz : (zeroValue e).run P w = .ok (.bool false) w)
    {key : Value} {kl : Lit} (hkey : keyOf P k key = some kl) : ∃ c, (Instr.lookup t (.map (some b)) key false).run P w = .ok (.bool c) w ∧ D.atKey kl (.lit (.bool false)) = .lit (.bool c) := by
  obtain ⟨v, ps, hrun, hv⟩ := h.lookup K ht hz (plainElem_bool he false) hkey
  obtain ⟨c, rfl, hc⟩ := plainElem_bool_inv he hv
  simp only [Prod.mk.injEq] at hc
  exact ⟨c, hrun, hc.1⟩

/-- block b is the map that holds the names nm 0 .. nm (k-1) -/
def NMap (w : World) (b k : Nat) (nm : Nat → ByteArray) : Prop :=
  ∃ D : DataW Unit, w.ownsMap Tryd.prog 9 (plainElem Tryd.prog 4) b k D ∧ Maps.IsMap D ∧ ∀ s : ByteArray, s.size ≤ maxLen → D.atKey (.string s.data.toList) (.lit (.bool false)) = .lit (.bool (seenB nm k s))

theorem NMap.made (w : World) (nm : Nat → ByteArray) : NMap (w.alloc (.map #[] 0)) w.heap.size 0 nm :=
  ⟨.map [], World.ownsMap_made w _ _ _, Maps.isMap_empty, fun s _ => by rfl⟩
theorem NMap.lt {w : World} {b k : Nat} {nm : Nat → ByteArray} (h : NMap w b k nm) : b < w.heap.size := by
  obtain ⟨D, h1, _⟩ := h
  exact h1.lt
theorem NMap.keep {w w' : World} {b k : Nat} {nm : Nat → ByteArray} (h : NMap w b k nm) (hb : Below w.heap.size w w') : NMap w' b k nm := by
  have hlt := h.lt
  obtain ⟨D, ⟨es, clock, h1, h2⟩, h3⟩ := h
  exact ⟨D, ⟨es, clock, (hb.block b hlt).trans h1, h2⟩, h3⟩
set_option maxRecDepth 100000 in
theorem NMap.look {w : World} {b k : Nat} {nm : Nat → ByteArray} (h : NMap w b k nm) {s : ByteArray} (hs : s.size ≤ maxLen) :
    (Instr.lookup 113 (.map (some b)) (.string s) false).run Tryd.prog w = .ok (.bool (seenB nm k s)) w := by
  obtain ⟨D, h1, _, h3⟩ := h
  obtain ⟨c, hrun, hat⟩ := look_bool h1 (Maps.string_keyed Tryd.underlying9) Tryd.underlying113 Tryd.underlying4 (by kernel_rfl) (WideMaps.keyOf_string_mk Tryd.underlying9 hs)
  rw [h3 s hs] at hat
  injection hat with hat
  injection hat with hat
  rw [hat]
  exact hrun

theorem wpList_put {ops : Array Oper} {rest : List Oper} {o : Oper} {a : Act} {Q : Exit → Act → World → Prop} (w : World) (hg : o.guard = none) (m x v : Operand) (hop : o.op = Op.mapUpdate 113 m x v)
    (b k : Nat) (nm : Nat → ByteArray) (h : NMap w b k nm) (hk : k ≤ 1048576) (hs : (nm k).size ≤ maxLen) (hm : a.eval m = .map (some b)) (hx : a.eval x = .string (nm k)) (hv : a.eval v = .bool true)
    (hK : ∀ w', NMap w' b (k + 1) nm → w.grownBy w' (some b) → wpList Tryd.prog ops Q rest (a.put o.dst undef) w') : wpList Tryd.prog ops Q (o :: rest) a w := by
  obtain ⟨D, h1, h2, h3⟩ := h
  refine wpList_mapUpdate_own w hg m x v _ hop 9 4 (Maps.string_keyed Tryd.underlying9) Tryd.underlying113 _ b k D hm h1 (by unfold maxLen; omega) _ _ _ hx hv (WideMaps.keyOf_string_mk Tryd.underlying9 hs) _ [] (plainElem_bool Tryd.underlying4 true) ?_
  intro w' h4 h5
  refine hK w' ⟨_, h4, h2.put _ _, fun s hs' => ?_⟩ h5
  rw [seenB_succ]
  by_cases he : (nm k).data.toList = s.data.toList
  · rw [he, Maps.atKey_put_same h2 (by trivial)]
    have : ((nm k).toList == s.toList) = true := by rw [ByteArray.toList_eq, ByteArray.toList_eq, he]; exact beq_self_eq_true _
    rw [this, Bool.or_true]
  · rw [Maps.atKey_put_other (by intro h; injection h with h; exact he h.symm), h3 s hs']
    have : ((nm k).toList == s.toList) = false := by rw [ByteArray.toList_eq, ByteArray.toList_eq]; exact beq_eq_false_iff_ne.2 he
    rw [this, Bool.or_false]
end Go.Proofs.YtaebofpgdonnbaaDoor
