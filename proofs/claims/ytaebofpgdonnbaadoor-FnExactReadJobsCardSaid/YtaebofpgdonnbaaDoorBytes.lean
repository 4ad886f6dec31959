/- Rows of bytes of the call's own: texts appended, the text that they make. -/
import Derived.Test.YtaebofpgdonnbaaDoorDec
import Derived.Test.YtaebofpgdonnbaaDoorRows2
import Derived.Test.YtaebofpgdonnbaaDoorLawInts
import Derived.Lib.AppendStr
set_option linter.unusedVariables false
set_option linter.unusedSimpArgs false
namespace Go.Proofs.YtaebofpgdonnbaaDoor
open Go.RowKit

theorem str_app (a b : ByteArray) : Lib.strCells (a ++ b) = Lib.strCells a ++ Lib.strCells b := by
  unfold Lib.strCells
  rw [ByteArray.data_append, Array.toList_append, List.map_append]
theorem str_nil : Lib.strCells ByteArray.empty = [] := rfl
theorem str_ycell (s : ByteArray) : s.data.toList.flatMap ycell = Lib.strCells s := by
  unfold Lib.strCells
  induction s.data.toList with
  | nil => rfl
  | cons x l ih => rw [List.flatMap_cons, ih]; rfl

section
variable {P : Program}
theorem apps_wp {o : Oper} {a : Act} {K : Act → World → Prop} {Q : Exit → Act → World → Prop} {W w : World} {t u e : TypeId} {i0 : TypeInfo} {B : Nat} {v : Value} {S s : ByteArray} (sl x : Operand)
    (ho : o.op = .call { callee := .builtin .append, args := #[sl, x], argTypes := #[t, u] })
    (ht : P.underlying t = some (.slice e)) (hu : P.underlying u = some .string) (hi : P.info? e = some i0) (hz : i0.zero = some (.int .u8 0)) (hsize : i0.size = 1) (hby : i0.bytes = 1)
    (hs : a.eval sl = v) (hown : w.ownsRow B e 1 v S.size (Lib.strCells S)) (hx : a.eval x = .string s) (hn : S.size + s.size ≤ 4194304) (hb : Below B W w) (hB : B ≤ W.heap.size)
    (h : ∀ v' w', w'.ownsRow B e 1 v' (S ++ s).size (Lib.strCells (S ++ s)) → w.grownBy w' v.ownBlock → Below B W w' → K (a.put o.dst v') w') : o.wp P a w K Q := by
  have hsz' := hb.size
  obtain ⟨v', w', hr, h2, h3, _⟩ := Lib.run_append_own_string (P := P) w B t u o.type e i0 ht hu hi hz hsize hby v S.size (Lib.strCells S) hown s (by unfold maxLen; omega) (by omega) (by omega)
  unfold Oper.wp execOp
  simp only [ho, resolve, invoke, builtin, Sem.run_bind, Sem.run_pure, Result.andThen_ok, List.map_toArray, List.map_cons, List.map_nil, hs, hx, hr]
  exact h v' w' (by rw [ByteArray.size_append, str_app]; exact h2) h3 (hb.grown h3 (by omega) (fun k hk => (hown.lt k hk).1))
theorem apps_step {ops : Array Oper} {o : Oper} {a : Act} {K : Act → World → Prop} {Q : Exit → Act → World → Prop} {E : Prop} {W w : World} {t u e : TypeId} {i0 : TypeInfo} {B : Nat} {v : Value} {S s : ByteArray} (sl x : Operand) (hgd : o.guard = none)
    (ho : o.op = .call { callee := .builtin .append, args := #[sl, x], argTypes := #[t, u] })
    (ht : P.underlying t = some (.slice e)) (hu : P.underlying u = some .string) (hi : P.info? e = some i0) (hz : i0.zero = some (.int .u8 0)) (hsize : i0.size = 1) (hby : i0.bytes = 1)
    (hs : a.eval sl = v) (hown : w.ownsRow B e 1 v S.size (Lib.strCells S)) (hx : a.eval x = .string s) (hn : S.size + s.size ≤ 4194304) (hb : Below B W w) (hB : B ≤ W.heap.size)
    (h : ∀ v' w', w'.ownsRow B e 1 v' (S ++ s).size (Lib.strCells (S ++ s)) → w.grownBy w' v.ownBlock → Below B W w' → K (a.put o.dst v') w') :
    if Region.wanted o (yielded ops a.tmps) = true then Oper.wp P o a w K Q else E := by
  have hw : Region.wanted o (yielded ops a.tmps) = true := by simp [Region.wanted, hgd]
  rw [if_pos hw]
  exact apps_wp sl x ho ht hu hi hz hsize hby hs hown hx hn hb hB h
theorem appstr_list {ops : Array Oper} {rest : List Oper} {o : Oper} {a : Act} {Q : Exit → Act → World → Prop} {W w : World} {t u e : TypeId} {i0 : TypeInfo} {B : Nat} {v : Value} {S s : ByteArray} (sl x : Operand) (hgd : o.guard = none)
    (ho : o.op = .call { callee := .builtin .append, args := #[sl, x], argTypes := #[t, u] })
    (ht : P.underlying t = some (.slice e)) (hu : P.underlying u = some .string) (hi : P.info? e = some i0) (hz : i0.zero = some (.int .u8 0)) (hsize : i0.size = 1) (hby : i0.bytes = 1)
    (hs : a.eval sl = v) (hown : w.ownsRow B e 1 v S.size (Lib.strCells S)) (hx : a.eval x = .string s) (hn : S.size + s.size ≤ 4194304) (hb : Below B W w) (hB : B ≤ W.heap.size)
    (h : ∀ v' w', w'.ownsRow B e 1 v' (S ++ s).size (Lib.strCells (S ++ s)) → w.grownBy w' v.ownBlock → Below B W w' → wpList P ops Q rest (a.put o.dst v') w') : wpList P ops Q (o :: rest) a w :=
  wpList_plain hgd fun _ hK => apps_wp sl x ho ht hu hi hz hsize hby hs hown hx hn hb hB fun v' w' a b c => hK _ _ (h v' w' a b c)
end

/-- the text of a row of bytes -/
theorem run_text {w : World} {B : Nat} {v : Value} {S : ByteArray} (h : w.ownsRow B 5 1 v S.size (Lib.strCells S)) (h0 : 0 < S.size) :
    (convert 104 9 v).run Tryd.prog w = .ok (.string S) w := by
  rcases h.2 with ⟨_, hn⟩ | ⟨g, cap, cur, rfl, _⟩
  · omega
  · have hr : Rd w w.heap.size 1 ycell (some ⟨g, 0, none⟩) S.data.toList := Rd.of_own ycell_len (by decide) (n := S.size) (c := cap) (by rw [str_ycell]; exact h)
    have := run_bytes (n := S.size) (c := cap) (l := S.data.toList) (by rw [Array.length_toList]; rfl) hr h0
    simpa using this
end Go.Proofs.YtaebofpgdonnbaaDoor
