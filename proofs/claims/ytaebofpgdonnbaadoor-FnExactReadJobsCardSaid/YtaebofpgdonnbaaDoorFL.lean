/- Rows of the call's own whose elements are told one by one. -/
import Derived.Test.YtaebofpgdonnbaaDoorScal
import Derived.Test.YtaebofpgdonnbaaDoorRows3
import Derived.Laws.OwnMore
set_option linter.unusedVariables false
set_option linter.unusedSimpArgs false
namespace Go.Proofs.YtaebofpgdonnbaaDoor
open Go.RowKit

def fl (n : Nat) (g : Nat → Value) : List Value := (List.range n).map g
theorem fl_len (n : Nat) (g : Nat → Value) : (fl n g).length = n := by rw [fl, List.length_map, List.length_range]
theorem fl_get {n : Nat} {g : Nat → Value} {i : Nat} (h : i < n) : (fl n g)[i]? = some (g i) := by rw [fl, List.getElem?_map, List.getElem?_range h]; rfl
theorem fl_congr {n : Nat} {g g' : Nat → Value} (h : ∀ i, i < n → g i = g' i) : fl n g = fl n g' := List.map_congr_left fun i hi => h i (List.mem_range.1 hi)
theorem fl_set (n : Nat) (g : Nat → Value) (i : Nat) (v : Value) : (fl n g).set i v = fl n (fun j => if j = i then v else g j) := by
  apply List.ext_getElem?
  intro j
  rw [List.getElem?_set]
  by_cases hj : j < n
  · by_cases hij : i = j
    · subst hij
      rw [if_pos rfl, fl_len, if_pos hj, fl_get hj, if_pos rfl]
    · rw [if_neg hij, fl_get hj, fl_get hj, if_neg (Ne.symm hij)]
  · have e1 : ∀ g : Nat → Value, (fl n g)[j]? = none := fun g => List.getElem?_eq_none (by rw [fl_len]; omega)
    rw [e1, e1]
    split
    · rw [fl_len, if_neg (by omega)]
    · rfl
theorem fl_set_eq {n : Nat} {g g' : Nat → Value} {i : Nat} {v : Value} (h : ∀ j, j < n → g' j = if j = i then v else g j) : (fl n g).set i v = fl n g' := by rw [fl_set]; exact fl_congr fun j hj => (h j hj).symm
theorem fl_made (n : Nat) (z : Value) (hz : z.cells = #[z]) : (madeCells z.cells (n * 1)).toList = fl n (fun _ => z) := by
  rw [hz, toList_madeCells_one, Nat.mul_one]
  apply List.ext_getElem?
  intro j
  by_cases hj : j < n
  · rw [fl_get hj, List.getElem?_replicate, if_pos hj]
  · rw [List.getElem?_eq_none (by rw [List.length_replicate]; omega), List.getElem?_eq_none (by rw [fl_len]; omega)]

theorem info_bool : (Tryd.prog.info? 4).map (fun i => (i.zero, i.size, i.bytes)) = some (some (.bool false), 1, 1) := by kernel_rfl
theorem int_rows {l l' : List Int} {w : World} {base : Nat} {e : TypeId} {v : Value} (h : l = l') (hx : w.ownsRow base e 1 v l.length (l.map (Value.int .i64))) : w.ownsRow base e 1 v l'.length (l'.map (Value.int .i64)) := h ▸ hx
end Go.Proofs.YtaebofpgdonnbaaDoor
