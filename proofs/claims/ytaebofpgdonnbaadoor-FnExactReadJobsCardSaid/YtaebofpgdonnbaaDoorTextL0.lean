/- Plain laws of the lines of a text. -/
import Derived.Test.YtaebofpgdonnbaaDoorJoinMath
import Derived.Test.YtaebofpgdonnbaaDoorRows2
set_option linter.unusedVariables false
set_option linter.unusedSimpArgs false
namespace Go.Proofs.YtaebofpgdonnbaaDoor

def tlOk (L : List ByteArray) : Bool := (L.getLast?.getD ByteArray.empty).size == 0
theorem empty_of {s : ByteArray} (h : s.size = 0) : s = ByteArray.empty := by
  apply ByteArray.ext
  apply Array.ext'
  have : s.data.toList.length = 0 := by simpa using h
  rw [List.eq_nil_of_length_eq_zero this]
  rfl
theorem free_list {x : ByteArray} {c : UInt8} (h : ∀ j, j < x.size → ¬ byteAt x j = (c.toNat : Int)) : c ∉ x.data.toList := fun hm => by
  obtain ⟨j, hj, e⟩ := List.getElem_of_mem hm
  have hjs : j < x.size := by simpa using hj
  apply h j hjs
  unfold byteAt
  rw [List.getElem?_eq_getElem hj, e]
  rfl
theorem spl_all (s : ByteArray) (c : Int) (acc : List ByteArray) (f : Nat) (h : spl s c f = (acc, f)) (hf : f = s.size) : splL s c = acc ++ [ByteArray.empty] := by
  subst hf
  unfold splL
  rw [h]
  congr 2
  apply ByteArray.ext
  simp [ByteArray.data_extract]
end Go.Proofs.YtaebofpgdonnbaaDoor
