/- Contracts of the smallest functions on numbers. -/
import Derived.Test.YtaebofpgdonnbaaDoorHush
import Derived.Test.YtaebofpgdonnbaaDoorFracMath
import Derived.Test.YtaebofpgdonnbaaDoorOwn
import Derived.Test.YtaebofpgdonnbaaDoorLawCalls
import Derived.Test.YtaebofpgdonnbaaDoorNames
import Derived.Test.YtaebofpgdonnbaaDoorOpen
set_option linter.unusedVariables false
set_option linter.unusedSimpArgs false
namespace Go.Proofs.YtaebofpgdonnbaaDoor
open Go.RowKit

theorem between_c (n lo hi : Int) (w : World) : Calls Tryd.prog 95 #[.int .i64 n, .int .i64 lo, .int .i64 hi] w fun e w' => e = .returned (.bool (inB n lo hi)) ∧ w = w' := by
  go_enter Tryd.func95, Tryd.ntmps95
  go_wp2
  all_goals (go_ret; exact ⟨ret_bool (by simp [inB]; omega), rfl⟩)
theorem l00In_c (n lo hi : Int) (w : World) : Calls Tryd.prog 86 #[.int .i64 n, .int .i64 lo, .int .i64 hi] w fun e w' => e = .returned (.bool (inB n lo hi)) ∧ w = w' := by
  go_enter Tryd.func86, Tryd.ntmps86
  go_wp2
  all_goals (go_ret; exact ⟨ret_bool (by simp [inB]; omega), rfl⟩)
theorem l00Min_c (a b : Int) (w : World) : Calls Tryd.prog 107 #[.int .i64 a, .int .i64 b] w fun e w' => e = .returned (.int .i64 (min a b)) ∧ w = w' := by
  by_cases h : a < b
  · go_enter Tryd.func107, Tryd.ntmps107
    go_wp2
    go_ret
    exact ⟨ret_int (by omega), rfl⟩
  · go_enter Tryd.func107, Tryd.ntmps107
    go_wp2
    go_ret
    exact ⟨ret_int (by omega), rfl⟩
theorem l00Max_c (a b : Int) (w : World) : Calls Tryd.prog 114 #[.int .i64 a, .int .i64 b] w fun e w' => e = .returned (.int .i64 (max a b)) ∧ w = w' := by
  by_cases h : b < a
  · go_enter Tryd.func114, Tryd.ntmps114
    go_wp2
    go_ret
    exact ⟨ret_int (by omega), rfl⟩
  · go_enter Tryd.func114, Tryd.ntmps114
    go_wp2
    go_ret
    exact ⟨ret_int (by omega), rfl⟩

theorem ret_two {a b : Int} {p : Int × Int} (h : (a, b) = p) : Ending.returned (.tuple #[.int .i64 a, .int .i64 b]) = .returned (.tuple #[.int .i64 p.1, .int .i64 p.2]) := by rw [← h]
theorem foldl_take_succ {α β : Type} (f : β → α → β) (z : β) (l : List α) (k : Nat) (d : α) (h : l[k]? = some d) : (l.take (k + 1)).foldl f z = f ((l.take k).foldl f z) d := by
  rw [take_snoc' l k d h, List.foldl_append]; rfl
theorem all_range_no (p : Nat → Bool) (n k : Nat) (hk : k < n) (h : p k = false) : (List.range n).all p = false := by
  rw [List.all_eq_false]
  exact ⟨k, List.mem_range.2 hk, by simp [h]⟩
theorem all_range_iff (p : Nat → Bool) (n : Nat) : (List.range n).all p = true ↔ ∀ k, k < n → p k = true := by
  rw [List.all_eq_true]
  exact ⟨fun h k hk => h k (List.mem_range.2 hk), fun h k hk => h k (List.mem_range.1 hk)⟩
end Go.Proofs.YtaebofpgdonnbaaDoor
