/- Contracts: the laws' mark texts. -/
import Derived.Test.YtaebofpgdonnbaaDoorScal
import Derived.Laws.BytesArg
set_option linter.unusedVariables false
set_option linter.unusedSimpArgs false
namespace Go.Proofs.YtaebofpgdonnbaaDoor
open Go.RowKit

def mgo : Nat → Int → ByteArray → ByteArray
  | 0, _, t => t
  | f + 1, k, t => if 0 < k then mgo f (k / 10) (strOfNums [48 + k % 10] ++ t) else t
theorem mgo_stop (f : Nat) (k : Int) (t : ByteArray) (h : ¬ 0 < k) : mgo f k t = t := by
  cases f with
  | zero => rfl
  | succ f => unfold mgo; rw [if_neg h]
/-- the text of mark k -/
def mtxt (k : Int) : ByteArray := ⟨#[109]⟩ ++ mgo (k.toNat + 1) k ByteArray.empty

theorem run_one_byte (w : World) (x : Int) : (convert 104 9 (.slice (some ⟨w.heap.size, 0, none⟩) 1 1)).run Tryd.prog (w.alloc (.cells #[.int .u8 x] 5)) = .ok (.string (strOfNums [x])) (w.alloc (.cells #[.int .u8 x] 5)) :=
  run_convert_bytes_arg _ 104 5 Tryd.underlying104 Tryd.underlying5 w.heap.size 0 1 1 [x] rfl (fun i hi => by
    obtain rfl : i = 0 := by omega
    simp [go_sem]) _ Tryd.underlying9

set_option maxRecDepth 100000 in
set_option maxHeartbeats 1000000 in
theorem markText_c (k0 : Int) (w : World) (h1 : 1 ≤ k0) (h2 : k0 ≤ 4611686018427387904) : Calls Tryd.prog 47 #[.int .i64 k0] w fun e w' => e = .returned (.string (mtxt k0)) ∧ Below w.heap.size w w' := by
  obtain ⟨R, hR⟩ : ∃ R, mgo (k0.toNat + 1) k0 ByteArray.empty = R := ⟨_, rfl⟩
  have HT := Lib.hid (show mtxt k0 = ⟨#[109]⟩ ++ R by unfold mtxt; rw [hR])
  have HR := Lib.hid hR; clear hR
  have kc := run_one_byte
  go_enter Tryd.func47, Tryd.ntmps47
  go_wp2_with fail
  go_loopw [0, 3] (fun q s wr => ∃ (k : Int) (t : ByteArray) (f : Nat), 0 ≤ k ∧ k < (f : Int) ∧ q = .int .i64 k ∧ s = .string t ∧ (t.size : Int) + k ≤ k0 ∧ mgo f k t = R ∧ Below w.heap.size w wr) (fun q _ _ => (intOf q).toNat)
  case atStart => exact ⟨k0, ByteArray.empty, k0.toNat + 1, by omega, by omega, rfl, rfl, by simp, HR.out, Below.refl _ _⟩
  case round =>
    obtain ⟨k, t, f, ka, kb, rfl, rfl, ht, hm, hb⟩ := hrel
    have HM := Lib.hid hm; clear hm
    have hbs := hb.size
    by_cases hk : 0 < k
    · have hf : ∃ g, f = g + 1 := ⟨f - 1, by omega⟩
      obtain ⟨g, rfl⟩ := hf
      have HS := Lib.hid (show mgo g (k / 10) (strOfNums [48 + k % 10] ++ t) = R by have := HM.out; unfold mgo at this; rwa [if_pos hk] at this)
      have hsz : (strOfNums [48 + k % 10]).size = 1 := strOfNums_size _
      have HZ := Lib.hid (show ((strOfNums [48 + k % 10] ++ t).size : Int) = t.size + 1 by rw [ByteArray.size_append, hsz]; omega)
      have hs2 : ¬ 9223372036854775807 < (strOfNums [48 + k % 10]).size + t.size := by rw [hsz]; omega
      clear hsz
      go_wp2_with fail
      (first | (refine ⟨?_, ?_⟩; rotate_left; (first | (simp [intOf]; done) | (simp [intOf]; omega)); (repeat apply Exists.intro); refine ⟨?_, rfl⟩; exact ⟨k / 10, _, g, by omega, by omega, rfl, rfl, by rw [HZ.out]; omega, HS.out, by (repeat' (first | (with_reducible exact Below.refl _ _) | (with_reducible assumption) | (with_reducible refine below_drewN ?_ _) | (with_reducible refine Below.drew ?_) | (with_reducible refine Below.alloc ?_ ?_ _) | (with_reducible refine Below.setCell ?_ ?_ _) | (with_reducible refine via (by with_reducible assumption) ?_ ?_) | go_size))⟩) | exact ⟨⟨k / 10, _, g, by omega, by omega, rfl, rfl, by rw [HZ.out]; omega, HS.out, by (repeat' (first | (with_reducible exact Below.refl _ _) | (with_reducible assumption) | (with_reducible refine below_drewN ?_ _) | (with_reducible refine Below.drew ?_) | (with_reducible refine Below.alloc ?_ ?_ _) | (with_reducible refine Below.setCell ?_ ?_ _) | (with_reducible refine via (by with_reducible assumption) ?_ ?_) | go_size))⟩, by first | (simp [intOf]; done) | (simp [intOf]; omega)⟩)
    · have HF := Lib.hid (show t = R by have := HM.out; rwa [mgo_stop _ _ _ hk] at this)
      go_wp2_with fail
      go_ret
      exact ⟨by rw [HT.out, HF.out]; rfl, hb⟩
theorem grown_of_below {w w' : World} {row : Option Nat} (h : Below w.heap.size w w') : w.grownBy w' row := ⟨h.os, h.tape, h.output, h.size, fun i hi _ => h.block i hi⟩
theorem take_snoc_get {α : Type} {l : List α} {k : Nat} {x : α} (h : l[k]? = some x) : l.take (k + 1) = l.take k ++ [x] := take_snoc' l k x h
end Go.Proofs.YtaebofpgdonnbaaDoor
