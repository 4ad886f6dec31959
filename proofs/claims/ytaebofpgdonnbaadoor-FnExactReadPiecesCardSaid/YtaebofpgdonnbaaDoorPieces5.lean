/- Contracts: the piece with a name; the code of an inventory and a piece; totals. -/
import Derived.Test.YtaebofpgdonnbaaDoorPieces4
set_option linter.unusedVariables false
set_option linter.unusedSimpArgs false
namespace Go.Proofs.YtaebofpgdonnbaaDoor
open Go.RowKit

/-! ### The piece with a name -/
def namedO (l : List PieceD) (s : ByteArray) : Option Nat := (List.range l.length).find? fun i => (getP l i).name.toList == s.toList
def namedM (l : List PieceD) (s : ByteArray) : Int := match namedO l s with
  | some i => (i : Int)
  | none => -1
theorem namedM_yes {l : List PieceD} {s : ByteArray} {k : Nat} (hk : k < l.length) (h0 : ((List.range k).all fun i => !((getP l i).name.toList == s.toList)) = true) (h1 : ((getP l k).name.toList == s.toList) = true) : namedM l s = (k : Int) := by
  have : namedO l s = some k := by
    unfold namedO
    rw [List.find?_range_eq_some]
    exact ⟨h1, List.mem_range.2 hk, fun j hj => List.all_eq_true.1 h0 j (List.mem_range.2 hj)⟩
  unfold namedM
  rw [this]
theorem namedM_no {l : List PieceD} {s : ByteArray} (h0 : ((List.range l.length).all fun i => !((getP l i).name.toList == s.toList)) = true) : namedM l s = -1 := by
  have : namedO l s = none := by
    unfold namedO
    rw [List.find?_range_eq_none]
    exact fun j hj => List.all_eq_true.1 h0 j (List.mem_range.2 hj)
  unfold namedM
  rw [this]
def namedR (l : List PieceD) (s : ByteArray) : Int × Int := if validS l = true then (if namedM l s < 0 then (0, 3) else (namedM l s, 0)) else (0, 1)

set_option maxHeartbeats 1000000 in
theorem pieceNamed_c (A : Option Addr) (n c : Nat) (l : List PieceD) (s : ByteArray) (w : World) (hn : l.length = n) (hm : n ≤ 1048576) (hr : Rd w w.heap.size 4 pcell A l) :
    Calls Tryd.prog 70 #[.slice A n c, .string s] w fun e w' => e = .returned (.int .i64 (namedM l s)) ∧ Below w.heap.size w w' := by
  have HN := Lib.hid hn; clear hn
  go_enter Tryd.func70, Tryd.ntmps70
  go_wp2_with fail
  go_loopw [9] (fun i wr => ∃ (k : Nat), k ≤ n ∧ i = .int .i64 k ∧ ((List.range k).all fun i => !((getP l i).name.toList == s.toList)) = true ∧ Below w.heap.size w wr) (fun i _ => n - (intOf i).toNat)
  case atStart => exact ⟨0, Nat.zero_le _, rfl, by simp, Below.refl _ _⟩
  case round =>
    obtain ⟨k, hk, rfl, ha, hb⟩ := hrel
    have HA := Lib.hid ha; clear ha
    have hbs := hb.size
    by_cases hlt : k < n
    · obtain ⟨b1, off, rfl, hbl, hc⟩ := (hr.below hb).piece (by rw [HN.out]; omega)
      obtain ⟨d, hd⟩ := get_ex l k (by rw [HN.out]; omega)
      obtain ⟨g0, g1, g2, g3⟩ := hc k d hd
      have hf1 := far (show b1 < wr.heap.size by omega)
      have HG := Lib.hid (getP_eq hd); clear hd hc
      have p1 : (0 : Int) ≤ (k : Int) := by omega
      have p2 : (k : Int) < (n : Int) := by omega
      cases h0 : (d.name.toList == s.toList)
      · have HS := Lib.hid (all_range_succ _ k HA.out (show (!((getP l k).name.toList == s.toList)) = true by rw [HG.out, h0]; rfl))
        go_wp2_with fail
        (first | (refine ⟨?_, ?_⟩; rotate_left; (first | (simp [intOf]; done) | (simp [intOf]; omega)); (repeat apply Exists.intro); refine ⟨?_, rfl⟩; exact ⟨k + 1, by omega, by go_num, HS.out, by (repeat' (first | (with_reducible exact Below.refl _ _) | (with_reducible assumption) | (with_reducible refine below_drewN ?_ _) | (with_reducible refine Below.drew ?_) | (with_reducible refine Below.alloc ?_ ?_ _) | (with_reducible refine Below.setCell ?_ ?_ _) | (with_reducible refine via (by with_reducible assumption) ?_ ?_) | go_size))⟩) | exact ⟨⟨k + 1, by omega, by go_num, HS.out, by (repeat' (first | (with_reducible exact Below.refl _ _) | (with_reducible assumption) | (with_reducible refine below_drewN ?_ _) | (with_reducible refine Below.drew ?_) | (with_reducible refine Below.alloc ?_ ?_ _) | (with_reducible refine Below.setCell ?_ ?_ _) | (with_reducible refine via (by with_reducible assumption) ?_ ?_) | go_size))⟩, by first | (simp [intOf]; done) | (simp [intOf]; omega)⟩)
      · have HF := Lib.hid (namedM_yes (l := l) (k := k) (by rw [HN.out]; exact hlt) HA.out (show ((getP l k).name.toList == s.toList) = true by rw [HG.out, h0]))
        go_wp2_with fail
        go_ret
        exact ⟨ret_int HF.out.symm, by (repeat' (first | (with_reducible exact Below.refl _ _) | (with_reducible assumption) | (with_reducible refine below_drewN ?_ _) | (with_reducible refine Below.drew ?_) | (with_reducible refine Below.alloc ?_ ?_ _) | (with_reducible refine Below.setCell ?_ ?_ _) | (with_reducible refine via (by with_reducible assumption) ?_ ?_) | go_size))⟩
    · have hkn : k = n := by omega
      have HF := Lib.hid (namedM_no (l := l) (s := s) (by rw [HN.out, ← hkn]; exact HA.out)); clear hkn
      go_wp2_with fail
      go_ret
      exact ⟨ret_int HF.out.symm, hb⟩



/-! ### The code of an inventory and a piece -/
def codeR (l : List PieceD) (k : Int) : Int := if validS l = true then (if inB k 0 ((l.length : Int) - 1) = true then 0 else 2) else 1
theorem codeR_zero {l : List PieceD} {k : Int} (h : codeR l k = 0) : validS l = true ∧ 0 ≤ k ∧ k < l.length := by
  unfold codeR at h
  cases hv : validS l
  · rw [hv] at h; simp at h
  · rw [hv, if_pos rfl] at h
    cases h2 : inB k 0 ((l.length : Int) - 1)
    · rw [h2] at h; simp at h
    · have := inB_iff.1 h2
      exact ⟨rfl, by omega, by omega⟩
theorem codeR_bd (l : List PieceD) (k : Int) : 0 ≤ codeR l k ∧ codeR l k ≤ 2 := by
  unfold codeR
  split
  · split <;> omega
  · omega



def totR (l : List PieceD) (k : Int) : Int × Int := if codeR l k = 0 then (TI l k, 0) else (0, codeR l k)



end Go.Proofs.YtaebofpgdonnbaaDoor
