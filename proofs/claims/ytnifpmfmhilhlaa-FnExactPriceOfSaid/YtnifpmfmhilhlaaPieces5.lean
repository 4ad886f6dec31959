/- Contracts: the piece with a name; the code of an inventory and a piece; totals. -/
import Derived.Test.YtnifpmfmhilhlaaPieces4
set_option linter.unusedVariables false
set_option linter.unusedSimpArgs false
namespace Go.Proofs.Ytnifpmfmhilhlaa
open Go.RowKit

/-! ### The piece with a name -/
def namedO (l : List PieceD) (s : ByteArray) : Option Nat := (List.range l.length).find? fun i => (getP l i).name.toList == s.toList
def namedM (l : List PieceD) (s : ByteArray) : Int := match namedO l s with
  | some i => (i : Int)
  | none => -1
theorem namedM_yes {l : List PieceD} {s : ByteArray} {k : Nat} (hk : k < l.length) (h0 : ((List.range k).all fun i => !((getP l i).name.toList == s.toList)) = true) (h1 : ((getP l k).name.toList == s.toList) = true) : namedM l s = (k : Int) := by
  have : namedO l s = some k := by
    unfold namedO
    rw [List.find?_range_eq_some]
    exact ⟨h1, List.mem_range.2 hk, fun j hj => List.all_eq_true.1 h0 j (List.mem_range.2 hj)⟩
  unfold namedM
  rw [this]
theorem namedM_no {l : List PieceD} {s : ByteArray} (h0 : ((List.range l.length).all fun i => !((getP l i).name.toList == s.toList)) = true) : namedM l s = -1 := by
  have : namedO l s = none := by
    unfold namedO
    rw [List.find?_range_eq_none]
    exact fun j hj => List.all_eq_true.1 h0 j (List.mem_range.2 hj)
  unfold namedM
  rw [this]
def namedR (l : List PieceD) (s : ByteArray) : Int × Int := if validS l = true then (if namedM l s < 0 then (0, 3) else (namedM l s, 0)) else (0, 1)

set_option maxHeartbeats 1000000 in
theorem pieceNamed_c (A : Option Addr) (n c : Nat) (l : List PieceD) (s : ByteArray) (w : World) (hn : l.length = n) (hm : n ≤ 1048576) (hr : Rd w w.heap.size 4 pcell A l) :
    Calls Try.prog 49 #[.slice A n c, .string s] w fun e w' => e = .returned (.int .i64 (namedM l s)) ∧ Below w.heap.size w w' := by
  have HN := Lib.hid hn; clear hn
  go_enter Try.func49, Try.ntmps49
  go_wp2_with fail
  go_loopw [9] (fun i wr => ∃ (k : Nat), k ≤ n ∧ i = .int .i64 k ∧ ((List.range k).all fun i => !((getP l i).name.toList == s.toList)) = true ∧ Below w.heap.size w wr) (fun i _ => n - (intOf i).toNat)
  case atStart => exact ⟨0, Nat.zero_le _, rfl, by simp, Below.refl _ _⟩
  case round =>
    obtain ⟨k, hk, rfl, ha, hb⟩ := hrel
    have HA := Lib.hid ha; clear ha
    have hbs := hb.size
    by_cases hlt : k < n
    · obtain ⟨b1, off, rfl, hbl, hc⟩ := (hr.below hb).piece (by rw [HN.out]; omega)
      obtain ⟨d, hd⟩ := get_ex l k (by rw [HN.out]; omega)
      obtain ⟨g0, g1, g2, g3⟩ := hc k d hd
      have hf1 := far (show b1 < wr.heap.size by omega)
      have HG := Lib.hid (getP_eq hd); clear hd hc
      have p1 : (0 : Int) ≤ (k : Int) := by omega
      have p2 : (k : Int) < (n : Int) := by omega
      cases h0 : (d.name.toList == s.toList)
      · have HS := Lib.hid (all_range_succ _ k HA.out (show (!((getP l k).name.toList == s.toList)) = true by rw [HG.out, h0]; rfl))
        go_wp2_with fail
        (first | (refine ⟨?_, ?_⟩; rotate_left; (simp [intOf]; omega); (repeat apply Exists.intro); refine ⟨?_, rfl⟩; exact ⟨k + 1, by omega, by go_num, HS.out, by (repeat' (first | (with_reducible exact Below.refl _ _) | (with_reducible assumption) | (with_reducible refine below_drewN ?_ _) | (with_reducible refine Below.drew ?_) | (with_reducible refine Below.alloc ?_ ?_ _) | (with_reducible refine Below.setCell ?_ ?_ _) | (with_reducible refine via (by with_reducible assumption) ?_ ?_) | go_size))⟩) | exact ⟨⟨k + 1, by omega, by go_num, HS.out, by (repeat' (first | (with_reducible exact Below.refl _ _) | (with_reducible assumption) | (with_reducible refine below_drewN ?_ _) | (with_reducible refine Below.drew ?_) | (with_reducible refine Below.alloc ?_ ?_ _) | (with_reducible refine Below.setCell ?_ ?_ _) | (with_reducible refine via (by with_reducible assumption) ?_ ?_) | go_size))⟩, by simp [intOf]; omega⟩)
      · have HF := Lib.hid (namedM_yes (l := l) (k := k) (by rw [HN.out]; exact hlt) HA.out (show ((getP l k).name.toList == s.toList) = true by rw [HG.out, h0]))
        go_wp2_with fail
        go_ret
        exact ⟨ret_int HF.out.symm, by (repeat' (first | (with_reducible exact Below.refl _ _) | (with_reducible assumption) | (with_reducible refine below_drewN ?_ _) | (with_reducible refine Below.drew ?_) | (with_reducible refine Below.alloc ?_ ?_ _) | (with_reducible refine Below.setCell ?_ ?_ _) | (with_reducible refine via (by with_reducible assumption) ?_ ?_) | go_size))⟩
    · have hkn : k = n := by omega
      have HF := Lib.hid (namedM_no (l := l) (s := s) (by rw [HN.out, ← hkn]; exact HA.out)); clear hkn
      go_wp2_with fail
      go_ret
      exact ⟨ret_int HF.out.symm, hb⟩

theorem PieceNamedI_c (A : Option Addr) (n c : Nat) (l : List PieceD) (s : ByteArray) (w : World) (hn : l.length = n) (hm : n ≤ 1048576) (hr : Rd w w.heap.size 4 pcell A l) (ok : ∀ d ∈ l, okP d) (_ : s.size ≤ 1048576) :
    Calls Try.prog 21 #[.slice A n c, .string s] w fun e w' => e = .returned (.tuple #[.int .i64 (namedR l s).1, .int .i64 (namedR l s).2]) ∧ Below w.heap.size w w' := by
  have HN := Lib.hid hn; clear hn
  cases hv : validS l
  · have HR := Lib.hid (show namedR l s = (0, 1) by unfold namedR; rw [hv]; rfl)
    go_enter Try.func21, Try.ntmps21
    go_wp2_with fail
    refine (retb (ValidPiecesI_c A n c l _ HN.out hm hr ok) hv).mono ?_
    rintro e w1 ⟨rfl, hb1⟩
    go_wp2_with fail
    go_ret2
    exact ⟨ret_two HR.out.symm, hb1⟩
  · have HR := Lib.hid (show namedR l s = (if namedM l s < 0 then (0, 3) else (namedM l s, 0)) by unfold namedR; rw [hv, if_pos rfl])
    go_enter Try.func21, Try.ntmps21
    go_wp2_with fail
    refine (retb (ValidPiecesI_c A n c l _ HN.out hm hr ok) hv).mono ?_
    rintro e w1 ⟨rfl, hb1⟩
    have hz1 := hb1.size
    go_wp2_with fail
    refine (pieceNamed_c A n c l s _ HN.out hm ((hr.below hb1).mono hz1)).mono ?_
    generalize namedM l s = q at HR
    rintro e w2 ⟨rfl, hb2⟩
    by_cases hf : q < 0
    all_goals
      go_wp2_with fail
      go_ret2
      exact ⟨ret_two (by rw [HR.out]; first | rw [if_pos (by omega)] | rw [if_neg (by omega)]), by (repeat' (first | (with_reducible exact Below.refl _ _) | (with_reducible assumption) | (with_reducible refine below_drewN ?_ _) | (with_reducible refine Below.drew ?_) | (with_reducible refine Below.alloc ?_ ?_ _) | (with_reducible refine Below.setCell ?_ ?_ _) | (with_reducible refine via (by with_reducible assumption) ?_ ?_) | go_size))⟩

set_option maxHeartbeats 1000000 in
theorem PieceNamedS_c (A : Option Addr) (n c : Nat) (l : List PieceD) (s : ByteArray) (w : World) (hn : l.length = n) (hm : n ≤ 1048576) (hr : Rd w w.heap.size 4 pcell A l) (ok : ∀ d ∈ l, okP d) (_ : s.size ≤ 1048576) :
    Calls Try.prog 20 #[.slice A n c, .string s] w fun e w' => e = .returned (.tuple #[.int .i64 (namedR l s).1, .int .i64 (namedR l s).2]) ∧ Below w.heap.size w w' := by
  have HN := Lib.hid hn; clear hn
  cases hv : validS l
  · have HR := Lib.hid (show namedR l s = (0, 1) by unfold namedR; rw [hv]; rfl)
    go_enter Try.func20, Try.ntmps20
    go_wp2_with fail
    refine (retb (l21OkB_c A n c l _ HN.out hm hr ok) hv).mono ?_
    rintro e w1 ⟨rfl, hb1⟩
    go_wp2_with fail
    go_ret2
    exact ⟨ret_two HR.out.symm, hb1⟩
  · have HR := Lib.hid (show namedR l s = (if namedM l s < 0 then (0, 3) else (namedM l s, 0)) by unfold namedR; rw [hv, if_pos rfl])
    go_enter Try.func20, Try.ntmps20
    go_wp2_with fail
    refine (retb (l21OkB_c A n c l _ HN.out hm hr ok) hv).mono ?_
    rintro e w1 ⟨rfl, hb1⟩
    have hz1 := hb1.size
    have hr1 := (hr.below hb1).mono hz1
    go_wp2_with fail
    go_loop [6] (fun i => ∃ (k : Nat), k ≤ n ∧ i = .int .i64 k ∧ ((List.range k).all fun i => !((getP l i).name.toList == s.toList)) = true) (fun i => n - (intOf i).toNat)
    case atStart => exact ⟨0, Nat.zero_le _, rfl, by simp⟩
    case round =>
      obtain ⟨k, hk, rfl, ha⟩ := hrel
      have HA := Lib.hid ha; clear ha
      by_cases hlt : k < n
      · obtain ⟨b1, off, rfl, hbl, hc⟩ := hr1.piece (by rw [HN.out]; omega)
        obtain ⟨d, hd⟩ := get_ex l k (by rw [HN.out]; omega)
        obtain ⟨g0, g1, g2, g3⟩ := hc k d hd
        have HG := Lib.hid (getP_eq hd); clear hd hc
        have p1 : (0 : Int) ≤ (k : Int) := by omega
        have p2 : (k : Int) < (n : Int) := by omega
        cases h0 : (d.name.toList == s.toList)
        · have HS := Lib.hid (all_range_succ _ k HA.out (show (!((getP l k).name.toList == s.toList)) = true by rw [HG.out, h0]; rfl))
          go_wp2_with fail
          (first | (refine ⟨⟨(by first | trivial | rfl), ?_⟩, ?_⟩; rotate_left; (simp [intOf]; omega); (repeat apply Exists.intro); refine ⟨?_, rfl⟩; exact ⟨k + 1, by omega, by go_num, HS.out⟩) | exact ⟨⟨k + 1, by omega, by go_num, HS.out⟩, by simp [intOf]; omega⟩)
        · have HF := Lib.hid (namedM_yes (l := l) (k := k) (by rw [HN.out]; exact hlt) HA.out (show ((getP l k).name.toList == s.toList) = true by rw [HG.out, h0]))
          go_wp2_with fail
          go_ret2
          exact ⟨ret_two (by rw [HR.out, HF.out, if_neg (by omega)]), by (repeat' (first | (with_reducible exact Below.refl _ _) | (with_reducible assumption) | (with_reducible refine below_drewN ?_ _) | (with_reducible refine Below.drew ?_) | (with_reducible refine Below.alloc ?_ ?_ _) | (with_reducible refine Below.setCell ?_ ?_ _) | (with_reducible refine via (by with_reducible assumption) ?_ ?_) | go_size))⟩
      · have hkn : k = n := by omega
        have HF := Lib.hid (namedM_no (l := l) (s := s) (by rw [HN.out, ← hkn]; exact HA.out)); clear hkn
        go_wp2_with fail
        go_ret2
        exact ⟨ret_two (by rw [HR.out, HF.out, if_pos (by omega)]), by (repeat' (first | (with_reducible exact Below.refl _ _) | (with_reducible assumption) | (with_reducible refine below_drewN ?_ _) | (with_reducible refine Below.drew ?_) | (with_reducible refine Below.alloc ?_ ?_ _) | (with_reducible refine Below.setCell ?_ ?_ _) | (with_reducible refine via (by with_reducible assumption) ?_ ?_) | go_size))⟩

/-! ### The code of an inventory and a piece -/
def codeR (l : List PieceD) (k : Int) : Int := if validS l = true then (if inB k 0 ((l.length : Int) - 1) = true then 0 else 2) else 1
theorem codeR_zero {l : List PieceD} {k : Int} (h : codeR l k = 0) : validS l = true ∧ 0 ≤ k ∧ k < l.length := by
  unfold codeR at h
  cases hv : validS l
  · rw [hv] at h; simp at h
  · rw [hv, if_pos rfl] at h
    cases h2 : inB k 0 ((l.length : Int) - 1)
    · rw [h2] at h; simp at h
    · have := inB_iff.1 h2
      exact ⟨rfl, by omega, by omega⟩
theorem codeR_bd (l : List PieceD) (k : Int) : 0 ≤ codeR l k ∧ codeR l k ≤ 2 := by
  unfold codeR
  split
  · split <;> omega
  · omega

theorem pieceCode_c (A : Option Addr) (n c : Nat) (l : List PieceD) (k : Int) (w : World) (hn : l.length = n) (hm : n ≤ 1048576) (hr : Rd w w.heap.size 4 pcell A l) (ok : ∀ d ∈ l, okP d) :
    Calls Try.prog 52 #[.slice A n c, .int .i64 k] w fun e w' => e = .returned (.int .i64 (codeR l k)) ∧ Below w.heap.size w w' := by
  have HN := Lib.hid hn; clear hn
  cases hv : validS l
  · have HR := Lib.hid (show codeR l k = 1 by unfold codeR; rw [hv]; rfl)
    go_enter Try.func52, Try.ntmps52
    go_wp2_with fail
    refine (retb (ValidPiecesI_c A n c l _ HN.out hm hr ok) hv).mono ?_
    rintro e w1 ⟨rfl, hb1⟩
    go_wp2_with fail
    go_ret
    exact ⟨ret_int HR.out.symm, hb1⟩
  · cases h2 : inB k 0 ((n : Int) - 1)
    all_goals
      have HR := Lib.hid (show codeR l k = (if inB k 0 ((n : Int) - 1) = true then 0 else 2) by unfold codeR; rw [hv, if_pos rfl, HN.out])
      go_enter Try.func52, Try.ntmps52
      go_wp2_with fail
      refine (retb (ValidPiecesI_c A n c l _ HN.out hm hr ok) hv).mono ?_
      rintro e w1 ⟨rfl, hb1⟩
      go_wp2_with (go_at_call 46; refine (between_c _ _ _ _).mono ?_; rintro e w' ⟨rfl, rfl⟩)
      go_ret
      exact ⟨ret_int (by rw [HR.out, h2]; rfl), hb1⟩

theorem l21Code_c (A : Option Addr) (n c : Nat) (l : List PieceD) (k : Int) (w : World) (hn : l.length = n) (hm : n ≤ 1048576) (hr : Rd w w.heap.size 4 pcell A l) (ok : ∀ d ∈ l, okP d) :
    Calls Try.prog 50 #[.slice A n c, .int .i64 k] w fun e w' => e = .returned (.int .i64 (codeR l k)) ∧ Below w.heap.size w w' := by
  have HN := Lib.hid hn; clear hn
  cases hv : validS l
  · have HR := Lib.hid (show codeR l k = 1 by unfold codeR; rw [hv]; rfl)
    go_enter Try.func50, Try.ntmps50
    go_wp2_with fail
    refine (retb (l21OkB_c A n c l _ HN.out hm hr ok) hv).mono ?_
    rintro e w1 ⟨rfl, hb1⟩
    go_wp2_with fail
    go_ret
    exact ⟨ret_int HR.out.symm, hb1⟩
  · cases h2 : inB k 0 ((n : Int) - 1)
    all_goals
      have HR := Lib.hid (show codeR l k = (if inB k 0 ((n : Int) - 1) = true then 0 else 2) by unfold codeR; rw [hv, if_pos rfl, HN.out])
      go_enter Try.func50, Try.ntmps50
      go_wp2_with fail
      refine (retb (l21OkB_c A n c l _ HN.out hm hr ok) hv).mono ?_
      rintro e w1 ⟨rfl, hb1⟩
      go_wp2_with (go_at_call 61; refine (l00In_c _ _ _ _).mono ?_; rintro e w' ⟨rfl, rfl⟩)
      go_ret
      exact ⟨ret_int (by rw [HR.out, h2]; rfl), hb1⟩

def totR (l : List PieceD) (k : Int) : Int × Int := if codeR l k = 0 then (TI l k, 0) else (0, codeR l k)

theorem TotalOfI_c (A : Option Addr) (n c : Nat) (l : List PieceD) (k : Int) (w : World) (hn : l.length = n) (hm : n ≤ 1048576) (hr : Rd w w.heap.size 4 pcell A l) (ok : ∀ d ∈ l, okP d) :
    Calls Try.prog 23 #[.slice A n c, .int .i64 k] w fun e w' => e = .returned (.tuple #[.int .i64 (totR l k).1, .int .i64 (totR l k).2]) ∧ Below w.heap.size w w' := by
  have HN := Lib.hid hn; clear hn
  have HC := Lib.hid (show ∀ q, codeR l k = q → codeR l k = q from fun q h => h)
  generalize hq : codeR l k = q
  have cb := codeR_bd l k
  rw [hq] at cb
  by_cases h0 : q = 0
  · subst h0
    have HR := Lib.hid (show totR l k = (TI l k, 0) by unfold totR; rw [if_pos hq])
    obtain ⟨hv, k0, kn⟩ := codeR_zero hq
    obtain ⟨_, _, hS, hT⟩ := valid_all hv
    have hT1 := (hT k.toNat (by omega)).1
    rw [Int.toNat_of_nonneg k0] at hT1
    rw [HN.out] at hS kn
    have HS := Lib.hid hS; clear hS hT hv
    have HT := Lib.hid hT1; clear hT1
    have HQ := Lib.hid hq; clear hq
    go_enter Try.func23, Try.ntmps23
    go_wp2_with fail
    refine (pieceCode_c A n c l k _ HN.out hm hr ok).mono ?_
    rw [HQ.out]
    rintro e w1 ⟨rfl, hb1⟩
    have hz1 := hb1.size
    go_wp2_with fail
    refine (total_c A n c l n k _ _ HN.out hm ((hr.below hb1).mono hz1) HS.out (Nat.le_refl _) (by omega) (by omega)).mono ?_
    rintro e w' ⟨r, rfl, hP, r1, r2, rfl⟩
    have HP := Lib.hid (show r = TI l k from hP.1 HT.out); clear hP
    go_wp2_with fail
    go_ret2
    exact ⟨ret_two (by rw [HR.out, HP.out]), hb1⟩
  · have HR := Lib.hid (show totR l k = (0, q) by unfold totR; rw [hq, if_neg h0])
    have HQ := Lib.hid hq; clear hq
    have q1 : (q == 0) = false := by simpa using h0
    have q2 : (q != 0) = true := by simpa using h0
    go_enter Try.func23, Try.ntmps23
    go_wp2_with fail
    refine (pieceCode_c A n c l k _ HN.out hm hr ok).mono ?_
    rw [HQ.out]
    rintro e w1 ⟨rfl, hb1⟩
    go_wp2_with fail
    go_ret2
    exact ⟨ret_two HR.out.symm, hb1⟩

theorem TotalOfS_c (A : Option Addr) (n c : Nat) (l : List PieceD) (k : Int) (w : World) (hn : l.length = n) (hm : n ≤ 1048576) (hr : Rd w w.heap.size 4 pcell A l) (ok : ∀ d ∈ l, okP d) :
    Calls Try.prog 22 #[.slice A n c, .int .i64 k] w fun e w' => e = .returned (.tuple #[.int .i64 (totR l k).1, .int .i64 (totR l k).2]) ∧ Below w.heap.size w w' := by
  have HN := Lib.hid hn; clear hn
  have HC := Lib.hid (show ∀ q, codeR l k = q → codeR l k = q from fun q h => h)
  generalize hq : codeR l k = q
  have cb := codeR_bd l k
  rw [hq] at cb
  by_cases h0 : q = 0
  · subst h0
    have HR := Lib.hid (show totR l k = (TI l k, 0) by unfold totR; rw [if_pos hq])
    obtain ⟨hv, k0, kn⟩ := codeR_zero hq
    obtain ⟨_, _, hS, hT⟩ := valid_all hv
    have hT1 := (hT k.toNat (by omega)).1
    rw [Int.toNat_of_nonneg k0] at hT1
    rw [HN.out] at hS kn
    have HS := Lib.hid hS; clear hS hT hv
    have HT := Lib.hid hT1; clear hT1
    have HQ := Lib.hid hq; clear hq
    go_enter Try.func22, Try.ntmps22
    go_wp2_with fail
    refine (l21Code_c A n c l k _ HN.out hm hr ok).mono ?_
    rw [HQ.out]
    rintro e w1 ⟨rfl, hb1⟩
    have hz1 := hb1.size
    go_wp2_with fail
    refine (l21Total_c A n c l n k _ _ HN.out hm ((hr.below hb1).mono hz1) HS.out (Nat.le_refl _) (by omega) (by omega)).mono ?_
    rintro e w' ⟨r, rfl, hP, r1, r2, rfl⟩
    have HP := Lib.hid (show r = TI l k from hP.1 HT.out); clear hP
    go_wp2_with fail
    go_ret2
    exact ⟨ret_two (by rw [HR.out, HP.out]), hb1⟩
  · have HR := Lib.hid (show totR l k = (0, q) by unfold totR; rw [hq, if_neg h0])
    have HQ := Lib.hid hq; clear hq
    have q1 : (q == 0) = false := by simpa using h0
    have q2 : (q != 0) = true := by simpa using h0
    go_enter Try.func22, Try.ntmps22
    go_wp2_with fail
    refine (l21Code_c A n c l k _ HN.out hm hr ok).mono ?_
    rw [HQ.out]
    rintro e w1 ⟨rfl, hb1⟩
    go_wp2_with fail
    go_ret2
    exact ⟨ret_two HR.out.symm, hb1⟩

end Go.Proofs.Ytnifpmfmhilhlaa
