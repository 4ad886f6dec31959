/- Contracts: SamePieces, both sides. -/
import Derived.Test.YtnifpmfmhilhlaaPieces1
import Derived.Test.YtnifpmfmhilhlaaLawCalls
set_option linter.unusedVariables false
set_option linter.unusedSimpArgs false
namespace Go.Proofs.Ytnifpmfmhilhlaa
open Go.RowKit

deriving instance DecidableEq for PieceD
def samePieceB (l l' : List PieceD) : Bool := decide (l = l')

theorem bytes_inj {a b : ByteArray} (h : a.toList = b.toList) : a = b := by
  rw [ByteArray.toList_eq, ByteArray.toList_eq] at h
  have h2 : a.data = b.data := Array.toList_inj.1 h
  cases a; cases b; simp at h2; rw [h2]

set_option maxRecDepth 100000 in
theorem neq_piece (d d' : PieceD) (h : d ≠ d') (w : World) : (binOp .neq 51 (.agg #[.string d.name, .int .i64 d.parent, .int .i64 d.each, .int .i64 d.price]) (.agg #[.string d'.name, .int .i64 d'.parent, .int .i64 d'.each, .int .i64 d'.price])).run Try.prog w = .ok (.bool true) w := by
  have hc : ¬ (d.name.toList = d'.name.toList ∧ d.parent = d'.parent ∧ d.each = d'.each ∧ d.price = d'.price) := fun hc => h (by
    obtain ⟨c0, c1, c2, c3⟩ := hc
    cases d; cases d'
    simp only at c0 c1 c2 c3
    simp only [PieceD.mk.injEq]
    exact ⟨bytes_inj c0, c1, c2, c3⟩)
  rw [run_neq_struct, run_equalIn_agg (P := Try.prog) w 9999 51 _ _ (by kernel_rfl) (by kernel_rfl)]
  simp [go_sem, Program.fieldsOf, Try.underlying51, Op.eqFields]
  intro c0 c1 c2 c3
  exact hc ⟨c0, c1, c2, c3⟩

set_option maxHeartbeats 1000000 in
theorem SamePiecesS_d (A A' : Option Addr) (n n' c c' : Nat) (l l' : List PieceD) (B : Nat) (w : World) (hn : l.length = n) (hn' : l'.length = n') (hm : n ≤ maxLen) (hm' : n' ≤ maxLen) (hr : Rd w B 4 pcell A l) (hr' : Rd w B 4 pcell A' l') :
    Calls Try.prog 14 #[.slice A n c, .slice A' n' c'] w fun e w' => e = .returned (.bool (samePieceB l l')) ∧ ∃ m, w' = w.drewN m := by
  unfold maxLen at hm hm'
  by_cases hnn : n = n'
  · subst hnn
    go_enter Try.func14, Try.ntmps14
    go_wp2
    go_loopw [5] (fun i wr => ∃ k : Nat, k ≤ n ∧ i = .int .i64 k ∧ l.take k = l'.take k ∧ ∃ m, wr = w.drewN m) (fun i _ => n - (intOf i).toNat)
    case atStart => exact ⟨0, Nat.zero_le _, rfl, by simp, 0, rfl⟩
    case round =>
      obtain ⟨k, hk, rfl, ht, m, rfl⟩ := hrel
      have HT := Lib.hid ht; clear ht
      have HN := Lib.hid hn
      have HN' := Lib.hid hn'
      by_cases hlt : k < n
      · obtain ⟨b, off, rfl, hbl, hc⟩ := hr.piece (by omega)
        obtain ⟨b', off', rfl, hbl', hc'⟩ := hr'.piece (by omega)
        obtain ⟨d, ed⟩ := get_ex l k (by omega)
        obtain ⟨d', ed'⟩ := get_ex l' k (by omega)
        obtain ⟨g0, g1, g2, g3⟩ := hc k d ed
        obtain ⟨m0, m1, m2, m3⟩ := hc' k d' ed'
        clear hc hc' hn hn'
        have HE := Lib.hid ed; clear ed
        have HE' := Lib.hid ed'; clear ed'
        have y3 : (k : Int) < (n : Int) := by omega
        have y4 : (0 : Int) ≤ (k : Int) := by omega
        by_cases hd : d = d'
        · subst hd
          go_wp2
          go_quiet (fail)
          go_wp2_with fail
          go_roundw
          case rel => exact ⟨k + 1, by omega, by go_num, by rw [take_snoc' _ _ _ HE.out, take_snoc' _ _ _ HE'.out, HT.out], m + nq, by first | rfl | rw [World.drewN_drewN]⟩
          case measure => simp [intOf]; omega
        · have hq := neq_piece d d' hd
          have HD := Lib.hid hd; clear hd
          go_wp2
          go_quiet (fail)
          go_wp2_with fail
          go_ret
          refine ⟨ret_bool ?_, m + nq, by first | rfl | rw [World.drewN_drewN]⟩
          symm
          rw [samePieceB, decide_eq_false_iff_not]
          intro hll
          have h1 := HE.out
          rw [hll, HE'.out] at h1
          exact HD.out (by injection h1 with h1; exact h1.symm)
      · have hfin : samePieceB l l' = true := by
          have := HT.out
          rw [List.take_of_length_le (by omega), List.take_of_length_le (by omega)] at this
          rw [samePieceB, decide_eq_true_eq]; exact this
        have HF := Lib.hid hfin; clear hfin hn hn'
        go_wp2_with fail
        go_ret
        exact ⟨ret_bool HF.out.symm, m, rfl⟩
  · have hnf : samePieceB l l' = false := by
      rw [samePieceB, decide_eq_false_iff_not]
      intro h
      rw [h] at hn
      omega
    have HF := Lib.hid hnf; clear hnf
    have hne : ((n : Int) == (n' : Int)) = false := by simp; omega
    have hne' : ¬ n = n' := hnn
    clear hn hn'
    go_enter Try.func14, Try.ntmps14
    go_wp2
    go_ret
    exact ⟨ret_bool HF.out.symm, 0, rfl⟩
theorem SamePiecesS_c (A : Option Addr) (n c : Nat) (l : List PieceD) (A' : Option Addr) (n' c' : Nat) (l' : List PieceD) (w : World) (hn : l.length = n) (hm : n ≤ 1048576) (hr : Rd w w.heap.size 4 pcell A l) (hn' : l'.length = n') (hm' : n' ≤ 1048576) (hr' : Rd w w.heap.size 4 pcell A' l') :
    Calls Try.prog 14 #[.slice A n c, .slice A' n' c'] w fun e w' => e = .returned (.bool (samePieceB l l')) ∧ Below w.heap.size w w' :=
  to_below (SamePiecesS_d A A' n n' c c' l l' w.heap.size w hn hn' (by unfold maxLen; omega) (by unfold maxLen; omega) hr hr')

set_option maxHeartbeats 1000000 in
theorem SamePiecesI_d (A A' : Option Addr) (n n' c c' : Nat) (l l' : List PieceD) (B : Nat) (w : World) (hn : l.length = n) (hn' : l'.length = n') (hm : n ≤ maxLen) (hm' : n' ≤ maxLen) (hr : Rd w B 4 pcell A l) (hr' : Rd w B 4 pcell A' l') :
    Calls Try.prog 16 #[.slice A n c, .slice A' n' c'] w fun e w' => e = .returned (.bool (samePieceB l l')) ∧ ∃ m, w' = w.drewN m := by
  unfold maxLen at hm hm'
  by_cases hnn : n = n'
  · subst hnn
    go_enter Try.func16, Try.ntmps16
    go_wp2
    go_loopw [13] (fun i wr => ∃ k : Nat, k ≤ n ∧ i = .int .i64 k ∧ l.take k = l'.take k ∧ ∃ m, wr = w.drewN m) (fun i _ => n - (intOf i).toNat)
    case atStart => exact ⟨0, Nat.zero_le _, rfl, by simp, 0, rfl⟩
    case round =>
      obtain ⟨k, hk, rfl, ht, m, rfl⟩ := hrel
      have HT := Lib.hid ht; clear ht
      have HN := Lib.hid hn
      have HN' := Lib.hid hn'
      by_cases hlt : k < n
      · obtain ⟨b, off, rfl, hbl, hc⟩ := hr.piece (by omega)
        obtain ⟨b', off', rfl, hbl', hc'⟩ := hr'.piece (by omega)
        obtain ⟨d, ed⟩ := get_ex l k (by omega)
        obtain ⟨d', ed'⟩ := get_ex l' k (by omega)
        obtain ⟨g0, g1, g2, g3⟩ := hc k d ed
        obtain ⟨m0, m1, m2, m3⟩ := hc' k d' ed'
        clear hc hc' hn hn'
        have HE := Lib.hid ed; clear ed
        have HE' := Lib.hid ed'; clear ed'
        have y3 : (k : Int) < (n : Int) := by omega
        have y4 : (0 : Int) ≤ (k : Int) := by omega
        by_cases hd : d = d'
        · subst hd
          go_wp2
          go_quiet (fail)
          go_wp2_with fail
          go_roundw
          case rel => exact ⟨k + 1, by omega, by go_num, by rw [take_snoc' _ _ _ HE.out, take_snoc' _ _ _ HE'.out, HT.out], m + nq, by first | rfl | rw [World.drewN_drewN]⟩
          case measure => simp [intOf]; omega
        · have hq := neq_piece d d' hd
          have HD := Lib.hid hd; clear hd
          go_wp2
          go_quiet (fail)
          go_wp2_with fail
          go_ret
          refine ⟨ret_bool ?_, m + nq, by first | rfl | rw [World.drewN_drewN]⟩
          symm
          rw [samePieceB, decide_eq_false_iff_not]
          intro hll
          have h1 := HE.out
          rw [hll, HE'.out] at h1
          exact HD.out (by injection h1 with h1; exact h1.symm)
      · have hfin : samePieceB l l' = true := by
          have := HT.out
          rw [List.take_of_length_le (by omega), List.take_of_length_le (by omega)] at this
          rw [samePieceB, decide_eq_true_eq]; exact this
        have HF := Lib.hid hfin; clear hfin hn hn'
        go_wp2_with fail
        go_ret
        exact ⟨ret_bool HF.out.symm, m, rfl⟩
  · have hnf : samePieceB l l' = false := by
      rw [samePieceB, decide_eq_false_iff_not]
      intro h
      rw [h] at hn
      omega
    have HF := Lib.hid hnf; clear hnf
    have hne : ((n : Int) == (n' : Int)) = false := by simp; omega
    have hne' : ¬ n = n' := hnn
    clear hn hn'
    go_enter Try.func16, Try.ntmps16
    go_wp2
    go_ret
    exact ⟨ret_bool HF.out.symm, 0, rfl⟩
theorem SamePiecesI_c (A : Option Addr) (n c : Nat) (l : List PieceD) (A' : Option Addr) (n' c' : Nat) (l' : List PieceD) (w : World) (hn : l.length = n) (hm : n ≤ 1048576) (hr : Rd w w.heap.size 4 pcell A l) (hn' : l'.length = n') (hm' : n' ≤ 1048576) (hr' : Rd w w.heap.size 4 pcell A' l') :
    Calls Try.prog 16 #[.slice A n c, .slice A' n' c'] w fun e w' => e = .returned (.bool (samePieceB l l')) ∧ Below w.heap.size w w' :=
  to_below (SamePiecesI_d A A' n n' c c' l l' w.heap.size w hn hn' (by unfold maxLen; omega) (by unfold maxLen; omega) hr hr')

end Go.Proofs.Ytnifpmfmhilhlaa
