/- Contracts: the parts of a line between single blanks: the program's loop gives what the reference's split gives. -/
import Derived.Test.YtaebofpgdonnbaaDoorCut
set_option linter.unusedVariables false
set_option linter.unusedSimpArgs false
namespace Go.Proofs.YtaebofpgdonnbaaDoor
open Go.RowKit

theorem byteAt_from {s : ByteArray} {m i : Nat} (h : m + i < s.size) : byteAt (s.extract m s.size) i = byteAt s (m + i) := by
  unfold byteAt
  rw [ByteArray.data_extract, Array.toList_extract, List.extract_eq_take_drop, List.getElem?_take]
  rw [if_pos (by omega), List.getElem?_drop]
theorem ext_from_to (s : ByteArray) (f m : Nat) (h : f + m ≤ s.size) : (s.extract f s.size).extract 0 m = s.extract f (f + m) := by
  rw [ByteArray.extract_extract]
  congr 1
  omega
theorem ext_from_end (s : ByteArray) (f m : Nat) (h : f + m ≤ s.size) : (s.extract f s.size).extract m (s.extract f s.size).size = s.extract (f + m) s.size := by
  rw [ByteArray.extract_extract, ByteArray.size_extract]
  congr 1
  omega
theorem spl_stay {s : ByteArray} {c : Int} {f : Nat} {p : List ByteArray × Nat} (h : spl s c f = p) : ∀ k, (∀ j, f ≤ j → j < f + k → ¬ byteAt s j = c) → spl s c (f + k) = p
  | 0, _ => h
  | k + 1, h2 => by
    show spl s c (f + k + 1) = _
    simp only [spl]
    rw [if_neg (h2 (f + k) (by omega) (by omega))]
    exact spl_stay h k (fun j h3 h4 => h2 j h3 (by omega))
theorem firstAt (s : ByteArray) (c : Int) : ∀ n, (∀ j, j < n → ¬ byteAt s j = c) ∨ ∃ m, m < n ∧ byteAt s m = c ∧ ∀ j, j < m → ¬ byteAt s j = c
  | 0 => .inl fun j hj => by omega
  | n + 1 => by
    rcases firstAt s c n with h | ⟨m, h1, h2, h3⟩
    · by_cases hn : byteAt s n = c
      · exact .inr ⟨n, Nat.lt_succ_self n, hn, h⟩
      · refine .inl fun j hj => ?_
        by_cases hj' : j = n
        · rw [hj']; exact hn
        · exact h j (by omega)
    · exact .inr ⟨m, by omega, h2, h3⟩

set_option maxHeartbeats 2000000 in
theorem parts_c (s : ByteArray) (w : World) (hs : s.size ≤ 1048576) :
    Calls Tryd.prog 68 #[.string s] w fun e w' => ∃ v, e = .returned v ∧ w'.ownsRow w.heap.size 9 1 v (splL s 32).length ((splL s 32).map Value.string) ∧ Below w.heap.size w w' := by
  obtain ⟨i0, hi0, hy0, hy1, hy2⟩ := info_parts info_str
  have hown0 : (w.alloc (.cells #[] 9)).ownsRow w.heap.size 9 1 (.slice (some ⟨w.heap.size, 0, none⟩) 0 0) 0 [] := World.ownsRow_made w #[] 0 (Nat.le_refl _) (by simp [maxLen]) (by simp)
  go_enter Tryd.func68, Tryd.ntmps68
  go_wp2_with fail
  go_loopw [0, 3] (fun x o wr => ∃ (f : Nat) (acc : List ByteArray), f ≤ s.size ∧ x = .string (s.extract f s.size) ∧ acc.length ≤ f ∧ spl s 32 f = (acc, f) ∧ Below w.heap.size w wr ∧ wr.ownsRow w.heap.size 9 1 o acc.length (acc.map Value.string)) (fun x _ _ => match x with | .string b => b.size | _ => 0)
  case atStart => exact ⟨0, [], Nat.zero_le _, by rw [ByteArray.extract_zero_size], Nat.le_refl _, rfl, by (repeat' (first | (with_reducible exact Below.refl _ _) | (with_reducible assumption) | (with_reducible refine below_drewN ?_ _) | (with_reducible refine Below.drew ?_) | (with_reducible refine Below.alloc ?_ ?_ _) | (with_reducible refine Below.setCell ?_ ?_ _) | (with_reducible refine via (by with_reducible assumption) ?_ ?_) | go_size)), by simpa using hown0⟩
  case round =>
    clear hown0
    obtain ⟨f, acc, hf, rfl, hal, hsp, hb, hx⟩ := hrel
    have HX := Lib.hid hx; clear hx
    have HSP := Lib.hid hsp; clear hsp
    have hbs := hb.size
    obtain ⟨q, hq⟩ : ∃ q, q = acc.length := ⟨_, rfl⟩
    rw [← hq] at HX hal
    have HQ := Lib.hid hq; clear hq
    have hts : (s.extract f s.size).size = s.size - f := by rw [ByteArray.size_extract]; omega
    have HTS := Lib.hid hts
    rcases firstAt (s.extract f s.size) 32 (s.extract f s.size).size with h | ⟨m, hm, hbm, h⟩
    · have HF := Lib.hid (show splL s 32 = acc ++ [s.extract f s.size] by
        unfold splL
        rw [show spl s 32 s.size = (acc, f) from by
          have := spl_stay HSP.out (s.size - f) (fun j h3 h4 => by
            have h5 := h (j - f) (by omega)
            rw [byteAt_from (by omega), show f + (j - f) = j by omega] at h5
            exact h5)
          rwa [show f + (s.size - f) = s.size by omega] at this])
      have HC := Lib.hid (cut_no (s.extract f s.size) 32 (hs := by omega) (h := fun j hj => h j hj))
      clear h hts
      generalize s.extract f s.size = t at *
      go_wp2_with fail
      refine (HC.out _).mono ?_
      rintro e w1 ⟨rfl, hb1⟩
      have HX1 := Lib.hid (own_call HX.out hb1)
      have hbw1 : Below w.heap.size w w1 := hb.trans (hb1.mono hbs)
      have hbs1 := hbw1.size
      go_wp2_with (at_builtin; refine app_list (W := w) (z := .string ByteArray.empty) (.tmp 14) (.tmp 16) rfl rfl Tryd.underlying22 hi0 hy0 hy1 hy2 rfl (by decide) (by decide) rfl (HX1.out.alloc _) rfl rfl (news1 (z := .string t) (by simp [go_sem])) (by simp [Value.oneCell']) (by omega) (by (repeat' (first | (with_reducible exact Below.refl _ _) | (with_reducible assumption) | (with_reducible refine below_drewN ?_ _) | (with_reducible refine Below.drew ?_) | (with_reducible refine Below.alloc ?_ ?_ _) | (with_reducible refine Below.setCell ?_ ?_ _) | (with_reducible refine via (by with_reducible assumption) ?_ ?_) | go_size))) (Nat.le_refl _) ?_; intro v1 w2 hown1 hg1 hblk1 hb2)
      go_ret
      exact ⟨_, rfl, by rw [HF.out, List.length_append, ← HQ.out, List.map_append]; simpa using hown1, hb2⟩
    · have hm' : f + m < s.size := by omega
      have hbm' : byteAt s (f + m) = 32 := by rw [← byteAt_from hm']; exact hbm
      have HS := Lib.hid (show spl s 32 (f + (m + 1)) = (acc ++ [s.extract f (f + m)], f + (m + 1)) by
        show spl s 32 (f + m + 1) = _
        simp only [spl]
        rw [if_pos hbm', spl_stay HSP.out m (fun j h3 h4 => by
          have h5 := h (j - f) (by omega)
          rw [byteAt_from (by omega), show f + (j - f) = j by omega] at h5
          exact h5)]
        rfl)
      have hC := cut_at (s.extract f s.size) 32 m (hs := by omega) (hm := hm) (hb := hbm) (h := fun j hj => h j hj)
      rw [ext_from_to s f m (by omega), ext_from_end s f (m + 1) (by omega)] at hC
      have HC := Lib.hid hC
      have hms : (s.extract (f + (m + 1)) s.size).size < (s.extract f s.size).size := by rw [ByteArray.size_extract, ByteArray.size_extract]; omega
      clear h hC hts hm hbm
      go_wp2_with fail
      refine (HC.out _).mono ?_
      rintro e w1 ⟨rfl, hb1⟩
      have HX1 := Lib.hid (own_call HX.out hb1)
      have hbw1 : Below w.heap.size w w1 := hb.trans (hb1.mono hbs)
      have hbs1 := hbw1.size
      go_wp2_with (at_builtin; refine app_list (W := w) (z := .string ByteArray.empty) (.tmp 14) (.tmp 16) rfl rfl Tryd.underlying22 hi0 hy0 hy1 hy2 rfl (by decide) (by decide) rfl (HX1.out.alloc _) rfl rfl (news1 (z := .string (s.extract f (f + m))) (by simp [go_sem])) (by simp [Value.oneCell']) (by omega) (by (repeat' (first | (with_reducible exact Below.refl _ _) | (with_reducible assumption) | (with_reducible refine below_drewN ?_ _) | (with_reducible refine Below.drew ?_) | (with_reducible refine Below.alloc ?_ ?_ _) | (with_reducible refine Below.setCell ?_ ?_ _) | (with_reducible refine via (by with_reducible assumption) ?_ ?_) | go_size))) (Nat.le_refl _) ?_; intro v1 w2 hown1 hg1 hblk1 hb2)
      have HO := Lib.hid hown1; clear hown1 hg1 hblk1
      go_round
      case rel => exact ⟨f + (m + 1), acc ++ [s.extract f (f + m)], by omega, rfl, by rw [List.length_append, ← HQ.out]; simp; omega, HS.out, hb2, by rw [List.length_append, ← HQ.out, List.map_append]; simpa using HO.out⟩
      case measure => exact hms

end Go.Proofs.YtaebofpgdonnbaaDoor
