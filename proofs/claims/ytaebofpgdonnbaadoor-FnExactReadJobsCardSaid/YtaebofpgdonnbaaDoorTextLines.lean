/- Contracts: the lines of a text, by the program. -/
import Derived.Test.YtaebofpgdonnbaaDoorTextL0
set_option linter.unusedVariables false
set_option linter.unusedSimpArgs false
namespace Go.Proofs.YtaebofpgdonnbaaDoor
open Go.RowKit

set_option maxRecDepth 100000 in
set_option maxHeartbeats 4000000 in
theorem textLines_c (s : ByteArray) (w : World) (hs : s.size ≤ 1048576) :
    Calls Tryd.prog 67 #[.string s] w fun e w' => ∃ v, e = .returned (.tuple #[v, .bool (tlOk (splL s 10))]) ∧ (tlOk (splL s 10) = true → w'.ownsRow w.heap.size 9 1 v (splL s 10).dropLast.length ((splL s 10).dropLast.map Value.string)) ∧ Below w.heap.size w w' := by
  obtain ⟨i0, hi0, hy0, hy1, hy2⟩ := info_parts info_str
  have hown0 : (w.alloc (.cells #[] 9)).ownsRow w.heap.size 9 1 (.slice (some ⟨w.heap.size, 0, none⟩) 0 0) 0 [] := World.ownsRow_made w #[] 0 (Nat.le_refl _) (by simp [maxLen]) (by simp)
  go_enter Tryd.func67, Tryd.ntmps67
  go_wp2_with fail
  go_loopw [0, 4] (fun x o wr => ∃ (f : Nat) (acc : List ByteArray), f ≤ s.size ∧ x = .string (s.extract f s.size) ∧ acc.length ≤ f ∧ spl s 10 f = (acc, f) ∧ Below w.heap.size w wr ∧ wr.ownsRow w.heap.size 9 1 o acc.length (acc.map Value.string)) (fun x _ _ => match x with | .string b => b.size | _ => 0)
  case atStart => exact ⟨0, [], Nat.zero_le _, by rw [ByteArray.extract_zero_size], Nat.le_refl _, rfl, by (repeat' (first | (with_reducible exact Below.refl _ _) | (with_reducible assumption) | (with_reducible refine below_drewN ?_ _) | (with_reducible refine Below.drew ?_) | (with_reducible refine Below.alloc ?_ ?_ _) | (with_reducible refine Below.setCell ?_ ?_ _) | (with_reducible refine via (by with_reducible assumption) ?_ ?_) | go_size)), by simpa using hown0⟩
  case round =>
    clear hown0
    obtain ⟨f, acc, hf, rfl, hal, hsp, hb, hx⟩ := hrel
    have HX := Lib.hid hx; clear hx
    have HSP := Lib.hid hsp; clear hsp
    have hbs := hb.size
    obtain ⟨q, hq⟩ : ∃ q, q = acc.length := ⟨_, rfl⟩
    rw [← hq] at HX hal
    have HQ := Lib.hid hq; clear hq
    have hts : (s.extract f s.size).size = s.size - f := by rw [ByteArray.size_extract]; omega
    have HTS := Lib.hid hts
    by_cases hfe : f = s.size
    · have hL := spl_all s 10 acc f HSP.out hfe
      have HO := Lib.hid (show tlOk (splL s 10) = true by rw [hL]; unfold tlOk; simp)
      have HD := Lib.hid (show (splL s 10).dropLast = acc by rw [hL]; simp)
      have e1 : s.extract f s.size = ByteArray.empty := by
        apply ByteArray.ext
        rw [hfe]
        simp [ByteArray.data_extract]
      rw [e1]
      clear hL hfe
      obtain ⟨oA, oc, rfl, _⟩ := own_form HX.out
      go_wp2_with fail
      refine bodyPost_ret (v := .tuple #[.slice oA q oc, .bool true]) (by simp only [results, Tryd.results67]; go_simp) rfl ⟨_, by rw [HO.out], fun _ => by rw [HD.out, ← HQ.out]; exact HX.out, hb⟩
    · have hne : ¬ (s.extract f s.size).size = 0 := by omega
      have h1 : (s.extract f s.size).toList.isEmpty = false := by rw [size_toList]; exact decide_eq_false hne
      rcases firstAt (s.extract f s.size) 10 (s.extract f s.size).size with h | ⟨m, hm, hbm, h⟩
      · have hL : splL s 10 = acc ++ [s.extract f s.size] := by
          unfold splL
          rw [show spl s 10 s.size = (acc, f) from by
            have := spl_stay HSP.out (s.size - f) (fun j h3 h4 => by
              have h5 := h (j - f) (by omega)
              rw [byteAt_from (by omega), show f + (j - f) = j by omega] at h5
              exact h5)
            rwa [show f + (s.size - f) = s.size by omega] at this]
        have HO := Lib.hid (show tlOk (splL s 10) = false by
          rw [hL]
          unfold tlOk
          rw [List.getLast?_append]
          show ((s.extract f s.size).size == 0) = false
          rw [beq_eq_false_iff_ne]
          exact hne)
        have HC := Lib.hid (cut_no (s.extract f s.size) 10 (hs := by omega) (h := fun j hj => h j hj))
        clear h hts hL hne
        generalize s.extract f s.size = t at *
        go_wp2_with fail
        refine (HC.out _).mono ?_
        rintro e w1 ⟨rfl, hb1⟩
        have hbw1 : Below w.heap.size w w1 := hb.trans (hb1.mono hbs)
        go_wp2_with fail
        refine bodyPost_ret (v := .tuple #[.slice none 0 0, .bool false]) (by simp only [results, Tryd.results67]; go_simp) rfl ⟨_, by rw [HO.out], fun h => (by rw [HO.out] at h; cases h), hbw1⟩
      · have hm' : f + m < s.size := by omega
        have hbm' : byteAt s (f + m) = 10 := by rw [← byteAt_from hm']; exact hbm
        have HS := Lib.hid (show spl s 10 (f + (m + 1)) = (acc ++ [s.extract f (f + m)], f + (m + 1)) by
          show spl s 10 (f + m + 1) = _
          simp only [spl]
          rw [if_pos hbm', spl_stay HSP.out m (fun j h3 h4 => by
            have h5 := h (j - f) (by omega)
            rw [byteAt_from (by omega), show f + (j - f) = j by omega] at h5
            exact h5)]
          rfl)
        have hC := cut_at (s.extract f s.size) 10 m (hs := by omega) (hm := hm) (hb := hbm) (h := fun j hj => h j hj)
        rw [ext_from_to s f m (by omega), ext_from_end s f (m + 1) (by omega)] at hC
        have HC := Lib.hid hC
        have hms : (s.extract (f + (m + 1)) s.size).size < (s.extract f s.size).size := by rw [ByteArray.size_extract, ByteArray.size_extract]; omega
        clear h hC hts hm hbm hne
        go_wp2_with fail
        refine (HC.out _).mono ?_
        rintro e w1 ⟨rfl, hb1⟩
        have HX1 := Lib.hid (own_call HX.out hb1)
        have hbw1 : Below w.heap.size w w1 := hb.trans (hb1.mono hbs)
        have hbs1 := hbw1.size
        go_wp2_with (at_builtin; refine app_list (W := w) (z := .string ByteArray.empty) (.tmp 19) (.tmp 21) rfl rfl Tryd.underlying22 hi0 hy0 hy1 hy2 rfl (by decide) (by decide) rfl (HX1.out.alloc _) rfl rfl (news1 (z := .string (s.extract f (f + m))) (by simp [go_sem])) (by simp [Value.oneCell']) (by omega) (by (repeat' (first | (with_reducible exact Below.refl _ _) | (with_reducible assumption) | (with_reducible refine below_drewN ?_ _) | (with_reducible refine Below.drew ?_) | (with_reducible refine Below.alloc ?_ ?_ _) | (with_reducible refine Below.setCell ?_ ?_ _) | (with_reducible refine via (by with_reducible assumption) ?_ ?_) | go_size))) (Nat.le_refl _) ?_; intro v1 w2 hown1 hg1 hblk1 hb2)
        have HO := Lib.hid hown1; clear hown1 hg1 hblk1
        go_round
        case rel => exact ⟨f + (m + 1), acc ++ [s.extract f (f + m)], by omega, rfl, by rw [List.length_append, ← HQ.out]; simp; omega, HS.out, hb2, by rw [List.length_append, ← HQ.out, List.map_append]; simpa using HO.out⟩
        case measure => exact hms

end Go.Proofs.YtaebofpgdonnbaaDoor
