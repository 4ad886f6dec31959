/- The walk of FnExactReadFraction. -/
import Derived.Test.YtphckllloiogjaaDoorRFrac3
import Derived.Test.YtphckllloiogjaaDoorOpen
set_option linter.unusedVariables false
set_option linter.unusedSimpArgs false
namespace Go.Proofs.YtphckllloiogjaaDoor
open Go.RowKit

theorem first_or (s : ByteArray) (c : Int) : ∀ n, (∀ j, j < n → ¬ byteAt s j = c) ∨ ∃ m, m < n ∧ byteAt s m = c ∧ ∀ j, j < m → ¬ byteAt s j = c
  | 0 => .inl fun j hj => by omega
  | n + 1 => by
    rcases first_or s c n with h | ⟨m, h1, h2, h3⟩
    · by_cases hn : byteAt s n = c
      · exact .inr ⟨n, Nat.lt_succ_self n, hn, h⟩
      · refine .inl fun j hj => ?_
        by_cases hj' : j = n
        · rw [hj']; exact hn
        · exact h j (by omega)
    · exact .inr ⟨m, by omega, h2, h3⟩
/-- both read the same -/
theorem rf_both (s : ByteArray) (hs : s.size ≤ 1048576) : ∃ R : (Int × Int) × Bool,
    (∀ w : World, Calls Tryd.prog 8 #[.string s] w fun e w' => e = .returned (.tuple #[fr R.1, .bool R.2]) ∧ Below w.heap.size w w') ∧
    (∀ w : World, Tab w → Calls Tryd.prog 9 #[.string s] w fun e w' => e = .returned (.tuple #[fr R.1, .bool R.2]) ∧ Below w.heap.size w w') := by
  rcases first_or s 47 s.size with h | ⟨m, hm, hb, h⟩
  · exact ⟨_, fun w => ReadFractionS_no s h w hs, fun w ht => ReadFractionI_no s h w hs ht⟩
  · by_cases hm2 : ∃ i, m < i ∧ i < s.size ∧ byteAt s i = 47
    · obtain ⟨i, h1, h2, h3⟩ := hm2
      exact ⟨_, fun w => ReadFractionS_more s m i hm hb h h1 h2 h3 w hs, fun w ht => ReadFractionI_at s m hm hb h w hs ht⟩
    · exact ⟨_, fun w => ReadFractionS_at s m hm hb h (fun j h1 h2 h3 => hm2 ⟨j, h1, h2, h3⟩) w hs, fun w ht => ReadFractionI_at s m hm hb h w hs ht⟩

set_option maxHeartbeats 1000000 in
theorem fnExactReadFraction_walk (w : World) (ht : Tab w) (s : ByteArray) (ws : s.size ≤ maxLen) :
    Calls Tryd.prog 4 #[.string s] w fun e w' => e = .returned (.bool true) ∧ Below w.heap.size w w' := by
  have HT := Lib.hid ht; clear ht
  unfold maxLen at ws
  by_cases hs : 1048576 < s.size
  · go_enter Tryd.func4, Tryd.ntmps4
    go_wp2_with fail
    go_ret
    exact ⟨rfl, Below.refl _ _⟩
  obtain ⟨⟨⟨a, b⟩, q⟩, hS, hI⟩ := rf_both s (by omega)
  simp only [fr] at hS hI
  have HS := Lib.hid hS; clear hS
  have HI := Lib.hid hI; clear hI
  have heq := eqFraction_c (a, b)
  simp only [fr] at heq
  have HQ := Lib.hid heq; clear heq
  go_enter Tryd.func4, Tryd.ntmps4
  go_wp2_with fail
  refine (HS.out w).mono ?_
  rintro e w1 ⟨rfl, hb1⟩
  obtain ⟨hc1, hf1⟩ := bcell hb1; have hz1 := hb1.size; (try simp only [World.size_alloc, size_drewN, World.size_setCell, World.size_drew] at hz1 hc1 hf1)
  have hbw1 : Below w.heap.size w w1 := by (repeat' (first | (with_reducible exact Below.refl _ _) | (with_reducible assumption) | (with_reducible refine below_drewN ?_ _) | (with_reducible refine Below.drew ?_) | (with_reducible refine Below.alloc ?_ ?_ _) | (with_reducible refine Below.setCell ?_ ?_ _) | (with_reducible refine via (by with_reducible assumption) ?_ ?_) | go_size))
  go_wp2_with fail
  refine (HI.out _ (HT.out.below (by (repeat' (first | (with_reducible exact Below.refl _ _) | (with_reducible assumption) | (with_reducible refine below_drewN ?_ _) | (with_reducible refine Below.drew ?_) | (with_reducible refine Below.alloc ?_ ?_ _) | (with_reducible refine Below.setCell ?_ ?_ _) | (with_reducible refine via (by with_reducible assumption) ?_ ?_) | go_size))))).mono ?_
  rintro e w2 ⟨rfl, hb2⟩
  obtain ⟨hc2, hf2⟩ := bcell hb2; have hz2 := hb2.size; (try simp only [World.size_alloc, size_drewN, World.size_setCell, World.size_drew] at hz2 hc2 hf2); have hl2_0 := far (show w1.heap.size < w2.heap.size by omega)
  go_wp2_with fail
  refine (HQ.out _).mono ?_
  rintro e w3 ⟨rfl, hb3⟩
  obtain ⟨hc3, hf3⟩ := bcell hb3; have hz3 := hb3.size; (try simp only [World.size_alloc, size_drewN, World.size_setCell, World.size_drew] at hz3 hc3 hf3); have hl3_0 := far (show w1.heap.size < w3.heap.size by omega); have hl3_1 := far (show w2.heap.size < w3.heap.size by omega)
  cases q
  · go_wp2_with fail
    go_ret
    refine ⟨rfl, ?_⟩
    (repeat' (first | (with_reducible exact Below.refl _ _) | (with_reducible assumption) | (with_reducible refine below_drewN ?_ _) | (with_reducible refine Below.drew ?_) | (with_reducible refine Below.alloc ?_ ?_ _) | (with_reducible refine Below.setCell ?_ ?_ _) | (with_reducible refine via (by with_reducible assumption) ?_ ?_) | go_size))
  · go_wp2_with fail
    go_ret
    refine ⟨rfl, ?_⟩
    (repeat' (first | (with_reducible exact Below.refl _ _) | (with_reducible assumption) | (with_reducible refine below_drewN ?_ _) | (with_reducible refine Below.drew ?_) | (with_reducible refine Below.alloc ?_ ?_ _) | (with_reducible refine Below.setCell ?_ ?_ _) | (with_reducible refine via (by with_reducible assumption) ?_ ?_) | go_size))

end Go.Proofs.YtphckllloiogjaaDoor
