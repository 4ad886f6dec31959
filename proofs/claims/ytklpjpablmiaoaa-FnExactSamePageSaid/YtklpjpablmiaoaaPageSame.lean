/- Contracts: slices of numbers and pages compared. -/
import Derived.Test.YtklpjpablmiaoaaPageFn
set_option linter.unusedVariables false
set_option linter.unusedSimpArgs false
namespace Go.Proofs.Ytklpjpablmiaoaa
open Go.RowKit

theorem same_step {l l' : List Int} {k : Nat} {x y : Int} (h : l.take k = l'.take k) (hx : l[k]? = some x) (hy : l'[k]? = some y) (e : x = y) : l.take (k + 1) = l'.take (k + 1) := by
  rw [take_snoc' l k x hx, take_snoc' l' k y hy, h, e]
theorem same_not {l l' : List Int} {k : Nat} {x y : Int} (hx : l[k]? = some x) (hy : l'[k]? = some y) (e : ¬ x = y) : ¬ l = l' := fun h => by subst h; rw [hx] at hy; injection hy with hy; exact e hy

set_option maxHeartbeats 400000 in
theorem sameNumbers_c (A A' : Option Addr) (n n' c c' : Nat) (l l' : List Int) (w : World) (hn : l.length = n) (hm : n ≤ 1048576) (hr : Rd w w.heap.size 1 icell A l) (hn' : l'.length = n') (hm' : n' ≤ 1048576) (hr' : Rd w w.heap.size 1 icell A' l') :
    Calls Try.prog 47 #[.slice A n c, .slice A' n' c'] w fun e w' => e = .returned (.bool (decide (l = l'))) ∧ Below w.heap.size w w' := by
  have HN := Lib.hid hn; clear hn
  have HM := Lib.hid hn'; clear hn'
  by_cases hne : n = n'
  · subst hne
    go_enter Try.func47, Try.ntmps47
    go_wp2
    go_loopw [13] (fun i wr => ∃ k : Nat, k ≤ n ∧ i = .int .i64 k ∧ l.take k = l'.take k ∧ ∃ m, wr = w.drewN m) (fun i _ => n - (intOf i).toNat)
    case atStart => exact ⟨0, Nat.zero_le _, rfl, by simp, 0, rfl⟩
    case round =>
      obtain ⟨k, hk, rfl, ht, m, rfl⟩ := hrel
      have HT := Lib.hid ht; clear ht
      by_cases hlt : k < n
      · obtain ⟨b, off, rfl, _, hc⟩ := hr.ints' (by rw [HN.out]; omega)
        obtain ⟨b', off', rfl, _, hc'⟩ := hr'.ints' (by rw [HM.out]; omega)
        obtain ⟨x, hx⟩ := get_ex l k (by rw [HN.out]; omega)
        obtain ⟨y, hy⟩ := get_ex l' k (by rw [HM.out]; omega)
        have g1 := hc k x hx
        have g2 := hc' k y hy
        have HX := Lib.hid hx; clear hx
        have HY := Lib.hid hy; clear hy
        clear hc hc'
        by_cases hxy : x = y
        · subst hxy
          go_wp2
          go_quiet (fail)
          go_wp2
          (first | (refine ⟨?_, ?_⟩; rotate_left; (simp [intOf]; omega); (repeat apply Exists.intro); refine ⟨?_, rfl⟩; exact ⟨k + 1, by omega, by go_num, same_step HT.out HX.out HY.out rfl, m + nq, by first | rfl | rw [World.drewN_drewN]⟩) | exact ⟨⟨k + 1, by omega, by go_num, same_step HT.out HX.out HY.out rfl, m + nq, by first | rfl | rw [World.drewN_drewN]⟩, by simp [intOf]; omega⟩)
        · have hd : (x == y) = false := by simp [hxy]
          have HZ := Lib.hid (same_not HX.out HY.out hxy)
          go_wp2
          go_quiet (fail)
          go_wp2
          go_ret
          refine ⟨ret_bool (by simp [HZ.out]), ?_⟩
          (repeat' (first | (with_reducible exact Below.refl _ _) | (with_reducible assumption) | (with_reducible refine below_drewN ?_ _) | (with_reducible refine Below.drew ?_) | (with_reducible refine Below.alloc ?_ ?_ _) | (with_reducible refine Below.setCell ?_ ?_ _) | (with_reducible refine via (by with_reducible assumption) ?_ ?_) | go_size))
      · have hkn : k = n := by omega
        subst hkn
        have h1 := HT.out
        rw [List.take_of_length_le (by rw [HN.out]; omega), List.take_of_length_le (by rw [HM.out]; omega)] at h1
        have H1 := Lib.hid h1; clear h1
        go_wp2
        go_ret
        refine ⟨ret_bool (by simp [H1.out]), ?_⟩
        (repeat' (first | (with_reducible exact Below.refl _ _) | (with_reducible assumption) | (with_reducible refine below_drewN ?_ _) | (with_reducible refine Below.drew ?_) | (with_reducible refine Below.alloc ?_ ?_ _) | (with_reducible refine Below.setCell ?_ ?_ _) | (with_reducible refine via (by with_reducible assumption) ?_ ?_) | go_size))
  · have HZ := Lib.hid (show ¬ l = l' from fun h => hne (by rw [← HN.out, ← HM.out, h]))
    go_enter Try.func47, Try.ntmps47
    go_wp2
    go_ret
    refine ⟨ret_bool (by simp [HZ.out]), ?_⟩
    (repeat' (first | (with_reducible exact Below.refl _ _) | (with_reducible assumption) | (with_reducible refine below_drewN ?_ _) | (with_reducible refine Below.drew ?_) | (with_reducible refine Below.alloc ?_ ?_ _) | (with_reducible refine Below.setCell ?_ ?_ _) | (with_reducible refine via (by with_reducible assumption) ?_ ?_) | go_size))

set_option maxHeartbeats 400000 in
theorem l00Same_c (A A' : Option Addr) (n n' c c' : Nat) (l l' : List Int) (w : World) (hn : l.length = n) (hm : n ≤ 1048576) (hr : Rd w w.heap.size 1 icell A l) (hn' : l'.length = n') (hm' : n' ≤ 1048576) (hr' : Rd w w.heap.size 1 icell A' l') :
    Calls Try.prog 46 #[.slice A n c, .slice A' n' c'] w fun e w' => e = .returned (.bool (decide (l = l'))) ∧ Below w.heap.size w w' := by
  have HN := Lib.hid hn; clear hn
  have HM := Lib.hid hn'; clear hn'
  by_cases hne : n = n'
  · subst hne
    go_enter Try.func46, Try.ntmps46
    go_wp2
    go_loopw [5] (fun i wr => ∃ k : Nat, k ≤ n ∧ i = .int .i64 k ∧ l.take k = l'.take k ∧ ∃ m, wr = w.drewN m) (fun i _ => n - (intOf i).toNat)
    case atStart => exact ⟨0, Nat.zero_le _, rfl, by simp, 0, rfl⟩
    case round =>
      obtain ⟨k, hk, rfl, ht, m, rfl⟩ := hrel
      have HT := Lib.hid ht; clear ht
      by_cases hlt : k < n
      · obtain ⟨b, off, rfl, _, hc⟩ := hr.ints' (by rw [HN.out]; omega)
        obtain ⟨b', off', rfl, _, hc'⟩ := hr'.ints' (by rw [HM.out]; omega)
        obtain ⟨x, hx⟩ := get_ex l k (by rw [HN.out]; omega)
        obtain ⟨y, hy⟩ := get_ex l' k (by rw [HM.out]; omega)
        have g1 := hc k x hx
        have g2 := hc' k y hy
        have HX := Lib.hid hx; clear hx
        have HY := Lib.hid hy; clear hy
        clear hc hc'
        by_cases hxy : x = y
        · subst hxy
          go_wp2
          go_quiet (fail)
          go_wp2
          (first | (refine ⟨?_, ?_⟩; rotate_left; (simp [intOf]; omega); (repeat apply Exists.intro); refine ⟨?_, rfl⟩; exact ⟨k + 1, by omega, by go_num, same_step HT.out HX.out HY.out rfl, m + nq, by first | rfl | rw [World.drewN_drewN]⟩) | exact ⟨⟨k + 1, by omega, by go_num, same_step HT.out HX.out HY.out rfl, m + nq, by first | rfl | rw [World.drewN_drewN]⟩, by simp [intOf]; omega⟩)
        · have hd : (x == y) = false := by simp [hxy]
          have HZ := Lib.hid (same_not HX.out HY.out hxy)
          go_wp2
          go_quiet (fail)
          go_wp2
          go_ret
          refine ⟨ret_bool (by simp [HZ.out]), ?_⟩
          (repeat' (first | (with_reducible exact Below.refl _ _) | (with_reducible assumption) | (with_reducible refine below_drewN ?_ _) | (with_reducible refine Below.drew ?_) | (with_reducible refine Below.alloc ?_ ?_ _) | (with_reducible refine Below.setCell ?_ ?_ _) | (with_reducible refine via (by with_reducible assumption) ?_ ?_) | go_size))
      · have hkn : k = n := by omega
        subst hkn
        have h1 := HT.out
        rw [List.take_of_length_le (by rw [HN.out]; omega), List.take_of_length_le (by rw [HM.out]; omega)] at h1
        have H1 := Lib.hid h1; clear h1
        go_wp2
        go_ret
        refine ⟨ret_bool (by simp [H1.out]), ?_⟩
        (repeat' (first | (with_reducible exact Below.refl _ _) | (with_reducible assumption) | (with_reducible refine below_drewN ?_ _) | (with_reducible refine Below.drew ?_) | (with_reducible refine Below.alloc ?_ ?_ _) | (with_reducible refine Below.setCell ?_ ?_ _) | (with_reducible refine via (by with_reducible assumption) ?_ ?_) | go_size))
  · have HZ := Lib.hid (show ¬ l = l' from fun h => hne (by rw [← HN.out, ← HM.out, h]))
    go_enter Try.func46, Try.ntmps46
    go_wp2
    go_ret
    refine ⟨ret_bool (by simp [HZ.out]), ?_⟩
    (repeat' (first | (with_reducible exact Below.refl _ _) | (with_reducible assumption) | (with_reducible refine below_drewN ?_ _) | (with_reducible refine Below.drew ?_) | (with_reducible refine Below.alloc ?_ ?_ _) | (with_reducible refine Below.setCell ?_ ?_ _) | (with_reducible refine via (by with_reducible assumption) ?_ ?_) | go_size))

def sameP (s : ByteArray) (f t : Int) (l : List Int) (s' : ByteArray) (f' t' : Int) (l' : List Int) : Bool := (s.toList == s'.toList) && decide (f = f') && decide (t = t') && decide (l = l')

set_option maxHeartbeats 1000000 in
theorem SamePageI_c (s : ByteArray) (f t : Int) (A : Option Addr) (n c : Nat) (l : List Int) (s' : ByteArray) (f' t' : Int) (A' : Option Addr) (n' c' : Nat) (l' : List Int) (w : World) (hn : l.length = n) (hm : n ≤ 1048576) (hr : Rd w w.heap.size 1 icell A l) (hn' : l'.length = n') (hm' : n' ≤ 1048576) (hr' : Rd w w.heap.size 1 icell A' l') :
    Calls Try.prog 19 #[pg s f t A n c, pg s' f' t' A' n' c'] w fun e w' => e = .returned (.bool (sameP s f t l s' f' t' l')) ∧ Below w.heap.size w w' := by
  have HN := Lib.hid hn; clear hn
  have HM := Lib.hid hn'; clear hn'
  unfold pg
  cases h1 : (s.toList == s'.toList)
  · have H1 := Lib.hid h1
    go_enter Try.func19, Try.ntmps19
    go_wp2_with fail
    go_ret
    refine ⟨ret_bool (by unfold sameP; rw [H1.out]; rfl), ?_⟩
    (repeat' (first | (with_reducible exact Below.refl _ _) | (with_reducible assumption) | (with_reducible refine below_drewN ?_ _) | (with_reducible refine Below.drew ?_) | (with_reducible refine Below.alloc ?_ ?_ _) | (with_reducible refine Below.setCell ?_ ?_ _) | (with_reducible refine via (by with_reducible assumption) ?_ ?_) | go_size))
  · have H1 := Lib.hid h1
    by_cases h2 : f = f'
    · subst h2
      by_cases h3 : t = t'
      · subst h3
        go_enter Try.func19, Try.ntmps19
        go_wp2_with fail
        refine (sameNumbers_c A A' n n' c c' l l' _ HN.out hm ?_ HM.out hm' ?_).mono ?_
        · refine Rd.mono (Rd.below hr (B := w.heap.size) ?_) (by go_size)
          (repeat' (first | (with_reducible exact Below.refl _ _) | (with_reducible assumption) | (with_reducible refine below_drewN ?_ _) | (with_reducible refine Below.drew ?_) | (with_reducible refine Below.alloc ?_ ?_ _) | (with_reducible refine Below.setCell ?_ ?_ _) | (with_reducible refine via (by with_reducible assumption) ?_ ?_) | go_size))
        · refine Rd.mono (Rd.below hr' (B := w.heap.size) ?_) (by go_size)
          (repeat' (first | (with_reducible exact Below.refl _ _) | (with_reducible assumption) | (with_reducible refine below_drewN ?_ _) | (with_reducible refine Below.drew ?_) | (with_reducible refine Below.alloc ?_ ?_ _) | (with_reducible refine Below.setCell ?_ ?_ _) | (with_reducible refine via (by with_reducible assumption) ?_ ?_) | go_size))
        rintro e w1 ⟨rfl, hb1⟩
        obtain ⟨hc1, hf1⟩ := bcell hb1; have hz1 := hb1.size; (try simp only [World.size_alloc, size_drewN, World.size_setCell, World.size_drew] at hz1 hc1 hf1)
        go_wp2_with fail
        go_ret
        refine ⟨ret_bool (by unfold sameP; rw [H1.out]; simp), ?_⟩
        (repeat' (first | (with_reducible exact Below.refl _ _) | (with_reducible assumption) | (with_reducible refine below_drewN ?_ _) | (with_reducible refine Below.drew ?_) | (with_reducible refine Below.alloc ?_ ?_ _) | (with_reducible refine Below.setCell ?_ ?_ _) | (with_reducible refine via (by with_reducible assumption) ?_ ?_) | go_size))
      · have q3 : (t == t') = false := by simp [h3]
        go_enter Try.func19, Try.ntmps19
        go_wp2_with fail
        go_ret
        refine ⟨ret_bool (by unfold sameP; rw [H1.out]; simp [h3]), ?_⟩
        (repeat' (first | (with_reducible exact Below.refl _ _) | (with_reducible assumption) | (with_reducible refine below_drewN ?_ _) | (with_reducible refine Below.drew ?_) | (with_reducible refine Below.alloc ?_ ?_ _) | (with_reducible refine Below.setCell ?_ ?_ _) | (with_reducible refine via (by with_reducible assumption) ?_ ?_) | go_size))
    · have q3 : (f == f') = false := by simp [h2]
      go_enter Try.func19, Try.ntmps19
      go_wp2_with fail
      go_ret
      refine ⟨ret_bool (by unfold sameP; rw [H1.out]; simp [h2]), ?_⟩
      (repeat' (first | (with_reducible exact Below.refl _ _) | (with_reducible assumption) | (with_reducible refine below_drewN ?_ _) | (with_reducible refine Below.drew ?_) | (with_reducible refine Below.alloc ?_ ?_ _) | (with_reducible refine Below.setCell ?_ ?_ _) | (with_reducible refine via (by with_reducible assumption) ?_ ?_) | go_size))

set_option maxHeartbeats 1000000 in
theorem SamePageS_c (s : ByteArray) (f t : Int) (A : Option Addr) (n c : Nat) (l : List Int) (s' : ByteArray) (f' t' : Int) (A' : Option Addr) (n' c' : Nat) (l' : List Int) (w : World) (hn : l.length = n) (hm : n ≤ 1048576) (hr : Rd w w.heap.size 1 icell A l) (hn' : l'.length = n') (hm' : n' ≤ 1048576) (hr' : Rd w w.heap.size 1 icell A' l') :
    Calls Try.prog 17 #[pg s f t A n c, pg s' f' t' A' n' c'] w fun e w' => e = .returned (.bool (sameP s f t l s' f' t' l')) ∧ Below w.heap.size w w' := by
  have HN := Lib.hid hn; clear hn
  have HM := Lib.hid hn'; clear hn'
  unfold pg
  cases h1 : (s.toList == s'.toList)
  · have H1 := Lib.hid h1
    go_enter Try.func17, Try.ntmps17
    go_wp2_with fail
    go_ret
    refine ⟨ret_bool (by unfold sameP; rw [H1.out]; rfl), ?_⟩
    (repeat' (first | (with_reducible exact Below.refl _ _) | (with_reducible assumption) | (with_reducible refine below_drewN ?_ _) | (with_reducible refine Below.drew ?_) | (with_reducible refine Below.alloc ?_ ?_ _) | (with_reducible refine Below.setCell ?_ ?_ _) | (with_reducible refine via (by with_reducible assumption) ?_ ?_) | go_size))
  · have H1 := Lib.hid h1
    by_cases h2 : f = f'
    · subst h2
      by_cases h3 : t = t'
      · subst h3
        go_enter Try.func17, Try.ntmps17
        go_wp2_with fail
        refine (l00Same_c A A' n n' c c' l l' _ HN.out hm ?_ HM.out hm' ?_).mono ?_
        · refine Rd.mono (Rd.below hr (B := w.heap.size) ?_) (by go_size)
          (repeat' (first | (with_reducible exact Below.refl _ _) | (with_reducible assumption) | (with_reducible refine below_drewN ?_ _) | (with_reducible refine Below.drew ?_) | (with_reducible refine Below.alloc ?_ ?_ _) | (with_reducible refine Below.setCell ?_ ?_ _) | (with_reducible refine via (by with_reducible assumption) ?_ ?_) | go_size))
        · refine Rd.mono (Rd.below hr' (B := w.heap.size) ?_) (by go_size)
          (repeat' (first | (with_reducible exact Below.refl _ _) | (with_reducible assumption) | (with_reducible refine below_drewN ?_ _) | (with_reducible refine Below.drew ?_) | (with_reducible refine Below.alloc ?_ ?_ _) | (with_reducible refine Below.setCell ?_ ?_ _) | (with_reducible refine via (by with_reducible assumption) ?_ ?_) | go_size))
        rintro e w1 ⟨rfl, hb1⟩
        obtain ⟨hc1, hf1⟩ := bcell hb1; have hz1 := hb1.size; (try simp only [World.size_alloc, size_drewN, World.size_setCell, World.size_drew] at hz1 hc1 hf1)
        go_wp2_with fail
        go_ret
        refine ⟨ret_bool (by unfold sameP; rw [H1.out]; simp), ?_⟩
        (repeat' (first | (with_reducible exact Below.refl _ _) | (with_reducible assumption) | (with_reducible refine below_drewN ?_ _) | (with_reducible refine Below.drew ?_) | (with_reducible refine Below.alloc ?_ ?_ _) | (with_reducible refine Below.setCell ?_ ?_ _) | (with_reducible refine via (by with_reducible assumption) ?_ ?_) | go_size))
      · have q3 : (t == t') = false := by simp [h3]
        go_enter Try.func17, Try.ntmps17
        go_wp2_with fail
        go_ret
        refine ⟨ret_bool (by unfold sameP; rw [H1.out]; simp [h3]), ?_⟩
        (repeat' (first | (with_reducible exact Below.refl _ _) | (with_reducible assumption) | (with_reducible refine below_drewN ?_ _) | (with_reducible refine Below.drew ?_) | (with_reducible refine Below.alloc ?_ ?_ _) | (with_reducible refine Below.setCell ?_ ?_ _) | (with_reducible refine via (by with_reducible assumption) ?_ ?_) | go_size))
    · have q3 : (f == f') = false := by simp [h2]
      go_enter Try.func17, Try.ntmps17
      go_wp2_with fail
      go_ret
      refine ⟨ret_bool (by unfold sameP; rw [H1.out]; simp [h2]), ?_⟩
      (repeat' (first | (with_reducible exact Below.refl _ _) | (with_reducible assumption) | (with_reducible refine below_drewN ?_ _) | (with_reducible refine Below.drew ?_) | (with_reducible refine Below.alloc ?_ ?_ _) | (with_reducible refine Below.setCell ?_ ?_ _) | (with_reducible refine via (by with_reducible assumption) ?_ ?_) | go_size))

end Go.Proofs.Ytklpjpablmiaoaa
