/- Contracts: jobs marked. -/
import Derived.Test.YtaebofpgdonnbaaDoorJobs2
import Derived.Test.YtaebofpgdonnbaaDoorMark
set_option linter.unusedVariables false
set_option linter.unusedSimpArgs false
namespace Go.Proofs.YtaebofpgdonnbaaDoor
open Go.RowKit

/-- all is as it was but for the blocks from lo on and below hi -/
structure Outer (lo hi : Nat) (w w' : World) : Prop where
  os : w'.os = w.os
  tape : w'.tape = w.tape
  output : w'.output = w.output
  size : w.heap.size ≤ w'.heap.size
  block : ∀ k, k < w.heap.size → (k < lo ∨ hi ≤ k) → w'.heap[k]? = w.heap[k]?
theorem Outer.refl (lo hi : Nat) (w : World) : Outer lo hi w w := ⟨rfl, rfl, rfl, Nat.le_refl _, fun _ _ _ => rfl⟩
theorem Outer.trans {lo hi : Nat} {a b c : World} (h : Outer lo hi a b) (k : Outer lo hi b c) : Outer lo hi a c :=
  ⟨k.os.trans h.os, k.tape.trans h.tape, k.output.trans h.output, Nat.le_trans h.size k.size, fun i hi hne => (k.block i (Nat.lt_of_lt_of_le hi h.size) hne).trans (h.block i hi hne)⟩
theorem Outer.grown {lo hi : Nat} {w w' : World} {row : Option Nat} (hg : w.grownBy w' row) (hr : ∀ k, row = some k → lo ≤ k ∧ k < hi) : Outer lo hi w w' :=
  ⟨hg.os, hg.tape, hg.output, hg.size, fun i hi hne => hg.block i hi (fun e => by have := hr i e.symm; omega)⟩
theorem Outer.call {lo hi : Nat} {w w' : World} (hb : Below w.heap.size w w') : Outer lo hi w w' := ⟨hb.os, hb.tape, hb.output, hb.size, fun i hi _ => hb.block i hi⟩
theorem Outer.below {lo hi B : Nat} {W w w' : World} (h : Below B W w) (ho : Outer lo hi w w') (hB : B ≤ lo) (hs : B ≤ w.heap.size) : Below B W w' :=
  h.trans ⟨ho.os, ho.tape, ho.output, ho.size, fun i hi => ho.block i (by omega) (.inl (by omega))⟩
theorem Outer.own {lo hi : Nat} {w w' : World} {base : Nat} {e : TypeId} {size : Nat} {v : Value} {n : Nat} {xs : List Value} (h : w.ownsRow base e size v n xs) (ho : Outer lo hi w w') (hne : ∀ k, v.ownBlock = some k → k < lo ∨ hi ≤ k) : w'.ownsRow base e size v n xs := by
  obtain ⟨h1, h2⟩ := h
  refine ⟨h1, ?_⟩
  rcases h2 with h2 | ⟨g, cap, cur, hv, hg, hh, r⟩
  · exact Or.inl h2
  · refine Or.inr ⟨g, cap, cur, hv, hg, ?_, r⟩
    have hlt : g < w.heap.size := (Array.getElem?_eq_some_iff.1 hh).1
    rw [ho.block g hlt (hne g (by rw [hv]; rfl))]
    exact hh

def RetMark (k0 : Int) (n : Nat) (lo hi : Nat) (w : World) (e : Ending) (w' : World) : Prop := ∃ r : Int, e = .returned (.int .i64 r) ∧ k0 ≤ r ∧ r ≤ k0 + 1048580 * (n : Int) ∧ Outer lo hi w w'
/-- what is left of a list of jobs while it is marked -/
def JHalf (w : World) (lo hi g n : Nat) (l : List JobD) (xs : List Value) (G : Nat → Nat) : Prop := w.ownsRow lo 93 4 (.slice (some ⟨g, 0, none⟩) n n) n xs ∧
  ∀ i d, l[i]? = some d → xs[i * 4 + 3]? = some (.slice (some ⟨G i, 0, none⟩) d.needs.length d.needs.length) ∧ lo ≤ G i ∧ G i < hi ∧ G i ≠ g ∧ ∃ ys, w.ownsRow lo 2 1 (.slice (some ⟨G i, 0, none⟩) d.needs.length d.needs.length) d.needs.length ys

set_option maxHeartbeats 4000000 in
theorem markJobS_c (lo hi g n : Nat) (l : List JobD) (k0 : Int) (w : World) (hm : n ≤ 1048576) (hk0 : 1 ≤ k0 ∧ k0 ≤ 4611600000000000000) (hk : ∀ (i : Nat) (d : JobD), l[i]? = some d → d.needs.length ≤ 1048576)
    (hown : JOwn w lo hi g n l) : Calls Tryd.prog 42 #[.slice (some ⟨g, 0, none⟩) n n, .int .i64 k0] w (RetMark k0 n lo hi w) := by
  obtain ⟨hk1, hk2⟩ := hk0
  obtain ⟨a1, a2, a3, hn, xs0, G, h4, hG, h5⟩ := hown
  have HN := Lib.hid hn; clear hn
  have HK := Lib.hid hk; clear hk
  have HGM := Lib.hid hG; clear hG
  have hst : JHalf w lo hi g n l xs0 G := ⟨h4, fun i d hi => by
    obtain ⟨_, _, _, x3, y1, y2, y3, y4⟩ := h5 i d hi
    exact ⟨x3, y1, y2, y3, _, y4⟩⟩
  clear h4 h5
  have HST := Lib.hid hst; clear hst
  go_enter Tryd.func42, Tryd.ntmps42
  go_wp2
  go_loopw [1, 5] (fun q i wr => ∃ (k : Nat) (a : Int), k ≤ n ∧ i = .int .i64 k ∧ q = .int .i64 a ∧ k0 ≤ a ∧ a ≤ k0 + 1048580 * (k : Int) ∧ Outer lo hi w wr ∧ ∃ xs, JHalf wr lo hi g n l xs G) (fun _ i _ => n - (intOf i).toNat)
  case atStart => exact ⟨0, k0, Nat.zero_le _, rfl, rfl, by omega, by omega, Outer.refl _ _ _, _, HST.out⟩
  case round =>
    clear HST
    obtain ⟨k, a, hk, rfl, rfl, q1, q2, ho, xs, hj⟩ := hrel
    have HO := Lib.hid ho; clear ho
    have HJ := Lib.hid hj; clear hj
    by_cases hlt : k < n
    · obtain ⟨d, hd⟩ := get_ex l k (by rw [HN.out]; omega)
      have hkd := HK.out k d hd
      obtain ⟨x3, y1, y2, y3, ys, y4⟩ := HJ.out.2 k d hd
      have HD := Lib.hid hd; clear hd
      have hx := HJ.out.1
      have hxl : xs.length = n * 4 := hx.1
      have HX3 := Lib.hid x3; clear x3
      have HY4 := Lib.hid y4; clear y4
      have HX := Lib.hid hx; clear hx
      have HL := Lib.hid hxl; clear hxl
      have p1 : (0 : Int) ≤ (k : Int) := by omega
      have p2 : (k : Int) < (n : Int) := by omega
      go_wp2_with fail
      refine (markText_c a _ (by omega) (by omega)).mono ?_
      rintro e w1 ⟨rfl, hb1⟩
      have hx1 := own_call HX.out hb1
      have hy1 := own_call HY4.out hb1
      obtain ⟨z0, hz0⟩ : ∃ x, xs[k * 4]? = some x := ⟨_, List.getElem?_eq_getElem (by have := HL.out; omega)⟩
      obtain ⟨z1, hz1⟩ : ∃ x, xs[k * 4 + 1]? = some x := ⟨_, List.getElem?_eq_getElem (by have := HL.out; omega)⟩
      obtain ⟨z2, hz2⟩ : ∃ x, xs[k * 4 + 2]? = some x := ⟨_, List.getElem?_eq_getElem (by have := HL.out; omega)⟩
      have c0 : w1.cell? ⟨g, k * 4, none⟩ = some z0 := by rw [hx1.cellAt _ (by omega)]; exact hz0
      have c1 : w1.cell? ⟨g, k * 4 + 1, none⟩ = some z1 := by rw [hx1.cellAt _ (by omega)]; exact hz1
      have c2 : w1.cell? ⟨g, k * 4 + 2, none⟩ = some z2 := by rw [hx1.cellAt _ (by omega)]; exact hz2
      have c3 : w1.cell? ⟨g, k * 4 + 3, none⟩ = some (.slice (some ⟨G k, 0, none⟩) d.needs.length d.needs.length) := by rw [hx1.cellAt _ (by omega)]; exact HX3.out
      have f0 : w1.frozen? ⟨g, k * 4, none⟩ = false := hx1.frozenAt _
      have f1 : w1.frozen? ⟨g, k * 4 + 1, none⟩ = false := hx1.frozenAt _
      have f2 : w1.frozen? ⟨g, k * 4 + 2, none⟩ = false := hx1.frozenAt _
      have HX1 := Lib.hid hx1; clear hx1
      have HY1 := Lib.hid hy1; clear hy1 hz0 hz1 hz2
      have ho1 : Outer lo hi w w1 := HO.out.trans (Outer.call hb1)
      have HO1 := Lib.hid ho1; clear ho1
      obtain ⟨m, hmm⟩ : ∃ m, d.needs.length = m := ⟨_, rfl⟩
      rw [hmm] at c3 hkd HY1
      have HM := Lib.hid hmm; clear hmm
      go_wp2_with fail
      refine gen_calls fun V hV => ?_
      have s0 := HX1.out.stored (k * 4) (.string (mtxt a))
      have s1 := s0.1.stored (k * 4 + 1) (.int .i64 (a + 1))
      have s2 := s1.1.stored (k * 4 + 2) (.int .i64 (a + 1 + 1))
      have hgs := (s0.2.trans s1.2).trans s2.2
      have hxv := s2.1
      rw [← hV.out] at hgs hxv
      have hyv := own_ne HY1.out hgs (fun q hq hc => by simp only [Value.ownBlock, Option.some.injEq] at hq hc; omega)
      have HGS := Lib.hid hgs; clear hgs s0 s1 s2
      have HXV := Lib.hid hxv; clear hxv
      clear hV c0 c1 c2 c3 f0 f1 f2
      refine (markInt64S_c (some ⟨G k, 0, none⟩) m m (a + 1 + 1 + 1) ys lo V hkd (by omega) hyv).mono ?_
      rintro e w3 ⟨rfl, hy3, hg3⟩
      have hG3 : V.grownBy w3 (some (G k)) := hg3
      have hx3 := own_ne HXV.out hG3 (fun q hq hc => by simp only [Value.ownBlock, Option.some.injEq] at hq hc; omega)
      have ho3 : Outer lo hi w w3 := (HO1.out.trans (Outer.grown HGS.out (fun q hq => by simp only [Option.some.injEq] at hq; omega))).trans (Outer.grown hG3 (fun q hq => by simp only [Option.some.injEq] at hq; omega))
      have hj3 : JHalf w3 lo hi g n l (((xs.set (k * 4) (.string (mtxt a))).set (k * 4 + 1) (.int .i64 (a + 1))).set (k * 4 + 2) (.int .i64 (a + 1 + 1))) G := ⟨hx3, fun i d' hi' => by
        obtain ⟨x3, y1, y2, y3, ys', y4⟩ := HJ.out.2 i d' hi'
        refine ⟨?_, y1, y2, y3, ?_⟩
        · rw [List.getElem?_set_ne (by omega), List.getElem?_set_ne (by omega), List.getElem?_set_ne (by omega)]; exact x3
        · by_cases hik : i = k
          · subst hik
            have e2 := HD.out
            rw [hi'] at e2
            injection e2 with e2
            subst e2
            rw [HM.out]
            exact ⟨_, hy3⟩
          · have hin : i < n := by have := (List.getElem?_eq_some_iff.1 hi').1; rw [HN.out] at this; exact this
            have hne : G i ≠ G k := by
              rcases Nat.lt_or_ge i k with h | h
              · have := HGM.out i k h hlt; omega
              · have := HGM.out k i (by omega) hin; omega
            exact ⟨_, own_ne (own_ne (own_call y4 hb1) HGS.out (fun q hq hc => by simp only [Value.ownBlock, Option.some.injEq] at hq hc; omega)) hG3 (fun q hq hc => by simp only [Value.ownBlock, Option.some.injEq] at hq hc; omega)⟩⟩
      have HJ3 := Lib.hid hj3; clear hj3 hx3
      have HO3 := Lib.hid ho3; clear ho3 hy3 hg3 hG3
      go_wp2_with fail
      (first | (refine ⟨?_, ?_⟩; rotate_left; (first | (simp [intOf]; done) | (simp [intOf]; omega)); (repeat apply Exists.intro); refine ⟨?_, rfl⟩; exact ⟨k + 1, _, by omega, by go_num, rfl, by omega, by omega, HO3.out, _, HJ3.out⟩) | exact ⟨⟨k + 1, _, by omega, by go_num, rfl, by omega, by omega, HO3.out, _, HJ3.out⟩, by first | (simp [intOf]; done) | (simp [intOf]; omega)⟩)
    · go_wp2_with fail
      go_ret
      exact ⟨a, rfl, by omega, by omega, HO.out⟩
end Go.Proofs.YtaebofpgdonnbaaDoor
