/- Contracts: the path of a piece; what lies under a piece; both sides. -/
import Derived.Test.YtnifpmfmhilhlaaPieces5
import Derived.Test.YtnifpmfmhilhlaaPieceMath2
import Derived.Test.YtnifpmfmhilhlaaFL
set_option linter.unusedVariables false
set_option linter.unusedSimpArgs false
namespace Go.Proofs.Ytnifpmfmhilhlaa
open Go.RowKit

def pathR (l : List PieceD) (k : Int) : List Int × Int := if codeR l k = 0 then (pathP l (l.length + 1) k, 0) else ([], codeR l k)
def underR (l : List PieceD) (k : Int) : List Int × Int := if codeR l k = 0 then (undL l k.toNat l.length, 0) else ([], codeR l k)
theorem pathR_len (l : List PieceD) (k : Int) : (pathR l k).1.length ≤ 1048576 := by
  unfold pathR
  split
  · rename_i h
    have h1 := pathP_len l (l.length + 1) k
    have h2 := (valid_all (codeR_zero h).1).2.1
    simp only
    omega
  · simp
theorem underR_len (l : List PieceD) (k : Int) : (underR l k).1.length ≤ l.length := by
  unfold underR
  split
  · exact undL_len l _ _
  · simp
theorem no_ints {w : World} {base : Nat} {e : TypeId} {l : List Int} (h : l = []) : w.ownsRow base e 1 (.slice none 0 0) l.length (l.map (Value.int .i64)) := by subst h; exact World.ownsRow_nil _ _ _ _
theorem row_of {w : World} {base : Nat} {e : TypeId} {l l' : List Int} {n : Nat} {v : Value} (h : w.ownsRow base e 1 v n (l.map (Value.int .i64))) (hl : l = l') (hn : n = l'.length) : w.ownsRow base e 1 v l'.length (l'.map (Value.int .i64)) := by subst hl; subst hn; exact h

set_option maxHeartbeats 2000000 in
theorem PathOfPieceI_c (A : Option Addr) (n c : Nat) (l : List PieceD) (k : Int) (w : World) (hn : l.length = n) (hm : n ≤ 1048576) (hr : Rd w w.heap.size 4 pcell A l) (ok : ∀ d ∈ l, okP d) :
    Calls Try.prog 27 #[.slice A n c, .int .i64 k] w fun e w' => ∃ v, e = .returned (.tuple #[v, .int .i64 (pathR l k).2]) ∧ w'.ownsRow w.heap.size 2 1 v (pathR l k).1.length ((pathR l k).1.map (Value.int .i64)) ∧ Below w.heap.size w w' := by
  obtain ⟨i0, hi0, hz0, hz1, hz2⟩ := info_parts info_i64
  have HN := Lib.hid hn; clear hn
  generalize hq : codeR l k = q
  have cb := codeR_bd l k
  rw [hq] at cb
  by_cases h0 : q = 0
  rotate_left
  · have HR := Lib.hid (show pathR l k = ([], q) by unfold pathR; rw [hq, if_neg h0])
    have HQ := Lib.hid hq; clear hq
    have q1 : (q == 0) = false := by simpa using h0
    have q2 : (q != 0) = true := by simpa using h0
    go_enter Try.func27, Try.ntmps27
    go_wp2_with fail
    refine (pieceCode_c A n c l k _ HN.out hm hr ok).mono ?_
    rw [HQ.out]
    rintro e w1 ⟨rfl, hb1⟩
    go_wp2_with fail
    refine bodyPost_ret (v := .tuple #[.slice none 0 0, .int .i64 q]) (by simp only [results, Try.results27]; go_simp) rfl ⟨.slice none 0 0, by rw [HR.out], no_ints (by rw [HR.out]), hb1⟩
  subst h0
  obtain ⟨hv, k0, kn⟩ := codeR_zero hq
  obtain ⟨_, h40, hS, _⟩ := valid_all hv
  rw [HN.out] at hS kn h40
  have HS := Lib.hid hS; clear hS
  have HV := Lib.hid hv; clear hv
  have HQ := Lib.hid hq; clear hq

  have HR := Lib.hid (show pathR l k = (pathP l (n + 1) k, 0) by unfold pathR; rw [if_pos HQ.out, HN.out])
  go_enter Try.func27, Try.ntmps27
  go_wp2_with fail
  refine (pieceCode_c A n c l k _ HN.out hm hr ok).mono ?_
  rw [HQ.out]
  rintro e w1 ⟨rfl, hb1⟩
  have hb1s := hb1.size
  have hr1 := (hr.below hb1).mono hb1s
  go_wp2_with fail
  have hown0 : (w1.alloc (.cells #[] 2)).ownsRow w.heap.size 2 1 (.slice (some ⟨w1.heap.size, 0, none⟩) 0 0) 0 [] := World.ownsRow_made w1 #[] 0 hb1s (by simp [maxLen]) (by simp)
  obtain ⟨R, hRR⟩ : ∃ R, pathP l (n + 1) k = R := ⟨_, rfl⟩
  have HRR := Lib.hid hRR; clear hRR
  go_loopw [1, 7] (fun q o wr => ∃ (x : Int) (f : Nat) (acc : List Int), -1 ≤ x ∧ x < (n : Int) ∧ x < (f : Int) ∧ q = .int .i64 x ∧ (acc.length : Int) + x + 1 ≤ (n : Int) ∧ acc ++ pathP l f x = R ∧ Below w.heap.size w wr ∧ wr.ownsRow w.heap.size 2 1 o acc.length (acc.map (Value.int .i64))) (fun q _ _ => (intOf q + 1).toNat)
  case atStart => exact ⟨k, n + 1, [], by omega, by omega, by omega, rfl, by simp; omega, by rw [← HRR.out]; rfl, by (repeat' (first | (with_reducible exact Below.refl _ _) | (with_reducible assumption) | (with_reducible refine below_drewN ?_ _) | (with_reducible refine Below.drew ?_) | (with_reducible refine Below.alloc ?_ ?_ _) | (with_reducible refine Below.setCell ?_ ?_ _) | (with_reducible refine via (by with_reducible assumption) ?_ ?_) | go_size)), by simpa using hown0⟩
  case round =>
    clear hown0 hb1
    obtain ⟨x, f, acc, x1, x2, x3, rfl, hal, hac, hb, hx⟩ := hrel
    have HX := Lib.hid hx; clear hx
    have HAC := Lib.hid hac; clear hac
    have hbs := hb.size
    by_cases hlt : x < 0
    · have HF := Lib.hid (show acc = R by have := HAC.out; rwa [pathP_neg hlt, List.append_nil] at this)
      have q1 : decide (0 ≤ x) = false := by simp; omega
      have hf := own_form HX.out
      obtain ⟨vA, vc, rfl, _⟩ := hf
      go_wp2_with fail
      refine bodyPost_ret (v := .tuple #[.slice vA acc.length vc, .int .i64 0]) (by simp only [results, Try.results27]; go_simp) rfl ⟨_, by rw [HR.out], row_of HX.out (by rw [HR.out, HRR.out, HF.out]) (by rw [HR.out, HRR.out, HF.out]), hb⟩
    · obtain ⟨j, rfl⟩ := Int.eq_ofNat_of_zero_le (show 0 ≤ x by omega)
      obtain ⟨g, rfl⟩ : ∃ g, f = g + 1 := ⟨f - 1, by omega⟩
      obtain ⟨b1, off, rfl, hbl, hc⟩ := (hr.below hb).piece (by rw [HN.out]; omega)
      obtain ⟨d, hd⟩ := get_ex l j (by rw [HN.out]; omega)
      obtain ⟨g0, g1, g2, g3⟩ := hc j d hd
      have hf1 := far (show b1 < wr.heap.size by omega)
      obtain ⟨_, _, t3, t4⟩ := HS.out j (by omega)
      have HST := Lib.hid (show acc ++ [(j : Int)] ++ pathP l g d.parent = R by have := HAC.out; rw [pathP_step, getP_eq hd] at this; rw [List.append_assoc]; exact this)
      rw [getP_eq hd] at t3 t4
      obtain ⟨q, hq⟩ : ∃ q, q = acc.length := ⟨_, rfl⟩
      rw [← hq] at HX hal
      have HQQ := Lib.hid hq; clear hq
      have p1 : (0 : Int) ≤ (j : Int) := by omega
      have p2 : (j : Int) < (n : Int) := by omega
      have q1 : decide ((0 : Int) ≤ (j : Int)) = true := by simp
      clear hd hc
      go_upto_region 7 with (at_builtin; refine app_list (W := w) (z := .int .i64 0) (.tmp 17) (.tmp 19) rfl rfl Try.underlying35 hi0 hz0 hz1 hz2 rfl (by decide) (by decide) rfl (HX.out.alloc _) rfl rfl (news1 (z := .int .i64 (j : Int)) (by simp [go_sem])) (by simp [Value.oneCell']) (by omega) (by (repeat' (first | (with_reducible exact Below.refl _ _) | (with_reducible assumption) | (with_reducible refine below_drewN ?_ _) | (with_reducible refine Below.drew ?_) | (with_reducible refine Below.alloc ?_ ?_ _) | (with_reducible refine Below.setCell ?_ ?_ _) | (with_reducible refine via (by with_reducible assumption) ?_ ?_) | go_size))) (Nat.le_refl _) ?_; intro v2 w2 hown2 hg2 hblk2 hb2)
      have HO := Lib.hid hown2; clear hown2 hg2 hblk2
      have hb2' := hb2.size
      have g1' : w2.cell? ⟨b1, off + j * 4 + 1, none⟩ = some (.int .i64 d.parent) := by rw [hb2.cell (by exact hbl), ← hb.cell (by exact hbl)]; exact g1
      clear g0 g1 g2 g3
      go_wp2_with fail
      (first | (refine ⟨?_, ?_⟩; rotate_left; (simp [intOf]; omega); (repeat apply Exists.intro); refine ⟨?_, rfl⟩; exact ⟨d.parent, g, acc ++ [(j : Int)], by omega, by omega, by omega, rfl, by rw [List.length_append, ← HQQ.out]; simp; omega, HST.out, hb2, by rw [List.length_append, ← HQQ.out, List.map_append]; simpa using HO.out⟩) | exact ⟨⟨d.parent, g, acc ++ [(j : Int)], by omega, by omega, by omega, rfl, by rw [List.length_append, ← HQQ.out]; simp; omega, HST.out, hb2, by rw [List.length_append, ← HQQ.out, List.map_append]; simpa using HO.out⟩, by simp [intOf]; omega⟩)

set_option maxHeartbeats 2000000 in
theorem PathOfPieceS_c (A : Option Addr) (n c : Nat) (l : List PieceD) (k : Int) (w : World) (hn : l.length = n) (hm : n ≤ 1048576) (hr : Rd w w.heap.size 4 pcell A l) (ok : ∀ d ∈ l, okP d) :
    Calls Try.prog 26 #[.slice A n c, .int .i64 k] w fun e w' => ∃ v, e = .returned (.tuple #[v, .int .i64 (pathR l k).2]) ∧ w'.ownsRow w.heap.size 2 1 v (pathR l k).1.length ((pathR l k).1.map (Value.int .i64)) ∧ Below w.heap.size w w' := by
  obtain ⟨i0, hi0, hz0, hz1, hz2⟩ := info_parts info_i64
  have HN := Lib.hid hn; clear hn
  generalize hq : codeR l k = q
  have cb := codeR_bd l k
  rw [hq] at cb
  by_cases h0 : q = 0
  rotate_left
  · have HR := Lib.hid (show pathR l k = ([], q) by unfold pathR; rw [hq, if_neg h0])
    have HQ := Lib.hid hq; clear hq
    have q1 : (q == 0) = false := by simpa using h0
    have q2 : (q != 0) = true := by simpa using h0
    go_enter Try.func26, Try.ntmps26
    go_wp2_with fail
    refine (l21Code_c A n c l k _ HN.out hm hr ok).mono ?_
    rw [HQ.out]
    rintro e w1 ⟨rfl, hb1⟩
    go_wp2_with fail
    refine bodyPost_ret (v := .tuple #[.slice none 0 0, .int .i64 q]) (by simp only [results, Try.results26]; go_simp) rfl ⟨.slice none 0 0, by rw [HR.out], no_ints (by rw [HR.out]), hb1⟩
  subst h0
  obtain ⟨hv, k0, kn⟩ := codeR_zero hq
  obtain ⟨_, h40, hS, _⟩ := valid_all hv
  rw [HN.out] at hS kn h40
  have HS := Lib.hid hS; clear hS
  have HV := Lib.hid hv; clear hv
  have HQ := Lib.hid hq; clear hq

  have HR := Lib.hid (show pathR l k = (pathP l (n + 1) k, 0) by unfold pathR; rw [if_pos HQ.out, HN.out])
  go_enter Try.func26, Try.ntmps26
  go_wp2_with fail
  refine (l21Code_c A n c l k _ HN.out hm hr ok).mono ?_
  rw [HQ.out]
  rintro e w1 ⟨rfl, hb1⟩
  have hb1s := hb1.size
  have hr1 := (hr.below hb1).mono hb1s
  go_wp2_with fail
  have hown0 : (w1.alloc (.cells #[] 2)).ownsRow w.heap.size 2 1 (.slice (some ⟨w1.heap.size, 0, none⟩) 0 0) 0 [] := World.ownsRow_made w1 #[] 0 hb1s (by simp [maxLen]) (by simp)
  obtain ⟨R, hRR⟩ : ∃ R, pathP l (n + 1) k = R := ⟨_, rfl⟩
  have HRR := Lib.hid hRR; clear hRR
  go_loopw [1, 7] (fun q o wr => ∃ (x : Int) (f : Nat) (acc : List Int), -1 ≤ x ∧ x < (n : Int) ∧ x < (f : Int) ∧ q = .int .i64 x ∧ (acc.length : Int) + x + 1 ≤ (n : Int) ∧ acc ++ pathP l f x = R ∧ Below w.heap.size w wr ∧ wr.ownsRow w.heap.size 2 1 o acc.length (acc.map (Value.int .i64))) (fun q _ _ => (intOf q + 1).toNat)
  case atStart => exact ⟨k, n + 1, [], by omega, by omega, by omega, rfl, by simp; omega, by rw [← HRR.out]; rfl, by (repeat' (first | (with_reducible exact Below.refl _ _) | (with_reducible assumption) | (with_reducible refine below_drewN ?_ _) | (with_reducible refine Below.drew ?_) | (with_reducible refine Below.alloc ?_ ?_ _) | (with_reducible refine Below.setCell ?_ ?_ _) | (with_reducible refine via (by with_reducible assumption) ?_ ?_) | go_size)), by simpa using hown0⟩
  case round =>
    clear hown0 hb1
    obtain ⟨x, f, acc, x1, x2, x3, rfl, hal, hac, hb, hx⟩ := hrel
    have HX := Lib.hid hx; clear hx
    have HAC := Lib.hid hac; clear hac
    have hbs := hb.size
    by_cases hlt : x < 0
    · have HF := Lib.hid (show acc = R by have := HAC.out; rwa [pathP_neg hlt, List.append_nil] at this)
      have q1 : decide (0 ≤ x) = false := by simp; omega
      have hf := own_form HX.out
      obtain ⟨vA, vc, rfl, _⟩ := hf
      go_wp2_with fail
      refine bodyPost_ret (v := .tuple #[.slice vA acc.length vc, .int .i64 0]) (by simp only [results, Try.results26]; go_simp) rfl ⟨_, by rw [HR.out], row_of HX.out (by rw [HR.out, HRR.out, HF.out]) (by rw [HR.out, HRR.out, HF.out]), hb⟩
    · obtain ⟨j, rfl⟩ := Int.eq_ofNat_of_zero_le (show 0 ≤ x by omega)
      obtain ⟨g, rfl⟩ : ∃ g, f = g + 1 := ⟨f - 1, by omega⟩
      obtain ⟨b1, off, rfl, hbl, hc⟩ := (hr.below hb).piece (by rw [HN.out]; omega)
      obtain ⟨d, hd⟩ := get_ex l j (by rw [HN.out]; omega)
      obtain ⟨g0, g1, g2, g3⟩ := hc j d hd
      have hf1 := far (show b1 < wr.heap.size by omega)
      obtain ⟨_, _, t3, t4⟩ := HS.out j (by omega)
      have HST := Lib.hid (show acc ++ [(j : Int)] ++ pathP l g d.parent = R by have := HAC.out; rw [pathP_step, getP_eq hd] at this; rw [List.append_assoc]; exact this)
      rw [getP_eq hd] at t3 t4
      obtain ⟨q, hq⟩ : ∃ q, q = acc.length := ⟨_, rfl⟩
      rw [← hq] at HX hal
      have HQQ := Lib.hid hq; clear hq
      have p1 : (0 : Int) ≤ (j : Int) := by omega
      have p2 : (j : Int) < (n : Int) := by omega
      have q1 : decide ((0 : Int) ≤ (j : Int)) = true := by simp
      clear hd hc
      go_upto_region 6 with (at_builtin; refine app_list (W := w) (z := .int .i64 0) (.tmp 22) (.tmp 24) rfl rfl Try.underlying35 hi0 hz0 hz1 hz2 rfl (by decide) (by decide) rfl (HX.out.alloc _) rfl rfl (news1 (z := .int .i64 (j : Int)) (by simp [go_sem])) (by simp [Value.oneCell']) (by omega) (by (repeat' (first | (with_reducible exact Below.refl _ _) | (with_reducible assumption) | (with_reducible refine below_drewN ?_ _) | (with_reducible refine Below.drew ?_) | (with_reducible refine Below.alloc ?_ ?_ _) | (with_reducible refine Below.setCell ?_ ?_ _) | (with_reducible refine via (by with_reducible assumption) ?_ ?_) | go_size))) (Nat.le_refl _) ?_; intro v2 w2 hown2 hg2 hblk2 hb2)
      have HO := Lib.hid hown2; clear hown2 hg2 hblk2
      have hb2' := hb2.size
      have g1' : w2.cell? ⟨b1, off + j * 4 + 1, none⟩ = some (.int .i64 d.parent) := by rw [hb2.cell (by exact hbl), ← hb.cell (by exact hbl)]; exact g1
      clear g0 g1 g2 g3
      go_wp2_with fail
      (first | (refine ⟨?_, ?_⟩; rotate_left; (simp [intOf]; omega); (repeat apply Exists.intro); refine ⟨?_, rfl⟩; exact ⟨d.parent, g, acc ++ [(j : Int)], by omega, by omega, by omega, rfl, by rw [List.length_append, ← HQQ.out]; simp; omega, HST.out, hb2, by rw [List.length_append, ← HQQ.out, List.map_append]; simpa using HO.out⟩) | exact ⟨⟨d.parent, g, acc ++ [(j : Int)], by omega, by omega, by omega, rfl, by rw [List.length_append, ← HQQ.out]; simp; omega, HST.out, hb2, by rw [List.length_append, ← HQQ.out, List.map_append]; simpa using HO.out⟩, by simp [intOf]; omega⟩)

end Go.Proofs.Ytnifpmfmhilhlaa
