/- Contracts: a page printed by the program. -/
import Derived.Test.YtaebofpgdonnbaaDoorPageText4
set_option linter.unusedVariables false
set_option linter.unusedSimpArgs false
namespace Go.Proofs.YtaebofpgdonnbaaDoor
open Go.RowKit

def linesR (s : ByteArray) (f t : Int) (l : List Int) (k : Nat) : List ByteArray := headT s f t l.length :: (List.range k).map fun (i : Nat) => rowT (f + (i : Int) * t) (l[i]?.getD 0)
def printR (s : ByteArray) (f t : Int) (l : List Int) : List ByteArray × Int := if pageB s f t l then (linesR s f t l l.length ++ [footT l], 0) else ([], 1)
theorem linesR_len (s : ByteArray) (f t : Int) (l : List Int) (k : Nat) : (linesR s f t l k).length = k + 1 := by simp [linesR]
theorem linesR_succ {s : ByteArray} {f t : Int} {l : List Int} {k : Nat} {x : Int} (h : l[k]? = some x) : linesR s f t l (k + 1) = linesR s f t l k ++ [rowT (f + (k : Int) * t) x] := by
  unfold linesR
  rw [List.range_succ, List.map_append]
  simp [h]
theorem own_base {w : World} {B B' : Nat} {e : TypeId} {size : Nat} {v : Value} {n : Nat} {xs : List Value} (h : w.ownsRow B e size v n xs) (hB : B' ≤ B) : w.ownsRow B' e size v n xs :=
  ⟨h.1, by rcases h.2 with h | ⟨g, cap, cur, hv, hg, rest⟩; exact .inl h; exact .inr ⟨g, cap, cur, hv, Nat.le_trans hB hg, rest⟩⟩
theorem pageB_parts {s : ByteArray} {f t : Int} {l : List Int} (h : pageB s f t l = true) : (-1000000 ≤ f ∧ f ≤ 1000000) ∧ (1 ≤ t ∧ t ≤ 1000) ∧ (1 ≤ l.length ∧ l.length ≤ 60) ∧ ∀ x ∈ l, -1000000000000 ≤ x ∧ x ≤ 1000000000000 := by
  unfold pageB headB at h
  simp only [Bool.and_eq_true, inB_iff, decide_eq_true_eq, List.all_eq_true] at h
  obtain ⟨⟨⟨⟨⟨_, h1⟩, h2⟩, h3⟩, _⟩, h5⟩ := h
  exact ⟨h1, h2, by omega, fun x hx => valB_iff.1 (h5 x hx)⟩

set_option maxRecDepth 100000 in
set_option maxHeartbeats 4000000 in
theorem PrintPageI_c (s : ByteArray) (f t : Int) (A : Option Addr) (n c : Nat) (l : List Int) (w : World) (hs : s.size ≤ 1048576) (hn : l.length = n) (hm : n ≤ 1048576) (hr : Rd w w.heap.size 1 icell A l) (ht : Tab w) :
    Calls Tryd.prog 24 #[pg s f t A n c] w fun e w' => ∃ v, e = .returned (.tuple #[v, .int .i64 (printR s f t l).2]) ∧ w'.ownsRow w.heap.size 9 1 v (printR s f t l).1.length ((printR s f t l).1.map Value.string) ∧ Below w.heap.size w w' := by
  obtain ⟨i0, hi0, hy0, hy1, hy2⟩ := info_parts info_str
  have HT := Lib.hid ht; clear ht
  have HN := Lib.hid hn; clear hn
  unfold pg
  go_enter Tryd.func24, Tryd.ntmps24
  go_wp2_with fail
  refine gen_calls fun W hW => ?_
  have hbW : Below w.heap.size w W := by rw [hW.out]; (repeat' (first | (with_reducible exact Below.refl _ _) | (with_reducible assumption) | (with_reducible refine below_drewN ?_ _) | (with_reducible refine Below.drew ?_) | (with_reducible refine Below.alloc ?_ ?_ _) | (with_reducible refine Below.setCell ?_ ?_ _) | (with_reducible refine via (by with_reducible assumption) ?_ ?_) | go_size))
  have hp : PgAt W w.heap.size s f t A n c := by rw [hW.out]; unfold PgAt; simp [go_sem]
  have hlt : w.heap.size < W.heap.size := by rw [hW.out]; simp [go_sem]
  clear hW
  refine (ValidPageI_c s f t A n c l W hs HN.out hm ((hr.below hbW).mono hbW.size)).mono ?_
  rintro e W1 ⟨rfl, hb1⟩
  have HP1 := Lib.hid (hp.below hb1 hlt)
  have hlt1 : w.heap.size < W1.heap.size := Nat.lt_of_lt_of_le hlt hb1.size
  have hbW1 : Below w.heap.size w W1 := hbW.trans (hb1.mono hbW.size)
  clear hp hb1 hbW hlt
  obtain ⟨g0, g1, g2, g3⟩ := HP1.out
  have hfar := far hlt1
  cases hpb : pageB s f t l
  · have HR := Lib.hid (show printR s f t l = ([], 1) by unfold printR; rw [hpb]; rfl)
    go_wp2_with fail
    refine bodyPost_ret (v := .tuple #[.slice none 0 0, .int .i64 1]) (by simp only [results, Tryd.results24]; go_simp) rfl ⟨.slice none 0 0, by rw [HR.out], by rw [HR.out]; exact World.ownsRow_nil _ _ _ _, hbW1⟩
  have HR := Lib.hid (show printR s f t l = (linesR s f t l n ++ [footT l], 0) by unfold printR; rw [hpb, if_pos rfl, HN.out])
  obtain ⟨qf, qt, qn, qv⟩ := pageB_parts hpb
  rw [HN.out] at qn
  have HQV := Lib.hid qv
  clear hpb qv
  have hH := headLine_c s f t A n c (n : Int) W1 hs (by omega) (by omega) (by omega) (HT.out.below hbW1)
  unfold pg at hH
  have HH := Lib.hid hH; clear hH
  go_wp2_with fail
  refine HH.out.mono ?_
  rintro e W2 ⟨rfl, hb2⟩
  have HP2 := Lib.hid (HP1.out.below hb2 hlt1)
  have hlt2 : w.heap.size < W2.heap.size := Nat.lt_of_lt_of_le hlt1 hb2.size
  have hbW2 : Below w.heap.size w W2 := hbW1.trans (hb2.mono hbW1.size)
  clear g0 g1 g2 g3 hfar hb2 HH
  have hown0 : (W2.alloc (.cells #[.string (headT s f t (n : Int))] 9)).ownsRow (w.heap.size + 1) 9 1 (.slice (some ⟨W2.heap.size, 0, none⟩) 1 1) 1 [.string (headT s f t (n : Int))] := own_base (own_lit W2 _ _) hlt2
  have hl0 : linesR s f t l 0 = [headT s f t (n : Int)] := by unfold linesR; rw [HN.out]; rfl
  obtain ⟨g0, g1, g2, g3⟩ := HP2.out
  have hfar := far hlt2
  go_wp2_with fail
  go_loopw [4, 18] (fun o i wr => ∃ k : Nat, k ≤ n ∧ i = .int .i64 k ∧ Below w.heap.size w wr ∧ PgAt wr w.heap.size s f t A n c ∧ w.heap.size < wr.heap.size ∧ wr.ownsRow (w.heap.size + 1) 9 1 o (k + 1) ((linesR s f t l k).map Value.string)) (fun _ i _ => n - (intOf i).toNat)
  case atStart => exact ⟨0, Nat.zero_le _, rfl, by (repeat' (first | (with_reducible exact Below.refl _ _) | (with_reducible assumption) | (with_reducible refine below_drewN ?_ _) | (with_reducible refine Below.drew ?_) | (with_reducible refine Below.alloc ?_ ?_ _) | (with_reducible refine Below.setCell ?_ ?_ _) | (with_reducible refine via (by with_reducible assumption) ?_ ?_) | go_size)), HP2.out.below (B := W2.heap.size) (by (repeat' (first | (with_reducible exact Below.refl _ _) | (with_reducible assumption) | (with_reducible refine below_drewN ?_ _) | (with_reducible refine Below.drew ?_) | (with_reducible refine Below.alloc ?_ ?_ _) | (with_reducible refine Below.setCell ?_ ?_ _) | (with_reducible refine via (by with_reducible assumption) ?_ ?_) | go_size))) hlt2, by simp only [World.size_alloc]; omega, by rw [hl0]; exact hown0⟩
  case round =>
    clear hown0 hl0 g0 g1 g2 g3 hfar
    obtain ⟨k, hk, rfl, hb, hP, hl, hx⟩ := hrel
    have HX := Lib.hid hx; clear hx
    have HP := Lib.hid hP
    obtain ⟨g0, g1, g2, g3⟩ := hP
    have hfar := far hl
    have hbs := hb.size
    by_cases hlt : k < n
    · obtain ⟨x, hx⟩ := get_ex l k (by rw [HN.out]; omega)
      have hxb := HQV.out x (List.mem_of_getElem? hx)
      have hkt := rows_bd (n := (k : Int)) (t := t) (by omega) qt
      have HS := Lib.hid (linesR_succ (s := s) (f := f) (t := t) hx)
      have hL := rowLine_c s f t A n c l k x wr qf (by omega) HN.out hm ((hr.below hb).mono hb.size) hx hxb (HT.out.below hb)
      unfold pg at hL
      have HL := Lib.hid hL; clear hL hx
      clear hkt
      generalize rowT (f + (k : Int) * t) x = R at *
      go_wp2_with fail
      refine HL.out.mono ?_
      rintro e w3 ⟨rfl, hb3⟩
      have HX3 := Lib.hid (own_call HX.out hb3)
      have hbw3 : Below w.heap.size w w3 := hb.trans (hb3.mono hbs)
      have hbs3 := hbw3.size
      have HP3 := Lib.hid (HP.out.below hb3 hl)
      have hl3 : w.heap.size < w3.heap.size := Nat.lt_of_lt_of_le hl hb3.size
      clear g0 g1 g2 g3 hfar hb3 HL
      go_wp2_with (at_builtin; refine app_list (W := w3) (z := .string ByteArray.empty) (.tmp 21) (.tmp 25) rfl rfl Tryd.underlying22 hi0 hy0 hy1 hy2 rfl (by decide) (by decide) rfl (own_base (HX3.out.alloc _) (Nat.le_refl _)) rfl rfl (news1 (z := .string R) (by simp [go_sem])) (by simp [Value.oneCell']) (by omega) (show Below (w.heap.size + 1) w3 _ by (repeat' (first | (with_reducible exact Below.refl _ _) | (with_reducible assumption) | (with_reducible refine below_drewN ?_ _) | (with_reducible refine Below.drew ?_) | (with_reducible refine Below.alloc ?_ ?_ _) | (with_reducible refine Below.setCell ?_ ?_ _) | (with_reducible refine via (by with_reducible assumption) ?_ ?_) | go_size))) hl3 ?_; intro v1 w4 hown1 hg1 hblk1 hb4)
      have HO := Lib.hid hown1; clear hown1
      have hP4 := HP3.out.below hb4 (Nat.lt_succ_self _)
      (first | (refine ⟨?_, ?_⟩; rotate_left; (first | (simp [intOf]; done) | (simp [intOf]; omega)); (repeat apply Exists.intro); refine ⟨?_, rfl⟩; exact ⟨k + 1, by omega, by go_num, hbw3.trans (hb4.mono (Nat.le_succ _)), hP4, Nat.lt_of_lt_of_le hl3 hb4.size, by rw [HS.out, List.map_append]; exact HO.out⟩) | exact ⟨⟨k + 1, by omega, by go_num, hbw3.trans (hb4.mono (Nat.le_succ _)), hP4, Nat.lt_of_lt_of_le hl3 hb4.size, by rw [HS.out, List.map_append]; exact HO.out⟩, by first | (simp [intOf]; done) | (simp [intOf]; omega)⟩)
    · obtain rfl : k = n := by omega
      have hL := footLine_c s f t A k c l wr HN.out (by omega) ((hr.below hb).mono hb.size) HQV.out (HT.out.below hb)
      unfold pg at hL
      have HL := Lib.hid hL; clear hL
      generalize footT l = R at *
      go_wp2_with fail
      refine HL.out.mono ?_
      rintro e w3 ⟨rfl, hb3⟩
      have HX3 := Lib.hid (own_call HX.out hb3)
      have hbw3 : Below w.heap.size w w3 := hb.trans (hb3.mono hbs)
      have hl3 : w.heap.size < w3.heap.size := Nat.lt_of_lt_of_le hl hb3.size
      clear g0 g1 g2 g3 hfar hb3 HL
      go_wp2_with (at_builtin; refine app_list (W := w3) (z := .string ByteArray.empty) (.tmp 28) (.tmp 31) rfl rfl Tryd.underlying22 hi0 hy0 hy1 hy2 rfl (by decide) (by decide) rfl (own_base (HX3.out.alloc _) (Nat.le_refl _)) rfl rfl (news1 (z := .string R) (by simp [go_sem])) (by simp [Value.oneCell']) (by omega) (show Below (w.heap.size + 1) w3 _ by (repeat' (first | (with_reducible exact Below.refl _ _) | (with_reducible assumption) | (with_reducible refine below_drewN ?_ _) | (with_reducible refine Below.drew ?_) | (with_reducible refine Below.alloc ?_ ?_ _) | (with_reducible refine Below.setCell ?_ ?_ _) | (with_reducible refine via (by with_reducible assumption) ?_ ?_) | go_size))) hl3 ?_; intro v1 w4 hown1 hg1 hblk1 hb4)
      have hlen : (linesR s f t l k ++ [R]).length = k + 1 + 1 := by rw [List.length_append, linesR_len]; rfl
      refine bodyPost_ret (v := .tuple #[v1, .int .i64 0]) (by simp only [results, Tryd.results24]; go_simp) rfl ⟨v1, by rw [HR.out], ?_, hbw3.trans (hb4.mono (Nat.le_succ _))⟩
      rw [HR.out]
      simp only [hlen, List.map_append]
      exact own_base hown1 (Nat.le_succ _)

end Go.Proofs.YtaebofpgdonnbaaDoor
