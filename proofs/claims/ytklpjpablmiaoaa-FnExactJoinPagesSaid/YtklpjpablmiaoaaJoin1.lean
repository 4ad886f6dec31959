/- Contracts: pages joined; both sides. -/
import Derived.Test.YtklpjpablmiaoaaMend1
import Derived.Test.YtklpjpablmiaoaaRows3
import Derived.Test.YtklpjpablmiaoaaHush
import Derived.Deep.DeepCutAuto
set_option linter.unusedVariables false
set_option linter.unusedSimpArgs false
namespace Go.Proofs.Ytklpjpablmiaoaa
open Go.RowKit

def joinB (s : ByteArray) (f t : Int) (l : List Int) (s' : ByteArray) (f' t' : Int) : Bool := (s.toList == s'.toList) && decide (t = t') && decide (f' = f + (l.length : Int) * t)
def joinR (s : ByteArray) (f t : Int) (l : List Int) (s' : ByteArray) (f' t' : Int) (l' : List Int) : PgD × Int :=
  if pageB s f t l && pageB s' f' t' l' then (if joinB s f t l s' f' t' then (if pageB s f t (l ++ l') then (⟨s, f, t, l ++ l'⟩, 0) else (pg0, 5)) else (pg0, 6)) else (pg0, 1)
theorem joinR_len (s : ByteArray) (f t : Int) (l : List Int) (s' : ByteArray) (f' t' : Int) (l' : List Int) : (joinR s f t l s' f' t' l').1.l.length ≤ l.length + l'.length := by
  unfold joinR
  split
  · split
    · split
      · simp
      · simp [pg0]
    · simp [pg0]
  · simp [pg0]
theorem rd_at {w X : World} {A : Option Addr} {l : List Int} (h : Rd w w.heap.size 1 icell A l) (hb : Below w.heap.size w X) : Rd X X.heap.size 1 icell A l := (h.below hb).mono hb.size
theorem join_no {s : ByteArray} {f t : Int} {l : List Int} {s' : ByteArray} {f' t' : Int} {l' : List Int} (h1 : pageB s f t l = true) (h2 : pageB s' f' t' l' = true) (h : ¬ joinB s f t l s' f' t' = true) : joinR s f t l s' f' t' l' = (pg0, 6) := by
  unfold joinR; simp [h1, h2, h]
theorem join_full {s : ByteArray} {f t : Int} {l : List Int} {s' : ByteArray} {f' t' : Int} {l' : List Int} (h1 : pageB s f t l = true) (h2 : pageB s' f' t' l' = true) (h : joinB s f t l s' f' t' = true) (h3 : pageB s f t (l ++ l') = false) : joinR s f t l s' f' t' l' = (pg0, 5) := by
  unfold joinR; simp [h1, h2, h, h3]
theorem join_yes {s : ByteArray} {f t : Int} {l : List Int} {s' : ByteArray} {f' t' : Int} {l' : List Int} (h1 : pageB s f t l = true) (h2 : pageB s' f' t' l' = true) (h : joinB s f t l s' f' t' = true) (h3 : pageB s f t (l ++ l') = true) : joinR s f t l s' f' t' l' = (⟨s, f, t, l ++ l'⟩, 0) := by
  unfold joinR; simp [h1, h2, h, h3]
theorem joinR_60 (s : ByteArray) (f t : Int) (l : List Int) (s' : ByteArray) (f' t' : Int) (l' : List Int) : (joinR s f t l s' f' t' l').1.l.length ≤ 60 := by
  unfold joinR
  split
  · split
    · split
      · rename_i h
        have := (pageB_bd h).2.2.1
        simp at this ⊢
        omega
      · simp [pg0]
    · simp [pg0]
  · simp [pg0]
theorem joinB_iff {s : ByteArray} {f t : Int} {l : List Int} {s' : ByteArray} {f' t' : Int} : joinB s f t l s' f' t' = true ↔ (s.toList == s'.toList) = true ∧ t = t' ∧ f' = f + (l.length : Int) * t := by
  simp [joinB, and_assoc]

set_option maxRecDepth 100000 in
set_option maxHeartbeats 4000000 in
theorem JoinPagesI_c (s : ByteArray) (f t : Int) (A : Option Addr) (n c : Nat) (l : List Int) (s1 : ByteArray) (f1 t1 : Int) (A1 : Option Addr) (n1 c1 : Nat) (l1 : List Int) (w : World) (hs : s.size ≤ 1048576) (hn : l.length = n) (hm : n ≤ 1048576) (hr : Rd w w.heap.size 1 icell A l) (hs1 : s1.size ≤ 1048576) (hn1 : l1.length = n1) (hm1 : n1 ≤ 1048576) (hr1 : Rd w w.heap.size 1 icell A1 l1) :
    Calls Try.prog 32 #[pg s f t A n c, pg s1 f1 t1 A1 n1 c1] w fun e w' => ∃ RA Rc, e = .returned (.tuple #[pg (joinR s f t l s1 f1 t1 l1).1.s (joinR s f t l s1 f1 t1 l1).1.f (joinR s f t l s1 f1 t1 l1).1.t RA (joinR s f t l s1 f1 t1 l1).1.l.length Rc, .int .i64 (joinR s f t l s1 f1 t1 l1).2]) ∧ w'.ownsRow w.heap.size 2 1 (.slice RA (joinR s f t l s1 f1 t1 l1).1.l.length Rc) (joinR s f t l s1 f1 t1 l1).1.l.length ((joinR s f t l s1 f1 t1 l1).1.l.map (Value.int .i64)) ∧ Below w.heap.size w w' := by
  obtain ⟨i0, hi0, hi1, hi2, hi3⟩ := info_parts info_i64
  have hA : A = none → n = 0 := fun h => by rw [← hn]; exact hr.none_len h
  have hA1 : A1 = none → n1 = 0 := fun h => by rw [← hn1]; exact hr1.none_len h
  have HJ := Lib.hid (joinB_iff (s := s) (f := f) (t := t) (l := l) (s' := s1) (f' := f1) (t' := t1))
  rw [hn] at HJ
  have HN := Lib.hid hn; clear hn
  have HN1 := Lib.hid hn1; clear hn1
  unfold pg
  go_enter Try.func32, Try.ntmps32
  go_wp2_with fail
  refine gen_calls fun W hW => ?_
  have hbW : Below w.heap.size w W := by rw [hW.out]; (repeat' (first | (with_reducible exact Below.refl _ _) | (with_reducible assumption) | (with_reducible refine below_drewN ?_ _) | (with_reducible refine Below.drew ?_) | (with_reducible refine Below.alloc ?_ ?_ _) | (with_reducible refine Below.setCell ?_ ?_ _) | (with_reducible refine via (by with_reducible assumption) ?_ ?_) | go_size))
  have hp : PgW W w.heap.size s f t A n c := by rw [hW.out]; unfold PgW PgAt; simp [go_sem]
  have hq : PgW W (w.heap.size + 1) s1 f1 t1 A1 n1 c1 := by rw [hW.out]; unfold PgW PgAt; simp [go_sem]
  have hz : PgW W (w.heap.size + 1 + 1) ByteArray.empty 0 0 none 0 0 := by rw [hW.out]; unfold PgW PgAt; simp [go_sem]; try rfl
  have hlt : w.heap.size + 1 + 1 < W.heap.size := by rw [hW.out]; simp [go_sem]
  clear hW
  refine (ValidPageI_c s f t A n c l W hs HN.out hm ((hr.below hbW).mono hbW.size)).mono ?_
  rintro e W1 ⟨rfl, hb1⟩
  have hp1 := hp.below hb1 (by omega)
  have hq1 := hq.below hb1 (by omega)
  have hz1 := hz.below hb1 hlt
  have hlt1 : w.heap.size + 1 + 1 < W1.heap.size := Nat.lt_of_lt_of_le hlt hb1.size
  have hbW1 : Below w.heap.size w W1 := hbW.trans (hb1.mono hbW.size)
  clear hp hq hz hb1 hbW hlt
  have HP1 := Lib.hid hp1; have HQ1 := Lib.hid hq1; have HZ1 := Lib.hid hz1
  clear hp1 hq1 hz1
  cases hv : pageB s f t l
  · have HR := Lib.hid (show joinR s f t l s1 f1 t1 l1 = (pg0, 1) by unfold joinR; rw [hv]; rfl)
    obtain ⟨⟨k0, k1, k2, k3⟩, fk0, fk1, fk2, fk3⟩ := HZ1.out
    have hfar2 := far hlt1
    go_wp2_with fail
    refine bodyPost_ret (v := .tuple #[pg pg0.s pg0.f pg0.t none pg0.l.length 0, .int .i64 1]) (by simp only [results, Try.results32, pg, pg0]; go_simp; try rfl) rfl ⟨none, 0, by rw [HR.out]; rfl, by rw [HR.out]; exact own_nil1 _ _, ?_⟩
    (repeat' (first | (with_reducible exact Below.refl _ _) | (with_reducible assumption) | (with_reducible refine below_drewN ?_ _) | (with_reducible refine Below.drew ?_) | (with_reducible refine Below.alloc ?_ ?_ _) | (with_reducible refine Below.setCell ?_ ?_ _) | (with_reducible refine via (by with_reducible assumption) ?_ ?_) | go_size))
  have HV := Lib.hid hv
  obtain ⟨⟨g0, g1, g2, g3⟩, ff0, ff1, ff2, ff3⟩ := HQ1.out
  have hfar := far (show w.heap.size + 1 < W1.heap.size by omega)
  go_wp2_with fail
  refine (ValidPageI_c s1 f1 t1 A1 n1 c1 l1 W1 hs1 HN1.out hm1 ((hr1.below hbW1).mono hbW1.size)).mono ?_
  rintro e W2 ⟨rfl, hb2⟩
  clear g0 g1 g2 g3 ff0 ff1 ff2 ff3 hfar hv
  have HP2 := Lib.hid (HP1.out.below hb2 (by omega))
  have HQ2 := Lib.hid (HQ1.out.below hb2 (by omega))
  have HZ2 := Lib.hid (HZ1.out.below hb2 hlt1)
  have hlt2 : w.heap.size + 1 + 1 < W2.heap.size := Nat.lt_of_lt_of_le hlt1 hb2.size
  have hbW2 : Below w.heap.size w W2 := hbW1.trans (hb2.mono hbW1.size)
  clear HP1 HQ1 HZ1 hb2
  obtain ⟨⟨p0, p1, p2, p3⟩, fp0, fp1, fp2, fp3⟩ := HP2.out
  obtain ⟨⟨g0, g1, g2, g3⟩, ff0, ff1, ff2, ff3⟩ := HQ2.out
  obtain ⟨⟨k0, k1, k2, k3⟩, fk0, fk1, fk2, fk3⟩ := HZ2.out
  have hfar := far (show w.heap.size < W2.heap.size by omega)
  have hfar1 := far (show w.heap.size + 1 < W2.heap.size by omega)
  have hfar2 := far hlt2
  cases hv1 : pageB s1 f1 t1 l1
  · have HR := Lib.hid (show joinR s f t l s1 f1 t1 l1 = (pg0, 1) by unfold joinR; rw [HV.out, hv1]; rfl)
    go_wp2_with fail
    refine bodyPost_ret (v := .tuple #[pg pg0.s pg0.f pg0.t none pg0.l.length 0, .int .i64 1]) (by simp only [results, Try.results32, pg, pg0]; go_simp; try rfl) rfl ⟨none, 0, by rw [HR.out]; rfl, by rw [HR.out]; exact own_nil1 _ _, ?_⟩
    (repeat' (first | (with_reducible exact Below.refl _ _) | (with_reducible assumption) | (with_reducible refine below_drewN ?_ _) | (with_reducible refine Below.drew ?_) | (with_reducible refine Below.alloc ?_ ?_ _) | (with_reducible refine Below.setCell ?_ ?_ _) | (with_reducible refine via (by with_reducible assumption) ?_ ?_) | go_size))
  have HV1 := Lib.hid hv1
  obtain ⟨qf, qt, qn, ql, _, _⟩ := pageB_bd HV.out
  rw [HN.out] at qn ql
  have hmul := rows_bd (n := (n : Int)) (t := t) (by omega) qt
  clear hv1
  go_upto_region 3 with fail
  by_cases e0 : (s.toList == s1.toList) = true
  rotate_left
  · have HR := Lib.hid (join_no HV.out HV1.out (fun h => e0 ((HJ.out.1 h).1)))
    have e0' : (s.toList == s1.toList) = false := by simpa using e0
    (refine wp_region_quiet_below (by kernel_rfl) (by kernel_rfl) ?_; (repeat (go_big_quiet_step (first | fail))); refine wpQuiet_nil ?_; refine qg_end ?_; intro wq hbq)
    clear p0 p1 p2 p3 fp0 fp1 fp2 fp3 g0 g1 g2 g3 ff0 ff1 ff2 ff3 k0 k1 k2 k3 fk0 fk1 fk2 fk3 hfar hfar1 hfar2
    have hltq : w.heap.size + 1 + 1 < wq.heap.size := Nat.lt_of_lt_of_le hlt2 hbq.size
    have hbWq : Below w.heap.size w wq := hbW2.trans (hbq.mono hbW2.size)
    have HP3 := Lib.hid (HP2.out.below hbq (by omega))
    have HQ3 := Lib.hid (HQ2.out.below hbq (by omega))
    have HZ3 := Lib.hid (HZ2.out.below hbq hlt2)
    obtain ⟨⟨p0, p1, p2, p3⟩, fp0, fp1, fp2, fp3⟩ := HP3.out
    obtain ⟨⟨g0, g1, g2, g3⟩, ff0, ff1, ff2, ff3⟩ := HQ3.out
    obtain ⟨⟨k0, k1, k2, k3⟩, fk0, fk1, fk2, fk3⟩ := HZ3.out
    have hfar := far (show w.heap.size < wq.heap.size by omega)
    have hfar1 := far (show w.heap.size + 1 < wq.heap.size by omega)
    have hfar2 := far hltq
    go_wp2_with fail
    refine bodyPost_ret (v := .tuple #[pg pg0.s pg0.f pg0.t none pg0.l.length 0, .int .i64 6]) (by simp only [results, Try.results32, pg, pg0]; go_simp; try rfl) rfl ⟨none, 0, by rw [HR.out]; rfl, by rw [HR.out]; exact own_nil1 _ _, ?_⟩
    (repeat' (first | (with_reducible exact Below.refl _ _) | (with_reducible assumption) | (with_reducible refine below_drewN ?_ _) | (with_reducible refine Below.drew ?_) | (with_reducible refine Below.alloc ?_ ?_ _) | (with_reducible refine Below.setCell ?_ ?_ _) | (with_reducible refine via (by with_reducible assumption) ?_ ?_) | go_size))
  by_cases e1 : t = t1
  rotate_left
  · have HR := Lib.hid (join_no HV.out HV1.out (fun h => e1 ((HJ.out.1 h).2.1)))
    have e1' : (t != t1) = true := by simpa using e1
    clear e1
    (refine wp_region_quiet_below (by kernel_rfl) (by kernel_rfl) ?_; (repeat (go_big_quiet_step (first | fail))); refine wpQuiet_nil ?_; refine qg_end ?_; intro wq hbq)
    clear p0 p1 p2 p3 fp0 fp1 fp2 fp3 g0 g1 g2 g3 ff0 ff1 ff2 ff3 k0 k1 k2 k3 fk0 fk1 fk2 fk3 hfar hfar1 hfar2
    have hltq : w.heap.size + 1 + 1 < wq.heap.size := Nat.lt_of_lt_of_le hlt2 hbq.size
    have hbWq : Below w.heap.size w wq := hbW2.trans (hbq.mono hbW2.size)
    have HP3 := Lib.hid (HP2.out.below hbq (by omega))
    have HQ3 := Lib.hid (HQ2.out.below hbq (by omega))
    have HZ3 := Lib.hid (HZ2.out.below hbq hlt2)
    obtain ⟨⟨p0, p1, p2, p3⟩, fp0, fp1, fp2, fp3⟩ := HP3.out
    obtain ⟨⟨g0, g1, g2, g3⟩, ff0, ff1, ff2, ff3⟩ := HQ3.out
    obtain ⟨⟨k0, k1, k2, k3⟩, fk0, fk1, fk2, fk3⟩ := HZ3.out
    have hfar := far (show w.heap.size < wq.heap.size by omega)
    have hfar1 := far (show w.heap.size + 1 < wq.heap.size by omega)
    have hfar2 := far hltq
    go_wp2_with fail
    refine bodyPost_ret (v := .tuple #[pg pg0.s pg0.f pg0.t none pg0.l.length 0, .int .i64 6]) (by simp only [results, Try.results32, pg, pg0]; go_simp; try rfl) rfl ⟨none, 0, by rw [HR.out]; rfl, by rw [HR.out]; exact own_nil1 _ _, ?_⟩
    (repeat' (first | (with_reducible exact Below.refl _ _) | (with_reducible assumption) | (with_reducible refine below_drewN ?_ _) | (with_reducible refine Below.drew ?_) | (with_reducible refine Below.alloc ?_ ?_ _) | (with_reducible refine Below.setCell ?_ ?_ _) | (with_reducible refine via (by with_reducible assumption) ?_ ?_) | go_size))
  subst e1
  by_cases e2 : f1 = f + (n : Int) * t
  rotate_left
  · have HR := Lib.hid (join_no HV.out HV1.out (fun h => e2 ((HJ.out.1 h).2.2)))
    have e2' : (f1 != f + (n : Int) * t) = true := by simpa using e2
    clear e2
    (refine wp_region_quiet_below (by kernel_rfl) (by kernel_rfl) ?_; (repeat (go_big_quiet_step (first | ((go_at_call 54; exact rg_of (fun w' hb => argument_c s f t A n c (n : Int) w' qf (by omega))))))); refine wpQuiet_nil ?_; refine qg_end ?_; intro wq hbq)
    clear p0 p1 p2 p3 fp0 fp1 fp2 fp3 g0 g1 g2 g3 ff0 ff1 ff2 ff3 k0 k1 k2 k3 fk0 fk1 fk2 fk3 hfar hfar1 hfar2
    have hltq : w.heap.size + 1 + 1 < wq.heap.size := Nat.lt_of_lt_of_le hlt2 hbq.size
    have hbWq : Below w.heap.size w wq := hbW2.trans (hbq.mono hbW2.size)
    have HP3 := Lib.hid (HP2.out.below hbq (by omega))
    have HQ3 := Lib.hid (HQ2.out.below hbq (by omega))
    have HZ3 := Lib.hid (HZ2.out.below hbq hlt2)
    obtain ⟨⟨p0, p1, p2, p3⟩, fp0, fp1, fp2, fp3⟩ := HP3.out
    obtain ⟨⟨g0, g1, g2, g3⟩, ff0, ff1, ff2, ff3⟩ := HQ3.out
    obtain ⟨⟨k0, k1, k2, k3⟩, fk0, fk1, fk2, fk3⟩ := HZ3.out
    have hfar := far (show w.heap.size < wq.heap.size by omega)
    have hfar1 := far (show w.heap.size + 1 < wq.heap.size by omega)
    have hfar2 := far hltq
    go_wp2_with fail
    refine bodyPost_ret (v := .tuple #[pg pg0.s pg0.f pg0.t none pg0.l.length 0, .int .i64 6]) (by simp only [results, Try.results32, pg, pg0]; go_simp; try rfl) rfl ⟨none, 0, by rw [HR.out]; rfl, by rw [HR.out]; exact own_nil1 _ _, ?_⟩
    (repeat' (first | (with_reducible exact Below.refl _ _) | (with_reducible assumption) | (with_reducible refine below_drewN ?_ _) | (with_reducible refine Below.drew ?_) | (with_reducible refine Below.alloc ?_ ?_ _) | (with_reducible refine Below.setCell ?_ ?_ _) | (with_reducible refine via (by with_reducible assumption) ?_ ?_) | go_size))
  have e2' : (f1 != f + (n : Int) * t) = false := by simpa using e2
  have HJT := Lib.hid (HJ.out.2 ⟨e0, rfl, e2⟩)
  clear e2
  (refine wp_region_quiet_below (by kernel_rfl) (by kernel_rfl) ?_; (repeat (go_big_quiet_step (first | ((go_at_call 54; exact rg_of (fun w' hb => argument_c s f t A n c (n : Int) w' qf (by omega))))))); refine wpQuiet_nil ?_; refine qg_end ?_; intro wq hbq)
  clear p0 p1 p2 p3 fp0 fp1 fp2 fp3 g0 g1 g2 g3 ff0 ff1 ff2 ff3 k0 k1 k2 k3 fk0 fk1 fk2 fk3 hfar hfar1 hfar2
  have hltq : w.heap.size + 1 + 1 < wq.heap.size := Nat.lt_of_lt_of_le hlt2 hbq.size
  have hbWq : Below w.heap.size w wq := hbW2.trans (hbq.mono hbW2.size)
  have HP3 := Lib.hid (HP2.out.below hbq (by omega))
  have HQ3 := Lib.hid (HQ2.out.below hbq (by omega))
  have HZ3 := Lib.hid (HZ2.out.below hbq hlt2)
  obtain ⟨⟨p0, p1, p2, p3⟩, fp0, fp1, fp2, fp3⟩ := HP3.out
  obtain ⟨⟨g0, g1, g2, g3⟩, ff0, ff1, ff2, ff3⟩ := HQ3.out
  obtain ⟨⟨k0, k1, k2, k3⟩, fk0, fk1, fk2, fk3⟩ := HZ3.out
  have hfar := far (show w.heap.size < wq.heap.size by omega)
  have hfar1 := far (show w.heap.size + 1 < wq.heap.size by omega)
  have hfar2 := far hltq
  go_upto_region 5 with fail
  clear e2' e0
  obtain ⟨qf1, qt1, qn1, ql1, _, _⟩ := pageB_bd HV1.out
  rw [HN1.out] at qn1
  obtain ⟨b1, off1, rfl, hbl1, hcc1⟩ := hr1.ints' (by rw [HN1.out]; omega)
  have HC1 := Lib.hid (show ∀ X : World, Below w.heap.size w X → ∀ j u, (l1.map (Value.int .i64))[j]? = some u → X.cell? ⟨b1, off1 + j, none⟩ = some u from fun X hX j u hu => by
    rw [List.getElem?_map, Option.map_eq_some_iff] at hu
    obtain ⟨y, hy, rfl⟩ := hu
    rw [hX.cell (p := ⟨b1, off1 + j, none⟩) hbl1]
    exact hcc1 j y hy)
  clear hcc1
  have HG3 := Lib.hid g3
  refine wp_region_held_drew (S := fun w' => w'.cell? ⟨w.heap.size + 1, 3, none⟩ = some (.slice (some ⟨b1, off1, none⟩) n1 c1) ∧ Below w.heap.size w w') (by kernel_rfl) (by exact ⟨by (first | assumption | (simp [go_sem, *]; done)), by (repeat' (first | (with_reducible exact Below.refl _ _) | (with_reducible assumption) | (with_reducible refine below_drewN ?_ _) | (with_reducible refine Below.drew ?_) | (with_reducible refine Below.alloc ?_ ?_ _) | (with_reducible refine Below.setCell ?_ ?_ _) | (with_reducible refine via (by with_reducible assumption) ?_ ?_) | go_size))⟩) (fun hHeld => ?_)
  refine wpAnyH_take (i := 0) (v := ?_) rfl (by kernel_rfl) (by kernel_rfl) (by kernel_rfl) (fun _ _ _ h => h) (Or.inl ⟨by rfl, ?_⟩) (by assumption) ?_
  rotate_left
  · intro w hSw
    try dsimp only at hSw
    go_simp
    try with_reducible rfl
  try simp only [Act.put, List.setIfInBounds_toArray, List.set_cons_zero, List.set_cons_succ]
  refine wpAnyH_take (i := 3) (v := ?_) rfl (by kernel_rfl) (by kernel_rfl) (by kernel_rfl) (fun _ _ _ h => h) (Or.inl ⟨by rfl, ?_⟩) (by assumption) ?_
  rotate_left
  · intro w hSw
    try dsimp only at hSw
    go_simp
    try with_reducible rfl
  try simp only [Act.put, List.setIfInBounds_toArray, List.set_cons_zero, List.set_cons_succ]
  refine wpAnyH_take (i := 4) (v := ?_) rfl (by kernel_rfl) (by kernel_rfl) (by kernel_rfl) (fun _ _ _ h => h) (Or.inl ⟨by rfl, ?_⟩) (by assumption) ?_
  rotate_left
  · intro w hSw
    try dsimp only at hSw
    go_simp
    try with_reducible rfl
  try simp only [Act.put, List.setIfInBounds_toArray, List.set_cons_zero, List.set_cons_succ]
  refine wpAnyH_ready (rs := [1]) (by kernel_rfl) (by simp) ?_
  refine AllReadyH.cons rfl (fun K hK => ?_) AllReadyH.nil
  go_simp
  refine hK.out _ _ ?_ (fun hHeld => ?_)
  · exact ⟨by (first | assumption | (simp [go_sem, *]; done)), by (repeat' (first | (with_reducible exact Below.refl _ _) | (with_reducible assumption) | (with_reducible refine below_drewN ?_ _) | (with_reducible refine Below.drew ?_) | (with_reducible refine Below.alloc ?_ ?_ _) | (with_reducible refine Below.setCell ?_ ?_ _) | (with_reducible refine via (by with_reducible assumption) ?_ ?_) | go_size))⟩
  clear hK K
  try simp only [Act.put, List.setIfInBounds_toArray, List.set_cons_zero, List.set_cons_succ]
  refine wpAnyH_ready (rs := [2]) (by kernel_rfl) (by simp) ?_
  refine AllReadyH.cons rfl (fun K hK => ?_) AllReadyH.nil
  go_simp
  (go_at_call 56; refine (copyNumbers_c A n c l _ HN.out hm hA (rd_at hr (by (repeat' (first | (with_reducible exact Below.refl _ _) | (with_reducible assumption) | (with_reducible refine below_drewN ?_ _) | (with_reducible refine Below.drew ?_) | (with_reducible refine Below.alloc ?_ ?_ _) | (with_reducible refine Below.setCell ?_ ?_ _) | (with_reducible refine via (by with_reducible assumption) ?_ ?_) | go_size))))).mono ?_; rintro e w3 ⟨v3, rfl, hx3, hb3⟩; obtain ⟨hc3, hf3⟩ := bcell hb3; have hz3 := hb3.size; (try simp only [World.size_alloc, size_drewN, World.size_setCell, World.size_drew] at hz3 hc3 hf3); have hfar3 := far (show w.heap.size < w3.heap.size by omega); have hfar4 := far (show w.heap.size + 1 < w3.heap.size by omega); have hG4 : w3.cell? ⟨w.heap.size + 1, 3, none⟩ = some (.slice (some ⟨b1, off1, none⟩) n1 c1) := (by rw [hc3 _ _ (by omega)]; exact HG3.out); have HX3 := Lib.hid hx3; clear hx3)
  refine hK.out _ _ ?_ (fun hHeld => ?_)
  · exact ⟨by (first | assumption | (simp [go_sem, *]; done)), by (repeat' (first | (with_reducible exact Below.refl _ _) | (with_reducible assumption) | (with_reducible refine below_drewN ?_ _) | (with_reducible refine Below.drew ?_) | (with_reducible refine Below.alloc ?_ ?_ _) | (with_reducible refine Below.setCell ?_ ?_ _) | (with_reducible refine via (by with_reducible assumption) ?_ ?_) | go_size))⟩
  clear hK K
  try simp only [Act.put, List.setIfInBounds_toArray, List.set_cons_zero, List.set_cons_succ]
  refine wpAnyH_ready (rs := [5]) (by kernel_rfl) (by simp) ?_
  refine AllReadyH.cons rfl (fun K hK => ?_) AllReadyH.nil
  ((refine appm_step (W := w3) (z := .int .i64 0) (.tmp 40) (.tmp 42) (by rfl) (by rfl) Try.underlying26 hi0 hi1 hi2 hi3 rfl (by decide) (by decide) (by rfl) HX3.out (by rfl) (by rw [List.length_map, HN1.out, Nat.mul_one]) (HC1.out _ (by (repeat' (first | (with_reducible exact Below.refl _ _) | (with_reducible assumption) | (with_reducible refine below_drewN ?_ _) | (with_reducible refine Below.drew ?_) | (with_reducible refine Below.alloc ?_ ?_ _) | (with_reducible refine Below.setCell ?_ ?_ _) | (with_reducible refine via (by with_reducible assumption) ?_ ?_) | go_size)))) (by simp [Value.oneCell']) (by omega) (Below.refl _ _) hb3.size ?_; intro v4 w4 hown4 hg4 hblk4 hb4; obtain ⟨A4, c4, rfl, hA4⟩ := own_form hown4; have HO4 := Lib.hid hown4; clear hown4; obtain ⟨hc4, hf4⟩ := bcell hb4; have hz4 := hb4.size; (try simp only [World.size_alloc, size_drewN, World.size_setCell, World.size_drew] at hc4 hf4); have hG5 : w4.cell? ⟨w.heap.size + 1, 3, none⟩ = some (.slice (some ⟨b1, off1, none⟩) n1 c1) := (by rw [hc4 _ _ (by omega)]; exact hG4); have hb4w : Below w.heap.size w w4 := (by (repeat' (first | (with_reducible exact Below.refl _ _) | (with_reducible assumption) | (with_reducible refine below_drewN ?_ _) | (with_reducible refine Below.drew ?_) | (with_reducible refine Below.alloc ?_ ?_ _) | (with_reducible refine Below.setCell ?_ ?_ _) | (with_reducible refine via (by with_reducible assumption) ?_ ?_) | go_size))); obtain ⟨⟨hP40, hP41, hP42, hP43⟩, hF40, hF41, hF42, hF43⟩ := PgW.below (PgW.below (show PgW wq.drew w.heap.size s f t A n c from HP3.out) hb3 (show w.heap.size < wq.heap.size by omega)) hb4 (show w.heap.size < wq.heap.size by omega); have HZ4 := Lib.hid (PgW.below (PgW.below (show PgW wq.drew (w.heap.size + 1 + 1) ByteArray.empty 0 0 none 0 0 from HZ3.out) hb3 hltq) hb4 hltq); have hfar5 := far (show w.heap.size < w4.heap.size by omega); have hfar6 := far (show w.heap.size + 1 < w4.heap.size by omega)))
  refine hK.out _ _ ?_ (fun hHeld => ?_)
  · exact ⟨by (first | assumption | (simp [go_sem, *]; done)), by (repeat' (first | (with_reducible exact Below.refl _ _) | (with_reducible assumption) | (with_reducible refine below_drewN ?_ _) | (with_reducible refine Below.drew ?_) | (with_reducible refine Below.alloc ?_ ?_ _) | (with_reducible refine Below.setCell ?_ ?_ _) | (with_reducible refine via (by with_reducible assumption) ?_ ?_) | go_size))⟩
  clear hK K
  try simp only [Act.put, List.setIfInBounds_toArray, List.set_cons_zero, List.set_cons_succ]
  refine wpAnyH_ready (rs := [6]) (by kernel_rfl) (by simp) ?_
  refine AllReadyH.cons rfl (fun K hK => ?_) AllReadyH.nil
  go_simp
  refine hK.out _ _ ?_ (fun hHeld => ?_)
  · exact ⟨by (first | assumption | (simp [go_sem, *]; done)), by (repeat' (first | (with_reducible exact Below.refl _ _) | (with_reducible assumption) | (with_reducible refine below_drewN ?_ _) | (with_reducible refine Below.drew ?_) | (with_reducible refine Below.alloc ?_ ?_ _) | (with_reducible refine Below.setCell ?_ ?_ _) | (with_reducible refine via (by with_reducible assumption) ?_ ?_) | go_size))⟩
  clear hK K
  try simp only [Act.put, List.setIfInBounds_toArray, List.set_cons_zero, List.set_cons_succ]
  refine wpAnyH_ready (rs := [7]) (by kernel_rfl) (by simp) ?_
  refine AllReadyH.cons rfl (fun K hK => ?_) AllReadyH.nil
  go_simp
  refine hK.out _ _ ?_ (fun hHeld => ?_)
  · exact ⟨by (first | assumption | (simp [go_sem, *]; done)), by (repeat' (first | (with_reducible exact Below.refl _ _) | (with_reducible assumption) | (with_reducible refine below_drewN ?_ _) | (with_reducible refine Below.drew ?_) | (with_reducible refine Below.alloc ?_ ?_ _) | (with_reducible refine Below.setCell ?_ ?_ _) | (with_reducible refine via (by with_reducible assumption) ?_ ?_) | go_size))⟩
  clear hK K
  try simp only [Act.put, List.setIfInBounds_toArray, List.set_cons_zero, List.set_cons_succ]
  refine wpAnyH_done (by kernel_rfl) ?_ _
  have HP4 := Lib.hid (⟨⟨hP40, hP41, hP42, hP43⟩, hF40, hF41, hF42, hF43⟩ : PgW w4 w.heap.size s f t A n c)
  clear p0 p1 p2 p3 fp0 fp1 fp2 fp3 g0 g1 g2 g3 ff0 ff1 ff2 ff3 k0 k1 k2 k3 fk0 fk1 fk2 fk3 hfar hfar1 hfar2 hP40 hP41 hP42 hP43 hF40 hF41 hF42 hF43 hc3 hf3 hc4 hf4 hG4 hG5 hfar3 hfar4
  have hq4 : wq.heap.size ≤ w4.heap.size := Nat.le_trans hz3 hb4.size
  have hff := far (show w.heap.size < w4.heap.size by omega)
  have hf2 := far (show w.heap.size + 1 + 1 < w4.heap.size by omega)
  obtain ⟨⟨p0, p1, p2, p3⟩, fp0, fp1, fp2, fp3⟩ := HP4.out
  go_wp2_with fail
  refine gen_calls fun W5 hW => ?_
  have hb5 : Below w.heap.size w W5 := by rw [hW.out]; (repeat' (first | (with_reducible exact Below.refl _ _) | (with_reducible assumption) | (with_reducible refine below_drewN ?_ _) | (with_reducible refine Below.drew ?_) | (with_reducible refine Below.alloc ?_ ?_ _) | (with_reducible refine Below.setCell ?_ ?_ _) | (with_reducible refine via (by with_reducible assumption) ?_ ?_) | go_size))
  have ho5 : W5.ownsRow wq.heap.size 2 1 (.slice A4 (n + n1) c4) (n + n1) ((l ++ l1).map (Value.int .i64)) := by rw [hW.out, List.map_append]; exact ownsRow_setCell_below HO4.out (show w.heap.size < wq.heap.size by omega) _
  have hP5 : PgW W5 w.heap.size s f t A4 (n + n1) c4 := by rw [hW.out]; unfold PgW PgAt; simp [go_sem, *]
  have hZ5 : PgW W5 (w.heap.size + 1 + 1) ByteArray.empty 0 0 none 0 0 := by
    obtain ⟨⟨k0, k1, k2, k3⟩, fk0, fk1, fk2, fk3⟩ := HZ4.out
    rw [hW.out]; unfold PgW PgAt; simp [go_sem, *]
  have hlt5 : w.heap.size + 1 + 1 < W5.heap.size := by rw [hW.out, World.size_setCell]; omega
  clear hW p0 p1 p2 p3 fp0 fp1 fp2 fp3
  have HO5 := Lib.hid ho5; clear ho5
  have hls : (l ++ l1).length = n + n1 := by rw [List.length_append, HN.out, HN1.out]
  have HLS := Lib.hid hls; clear hls
  refine (ValidPageI_c s f t A4 (n + n1) c4 (l ++ l1) W5 hs HLS.out (by omega) (rd_own HO5.out)).mono ?_
  rintro e W6 ⟨rfl, hb6⟩
  have HP6 := Lib.hid (hP5.below hb6 (by omega))
  have HZ6 := Lib.hid (hZ5.below hb6 hlt5)
  have HO6 := Lib.hid (own_call HO5.out hb6)
  have hlt6 : w.heap.size + 1 + 1 < W6.heap.size := Nat.lt_of_lt_of_le hlt5 hb6.size
  have hbW6 : Below w.heap.size w W6 := hb5.trans (hb6.mono hb5.size)
  clear hP5 hZ5 HP4 HZ4 HO4 hb6
  obtain ⟨⟨p0, p1, p2, p3⟩, fp0, fp1, fp2, fp3⟩ := HP6.out
  obtain ⟨⟨k0, k1, k2, k3⟩, fk0, fk1, fk2, fk3⟩ := HZ6.out
  have hfar := far (show w.heap.size < W6.heap.size by omega)
  have hfar2 := far hlt6
  cases hv2 : pageB s f t (l ++ l1)
  · have HR := Lib.hid (join_full HV.out HV1.out HJT.out hv2)
    go_wp2_with fail
    refine bodyPost_ret (v := .tuple #[pg pg0.s pg0.f pg0.t none pg0.l.length 0, .int .i64 5]) (by simp only [results, Try.results32, pg, pg0]; go_simp; try rfl) rfl ⟨none, 0, by rw [HR.out]; rfl, by rw [HR.out]; exact own_nil1 _ _, ?_⟩
    (repeat' (first | (with_reducible exact Below.refl _ _) | (with_reducible assumption) | (with_reducible refine below_drewN ?_ _) | (with_reducible refine Below.drew ?_) | (with_reducible refine Below.alloc ?_ ?_ _) | (with_reducible refine Below.setCell ?_ ?_ _) | (with_reducible refine via (by with_reducible assumption) ?_ ?_) | go_size))
  · have HR := Lib.hid (join_yes HV.out HV1.out HJT.out hv2)
    have n5 : ¬ w.heap.size = w.heap.size + 1 + 1 := by omega
    have n6 : ¬ w.heap.size + 1 + 1 = w.heap.size := by omega
    go_wp2_with fail
    refine bodyPost_ret (v := .tuple #[pg s f t A4 (n + n1) c4, .int .i64 0]) (by simp only [results, Try.results32, pg]; go_simp) rfl ⟨A4, c4, by rw [HR.out]; simp only [HLS.out]; rfl, ?_, ?_⟩
    · rw [HR.out]
      simp only [HLS.out]
      refine own_base ?_ (show w.heap.size ≤ wq.heap.size by omega)
      iterate 4 refine ownsRow_setCell_below ?_ (by dsimp only; omega) _
      exact HO6.out
    · (repeat' (first | (with_reducible exact Below.refl _ _) | (with_reducible assumption) | (with_reducible refine below_drewN ?_ _) | (with_reducible refine Below.drew ?_) | (with_reducible refine Below.alloc ?_ ?_ _) | (with_reducible refine Below.setCell ?_ ?_ _) | (with_reducible refine via (by with_reducible assumption) ?_ ?_) | go_size))

set_option maxRecDepth 100000 in
set_option maxHeartbeats 4000000 in
theorem JoinPagesS_c (s : ByteArray) (f t : Int) (A : Option Addr) (n c : Nat) (l : List Int) (s1 : ByteArray) (f1 t1 : Int) (A1 : Option Addr) (n1 c1 : Nat) (l1 : List Int) (w : World) (hs : s.size ≤ 1048576) (hn : l.length = n) (hm : n ≤ 1048576) (hr : Rd w w.heap.size 1 icell A l) (hs1 : s1.size ≤ 1048576) (hn1 : l1.length = n1) (hm1 : n1 ≤ 1048576) (hr1 : Rd w w.heap.size 1 icell A1 l1) :
    Calls Try.prog 31 #[pg s f t A n c, pg s1 f1 t1 A1 n1 c1] w fun e w' => ∃ RA Rc, e = .returned (.tuple #[pg (joinR s f t l s1 f1 t1 l1).1.s (joinR s f t l s1 f1 t1 l1).1.f (joinR s f t l s1 f1 t1 l1).1.t RA (joinR s f t l s1 f1 t1 l1).1.l.length Rc, .int .i64 (joinR s f t l s1 f1 t1 l1).2]) ∧ w'.ownsRow w.heap.size 2 1 (.slice RA (joinR s f t l s1 f1 t1 l1).1.l.length Rc) (joinR s f t l s1 f1 t1 l1).1.l.length ((joinR s f t l s1 f1 t1 l1).1.l.map (Value.int .i64)) ∧ Below w.heap.size w w' := by
  obtain ⟨i0, hi0, hi1, hi2, hi3⟩ := info_parts info_i64
  have hA : A = none → n = 0 := fun h => by rw [← hn]; exact hr.none_len h
  have hA1 : A1 = none → n1 = 0 := fun h => by rw [← hn1]; exact hr1.none_len h
  have HJ := Lib.hid (joinB_iff (s := s) (f := f) (t := t) (l := l) (s' := s1) (f' := f1) (t' := t1))
  rw [hn] at HJ
  have HN := Lib.hid hn; clear hn
  have HN1 := Lib.hid hn1; clear hn1
  unfold pg
  go_enter Try.func31, Try.ntmps31
  go_wp2_with fail
  refine gen_calls fun W hW => ?_
  have hbW : Below w.heap.size w W := by rw [hW.out]; (repeat' (first | (with_reducible exact Below.refl _ _) | (with_reducible assumption) | (with_reducible refine below_drewN ?_ _) | (with_reducible refine Below.drew ?_) | (with_reducible refine Below.alloc ?_ ?_ _) | (with_reducible refine Below.setCell ?_ ?_ _) | (with_reducible refine via (by with_reducible assumption) ?_ ?_) | go_size))
  have hp : PgW W w.heap.size s f t A n c := by rw [hW.out]; unfold PgW PgAt; simp [go_sem]
  have hq : PgW W (w.heap.size + 1) s1 f1 t1 A1 n1 c1 := by rw [hW.out]; unfold PgW PgAt; simp [go_sem]
  have hz : PgW W (w.heap.size + 1 + 1) ByteArray.empty 0 0 none 0 0 := by rw [hW.out]; unfold PgW PgAt; simp [go_sem]; try rfl
  have hlt : w.heap.size + 1 + 1 < W.heap.size := by rw [hW.out]; simp [go_sem]
  clear hW
  refine (l18Ok_c w.heap.size s f t A n c l w.heap.size W (by unfold maxLen; omega) HN.out hm (hr.below hbW) hp.1).mono ?_
  rintro e W1 ⟨rfl, mq, hW1⟩
  have hb1 : Below W.heap.size W W1 := by rw [hW1]; exact below_drewN (Below.refl _ _) mq
  clear hW1
  have hp1 := hp.below hb1 (by omega)
  have hq1 := hq.below hb1 (by omega)
  have hz1 := hz.below hb1 hlt
  have hlt1 : w.heap.size + 1 + 1 < W1.heap.size := Nat.lt_of_lt_of_le hlt hb1.size
  have hbW1 : Below w.heap.size w W1 := hbW.trans (hb1.mono hbW.size)
  clear hp hq hz hb1 hbW hlt
  have HP1 := Lib.hid hp1; have HQ1 := Lib.hid hq1; have HZ1 := Lib.hid hz1
  clear hp1 hq1 hz1
  cases hv : pageB s f t l
  · have HR := Lib.hid (show joinR s f t l s1 f1 t1 l1 = (pg0, 1) by unfold joinR; rw [hv]; rfl)
    obtain ⟨⟨k0, k1, k2, k3⟩, fk0, fk1, fk2, fk3⟩ := HZ1.out
    have hfar2 := far hlt1
    go_wp2_with fail
    refine bodyPost_ret (v := .tuple #[pg pg0.s pg0.f pg0.t none pg0.l.length 0, .int .i64 1]) (by simp only [results, Try.results31, pg, pg0]; go_simp; try rfl) rfl ⟨none, 0, by rw [HR.out]; rfl, by rw [HR.out]; exact own_nil1 _ _, ?_⟩
    (repeat' (first | (with_reducible exact Below.refl _ _) | (with_reducible assumption) | (with_reducible refine below_drewN ?_ _) | (with_reducible refine Below.drew ?_) | (with_reducible refine Below.alloc ?_ ?_ _) | (with_reducible refine Below.setCell ?_ ?_ _) | (with_reducible refine via (by with_reducible assumption) ?_ ?_) | go_size))
  have HV := Lib.hid hv
  obtain ⟨⟨g0, g1, g2, g3⟩, ff0, ff1, ff2, ff3⟩ := HQ1.out
  have hfar := far (show w.heap.size + 1 < W1.heap.size by omega)
  go_wp2_with fail
  refine (l18Ok_c (w.heap.size + 1) s1 f1 t1 A1 n1 c1 l1 w.heap.size W1 (by unfold maxLen; omega) HN1.out hm1 (hr1.below hbW1) HQ1.out.1).mono ?_
  rintro e W2 ⟨rfl, mq2, hW2⟩
  have hb2 : Below W1.heap.size W1 W2 := by rw [hW2]; exact below_drewN (Below.refl _ _) mq2
  clear hW2
  clear g0 g1 g2 g3 ff0 ff1 ff2 ff3 hfar hv
  have HP2 := Lib.hid (HP1.out.below hb2 (by omega))
  have HQ2 := Lib.hid (HQ1.out.below hb2 (by omega))
  have HZ2 := Lib.hid (HZ1.out.below hb2 hlt1)
  have hlt2 : w.heap.size + 1 + 1 < W2.heap.size := Nat.lt_of_lt_of_le hlt1 hb2.size
  have hbW2 : Below w.heap.size w W2 := hbW1.trans (hb2.mono hbW1.size)
  clear HP1 HQ1 HZ1 hb2
  obtain ⟨⟨p0, p1, p2, p3⟩, fp0, fp1, fp2, fp3⟩ := HP2.out
  obtain ⟨⟨g0, g1, g2, g3⟩, ff0, ff1, ff2, ff3⟩ := HQ2.out
  obtain ⟨⟨k0, k1, k2, k3⟩, fk0, fk1, fk2, fk3⟩ := HZ2.out
  have hfar := far (show w.heap.size < W2.heap.size by omega)
  have hfar1 := far (show w.heap.size + 1 < W2.heap.size by omega)
  have hfar2 := far hlt2
  cases hv1 : pageB s1 f1 t1 l1
  · have HR := Lib.hid (show joinR s f t l s1 f1 t1 l1 = (pg0, 1) by unfold joinR; rw [HV.out, hv1]; rfl)
    go_wp2_with fail
    refine bodyPost_ret (v := .tuple #[pg pg0.s pg0.f pg0.t none pg0.l.length 0, .int .i64 1]) (by simp only [results, Try.results31, pg, pg0]; go_simp; try rfl) rfl ⟨none, 0, by rw [HR.out]; rfl, by rw [HR.out]; exact own_nil1 _ _, ?_⟩
    (repeat' (first | (with_reducible exact Below.refl _ _) | (with_reducible assumption) | (with_reducible refine below_drewN ?_ _) | (with_reducible refine Below.drew ?_) | (with_reducible refine Below.alloc ?_ ?_ _) | (with_reducible refine Below.setCell ?_ ?_ _) | (with_reducible refine via (by with_reducible assumption) ?_ ?_) | go_size))
  have HV1 := Lib.hid hv1
  obtain ⟨qf, qt, qn, ql, _, _⟩ := pageB_bd HV.out
  rw [HN.out] at qn ql
  have hmul := rows_bd (n := (n : Int)) (t := t) (by omega) qt
  clear hv1
  have e9 : IntKind.i64.wrap ((n : Int) * t) = (n : Int) * t := IntWalk.i64_in _ (by omega)
  have e8 : IntKind.i64.wrap (f + (n : Int) * t) = f + (n : Int) * t := IntWalk.i64_in _ (by omega)
  by_cases e0 : (s.toList == s1.toList) = true
  rotate_left
  · have HR := Lib.hid (join_no HV.out HV1.out (fun h => e0 ((HJ.out.1 h).1)))
    have e0' : (s.toList == s1.toList) = false := by simpa using e0
    go_wp2_with fail
    refine bodyPost_ret (v := .tuple #[pg pg0.s pg0.f pg0.t none pg0.l.length 0, .int .i64 6]) (by simp only [results, Try.results31, pg, pg0]; go_simp; try rfl) rfl ⟨none, 0, by rw [HR.out]; rfl, by rw [HR.out]; exact own_nil1 _ _, ?_⟩
    (repeat' (first | (with_reducible exact Below.refl _ _) | (with_reducible assumption) | (with_reducible refine below_drewN ?_ _) | (with_reducible refine Below.drew ?_) | (with_reducible refine Below.alloc ?_ ?_ _) | (with_reducible refine Below.setCell ?_ ?_ _) | (with_reducible refine via (by with_reducible assumption) ?_ ?_) | go_size))
  by_cases e1 : t = t1
  rotate_left
  · have HR := Lib.hid (join_no HV.out HV1.out (fun h => e1 ((HJ.out.1 h).2.1)))
    have e1' : (t != t1) = true := by simpa using e1
    clear e1
    go_wp2_with fail
    refine bodyPost_ret (v := .tuple #[pg pg0.s pg0.f pg0.t none pg0.l.length 0, .int .i64 6]) (by simp only [results, Try.results31, pg, pg0]; go_simp; try rfl) rfl ⟨none, 0, by rw [HR.out]; rfl, by rw [HR.out]; exact own_nil1 _ _, ?_⟩
    (repeat' (first | (with_reducible exact Below.refl _ _) | (with_reducible assumption) | (with_reducible refine below_drewN ?_ _) | (with_reducible refine Below.drew ?_) | (with_reducible refine Below.alloc ?_ ?_ _) | (with_reducible refine Below.setCell ?_ ?_ _) | (with_reducible refine via (by with_reducible assumption) ?_ ?_) | go_size))
  subst e1
  by_cases e2 : f1 = f + (n : Int) * t
  rotate_left
  · have HR := Lib.hid (join_no HV.out HV1.out (fun h => e2 ((HJ.out.1 h).2.2)))
    have e2' : (f1 != f + (n : Int) * t) = true := by simpa using e2
    clear e2
    go_wp2_with fail
    refine bodyPost_ret (v := .tuple #[pg pg0.s pg0.f pg0.t none pg0.l.length 0, .int .i64 6]) (by simp only [results, Try.results31, pg, pg0]; go_simp; try rfl) rfl ⟨none, 0, by rw [HR.out]; rfl, by rw [HR.out]; exact own_nil1 _ _, ?_⟩
    (repeat' (first | (with_reducible exact Below.refl _ _) | (with_reducible assumption) | (with_reducible refine below_drewN ?_ _) | (with_reducible refine Below.drew ?_) | (with_reducible refine Below.alloc ?_ ?_ _) | (with_reducible refine Below.setCell ?_ ?_ _) | (with_reducible refine via (by with_reducible assumption) ?_ ?_) | go_size))
  have e2' : (f1 != f + (n : Int) * t) = false := by simpa using e2
  have HJT := Lib.hid (HJ.out.2 ⟨e0, rfl, e2⟩)
  clear e2
  go_upto_region 6 with fail
  refine gen_world fun wq hW => ?_
  have hbq : Below W2.heap.size W2 wq := by rw [hW.out]; (repeat' (first | (with_reducible exact Below.refl _ _) | (with_reducible assumption) | (with_reducible refine below_drewN ?_ _) | (with_reducible refine Below.drew ?_) | (with_reducible refine Below.alloc ?_ ?_ _) | (with_reducible refine Below.setCell ?_ ?_ _) | (with_reducible refine via (by with_reducible assumption) ?_ ?_) | go_size))
  have HP3 := Lib.hid (show PgW wq W2.heap.size s f t A n c by rw [hW.out]; unfold PgW PgAt; simp [go_sem, *])
  have hltX : W2.heap.size < wq.heap.size := by rw [hW.out]; simp [go_sem]
  clear hW p0 p1 p2 p3 fp0 fp1 fp2 fp3 g0 g1 g2 g3 ff0 ff1 ff2 ff3 k0 k1 k2 k3 fk0 fk1 fk2 fk3 hfar hfar1 hfar2
  have hltq : w.heap.size + 1 + 1 < wq.heap.size := Nat.lt_of_lt_of_le hlt2 hbq.size
  have hbWq : Below w.heap.size w wq := hbW2.trans (hbq.mono hbW2.size)
  have HA3 := Lib.hid (HP2.out.below hbq (by omega))
  have HQ3 := Lib.hid (HQ2.out.below hbq (by omega))
  have HZ3 := Lib.hid (HZ2.out.below hbq hlt2)
  obtain ⟨⟨p0, p1, p2, p3⟩, fp0, fp1, fp2, fp3⟩ := HA3.out
  obtain ⟨⟨g0, g1, g2, g3⟩, ff0, ff1, ff2, ff3⟩ := HQ3.out
  obtain ⟨⟨k0, k1, k2, k3⟩, fk0, fk1, fk2, fk3⟩ := HP3.out
  have hfar := far (show w.heap.size < wq.heap.size by omega)
  have hfar1 := far (show w.heap.size + 1 < wq.heap.size by omega)
  have hfar2 := far hltX
  clear e2' e0
  obtain ⟨qf1, qt1, qn1, ql1, _, _⟩ := pageB_bd HV1.out
  rw [HN1.out] at qn1
  obtain ⟨b1, off1, rfl, hbl1, hcc1⟩ := hr1.ints' (by rw [HN1.out]; omega)
  have HC1 := Lib.hid (show ∀ X : World, Below w.heap.size w X → ∀ j u, (l1.map (Value.int .i64))[j]? = some u → X.cell? ⟨b1, off1 + j, none⟩ = some u from fun X hX j u hu => by
    rw [List.getElem?_map, Option.map_eq_some_iff] at hu
    obtain ⟨y, hy, rfl⟩ := hu
    rw [hX.cell (p := ⟨b1, off1 + j, none⟩) hbl1]
    exact hcc1 j y hy)
  clear hcc1
  have HG3 := Lib.hid g3
  refine wp_region_held_drew (S := fun w' => w'.cell? ⟨w.heap.size + 1, 3, none⟩ = some (.slice (some ⟨b1, off1, none⟩) n1 c1) ∧ Below w.heap.size w w') (by kernel_rfl) (by exact ⟨by (first | assumption | (simp [go_sem, *]; done)), by (repeat' (first | (with_reducible exact Below.refl _ _) | (with_reducible assumption) | (with_reducible refine below_drewN ?_ _) | (with_reducible refine Below.drew ?_) | (with_reducible refine Below.alloc ?_ ?_ _) | (with_reducible refine Below.setCell ?_ ?_ _) | (with_reducible refine via (by with_reducible assumption) ?_ ?_) | go_size))⟩) (fun hHeld => ?_)
  refine wpAnyH_take (i := 0) (v := ?_) rfl (by kernel_rfl) (by kernel_rfl) (by kernel_rfl) (fun _ _ _ h => h) (Or.inl ⟨by rfl, ?_⟩) (by assumption) ?_
  rotate_left
  · intro w hSw
    try dsimp only at hSw
    go_simp
    try with_reducible rfl
  try simp only [Act.put, List.setIfInBounds_toArray, List.set_cons_zero, List.set_cons_succ]
  refine wpAnyH_take (i := 3) (v := ?_) rfl (by kernel_rfl) (by kernel_rfl) (by kernel_rfl) (fun _ _ _ h => h) (Or.inl ⟨by rfl, ?_⟩) (by assumption) ?_
  rotate_left
  · intro w hSw
    try dsimp only at hSw
    go_simp
    try with_reducible rfl
  try simp only [Act.put, List.setIfInBounds_toArray, List.set_cons_zero, List.set_cons_succ]
  refine wpAnyH_take (i := 4) (v := ?_) rfl (by kernel_rfl) (by kernel_rfl) (by kernel_rfl) (fun _ _ _ h => h) (Or.inl ⟨by rfl, ?_⟩) (by assumption) ?_
  rotate_left
  · intro w hSw
    try dsimp only at hSw
    go_simp
    try with_reducible rfl
  try simp only [Act.put, List.setIfInBounds_toArray, List.set_cons_zero, List.set_cons_succ]
  refine wpAnyH_ready (rs := [1]) (by kernel_rfl) (by simp) ?_
  refine AllReadyH.cons rfl (fun K hK => ?_) AllReadyH.nil
  go_simp
  refine hK.out _ _ ?_ (fun hHeld => ?_)
  · exact ⟨by (first | assumption | (simp [go_sem, *]; done)), by (repeat' (first | (with_reducible exact Below.refl _ _) | (with_reducible assumption) | (with_reducible refine below_drewN ?_ _) | (with_reducible refine Below.drew ?_) | (with_reducible refine Below.alloc ?_ ?_ _) | (with_reducible refine Below.setCell ?_ ?_ _) | (with_reducible refine via (by with_reducible assumption) ?_ ?_) | go_size))⟩
  clear hK K
  try simp only [Act.put, List.setIfInBounds_toArray, List.set_cons_zero, List.set_cons_succ]
  refine wpAnyH_ready (rs := [2]) (by kernel_rfl) (by simp) ?_
  refine AllReadyH.cons rfl (fun K hK => ?_) AllReadyH.nil
  go_simp
  (go_at_call 55; refine (l00Own_c A n c l _ HN.out hm hA (rd_at hr (by (repeat' (first | (with_reducible exact Below.refl _ _) | (with_reducible assumption) | (with_reducible refine below_drewN ?_ _) | (with_reducible refine Below.drew ?_) | (with_reducible refine Below.alloc ?_ ?_ _) | (with_reducible refine Below.setCell ?_ ?_ _) | (with_reducible refine via (by with_reducible assumption) ?_ ?_) | go_size))))).mono ?_; rintro e w3 ⟨v3, rfl, hx3, hb3⟩; obtain ⟨hc3, hf3⟩ := bcell hb3; have hz3 := hb3.size; (try simp only [World.size_alloc, size_drewN, World.size_setCell, World.size_drew] at hz3 hc3 hf3); have hfar3 := far (show w.heap.size < w3.heap.size by omega); have hfar4 := far (show w.heap.size + 1 < w3.heap.size by omega); have hG4 : w3.cell? ⟨w.heap.size + 1, 3, none⟩ = some (.slice (some ⟨b1, off1, none⟩) n1 c1) := (by rw [hc3 _ _ (by omega)]; exact HG3.out); have HX3 := Lib.hid hx3; clear hx3)
  refine hK.out _ _ ?_ (fun hHeld => ?_)
  · exact ⟨by (first | assumption | (simp [go_sem, *]; done)), by (repeat' (first | (with_reducible exact Below.refl _ _) | (with_reducible assumption) | (with_reducible refine below_drewN ?_ _) | (with_reducible refine Below.drew ?_) | (with_reducible refine Below.alloc ?_ ?_ _) | (with_reducible refine Below.setCell ?_ ?_ _) | (with_reducible refine via (by with_reducible assumption) ?_ ?_) | go_size))⟩
  clear hK K
  try simp only [Act.put, List.setIfInBounds_toArray, List.set_cons_zero, List.set_cons_succ]
  refine wpAnyH_ready (rs := [5]) (by kernel_rfl) (by simp) ?_
  refine AllReadyH.cons rfl (fun K hK => ?_) AllReadyH.nil
  ((refine appm_step (W := w3) (z := .int .i64 0) (.tmp 44) (.tmp 46) (by rfl) (by rfl) Try.underlying26 hi0 hi1 hi2 hi3 rfl (by decide) (by decide) (by rfl) HX3.out (by rfl) (by rw [List.length_map, HN1.out, Nat.mul_one]) (HC1.out _ (by (repeat' (first | (with_reducible exact Below.refl _ _) | (with_reducible assumption) | (with_reducible refine below_drewN ?_ _) | (with_reducible refine Below.drew ?_) | (with_reducible refine Below.alloc ?_ ?_ _) | (with_reducible refine Below.setCell ?_ ?_ _) | (with_reducible refine via (by with_reducible assumption) ?_ ?_) | go_size)))) (by simp [Value.oneCell']) (by omega) (Below.refl _ _) hb3.size ?_; intro v4 w4 hown4 hg4 hblk4 hb4; obtain ⟨A4, c4, rfl, hA4⟩ := own_form hown4; have HO4 := Lib.hid hown4; clear hown4; obtain ⟨hc4, hf4⟩ := bcell hb4; have hz4 := hb4.size; (try simp only [World.size_alloc, size_drewN, World.size_setCell, World.size_drew] at hc4 hf4); have hG5 : w4.cell? ⟨w.heap.size + 1, 3, none⟩ = some (.slice (some ⟨b1, off1, none⟩) n1 c1) := (by rw [hc4 _ _ (by omega)]; exact hG4); have hb4w : Below w.heap.size w w4 := (by (repeat' (first | (with_reducible exact Below.refl _ _) | (with_reducible assumption) | (with_reducible refine below_drewN ?_ _) | (with_reducible refine Below.drew ?_) | (with_reducible refine Below.alloc ?_ ?_ _) | (with_reducible refine Below.setCell ?_ ?_ _) | (with_reducible refine via (by with_reducible assumption) ?_ ?_) | go_size))); obtain ⟨⟨hP40, hP41, hP42, hP43⟩, hF40, hF41, hF42, hF43⟩ := PgW.below (PgW.below (show PgW wq.drew W2.heap.size s f t A n c from HP3.out) hb3 (show W2.heap.size < wq.heap.size by omega)) hb4 (show W2.heap.size < wq.heap.size by omega); have HZ4 := Lib.hid (PgW.below (PgW.below (show PgW wq.drew (w.heap.size + 1 + 1) ByteArray.empty 0 0 none 0 0 from HZ3.out) hb3 hltq) hb4 hltq); have hfar5 := far (show W2.heap.size < w4.heap.size by omega); have hfar6 := far (show w.heap.size + 1 < w4.heap.size by omega)))
  refine hK.out _ _ ?_ (fun hHeld => ?_)
  · exact ⟨by (first | assumption | (simp [go_sem, *]; done)), by (repeat' (first | (with_reducible exact Below.refl _ _) | (with_reducible assumption) | (with_reducible refine below_drewN ?_ _) | (with_reducible refine Below.drew ?_) | (with_reducible refine Below.alloc ?_ ?_ _) | (with_reducible refine Below.setCell ?_ ?_ _) | (with_reducible refine via (by with_reducible assumption) ?_ ?_) | go_size))⟩
  clear hK K
  try simp only [Act.put, List.setIfInBounds_toArray, List.set_cons_zero, List.set_cons_succ]
  refine wpAnyH_ready (rs := [6]) (by kernel_rfl) (by simp) ?_
  refine AllReadyH.cons rfl (fun K hK => ?_) AllReadyH.nil
  go_simp
  refine hK.out _ _ ?_ (fun hHeld => ?_)
  · exact ⟨by (first | assumption | (simp [go_sem, *]; done)), by (repeat' (first | (with_reducible exact Below.refl _ _) | (with_reducible assumption) | (with_reducible refine below_drewN ?_ _) | (with_reducible refine Below.drew ?_) | (with_reducible refine Below.alloc ?_ ?_ _) | (with_reducible refine Below.setCell ?_ ?_ _) | (with_reducible refine via (by with_reducible assumption) ?_ ?_) | go_size))⟩
  clear hK K
  try simp only [Act.put, List.setIfInBounds_toArray, List.set_cons_zero, List.set_cons_succ]
  refine wpAnyH_ready (rs := [7]) (by kernel_rfl) (by simp) ?_
  refine AllReadyH.cons rfl (fun K hK => ?_) AllReadyH.nil
  go_simp
  refine hK.out _ _ ?_ (fun hHeld => ?_)
  · exact ⟨by (first | assumption | (simp [go_sem, *]; done)), by (repeat' (first | (with_reducible exact Below.refl _ _) | (with_reducible assumption) | (with_reducible refine below_drewN ?_ _) | (with_reducible refine Below.drew ?_) | (with_reducible refine Below.alloc ?_ ?_ _) | (with_reducible refine Below.setCell ?_ ?_ _) | (with_reducible refine via (by with_reducible assumption) ?_ ?_) | go_size))⟩
  clear hK K
  try simp only [Act.put, List.setIfInBounds_toArray, List.set_cons_zero, List.set_cons_succ]
  refine wpAnyH_done (by kernel_rfl) ?_ _
  have HP4 := Lib.hid (⟨⟨hP40, hP41, hP42, hP43⟩, hF40, hF41, hF42, hF43⟩ : PgW w4 W2.heap.size s f t A n c)
  clear p0 p1 p2 p3 fp0 fp1 fp2 fp3 g0 g1 g2 g3 ff0 ff1 ff2 ff3 k0 k1 k2 k3 fk0 fk1 fk2 fk3 hfar hfar1 hfar2 hP40 hP41 hP42 hP43 hF40 hF41 hF42 hF43 hc3 hf3 hc4 hf4 hG4 hG5 hfar3 hfar4
  have hq4 : wq.heap.size ≤ w4.heap.size := Nat.le_trans hz3 hb4.size
  have hff := far (show W2.heap.size < w4.heap.size by omega)
  have hf2 := far (show w.heap.size + 1 + 1 < w4.heap.size by omega)
  obtain ⟨⟨p0, p1, p2, p3⟩, fp0, fp1, fp2, fp3⟩ := HP4.out
  go_wp2_with fail
  refine gen_calls fun W5 hW => ?_
  have hb5 : Below w.heap.size w W5 := by rw [hW.out]; (repeat' (first | (with_reducible exact Below.refl _ _) | (with_reducible assumption) | (with_reducible refine below_drewN ?_ _) | (with_reducible refine Below.drew ?_) | (with_reducible refine Below.alloc ?_ ?_ _) | (with_reducible refine Below.setCell ?_ ?_ _) | (with_reducible refine via (by with_reducible assumption) ?_ ?_) | go_size))
  have ho5 : W5.ownsRow wq.heap.size 2 1 (.slice A4 (n + n1) c4) (n + n1) ((l ++ l1).map (Value.int .i64)) := by rw [hW.out, List.map_append]; exact ownsRow_setCell_below HO4.out (show W2.heap.size < wq.heap.size by omega) _
  have hP5 : PgW W5 W2.heap.size s f t A4 (n + n1) c4 := by rw [hW.out]; unfold PgW PgAt; simp [go_sem, *]
  have hZ5 : PgW W5 (w.heap.size + 1 + 1) ByteArray.empty 0 0 none 0 0 := by
    obtain ⟨⟨k0, k1, k2, k3⟩, fk0, fk1, fk2, fk3⟩ := HZ4.out
    rw [hW.out]; unfold PgW PgAt; simp [go_sem, *]
  have hlt5 : w.heap.size + 1 + 1 < W5.heap.size := by rw [hW.out, World.size_setCell]; omega
  have hltX5 : W2.heap.size < W5.heap.size := by rw [hW.out, World.size_setCell]; omega
  clear hW p0 p1 p2 p3 fp0 fp1 fp2 fp3
  have HO5 := Lib.hid ho5; clear ho5
  have hls : (l ++ l1).length = n + n1 := by rw [List.length_append, HN.out, HN1.out]
  have HLS := Lib.hid hls; clear hls
  refine (l18Ok_c W2.heap.size s f t A4 (n + n1) c4 (l ++ l1) W5.heap.size W5 (by unfold maxLen; omega) HLS.out (by omega) (rd_own HO5.out) hP5.1).mono ?_
  rintro e W6 ⟨rfl, mq6, hW6⟩
  have hb6 : Below W5.heap.size W5 W6 := by rw [hW6]; exact below_drewN (Below.refl _ _) mq6
  clear hW6
  have HP6 := Lib.hid (hP5.below hb6 hltX5)
  have HZ6 := Lib.hid (hZ5.below hb6 hlt5)
  have HO6 := Lib.hid (own_call HO5.out hb6)
  have hlt6 : w.heap.size + 1 + 1 < W6.heap.size := Nat.lt_of_lt_of_le hlt5 hb6.size
  have hbW6 : Below w.heap.size w W6 := hb5.trans (hb6.mono hb5.size)
  have hb6s := hb6.size
  clear hP5 hZ5 HP4 HZ4 HO4 hb6
  obtain ⟨⟨p0, p1, p2, p3⟩, fp0, fp1, fp2, fp3⟩ := HP6.out
  obtain ⟨⟨k0, k1, k2, k3⟩, fk0, fk1, fk2, fk3⟩ := HZ6.out
  have hltX6 : W2.heap.size < W6.heap.size := Nat.lt_of_lt_of_le hltX5 hb6s
  have hfar := far hltX6
  have hfar2 := far hlt6
  cases hv2 : pageB s f t (l ++ l1)
  · have HR := Lib.hid (join_full HV.out HV1.out HJT.out hv2)
    go_wp2_with fail
    refine bodyPost_ret (v := .tuple #[pg pg0.s pg0.f pg0.t none pg0.l.length 0, .int .i64 5]) (by simp only [results, Try.results31, pg, pg0]; go_simp; try rfl) rfl ⟨none, 0, by rw [HR.out]; rfl, by rw [HR.out]; exact own_nil1 _ _, ?_⟩
    (repeat' (first | (with_reducible exact Below.refl _ _) | (with_reducible assumption) | (with_reducible refine below_drewN ?_ _) | (with_reducible refine Below.drew ?_) | (with_reducible refine Below.alloc ?_ ?_ _) | (with_reducible refine Below.setCell ?_ ?_ _) | (with_reducible refine via (by with_reducible assumption) ?_ ?_) | go_size))
  · have HR := Lib.hid (join_yes HV.out HV1.out HJT.out hv2)
    have n5 : ¬ W2.heap.size = w.heap.size + 1 + 1 := by omega
    have n6 : ¬ w.heap.size + 1 + 1 = W2.heap.size := by omega
    go_wp2_with fail
    refine bodyPost_ret (v := .tuple #[pg s f t A4 (n + n1) c4, .int .i64 0]) (by simp only [results, Try.results31, pg]; go_simp) rfl ⟨A4, c4, by rw [HR.out]; simp only [HLS.out]; rfl, ?_, ?_⟩
    · rw [HR.out]
      simp only [HLS.out]
      refine own_base ?_ (show w.heap.size ≤ wq.heap.size by omega)
      iterate 4 refine ownsRow_setCell_below ?_ (by dsimp only; omega) _
      exact HO6.out
    · (repeat' (first | (with_reducible exact Below.refl _ _) | (with_reducible assumption) | (with_reducible refine below_drewN ?_ _) | (with_reducible refine Below.drew ?_) | (with_reducible refine Below.alloc ?_ ?_ _) | (with_reducible refine Below.setCell ?_ ?_ _) | (with_reducible refine via (by with_reducible assumption) ?_ ?_) | go_size))

end Go.Proofs.Ytklpjpablmiaoaa
