/- Contracts: finer tables; both sides. -/
import Derived.Test.YtphckllloiogjaaFin3
set_option linter.unusedVariables false
set_option linter.unusedSimpArgs false
namespace Go.Proofs.Ytphckllloiogjaa
open Go.RowKit

theorem news2 {w : World} {g : Nat} {z0 z1 : Value} (h0 : w.cell? ⟨g, 0, none⟩ = some z0) (h1 : w.cell? ⟨g, 1, none⟩ = some z1) : ∀ j u, [z0, z1][j]? = some u → w.cell? ⟨g, j, none⟩ = some u := fun j u hu => by
  match j, hu with
  | 0, hu => simp at hu; subst hu; exact h0
  | 1, hu => simp at hu; subst hu; exact h1
  | j + 2, hu => simp at hu
theorem f_nil {w : World} {B : Nat} (hB : B ≤ w.heap.size) : (w.alloc (.cells #[] 23)).ownsRow B 23 2 (.slice (some ⟨w.heap.size, 0, none⟩) 0 0) 0 (([] : List (Int × Int)).flatMap fcell) := by
  simpa using World.ownsRow_made w #[] 0 hB (by simp [maxLen]) (by simp)
theorem finL_succ (l : List Int) (parts : Int) (k : Nat) : (finL l parts (k + 1)).flatMap fcell = (finL l parts k).flatMap fcell ++ fcell (vAt l k parts) := by rw [finL, List.flatMap_append]; simp

set_option maxRecDepth 100000 in
set_option maxHeartbeats 4000000 in
theorem finer_c (A : Option Addr) (n c : Nat) (l : List Int) (parts : Int) (q : Nat) (w : World) (hn : l.length = n) (hm : n ≤ 1048576) (hr : Rd w w.heap.size 1 icell A l) (hk : knownB l = true) (hd : 1 ≤ parts ∧ parts ≤ 20) (hq : q ≤ 120) :
    Calls Try.prog 71 #[.slice A n c, .int .i64 parts, .int .i64 q] w fun e w' => ∃ v, e = .returned (.tuple #[v, .int .i64 (finC l parts q).2]) ∧ w'.ownsRow w.heap.size 23 2 v (finC l parts q).1.length ((finC l parts q).1.flatMap fcell) ∧ Below w.heap.size w w' := by
  obtain ⟨i0, hi0, hy0, hy1, hy2⟩ := info_parts info_frac
  have HN := Lib.hid hn; clear hn
  have HK := Lib.hid hk; clear hk
  go_enter Try.func71, Try.ntmps71
  go_wp2_with fail
  refine (leading_c A n c l w HN.out hm hr).mono ?_
  rintro e w1 ⟨v, rfl, hx, hb1⟩
  obtain ⟨A2, c2, rfl, _⟩ := own_form hx
  have HX := Lib.hid hx; clear hx
  have hb1s := hb1.size
  go_wp2_with fail
  go_loopw [9, 18] (fun o i wr => ∃ k : Nat, k ≤ q ∧ i = .int .i64 k ∧ finOk l parts k = true ∧ Below w1.heap.size w1 wr ∧ wr.ownsRow w1.heap.size 23 2 o k ((finL l parts k).flatMap fcell)) (fun _ i _ => q - (intOf i).toNat)
  case atStart => exact ⟨0, Nat.zero_le _, rfl, rfl, by (repeat' (first | (with_reducible exact Below.refl _ _) | (with_reducible assumption) | (with_reducible refine below_drewN ?_ _) | (with_reducible refine Below.drew ?_) | (with_reducible refine Below.alloc ?_ ?_ _) | (with_reducible refine Below.setCell ?_ ?_ _) | (with_reducible refine via (by with_reducible assumption) ?_ ?_) | go_size)), f_nil (Nat.le_refl _)⟩
  case round =>
    obtain ⟨k, hk, rfl, hok, hb, hx⟩ := hrel
    have HO := Lib.hid hx; clear hx
    have HOK := Lib.hid hok; clear hok
    have hbs := hb.size
    by_cases hlt : k < q
    · have hvd := vAt_den (num := (k : Int)) HK.out hd
      have HXr := Lib.hid (own_call HX.out hb)
      go_wp2_with fail
      refine (vAtI_c A2 n c2 l k parts wr HN.out (rd_own HXr.out) HK.out (by omega) hd).mono ?_
      rintro e w2 ⟨rfl, hb2⟩
      have HO2 := Lib.hid (own_call HO.out hb2); clear HO
      obtain ⟨hc2, hf2⟩ := bcell hb2; have hz2 := hb2.size; (try simp only [World.size_alloc, size_drewN, World.size_setCell, World.size_drew] at hz2 hc2 hf2)
      have HSU := Lib.hid (finL_succ l parts k)
      have HFS := Lib.hid (finOk_succ l parts k)
      have HNO := Lib.hid (show plainB (vAt l k parts).1 (vAt l k parts).2 = false → finOk l parts q = false from fun h => finOk_no hlt h)
      generalize hV : vAt l k parts = V at *
      have HV := Lib.hid hV; clear hV
      simp only [fr]
      go_wp2_with fail
      refine (isPlainFraction_c V _ hvd).mono ?_
      rintro e w3 ⟨rfl, hb3⟩
      have hbX : Below w2.heap.size w2 w3 := by (repeat' (first | (with_reducible exact Below.refl _ _) | (with_reducible assumption) | (with_reducible refine below_drewN ?_ _) | (with_reducible refine Below.drew ?_) | (with_reducible refine Below.alloc ?_ ?_ _) | (with_reducible refine Below.setCell ?_ ?_ _) | (with_reducible refine via (by with_reducible assumption) ?_ ?_) | go_size))
      have HO3 := Lib.hid (own_call HO2.out hbX); clear HO2 hbX
      obtain ⟨hc3, hf3⟩ := bcell hb3; have hz3 := hb3.size; (try simp only [World.size_alloc, size_drewN, World.size_setCell, World.size_drew] at hz3 hc3 hf3); have hl3_0 := far (show w2.heap.size < w3.heap.size by omega)
      cases hpl : plainB V.1 V.2
      · have HR := Lib.hid (show finC l parts q = ([], 5) by rw [finC, HNO.out hpl]; rfl)
        go_wp2_with fail
        refine bodyPost_ret (v := .tuple #[.slice none 0 0, .int .i64 5]) (by simp only [results, Try.results71]; go_simp) rfl ⟨.slice none 0 0, by rw [HR.out], by rw [HR.out]; exact World.ownsRow_nil _ _ _ _, ?_⟩
        (repeat' (first | (with_reducible exact Below.refl _ _) | (with_reducible assumption) | (with_reducible refine below_drewN ?_ _) | (with_reducible refine Below.drew ?_) | (with_reducible refine Below.alloc ?_ ?_ _) | (with_reducible refine Below.setCell ?_ ?_ _) | (with_reducible refine via (by with_reducible assumption) ?_ ?_) | go_size))
      · have HOK1 := Lib.hid (show finOk l parts (k + 1) = true by rw [HFS.out, HOK.out, hpl]; rfl)
        go_wp2_with (at_builtin; refine app_list (W := w1) (news := fcell V) (z := .agg #[.int .i64 0, .int .i64 0]) (.tmp 28) (.tmp 30) rfl rfl Try.underlying46 hi0 hy0 hy1 hy2 rfl (by decide) (by decide) rfl (HO3.out.alloc _) rfl rfl (news2 (by simp [go_sem]) (by simp [go_sem])) (fcell_one V) (by omega) (by (repeat' (first | (with_reducible exact Below.refl _ _) | (with_reducible assumption) | (with_reducible refine below_drewN ?_ _) | (with_reducible refine Below.drew ?_) | (with_reducible refine Below.alloc ?_ ?_ _) | (with_reducible refine Below.setCell ?_ ?_ _) | (with_reducible refine via (by with_reducible assumption) ?_ ?_) | go_size))) (Nat.le_refl _) ?_; intro v1 w4 hown1 hg1 hblk1 hb4)
        have HO4 := Lib.hid (show w4.ownsRow w1.heap.size 23 2 v1 (k + 1) ((finL l parts (k + 1)).flatMap fcell) by rw [HSU.out]; exact hown1)
        clear hown1
        (first | (refine ⟨?_, ?_⟩; rotate_left; (first | (simp [intOf]; done) | (simp [intOf]; omega)); (repeat apply Exists.intro); refine ⟨?_, rfl⟩; exact ⟨k + 1, by omega, by go_num, HOK1.out, hb4, HO4.out⟩) | exact ⟨⟨k + 1, by omega, by go_num, HOK1.out, hb4, HO4.out⟩, by first | (simp [intOf]; done) | (simp [intOf]; omega)⟩)
    · have hkn : k = q := by omega
      have HR := Lib.hid (show finC l parts q = (finL l parts q, 0) by rw [finC, ← hkn, HOK.out]; rfl)
      have HO5 := Lib.hid (show wr.ownsRow w.heap.size 23 2 u9 q ((finL l parts q).flatMap fcell) by have := HO.out; rw [hkn] at this; exact ⟨this.1, by rcases this.2 with h | ⟨g, cap, cur, rfl, hg, rest⟩; exact .inl h; exact .inr ⟨g, cap, cur, rfl, by omega, rest⟩⟩)
      obtain ⟨v1, rfl⟩ : ∃ v : Value, v = u9 := ⟨_, rfl⟩
      go_wp2_with fail
      refine bodyPost_ret (v := .tuple #[v1, .int .i64 0]) (by simp only [results, Try.results71]; go_simp) rfl ⟨v1, by rw [HR.out], by rw [HR.out]; simp only; rw [finL_len]; exact HO5.out, ?_⟩
      (repeat' (first | (with_reducible exact Below.refl _ _) | (with_reducible assumption) | (with_reducible refine below_drewN ?_ _) | (with_reducible refine Below.drew ?_) | (with_reducible refine Below.alloc ?_ ?_ _) | (with_reducible refine Below.setCell ?_ ?_ _) | (with_reducible refine via (by with_reducible assumption) ?_ ?_) | go_size))

set_option maxHeartbeats 4000000 in
theorem FinerTableI_c (A : Option Addr) (n c : Nat) (l : List Int) (parts count : Int) (w : World) (hn : l.length = n) (hm : n ≤ 1048576) (_ : A = none → n = 0) (hr : Rd w w.heap.size 1 icell A l) :
    Calls Try.prog 40 #[.slice A n c, .int .i64 parts, .int .i64 count] w fun e w' => ∃ v, e = .returned (.tuple #[v, .int .i64 (finT l parts count).2]) ∧ w'.ownsRow w.heap.size 23 2 v (finT l parts count).1.length ((finT l parts count).1.flatMap fcell) ∧ Below w.heap.size w w' := by
  have HN := Lib.hid hn; clear hn
  cases h1 : knownB l
  · have HB := Lib.hid (show finT l parts count = ([], 2) by unfold finT; rw [h1]; rfl)
    go_enter Try.func40, Try.ntmps40
    go_wp2_with (first | (go_at_call 55; refine (areKnown_c _ n c l w.heap.size _ HN.out hm hr).mono ?_; rintro e w' ⟨rfl, rfl⟩) | (go_at_call 69; refine (fine_c _ _).mono ?_; rintro e w' ⟨rfl, rfl⟩) | (go_at_call 61; refine (between_c _ _ _ _).mono ?_; rintro e w' ⟨rfl, rfl⟩))
    refine bodyPost_ret (v := .tuple #[.slice none 0 0, .int .i64 2]) (by simp only [results, Try.results40]; go_simp) rfl ⟨.slice none 0 0, by rw [HB.out], by rw [HB.out]; exact World.ownsRow_nil _ _ _ _, Below.refl _ _⟩
  cases h2 : inB parts 1 20
  · have HB := Lib.hid (show finT l parts count = ([], 2) by unfold finT; rw [h1, h2]; rfl)
    go_enter Try.func40, Try.ntmps40
    go_wp2_with (first | (go_at_call 55; refine (areKnown_c _ n c l w.heap.size _ HN.out hm hr).mono ?_; rintro e w' ⟨rfl, rfl⟩) | (go_at_call 69; refine (fine_c _ _).mono ?_; rintro e w' ⟨rfl, rfl⟩) | (go_at_call 61; refine (between_c _ _ _ _).mono ?_; rintro e w' ⟨rfl, rfl⟩))
    refine bodyPost_ret (v := .tuple #[.slice none 0 0, .int .i64 2]) (by simp only [results, Try.results40]; go_simp) rfl ⟨.slice none 0 0, by rw [HB.out], by rw [HB.out]; exact World.ownsRow_nil _ _ _ _, Below.refl _ _⟩
  cases h3 : inB count 0 120
  · have HB := Lib.hid (show finT l parts count = ([], 2) by unfold finT; rw [h1, h2, h3]; rfl)
    go_enter Try.func40, Try.ntmps40
    go_wp2_with (first | (go_at_call 55; refine (areKnown_c _ n c l w.heap.size _ HN.out hm hr).mono ?_; rintro e w' ⟨rfl, rfl⟩) | (go_at_call 69; refine (fine_c _ _).mono ?_; rintro e w' ⟨rfl, rfl⟩) | (go_at_call 61; refine (between_c _ _ _ _).mono ?_; rintro e w' ⟨rfl, rfl⟩))
    refine bodyPost_ret (v := .tuple #[.slice none 0 0, .int .i64 2]) (by simp only [results, Try.results40]; go_simp) rfl ⟨.slice none 0 0, by rw [HB.out], by rw [HB.out]; exact World.ownsRow_nil _ _ _ _, Below.refl _ _⟩
  obtain ⟨q, rfl⟩ : ∃ q : Nat, count = (q : Int) := ⟨count.toNat, by have := inB_iff.1 h3; omega⟩
  have hq := inB_iff.1 h3
  have hd := inB_iff.1 h2
  have HB := Lib.hid (show finT l parts (q : Int) = finC l parts q by unfold finT; rw [h1, h2, h3, Int.toNat_natCast]; rfl)
  have HK := Lib.hid h1
  go_enter Try.func40, Try.ntmps40
  go_wp2_with (first | (go_at_call 55; refine (areKnown_c _ n c l w.heap.size _ HN.out hm hr).mono ?_; rintro e w' ⟨rfl, rfl⟩) | (go_at_call 69; refine (fine_c _ _).mono ?_; rintro e w' ⟨rfl, rfl⟩) | (go_at_call 61; refine (between_c _ _ _ _).mono ?_; rintro e w' ⟨rfl, rfl⟩))
  clear h1 h2 h3
  refine (finer_c A n c l parts q _ HN.out hm hr HK.out hd (by omega)).mono ?_
  rintro e w1 ⟨v, rfl, hx, hb1⟩
  have HX := Lib.hid hx; clear hx
  go_wp2_with fail
  refine bodyPost_ret (v := .tuple #[v, .int .i64 (finC l parts q).2]) (by simp only [results, Try.results40]; go_simp) rfl ⟨v, by rw [HB.out], by rw [HB.out]; exact HX.out, hb1⟩

set_option maxRecDepth 100000 in
set_option maxHeartbeats 4000000 in
theorem FinerTableS_c (A : Option Addr) (n c : Nat) (l : List Int) (parts count : Int) (w : World) (hn : l.length = n) (hm : n ≤ 1048576) (hA : A = none → n = 0) (hr : Rd w w.heap.size 1 icell A l) :
    Calls Try.prog 39 #[.slice A n c, .int .i64 parts, .int .i64 count] w fun e w' => ∃ v, e = .returned (.tuple #[v, .int .i64 (finT l parts count).2]) ∧ w'.ownsRow w.heap.size 23 2 v (finT l parts count).1.length ((finT l parts count).1.flatMap fcell) ∧ Below w.heap.size w w' := by
  obtain ⟨i0, hi0, hy0, hy1, hy2⟩ := info_parts info_frac
  have HN := Lib.hid hn; clear hn
  by_cases hall : knownB l = true ∧ inB parts 1 20 = true
  rotate_left
  · have hp : placeR l 0 parts = 2 := by unfold placeR; rw [if_neg]; intro h; simp only [Bool.and_eq_true] at h; exact hall ⟨h.1.1, h.1.2⟩
    have HB := Lib.hid (show finT l parts count = ([], 2) by unfold finT; rw [if_neg]; intro h; simp only [Bool.and_eq_true] at h; exact hall ⟨h.1.1, h.1.2⟩)
    go_enter Try.func39, Try.ntmps39
    go_wp2_with ((go_at_call 67; refine (l19Code_c _ n c l 0 parts w.heap.size _ HN.out hm hr).mono ?_; rintro e w' ⟨rfl, rfl⟩))
    refine bodyPost_ret (v := .tuple #[.slice none 0 0, .int .i64 2]) (by simp only [results, Try.results39]; go_simp) rfl ⟨.slice none 0 0, by rw [HB.out], by rw [HB.out]; exact World.ownsRow_nil _ _ _ _, Below.refl _ _⟩
  obtain ⟨h1, h2⟩ := hall
  have hp : placeR l 0 parts = 0 := by unfold placeR; rw [h1, h2]; rfl
  cases h3 : inB count 0 120
  · have HB := Lib.hid (show finT l parts count = ([], 2) by unfold finT; rw [h1, h2, h3]; rfl)
    go_enter Try.func39, Try.ntmps39
    go_wp2_with (first | (go_at_call 67; refine (l19Code_c _ n c l 0 parts w.heap.size _ HN.out hm hr).mono ?_; rintro e w' ⟨rfl, rfl⟩) | (go_at_call 58; refine (l00In_c _ _ _ _).mono ?_; rintro e w' ⟨rfl, rfl⟩))
    refine bodyPost_ret (v := .tuple #[.slice none 0 0, .int .i64 2]) (by simp only [results, Try.results39]; go_simp) rfl ⟨.slice none 0 0, by rw [HB.out], by rw [HB.out]; exact World.ownsRow_nil _ _ _ _, Below.refl _ _⟩
  obtain ⟨q, rfl⟩ : ∃ q : Nat, count = (q : Int) := ⟨count.toNat, by have := inB_iff.1 h3; omega⟩
  have hq := inB_iff.1 h3
  have hd := inB_iff.1 h2
  have HB := Lib.hid (show finT l parts (q : Int) = finC l parts q by unfold finT; rw [h1, h2, h3, Int.toNat_natCast]; rfl)
  have HK := Lib.hid h1
  go_enter Try.func39, Try.ntmps39
  go_wp2_with (first | (go_at_call 67; refine (l19Code_c _ n c l 0 parts w.heap.size _ HN.out hm hr).mono ?_; rintro e w' ⟨rfl, rfl⟩) | (go_at_call 58; refine (l00In_c _ _ _ _).mono ?_; rintro e w' ⟨rfl, rfl⟩))
  clear h1 h2 h3
  refine (l19Leads_c A n c l _ HN.out hm hA hr).mono ?_
  rintro e w1 ⟨v, rfl, hx, hb1⟩
  obtain ⟨A2, c2, rfl, _⟩ := own_form hx
  have HX := Lib.hid hx; clear hx
  have hb1s := hb1.size
  go_wp2_with fail
  go_loopw [10, 11] (fun o i wr => ∃ k : Nat, k ≤ q ∧ i = .int .i64 k ∧ finOk l parts k = true ∧ Below w1.heap.size w1 wr ∧ wr.ownsRow w1.heap.size 23 2 o k ((finL l parts k).flatMap fcell)) (fun _ i _ => q - (intOf i).toNat)
  case atStart => exact ⟨0, Nat.zero_le _, rfl, rfl, by (repeat' (first | (with_reducible exact Below.refl _ _) | (with_reducible assumption) | (with_reducible refine below_drewN ?_ _) | (with_reducible refine Below.drew ?_) | (with_reducible refine Below.alloc ?_ ?_ _) | (with_reducible refine Below.setCell ?_ ?_ _) | (with_reducible refine via (by with_reducible assumption) ?_ ?_) | go_size)), f_nil (Nat.le_refl _)⟩
  case round =>
    obtain ⟨k, hk, rfl, hok, hb, hx⟩ := hrel
    have HO := Lib.hid hx; clear hx
    have HOK := Lib.hid hok; clear hok
    have hbs := hb.size
    by_cases hlt : k < q
    · have hvd := vAt_den (num := (k : Int)) HK.out hd
      have HXr := Lib.hid (own_call HX.out hb)
      go_wp2_with fail
      refine (vAtS_c A2 n c2 l k parts wr HN.out (rd_own HXr.out) HK.out (by omega) hd).mono ?_
      rintro e w2 ⟨rfl, hb2⟩
      have HO2 := Lib.hid (own_call HO.out hb2); clear HO
      obtain ⟨hc2, hf2⟩ := bcell hb2; have hz2 := hb2.size; (try simp only [World.size_alloc, size_drewN, World.size_setCell, World.size_drew] at hz2 hc2 hf2)
      have HSU := Lib.hid (finL_succ l parts k)
      have HFS := Lib.hid (finOk_succ l parts k)
      have HNO := Lib.hid (show plainB (vAt l k parts).1 (vAt l k parts).2 = false → finOk l parts q = false from fun h => finOk_no hlt h)
      generalize hV : vAt l k parts = V at *
      have HV := Lib.hid hV; clear hV
      simp only [fr]
      go_wp2_with fail
      refine (l19Ok_c V _ hvd).mono ?_
      rintro e w3 ⟨rfl, hb3⟩
      have hbX : Below w2.heap.size w2 w3 := by (repeat' (first | (with_reducible exact Below.refl _ _) | (with_reducible assumption) | (with_reducible refine below_drewN ?_ _) | (with_reducible refine Below.drew ?_) | (with_reducible refine Below.alloc ?_ ?_ _) | (with_reducible refine Below.setCell ?_ ?_ _) | (with_reducible refine via (by with_reducible assumption) ?_ ?_) | go_size))
      have HO3 := Lib.hid (own_call HO2.out hbX); clear HO2 hbX
      obtain ⟨hc3, hf3⟩ := bcell hb3; have hz3 := hb3.size; (try simp only [World.size_alloc, size_drewN, World.size_setCell, World.size_drew] at hz3 hc3 hf3); have hl3_0 := far (show w2.heap.size < w3.heap.size by omega)
      cases hpl : plainB V.1 V.2
      · have HR := Lib.hid (show finT l parts (q : Int) = ([], 5) by rw [HB.out, finC, HNO.out hpl]; rfl)
        go_wp2_with fail
        refine bodyPost_ret (v := .tuple #[.slice none 0 0, .int .i64 5]) (by simp only [results, Try.results39]; go_simp) rfl ⟨.slice none 0 0, by rw [HR.out], by rw [HR.out]; exact World.ownsRow_nil _ _ _ _, ?_⟩
        (repeat' (first | (with_reducible exact Below.refl _ _) | (with_reducible assumption) | (with_reducible refine below_drewN ?_ _) | (with_reducible refine Below.drew ?_) | (with_reducible refine Below.alloc ?_ ?_ _) | (with_reducible refine Below.setCell ?_ ?_ _) | (with_reducible refine via (by with_reducible assumption) ?_ ?_) | go_size))
      · have HOK1 := Lib.hid (show finOk l parts (k + 1) = true by rw [HFS.out, HOK.out, hpl]; rfl)
        go_wp2_with (at_builtin; refine app_list (W := w1) (news := fcell V) (z := .agg #[.int .i64 0, .int .i64 0]) (.tmp 41) (.tmp 43) rfl rfl Try.underlying46 hi0 hy0 hy1 hy2 rfl (by decide) (by decide) rfl (HO3.out.alloc _) rfl rfl (news2 (by simp [go_sem]) (by simp [go_sem])) (fcell_one V) (by omega) (by (repeat' (first | (with_reducible exact Below.refl _ _) | (with_reducible assumption) | (with_reducible refine below_drewN ?_ _) | (with_reducible refine Below.drew ?_) | (with_reducible refine Below.alloc ?_ ?_ _) | (with_reducible refine Below.setCell ?_ ?_ _) | (with_reducible refine via (by with_reducible assumption) ?_ ?_) | go_size))) (Nat.le_refl _) ?_; intro v1 w4 hown1 hg1 hblk1 hb4)
        have HO4 := Lib.hid (show w4.ownsRow w1.heap.size 23 2 v1 (k + 1) ((finL l parts (k + 1)).flatMap fcell) by rw [HSU.out]; exact hown1)
        clear hown1
        (first | (refine ⟨?_, ?_⟩; rotate_left; (first | (simp [intOf]; done) | (simp [intOf]; omega)); (repeat apply Exists.intro); refine ⟨?_, rfl⟩; exact ⟨k + 1, by omega, by go_num, HOK1.out, hb4, HO4.out⟩) | exact ⟨⟨k + 1, by omega, by go_num, HOK1.out, hb4, HO4.out⟩, by first | (simp [intOf]; done) | (simp [intOf]; omega)⟩)
    · have hkn : k = q := by omega
      have HR := Lib.hid (show finT l parts (q : Int) = (finL l parts q, 0) by rw [HB.out, finC, ← hkn, HOK.out]; rfl)
      have HO5 := Lib.hid (show wr.ownsRow w.heap.size 23 2 u10 q ((finL l parts q).flatMap fcell) by have := HO.out; rw [hkn] at this; exact ⟨this.1, by rcases this.2 with h | ⟨g, cap, cur, rfl, hg, rest⟩; exact .inl h; exact .inr ⟨g, cap, cur, rfl, by omega, rest⟩⟩)
      obtain ⟨v1, rfl⟩ : ∃ v : Value, v = u10 := ⟨_, rfl⟩
      go_wp2_with fail
      refine bodyPost_ret (v := .tuple #[v1, .int .i64 0]) (by simp only [results, Try.results39]; go_simp) rfl ⟨v1, by rw [HR.out], by rw [HR.out]; simp only; rw [finL_len]; exact HO5.out, ?_⟩
      (repeat' (first | (with_reducible exact Below.refl _ _) | (with_reducible assumption) | (with_reducible refine below_drewN ?_ _) | (with_reducible refine Below.drew ?_) | (with_reducible refine Below.alloc ?_ ?_ _) | (with_reducible refine Below.setCell ?_ ?_ _) | (with_reducible refine via (by with_reducible assumption) ?_ ?_) | go_size))

end Go.Proofs.Ytphckllloiogjaa
