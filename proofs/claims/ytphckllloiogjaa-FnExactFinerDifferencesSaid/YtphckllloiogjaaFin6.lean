/- Contracts: the differences of a finer table; both sides. -/
import Derived.Test.YtphckllloiogjaaFin5
set_option linter.unusedVariables false
set_option linter.unusedSimpArgs false
namespace Go.Proofs.Ytphckllloiogjaa
open Go.RowKit

theorem lev_step (l : List Int) (p : Int) (j m : Nat) : (levL l p (j + 1) (m + 1)).flatMap fcell = (levL l p (j + 1) m).flatMap fcell ++ fcell (low (NN l p j (m + 1) - NN l p j m) (DM l p)) := by
  rw [levL, List.flatMap_append]; simp [NN]
theorem out_step (l : List Int) (p : Int) (j : Nat) : (outL l p (j + 1)).flatMap fcell = (outL l p j).flatMap fcell ++ fcell (low (NN l p j 0) (DM l p)) := by
  rw [outL, List.flatMap_append]; simp
theorem own_base {w : World} {B B' : Nat} {e : TypeId} {size : Nat} {v : Value} {n : Nat} {xs : List Value} (h : w.ownsRow B e size v n xs) (hB : B' ≤ B) : w.ownsRow B' e size v n xs :=
  ⟨h.1, by rcases h.2 with h | ⟨g, cap, cur, hv, hg, rest⟩; exact .inl h; exact .inr ⟨g, cap, cur, hv, Nat.le_trans hB hg, rest⟩⟩
theorem wf_of {n : Int} (h : -9223372036854775808 ≤ n ∧ n ≤ 9223372036854775807) : wf64 n := by
  simp [wf64, Lit.wf, IntKind.min, IntKind.max, IntKind.signed, IntKind.bits]
  omega
theorem out_ok {l : List Int} {p : Int} (hk : knownB l = true) (hp : 1 ≤ p ∧ p ≤ 20) {m : Nat} (hm : m ≤ l.length) : ∀ d ∈ outL l p m, okF d := by
  induction m with
  | zero => intro d h; cases h
  | succ m ih =>
    intro d h
    rw [outL, List.mem_append] at h
    rcases h with h | h
    · exact ih (by omega) d h
    · simp at h
      subst h
      have h1 := DM_bd hk hp
      have h2 := NN_small hk hp m 0 (by omega)
      have h3 := low_num_le (NN l p m 0) (DM l p) (by omega)
      have h4 := low_den_le (NN l p m 0) (DM l p) (by omega)
      have h5 := low_den_pos (NN l p m 0) (DM l p) (by omega)
      exact ⟨wf_of (by omega), wf_of (by omega)⟩
theorem fm_len (l : List (Int × Int)) (n c : Nat) {w : World} {B : Nat} {A : Option Addr} (h : w.ownsRow B 23 2 (.slice A n c) n (l.flatMap fcell)) : Rd w w.heap.size 2 fcell A l := Rd.of_own fcell_len (by decide) (n := n) (c := c) h

set_option maxRecDepth 100000 in
set_option maxHeartbeats 8000000 in
theorem FinerDifferencesI_c (A : Option Addr) (n c : Nat) (l : List Int) (parts : Int) (w : World) (hn : l.length = n) (hm : n ≤ 1048576) (hA : A = none → n = 0) (hr : Rd w w.heap.size 1 icell A l) :
    Calls Try.prog 43 #[.slice A n c, .int .i64 parts] w fun e w' => ∃ v, e = .returned (.tuple #[v, .int .i64 (finD l parts).2]) ∧ w'.ownsRow w.heap.size 23 2 v (finD l parts).1.length ((finD l parts).1.flatMap fcell) ∧ Below w.heap.size w w' := by
  obtain ⟨i0, hi0, hy0, hy1, hy2⟩ := info_parts info_frac
  cases h1 : knownB l
  · have HB := Lib.hid (show finD l parts = ([], 2) by unfold finD; rw [h1]; rfl)
    have HN := Lib.hid hn; clear hn
    go_enter Try.func43, Try.ntmps43
    go_wp2_with (first | (go_at_call 55; refine (areKnown_c _ n c l w.heap.size _ HN.out hm hr).mono ?_; rintro e w' ⟨rfl, rfl⟩) | (go_at_call 69; refine (fine_c _ _).mono ?_; rintro e w' ⟨rfl, rfl⟩))
    refine bodyPost_ret (v := .tuple #[.slice none 0 0, .int .i64 2]) (by simp only [results, Try.results43]; go_simp) rfl ⟨.slice none 0 0, by rw [HB.out], by rw [HB.out]; exact World.ownsRow_nil _ _ _ _, ?_⟩
    (repeat' (first | (with_reducible exact Below.refl _ _) | (with_reducible assumption) | (with_reducible refine below_drewN ?_ _) | (with_reducible refine Below.drew ?_) | (with_reducible refine Below.alloc ?_ ?_ _) | (with_reducible refine Below.setCell ?_ ?_ _) | (with_reducible refine via (by with_reducible assumption) ?_ ?_) | go_size))
  cases h2 : inB parts 1 20
  · have HB := Lib.hid (show finD l parts = ([], 2) by unfold finD; rw [h1, h2]; rfl)
    have HN := Lib.hid hn; clear hn
    go_enter Try.func43, Try.ntmps43
    go_wp2_with (first | (go_at_call 55; refine (areKnown_c _ n c l w.heap.size _ HN.out hm hr).mono ?_; rintro e w' ⟨rfl, rfl⟩) | (go_at_call 69; refine (fine_c _ _).mono ?_; rintro e w' ⟨rfl, rfl⟩))
    refine bodyPost_ret (v := .tuple #[.slice none 0 0, .int .i64 2]) (by simp only [results, Try.results43]; go_simp) rfl ⟨.slice none 0 0, by rw [HB.out], by rw [HB.out]; exact World.ownsRow_nil _ _ _ _, ?_⟩
    (repeat' (first | (with_reducible exact Below.refl _ _) | (with_reducible assumption) | (with_reducible refine below_drewN ?_ _) | (with_reducible refine Below.drew ?_) | (with_reducible refine Below.alloc ?_ ?_ _) | (with_reducible refine Below.setCell ?_ ?_ _) | (with_reducible refine via (by with_reducible assumption) ?_ ?_) | go_size))
  have hd := inB_iff.1 h2
  have hn6 := known_len h1
  rw [hn] at hn6
  have HB0 := Lib.hid (show finOk l parts n = false → finD l parts = ([], 5) from fun h => by unfold finD; rw [h1, h2, hn, h]; rfl)
  have HB1 := Lib.hid (show finOk l parts n = true → finD l parts = if outOk l parts n then (outL l parts n, 0) else ([], 5) from fun h => by unfold finD; rw [h1, h2, hn, h]; rfl)
  have HK := Lib.hid h1
  have HN := Lib.hid hn; clear hn
  go_enter Try.func43, Try.ntmps43
  go_wp2_with (first | (go_at_call 55; refine (areKnown_c _ n c l w.heap.size _ HN.out hm hr).mono ?_; rintro e w' ⟨rfl, rfl⟩) | (go_at_call 69; refine (fine_c _ _).mono ?_; rintro e w' ⟨rfl, rfl⟩))
  clear h1 h2
  refine (finer_c A n c l parts n _ HN.out hm hr HK.out hd (by omega)).mono ?_
  cases hfo : finOk l parts n
  · have HR := Lib.hid (HB0.out hfo)
    have hfc : finC l parts n = ([], 5) := by rw [finC, hfo]; rfl
    rw [hfc]
    rintro e w0 ⟨v, rfl, _, hb0⟩
    go_wp2_with fail
    refine bodyPost_ret (v := .tuple #[.slice none 0 0, .int .i64 5]) (by simp only [results, Try.results43]; go_simp) rfl ⟨.slice none 0 0, by rw [HR.out], by rw [HR.out]; exact World.ownsRow_nil _ _ _ _, ?_⟩
    (repeat' (first | (with_reducible exact Below.refl _ _) | (with_reducible assumption) | (with_reducible refine below_drewN ?_ _) | (with_reducible refine Below.drew ?_) | (with_reducible refine Below.alloc ?_ ?_ _) | (with_reducible refine Below.setCell ?_ ?_ _) | (with_reducible refine via (by with_reducible assumption) ?_ ?_) | go_size))
  have HB := Lib.hid (HB1.out hfo)
  have hfc : finC l parts n = (levL l parts 0 n, 0) := by rw [finC, hfo, finL_lev]; rfl
  rw [hfc]
  simp only [levL_len]
  clear hfc hfo HB0 HB1
  rintro e w0 ⟨v, rfl, hx, hb0⟩
  obtain ⟨A2, c2, rfl, hA2⟩ := own_form hx
  have HX := Lib.hid hx; clear hx
  have hb0s := hb0.size
  go_wp2_with fail
  go_loopw [6, 8] (fun nw ov wr => ∃ j : Nat, j ≤ n ∧ Below w.heap.size w wr ∧ wr.ownsRow w.heap.size 23 2 ov j ((outL l parts j).flatMap fcell) ∧ outOk l parts j = true ∧
      ∃ A' c', nw = .slice A' (n - j) c' ∧ Rd wr wr.heap.size 2 fcell A' (levL l parts j (n - j)) ∧ (∀ a, A' = some a → some a.block ≠ ov.ownBlock)) (fun nw _ _ => lenV nw)
  case atStart =>
    refine ⟨0, Nat.zero_le _, by (repeat' (first | (with_reducible exact Below.refl _ _) | (with_reducible assumption) | (with_reducible refine below_drewN ?_ _) | (with_reducible refine Below.drew ?_) | (with_reducible refine Below.alloc ?_ ?_ _) | (with_reducible refine Below.setCell ?_ ?_ _) | (with_reducible refine via (by with_reducible assumption) ?_ ?_) | go_size)), own_base (f_nil (Nat.le_refl _)) (by omega), rfl, A2, c2, rfl, ((Rd.of_own fcell_len (by decide) (n := n) (c := c2) HX.out).alloc (Nat.le_refl _) _).mono (by simp), fun a ha => ?_⟩
    have := hA2 a ha
    simp [Value.ownBlock]
    omega
  case round =>
    clear HX hA2
    obtain ⟨j, hj, hb, hx, hex, A', c', rfl, hrn, hne⟩ := hrel
    have HO := Lib.hid hx; clear hx
    have HE := Lib.hid hne; clear hne
    have EX := Lib.hid hex; clear hex
    have hbs := hb.size
    by_cases hlt : j < n
    · obtain ⟨b, off, rfl, hbl, hc⟩ := hrn.frac (by rw [levL_len]; omega)
      obtain ⟨g0, g1⟩ := hc 0 _ (levL_get l parts j (n - j) 0 (by omega))
      obtain ⟨z, hz⟩ : ∃ z, low (NN l parts j 0) (DM l parts) = z := ⟨_, rfl⟩
      have HSO := Lib.hid (out_step l parts j)
      rw [hz] at g0 g1 HSO
      simp only [Nat.zero_mul, Nat.add_zero] at g0 g1
      have hzd : z.2 ≤ 9223372036854775807 := by have := DM_bd HK.out hd; have := low_den_le (NN l parts j 0) (DM l parts) (by omega); rw [hz] at this; omega
      have HNO := Lib.hid (show plainB z.1 z.2 = false → outOk l parts n = false from fun h => outOk_no l parts hlt (by rw [hz]; exact h))
      have HSU := Lib.hid (show outOk l parts (j + 1) = (outOk l parts j && plainB z.1 z.2) by rw [outOk_succ, hz])
      have HZ := Lib.hid hz; clear hz hc
      have HR := Lib.hid hrn; clear hrn
      have hql : (n - j) ≤ 1048576 := by omega
      have p1 : (0 : Int) < ((n - j : Nat) : Int) := by omega
      have p2 : 0 < n - j := by omega
      have hlen := levL_len l parts j (n - j)
      generalize hq : n - j = q at *
      have HQ := Lib.hid hq; clear hq
      have HLn := Lib.hid hlen; clear hlen
      have hfb := far (show b < wr.heap.size by omega)
      go_wp2_with fail
      refine (isPlainFraction_c z _ hzd).mono ?_
      rintro e wp ⟨rfl, hbp⟩
      obtain ⟨hcp, hfp⟩ := bcell hbp
      have hzp := hbp.size
      rw [← hcp b _ hbl] at g0 g1
      have HOp := Lib.hid (own_call HO.out hbp); clear HO
      have HRp := Lib.hid ((HR.out.below hbp).mono hzp); clear HR
      have hbwp : Below w.heap.size w wp := hb.trans (hbp.mono hbs)
      have hfbp := far (show b < wp.heap.size by omega)
      have hbs2 := hbwp.size
      cases hpl : plainB z.1 z.2
      · have HRz := Lib.hid (show finD l parts = ([], 5) by rw [HB.out, HNO.out hpl]; rfl)
        go_wp2_with fail
        refine bodyPost_ret (v := .tuple #[.slice none 0 0, .int .i64 5]) (by simp only [results, Try.results43]; go_simp) rfl ⟨.slice none 0 0, by rw [HRz.out], by rw [HRz.out]; exact World.ownsRow_nil _ _ _ _, ?_⟩
        (repeat' (first | (with_reducible exact Below.refl _ _) | (with_reducible assumption) | (with_reducible refine below_drewN ?_ _) | (with_reducible refine Below.drew ?_) | (with_reducible refine Below.alloc ?_ ?_ _) | (with_reducible refine Below.setCell ?_ ?_ _) | (with_reducible refine via (by with_reducible assumption) ?_ ?_) | go_size))
      have HOK1 := Lib.hid (show outOk l parts (j + 1) = true by rw [HSU.out, EX.out, hpl]; rfl)
      go_wp2_with (at_builtin; (refine app_list (W := w) (news := fcell z) (z := .agg #[.int .i64 0, .int .i64 0]) (.tmp 39) (.tmp 43) rfl rfl Try.underlying46 hi0 hy0 hy1 hy2 rfl (by decide) (by decide) rfl (HOp.out.alloc _) rfl rfl (news2 (by simp [go_sem]) (by simp [go_sem])) (fcell_one z) (by omega) (by (repeat' (first | (with_reducible exact Below.refl _ _) | (with_reducible assumption) | (with_reducible refine below_drewN ?_ _) | (with_reducible refine Below.drew ?_) | (with_reducible refine Below.alloc ?_ ?_ _) | (with_reducible refine Below.setCell ?_ ?_ _) | (with_reducible refine via (by with_reducible assumption) ?_ ?_) | go_size))) (Nat.le_refl _) ?_; intro v1 w1 hown1 hg1 hblk1 hb1))
      have hr1 : Rd w1 wp.heap.size 2 fcell (some ⟨b, off, none⟩) (levL l parts j q) := (HRp.out.alloc (Nat.le_refl _) _).grown hg1 (by simp) (fun a ha => HE.out a ha)
      have hs1 : wp.heap.size ≤ w1.heap.size := by have := hg1.size; simp at this; omega
      have HO1 := Lib.hid (show w1.ownsRow w.heap.size 23 2 v1 (j + 1) ((outL l parts (j + 1)).flatMap fcell) by rw [HSO.out]; exact hown1)
      clear hown1
      have hbw1 := hb1.size
      clear hg1 g0 g1
      go_loopw [9, 10] (fun nx i wi => ∃ m : Nat, (m = 0 ∨ m + 1 ≤ q) ∧ i = .int .i64 ((m : Int) + 1) ∧ Below w1.heap.size w1 wi ∧ wi.ownsRow w1.heap.size 23 2 nx m ((levL l parts (j + 1) m).flatMap fcell)) (fun _ i _ => q - (intOf i).toNat)
      case atStart => exact ⟨0, .inl rfl, rfl, by (repeat' (first | (with_reducible exact Below.refl _ _) | (with_reducible assumption) | (with_reducible refine below_drewN ?_ _) | (with_reducible refine Below.drew ?_) | (with_reducible refine Below.alloc ?_ ?_ _) | (with_reducible refine Below.setCell ?_ ?_ _) | (with_reducible refine via (by with_reducible assumption) ?_ ?_) | go_size)), f_nil (Nat.le_refl _)⟩
      case round =>
        obtain ⟨m, hm', rfl, hbi, hxi⟩ := hrel
        have HI := Lib.hid hxi; clear hxi
        have hbis := hbi.size
        by_cases hmt : m + 1 < q
        · obtain ⟨b1, off1, e1, hbl1, hc1⟩ := hr1.frac (by rw [HLn.out]; omega)
          obtain ⟨rfl, rfl⟩ : b1 = b ∧ off1 = off := by simp at e1; exact ⟨e1.1.symm, e1.2.symm⟩
          clear e1
          have hq' := HQ.out
          obtain ⟨x0, x1⟩ := hc1 (m + 1) _ (levL_get l parts j q (m + 1) (by omega))
          obtain ⟨y0, y1⟩ := hc1 m _ (levL_get l parts j q m (by omega))
          have hX := NN_small HK.out hd j (m + 1) (by rw [HN.out]; omega)
          have hY := NN_small HK.out hd j m (by rw [HN.out]; omega)
          have hM := DM_bd HK.out hd
          have HST := Lib.hid (lev_step l parts j m)
          generalize NN l parts j (m + 1) = X at *
          generalize NN l parts j m = Y at *
          generalize DM l parts = M at *
          have HRR := Lib.hid hr1; clear hr1 hc1
          have hbl2 : b1 < w1.heap.size := by omega
          have p3 : (0 : Int) ≤ (m : Int) + 1 := by omega
          have p4 : m < q := by omega
          have e1 : IntKind.i64.wrap (m : Int) = m := IntWalk.i64_in _ (by omega)
          have p5 : (0 : Int) ≤ (m : Int) := by omega
          have p6 : (m : Int) < (q : Int) := by omega
          have p7 : (m : Int) + 1 < (q : Int) := by omega
          have hfb1 := far hbl2
          have hyb1 : (low Y M).1.natAbs ≤ 3200000000000000000 := Nat.le_trans (low_num_le Y M (by omega)) hY
          have hneg : fr (low (-Y) M) = .agg #[.int .i64 (IntKind.i64.wrap (-(low Y M).1)), .int .i64 (low Y M).2] := by rw [low_neg, IntWalk.i64_in _ (by omega)]; rfl
          have HNEG := Lib.hid hneg; clear hneg
          go_wp2
          go_region_held3 (fun w' => (∀ b o, b < w1.heap.size → w'.cell? ⟨b, o, none⟩ = w1.cell? ⟨b, o, none⟩) ∧ Below w1.heap.size w1 w') (exact old_of (by (repeat' (first | (with_reducible exact Below.refl _ _) | (with_reducible assumption) | (with_reducible refine below_drewN ?_ _) | (with_reducible refine Below.drew ?_) | (with_reducible refine Below.alloc ?_ ?_ _) | (with_reducible refine Below.setCell ?_ ?_ _) | (with_reducible refine via (by with_reducible assumption) ?_ ?_) | go_size))))
            (first
              | (go_at_call 52; (rw [← HNEG.out]; refine (suml_c X (-Y) M _ (by omega) (by omega) (by omega)).mono ?_; rw [← Int.sub_eq_add_neg]; rintro e w5 ⟨rfl, hb5⟩; have HN5 := Lib.hid (own_call (HI.out.drew) hb5); obtain ⟨hc5, hf5⟩ := bcell hb5; have hz5 := hb5.size; (try simp only [World.size_alloc, size_drewN, World.size_setCell, World.size_drew] at hz5 hc5 hf5); simp only [fr]))
              | ((refine app_step (W := w1) (news := fcell (low (X - Y) M)) (z := .agg #[.int .i64 0, .int .i64 0]) (.tmp 52) (.tmp 72) (by rfl) (by rfl) Try.underlying46 hi0 hy0 hy1 hy2 rfl (by decide) (by decide) (by rfl) (HN5.out.alloc _) (by rfl) (by rfl) (news2 (by simp [go_sem]) (by simp [go_sem])) (fcell_one _) (by omega) (by (repeat' (first | (with_reducible exact Below.refl _ _) | (with_reducible assumption) | (with_reducible refine below_drewN ?_ _) | (with_reducible refine Below.drew ?_) | (with_reducible refine Below.alloc ?_ ?_ _) | (with_reducible refine Below.setCell ?_ ?_ _) | (with_reducible refine via (by with_reducible assumption) ?_ ?_) | go_size))) (Nat.le_refl _) ?_; intro v3 w3 hown3 _ _ hb3)))
          go_wp2_with fail
          go_roundw
          case rel =>
            refine ⟨m + 1, by omega, by go_num, hb3, ?_⟩
            rw [HST.out]; exact hown3
          case measure => simp [intOf]; omega
        · have hmq : m = q - 1 := by omega
          have hfin : wr.ownsRow w1.heap.size 23 2 u9 (q - 1) ((levL l parts (j + 1) (q - 1)).flatMap fcell) := by have := HI.out; rwa [hmq] at this
          obtain ⟨A3, c3, rfl, hA3⟩ := own_form hfin
          have HO2 := Lib.hid hfin; clear hfin
          go_wp2_with fail
          go_roundw
          case rel =>
            have h2 := HO2.out
            have hlt1 := HO1.out.lt
            refine ⟨j + 1, by omega, hb1.trans (hbi.mono (by omega)), ?_, HOK1.out, A3, c3, by rw [show n - (j + 1) = q - 1 by have := HQ.out; omega], ?_, fun a ha hco => ?_⟩
            · exact HO1.out.kept (row := none) ⟨hbi.os, hbi.tape, hbi.output, hbi.size, fun q hq _ => hbi.block q hq⟩ (by cases hv : v1.ownBlock <;> simp)
            · rw [show n - (j + 1) = q - 1 by have := HQ.out; omega]
              exact Rd.of_own fcell_len (by decide) (n := q - 1) (c := c3) h2
            · have h3 := hA3 a ha
              have h4 := hlt1 a.block hco.symm
              omega
          case measure => simp [lenV]; omega
    · have hjn : j = n := by omega
      subst hjn
      have HR := Lib.hid (show finD l parts = (outL l parts j, 0) by rw [HB.out, EX.out]; rfl)
      have p1 : ¬ (0 : Int) < ((j - j : Nat) : Int) := by omega
      obtain ⟨v1, rfl⟩ : ∃ v : Value, v = u8 := ⟨_, rfl⟩
      go_wp2_with fail
      refine bodyPost_ret (v := .tuple #[v1, .int .i64 0]) (by simp only [results, Try.results43]; go_simp) rfl ⟨v1, by rw [HR.out], by rw [HR.out]; simp only; rw [outL_len]; exact HO.out, hb⟩

set_option maxRecDepth 100000 in
set_option maxHeartbeats 8000000 in
theorem FinerDifferencesS_c (A : Option Addr) (n c : Nat) (l : List Int) (parts : Int) (w : World) (hn : l.length = n) (hm : n ≤ 1048576) (hA : A = none → n = 0) (hr : Rd w w.heap.size 1 icell A l) :
    Calls Try.prog 42 #[.slice A n c, .int .i64 parts] w fun e w' => ∃ v, e = .returned (.tuple #[v, .int .i64 (finD l parts).2]) ∧ w'.ownsRow w.heap.size 23 2 v (finD l parts).1.length ((finD l parts).1.flatMap fcell) ∧ Below w.heap.size w w' := by
  obtain ⟨i0, hi0, hy0, hy1, hy2⟩ := info_parts info_frac
  by_cases hall : knownB l = true ∧ inB parts 1 20 = true
  rotate_left
  · have HB := Lib.hid (show finD l parts = ([], 2) by unfold finD; rw [if_neg (by simpa using hall)])
    have HT := Lib.hid (show finT l parts (n : Int) = ([], 2) by unfold finT; rw [if_neg]; intro h; simp only [Bool.and_eq_true] at h; exact hall ⟨h.1.1, h.1.2⟩)
    have HN := Lib.hid hn; clear hn
    go_enter Try.func42, Try.ntmps42
    go_wp2_with fail
    refine (FinerTableS_c A n c l parts n w HN.out hm hA hr).mono ?_
    rw [HT.out]
    rintro e w0 ⟨v, rfl, _, hb0⟩
    go_wp2_with fail
    refine bodyPost_ret (v := .tuple #[.slice none 0 0, .int .i64 2]) (by simp only [results, Try.results42]; go_simp) rfl ⟨.slice none 0 0, by rw [HB.out], by rw [HB.out]; exact World.ownsRow_nil _ _ _ _, ?_⟩
    (repeat' (first | (with_reducible exact Below.refl _ _) | (with_reducible assumption) | (with_reducible refine below_drewN ?_ _) | (with_reducible refine Below.drew ?_) | (with_reducible refine Below.alloc ?_ ?_ _) | (with_reducible refine Below.setCell ?_ ?_ _) | (with_reducible refine via (by with_reducible assumption) ?_ ?_) | go_size))
  obtain ⟨h1, h2⟩ := hall
  have hd := inB_iff.1 h2
  have hn6 := known_len h1
  rw [hn] at hn6
  have hcn : inB (n : Int) 0 120 = true := inB_iff.2 (by omega)
  have HT := Lib.hid (show finT l parts (n : Int) = finC l parts n by unfold finT; rw [h1, h2, hcn, Int.toNat_natCast]; rfl)
  have HB0 := Lib.hid (show finOk l parts n = false → finD l parts = ([], 5) from fun h => by unfold finD; rw [h1, h2, hn, h]; rfl)
  have HB1 := Lib.hid (show finOk l parts n = true → finD l parts = if outOk l parts n then (outL l parts n, 0) else ([], 5) from fun h => by unfold finD; rw [h1, h2, hn, h]; rfl)
  have HDM := Lib.hid (show blw parts n = DM l parts by unfold DM; rw [hn])
  have HK := Lib.hid h1
  have HN := Lib.hid hn; clear hn
  go_enter Try.func42, Try.ntmps42
  go_wp2_with fail
  clear h1 h2 hcn
  refine (FinerTableS_c A n c l parts n w HN.out hm hA hr).mono ?_
  rw [HT.out]
  cases hfo : finOk l parts n
  · have HR := Lib.hid (HB0.out hfo)
    have hfc : finC l parts n = ([], 5) := by rw [finC, hfo]; rfl
    rw [hfc]
    rintro e w0 ⟨v, rfl, _, hb0⟩
    go_wp2_with fail
    refine bodyPost_ret (v := .tuple #[.slice none 0 0, .int .i64 5]) (by simp only [results, Try.results42]; go_simp) rfl ⟨.slice none 0 0, by rw [HR.out], by rw [HR.out]; exact World.ownsRow_nil _ _ _ _, ?_⟩
    (repeat' (first | (with_reducible exact Below.refl _ _) | (with_reducible assumption) | (with_reducible refine below_drewN ?_ _) | (with_reducible refine Below.drew ?_) | (with_reducible refine Below.alloc ?_ ?_ _) | (with_reducible refine Below.setCell ?_ ?_ _) | (with_reducible refine via (by with_reducible assumption) ?_ ?_) | go_size))
  have HB := Lib.hid (HB1.out hfo)
  have hfc : finC l parts n = (levL l parts 0 n, 0) := by rw [finC, hfo, finL_lev]; rfl
  rw [hfc]
  simp only [levL_len]
  clear hfc hfo HB0 HB1
  rintro e w0 ⟨v, rfl, hx, hb0⟩
  obtain ⟨A2, c2, rfl, hA2⟩ := own_form hx
  have HX := Lib.hid hx; clear hx
  have hb0s := hb0.size
  go_wp2_with fail
  go_loop [8, 9] (fun x i => ∃ (j : Nat) (b : Int), 1 ≤ j ∧ j ≤ n ∧ i = .int .i64 (j : Int) ∧ x = .int .i64 b ∧ b = blw parts j) (fun _ i => (n + 1) - (intOf i).toNat)
  case atStart => exact ⟨1, 1, Nat.le_refl _, hn6.1, rfl, rfl, (blw_one parts).symm⟩
  case round =>
    obtain ⟨j, b, hj1, hj, rfl, rfl, hb⟩ := hrel
    by_cases hlt : j < n
    · have hM := blw_bd hd (j + 1) (by omega)
      have hM0 := blw_bd hd j (by omega)
      obtain ⟨M, hMM⟩ : ∃ x, blw parts (j + 1) = x := ⟨_, rfl⟩
      rw [hMM] at hM
      rw [← hb] at hM0
      have HW2 := Lib.hid (show wrap64 (b * wrap64 ((j : Int) * parts)) = M by
        have h1 := Int.mul_le_mul_of_nonneg_left hd.2 (show 0 ≤ (j : Int) by omega)
        have h2 := Int.mul_nonneg (show 0 ≤ (j : Int) by omega) (show 0 ≤ parts by omega)
        rw [wrap_in ((j : Int) * parts) (by omega), hb, show (blw parts j) * ((j : Int) * parts) = M by rw [← hMM, blw, fk, if_neg (by omega), Int.mul_comm (j : Int)], wrap_in M (by omega)])
      have HMM := Lib.hid hMM; clear hMM hb
      have p1 : (j : Int) < (n : Int) := by omega
      go_wp2_with fail
      (first | (refine ⟨⟨(by first | trivial | rfl), ?_⟩, ?_⟩; rotate_left; (first | (simp [intOf]; done) | (simp [intOf]; omega)); (repeat apply Exists.intro); refine ⟨?_, rfl⟩; exact ⟨j + 1, M, by omega, by omega, by go_num, ret_val HW2.out, HMM.out.symm⟩) | exact ⟨⟨j + 1, M, by omega, by omega, by go_num, ret_val HW2.out, HMM.out.symm⟩, by first | (simp [intOf]; done) | (simp [intOf]; omega)⟩)
    · have hjn : j = n := by omega
      have HAL := Lib.hid (show b = DM l parts by rw [hb, hjn, HDM.out])
      have p1 : ¬ (j : Int) < (n : Int) := by omega
      clear hb hlt hj hj1
      have hM := DM_bd HK.out hd
      obtain ⟨jj, rfl⟩ : ∃ jj : Nat, jj = j := ⟨_, rfl⟩
      have HJN := Lib.hid hjn; clear hjn
      go_wp2_with fail
      go_loopw [6, 10] (fun nw ov wr => ∃ j : Nat, j ≤ n ∧ Below w.heap.size w wr ∧ wr.ownsRow w.heap.size 23 2 ov j ((outL l parts j).flatMap fcell) ∧
          ∃ A' c', nw = .slice A' (n - j) c' ∧ Rd wr wr.heap.size 2 fcell A' (levL l parts j (n - j)) ∧ (∀ a, A' = some a → some a.block ≠ ov.ownBlock)) (fun nw _ _ => lenV nw)
      case atStart =>
        refine ⟨0, Nat.zero_le _, by (repeat' (first | (with_reducible exact Below.refl _ _) | (with_reducible assumption) | (with_reducible refine below_drewN ?_ _) | (with_reducible refine Below.drew ?_) | (with_reducible refine Below.alloc ?_ ?_ _) | (with_reducible refine Below.setCell ?_ ?_ _) | (with_reducible refine via (by with_reducible assumption) ?_ ?_) | go_size)), own_base (f_nil (Nat.le_refl _)) (by omega), A2, c2, rfl, ((Rd.of_own fcell_len (by decide) (n := n) (c := c2) HX.out).alloc (Nat.le_refl _) _).mono (by simp), fun a ha => ?_⟩
        have := hA2 a ha
        simp [Value.ownBlock]
        omega
      case round =>
        clear HX hA2
        obtain ⟨j, hj, hb, hx, A', c', rfl, hrn, hne⟩ := hrel
        have HO := Lib.hid hx; clear hx
        have HE := Lib.hid hne; clear hne
        have hbs := hb.size
        by_cases hlt : j < n
        · obtain ⟨b, off, rfl, hbl, hc⟩ := hrn.frac (by rw [levL_len]; omega)
          obtain ⟨g0, g1⟩ := hc 0 _ (levL_get l parts j (n - j) 0 (by omega))
          obtain ⟨z, hz⟩ : ∃ z, low (NN l parts j 0) (DM l parts) = z := ⟨_, rfl⟩
          have HSO := Lib.hid (out_step l parts j)
          rw [hz] at g0 g1 HSO
          simp only [Nat.zero_mul, Nat.add_zero] at g0 g1
          have hzd : z.2 ≤ 9223372036854775807 := by have := DM_bd HK.out hd; have := low_den_le (NN l parts j 0) (DM l parts) (by omega); rw [hz] at this; omega
          have HNO := Lib.hid (show plainB z.1 z.2 = false → outOk l parts n = false from fun h => outOk_no l parts hlt (by rw [hz]; exact h))
          have HSU := Lib.hid (show outOk l parts (j + 1) = (outOk l parts j && plainB z.1 z.2) by rw [outOk_succ, hz])
          have HZ := Lib.hid hz; clear hz hc
          have HR := Lib.hid hrn; clear hrn
          have hql : (n - j) ≤ 1048576 := by omega
          have p1 : (0 : Int) < ((n - j : Nat) : Int) := by omega
          have p2 : 0 < n - j := by omega
          have hlen := levL_len l parts j (n - j)
          generalize hq : n - j = q at *
          have HQ := Lib.hid hq; clear hq
          have HLn := Lib.hid hlen; clear hlen
          have hfb := far (show b < wr.heap.size by omega)
          have hbs2 := hbs
          go_wp2_with (at_builtin; (refine app_list (W := w) (news := fcell z) (z := .agg #[.int .i64 0, .int .i64 0]) (.tmp 39) (.tmp 43) rfl rfl Try.underlying46 hi0 hy0 hy1 hy2 rfl (by decide) (by decide) rfl (HO.out.alloc _) rfl rfl (news2 (by simp [go_sem]) (by simp [go_sem])) (fcell_one z) (by omega) (by (repeat' (first | (with_reducible exact Below.refl _ _) | (with_reducible assumption) | (with_reducible refine below_drewN ?_ _) | (with_reducible refine Below.drew ?_) | (with_reducible refine Below.alloc ?_ ?_ _) | (with_reducible refine Below.setCell ?_ ?_ _) | (with_reducible refine via (by with_reducible assumption) ?_ ?_) | go_size))) (Nat.le_refl _) ?_; intro v1 w1 hown1 hg1 hblk1 hb1))
          have hr1 : Rd w1 wr.heap.size 2 fcell (some ⟨b, off, none⟩) (levL l parts j q) := (HR.out.alloc (Nat.le_refl _) _).grown hg1 (by simp) (fun a ha => HE.out a ha)
          have hs1 : wr.heap.size ≤ w1.heap.size := by have := hg1.size; simp at this; omega
          have HO1 := Lib.hid (show w1.ownsRow w.heap.size 23 2 v1 (j + 1) ((outL l parts (j + 1)).flatMap fcell) by rw [HSO.out]; exact hown1)
          clear hown1
          have hbw1 := hb1.size
          clear hg1 g0 g1
          go_loopw [11, 12] (fun nx i wi => ∃ m : Nat, (m = 0 ∨ m + 1 ≤ q) ∧ i = .int .i64 ((m : Int) + 1) ∧ Below w1.heap.size w1 wi ∧ wi.ownsRow w1.heap.size 23 2 nx m ((levL l parts (j + 1) m).flatMap fcell)) (fun _ i _ => q - (intOf i).toNat)
          case atStart => exact ⟨0, .inl rfl, rfl, by (repeat' (first | (with_reducible exact Below.refl _ _) | (with_reducible assumption) | (with_reducible refine below_drewN ?_ _) | (with_reducible refine Below.drew ?_) | (with_reducible refine Below.alloc ?_ ?_ _) | (with_reducible refine Below.setCell ?_ ?_ _) | (with_reducible refine via (by with_reducible assumption) ?_ ?_) | go_size)), f_nil (Nat.le_refl _)⟩
          case round =>
            obtain ⟨m, hm', rfl, hbi, hxi⟩ := hrel
            have HI := Lib.hid hxi; clear hxi
            have hbis := hbi.size
            by_cases hmt : m + 1 < q
            · obtain ⟨b1, off1, e1, hbl1, hc1⟩ := hr1.frac (by rw [HLn.out]; omega)
              obtain ⟨rfl, rfl⟩ : b1 = b ∧ off1 = off := by simp at e1; exact ⟨e1.1.symm, e1.2.symm⟩
              clear e1
              have hq' := HQ.out
              obtain ⟨x0, x1⟩ := hc1 (m + 1) _ (levL_get l parts j q (m + 1) (by omega))
              obtain ⟨y0, y1⟩ := hc1 m _ (levL_get l parts j q m (by omega))
              have hX := NN_small HK.out hd j (m + 1) (by rw [HN.out]; omega)
              have hY := NN_small HK.out hd j m (by rw [HN.out]; omega)
              have hM := DM_bd HK.out hd
              have HST := Lib.hid (lev_step l parts j m)
              generalize NN l parts j (m + 1) = X at *
              generalize NN l parts j m = Y at *
              rw [← HAL.out] at hM HST x0 x1 y0 y1; generalize b = M at *
              have HRR := Lib.hid hr1; clear hr1 hc1
              have hbl2 : b1 < w1.heap.size := by omega
              have p3 : (0 : Int) ≤ (m : Int) + 1 := by omega
              have p4 : m < q := by omega
              have e1 : IntKind.i64.wrap (m : Int) = m := IntWalk.i64_in _ (by omega)
              have p5 : (0 : Int) ≤ (m : Int) := by omega
              have p6 : (m : Int) < (q : Int) := by omega
              have p7 : (m : Int) + 1 < (q : Int) := by omega
              have hfb1 := far hbl2
              go_wp2
              go_region_held3 (fun w' => (∀ b o, b < w1.heap.size → w'.cell? ⟨b, o, none⟩ = w1.cell? ⟨b, o, none⟩) ∧ Below w1.heap.size w1 w') (exact old_of (by (repeat' (first | (with_reducible exact Below.refl _ _) | (with_reducible assumption) | (with_reducible refine below_drewN ?_ _) | (with_reducible refine Below.drew ?_) | (with_reducible refine Below.alloc ?_ ?_ _) | (with_reducible refine Below.setCell ?_ ?_ _) | (with_reducible refine via (by with_reducible assumption) ?_ ?_) | go_size))))
                (first
                  | (go_at_call 72; refine (l19Minus_c X Y M _ (by omega) (by omega) (by omega)).mono ?_; rintro e w5 ⟨rfl, hb5⟩; have HN5 := Lib.hid (own_call (HI.out.drew) hb5); obtain ⟨hc5, hf5⟩ := bcell hb5; have hz5 := hb5.size; (try simp only [World.size_alloc, size_drewN, World.size_setCell, World.size_drew] at hz5 hc5 hf5); simp only [fr])
                  | ((refine app_step (W := w1) (news := fcell (low (X - Y) M)) (z := .agg #[.int .i64 0, .int .i64 0]) (.tmp 52) (.tmp 64) (by rfl) (by rfl) Try.underlying46 hi0 hy0 hy1 hy2 rfl (by decide) (by decide) (by rfl) (HN5.out.alloc _) (by rfl) (by rfl) (news2 (by simp [go_sem]) (by simp [go_sem])) (fcell_one _) (by omega) (by (repeat' (first | (with_reducible exact Below.refl _ _) | (with_reducible assumption) | (with_reducible refine below_drewN ?_ _) | (with_reducible refine Below.drew ?_) | (with_reducible refine Below.alloc ?_ ?_ _) | (with_reducible refine Below.setCell ?_ ?_ _) | (with_reducible refine via (by with_reducible assumption) ?_ ?_) | go_size))) (Nat.le_refl _) ?_; intro v3 w3 hown3 _ _ hb3)))
              go_wp2_with fail
              go_roundw
              case rel =>
                refine ⟨m + 1, by omega, by go_num, hb3, ?_⟩
                rw [HST.out]; exact hown3
              case measure => simp [intOf]; omega
            · have hmq : m = q - 1 := by omega
              have hfin : wr.ownsRow w1.heap.size 23 2 u11 (q - 1) ((levL l parts (j + 1) (q - 1)).flatMap fcell) := by have := HI.out; rwa [hmq] at this
              obtain ⟨A3, c3, rfl, hA3⟩ := own_form hfin
              have HO2 := Lib.hid hfin; clear hfin
              go_wp2_with fail
              go_roundw
              case rel =>
                have h2 := HO2.out
                have hlt1 := HO1.out.lt
                refine ⟨j + 1, by omega, hb1.trans (hbi.mono (by omega)), ?_, A3, c3, by rw [show n - (j + 1) = q - 1 by have := HQ.out; omega], ?_, fun a ha hco => ?_⟩
                · exact HO1.out.kept (row := none) ⟨hbi.os, hbi.tape, hbi.output, hbi.size, fun q hq _ => hbi.block q hq⟩ (by cases hv : v1.ownBlock <;> simp)
                · rw [show n - (j + 1) = q - 1 by have := HQ.out; omega]
                  exact Rd.of_own fcell_len (by decide) (n := q - 1) (c := c3) h2
                · have h3 := hA3 a ha
                  have h4 := hlt1 a.block hco.symm
                  omega
              case measure => simp [lenV]; omega
        · have hjn : j = n := by omega
          subst hjn
          have p1 : ¬ (0 : Int) < ((j - j : Nat) : Int) := by omega
          have h9 := HO.out
          obtain ⟨A9, c9, rfl, _⟩ := own_form h9
          have HO9 := Lib.hid h9; clear h9 HO
          go_wp2_with fail
          refine (l19List_c A9 j c9 (outL l parts j) wr (outL_len l parts j) (by omega) (fm_len _ j c9 HO9.out) (out_ok HK.out hd (by rw [HN.out]; omega))).mono ?_
          rintro e wz ⟨rfl, hbz⟩
          have HO10 := Lib.hid (own_call HO9.out hbz)
          cases hoo : plainsB (outL l parts j)
          · have HR := Lib.hid (show finD l parts = ([], 5) by rw [HB.out, outOk, hoo]; rfl)
            go_wp2_with fail
            refine bodyPost_ret (v := .tuple #[.slice none 0 0, .int .i64 5]) (by simp only [results, Try.results42]; go_simp) rfl ⟨.slice none 0 0, by rw [HR.out], by rw [HR.out]; exact World.ownsRow_nil _ _ _ _, ?_⟩
            (repeat' (first | (with_reducible exact Below.refl _ _) | (with_reducible assumption) | (with_reducible refine below_drewN ?_ _) | (with_reducible refine Below.drew ?_) | (with_reducible refine Below.alloc ?_ ?_ _) | (with_reducible refine Below.setCell ?_ ?_ _) | (with_reducible refine via (by with_reducible assumption) ?_ ?_) | go_size))
          · have HR := Lib.hid (show finD l parts = (outL l parts j, 0) by rw [HB.out, outOk, hoo]; rfl)
            go_wp2_with fail
            refine bodyPost_ret (v := .tuple #[.slice A9 j c9, .int .i64 0]) (by simp only [results, Try.results42]; go_simp) rfl ⟨.slice A9 j c9, by rw [HR.out], by rw [HR.out]; simp only; rw [outL_len]; exact HO10.out, ?_⟩
            (repeat' (first | (with_reducible exact Below.refl _ _) | (with_reducible assumption) | (with_reducible refine below_drewN ?_ _) | (with_reducible refine Below.drew ?_) | (with_reducible refine Below.alloc ?_ ?_ _) | (with_reducible refine Below.setCell ?_ ?_ _) | (with_reducible refine via (by with_reducible assumption) ?_ ?_) | go_size))

end Go.Proofs.Ytphckllloiogjaa
