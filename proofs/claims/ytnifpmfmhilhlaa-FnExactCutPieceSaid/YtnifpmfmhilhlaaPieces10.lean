/- Contracts: a piece cut, both sides. -/
import Derived.Test.YtnifpmfmhilhlaaPieces9
import Derived.Test.YtnifpmfmhilhlaaPieceMath5
set_option linter.unusedVariables false
set_option linter.unusedSimpArgs false
namespace Go.Proofs.Ytnifpmfmhilhlaa
open Go.RowKit

def cutR (l : List PieceD) (k : Int) : List PieceD × Int := if codeR l k = 0 then (if k = 0 then ([], 6) else (cutL l k.toNat l.length, 0)) else ([], codeR l k)
theorem cutR_len (l : List PieceD) (k : Int) : (cutR l k).1.length ≤ l.length := by
  unfold cutR
  split
  · split
    · simp
    · simp only [cutL_len]; exact keptN_le _ _ _
  · simp
theorem no_pieces {w : World} {base : Nat} {e : TypeId} {l : List PieceD} (h : l = []) : w.ownsRow base e 4 (.slice none 0 0) l.length (l.flatMap pcell) := by subst h; exact World.ownsRow_nil _ _ _ _

set_option maxRecDepth 100000 in
set_option maxHeartbeats 4000000 in
theorem CutPieceS_c (A : Option Addr) (n c : Nat) (l : List PieceD) (k : Int) (w : World) (hn : l.length = n) (hm : n ≤ 1048576) (hr : Rd w w.heap.size 4 pcell A l) (ok : ∀ d ∈ l, okP d) :
    Calls Try.prog 37 #[.slice A n c, .int .i64 k] w fun e w' => ∃ v, e = .returned (.tuple #[v, .int .i64 (cutR l k).2]) ∧ w'.ownsRow w.heap.size 51 4 v (cutR l k).1.length ((cutR l k).1.flatMap pcell) ∧ Below w.heap.size w w' := by
  obtain ⟨i0, hi0, hz0, hz1, hz2⟩ := info_parts info_piece
  obtain ⟨ii, hii, hzi0, hzi1, hzi2⟩ := info_parts info_i64
  obtain ⟨ib, hib, hzb0, hzb1, hzb2⟩ := info_parts info_bool
  have HN := Lib.hid hn; clear hn
  generalize hq : codeR l k = q
  have cb := codeR_bd l k
  rw [hq] at cb
  by_cases h0 : q = 0
  rotate_left
  · have HR := Lib.hid (show cutR l k = ([], q) by unfold cutR; rw [hq, if_neg h0])
    have HQ := Lib.hid hq; clear hq
    have q1 : (q == 0) = false := by simpa using h0
    have q2 : (q != 0) = true := by simpa using h0
    go_enter Try.func37, Try.ntmps37
    go_wp2_with fail
    refine (l21Code_c A n c l k _ HN.out hm hr ok).mono ?_
    rw [HQ.out]
    rintro e w1 ⟨rfl, hb1⟩
    go_wp2_with fail
    refine bodyPost_ret (v := .tuple #[.slice none 0 0, .int .i64 q]) (by simp only [results, Try.results37]; go_simp) rfl ⟨.slice none 0 0, by rw [HR.out], no_pieces (by rw [HR.out]), hb1⟩
  subst h0
  obtain ⟨hv, k0, kn⟩ := codeR_zero hq
  by_cases hk0 : k = 0
  · have HR := Lib.hid (show cutR l k = ([], 6) by unfold cutR; rw [if_pos hq, if_pos hk0])
    have HQ := Lib.hid hq; clear hq
    subst hk0
    go_enter Try.func37, Try.ntmps37
    go_wp2_with fail
    refine (l21Code_c A n c l 0 _ HN.out hm hr ok).mono ?_
    rw [HQ.out]
    rintro e w1 ⟨rfl, hb1⟩
    go_wp2_with fail
    refine bodyPost_ret (v := .tuple #[.slice none 0 0, .int .i64 6]) (by simp only [results, Try.results37]; go_simp) rfl ⟨.slice none 0 0, by rw [HR.out], no_pieces (by rw [HR.out]), hb1⟩
  have hS := (valid_all hv).2.2.1
  have h40 := (valid_all hv).2.1
  rw [HN.out] at hS kn h40
  have HS := Lib.hid hS; clear hS
  have HV := Lib.hid hv; clear hv
  obtain ⟨kk, rfl⟩ := Int.eq_ofNat_of_zero_le k0
  have HR := Lib.hid (show cutR l (kk : Int) = (cutL l kk n, 0) by unfold cutR; rw [if_pos hq, if_neg hk0, HN.out, Int.toNat_natCast])
  have HQ := Lib.hid hq; clear hq
  have hkn : kk < n := by omega
  have qk : ((kk : Int) == 0) = false := by rw [beq_eq_false_iff_ne]; exact hk0
  have qk' : (kk == 0) = false := by rw [beq_eq_false_iff_ne]; omega
  have qk2 : ¬ kk = 0 := by omega
  clear hk0
  go_enter Try.func37, Try.ntmps37
  go_wp2_with fail
  refine (l21Code_c A n c l _ _ HN.out hm hr ok).mono ?_
  rw [HQ.out]
  rintro e w1 ⟨rfl, hb1⟩
  have hb1s := hb1.size
  have hr1 := (hr.below hb1).mono hb1s

  go_wp2_with fail
  refine (l21Under_c A n c l kk _ HN.out hm hr1 HV.out hkn).mono ?_
  rintro e w2 ⟨rfl, hG, hb2⟩
  have hltG : w1.heap.size < w2.heap.size := (hG.lt w1.heap.size rfl).2
  have HG := Lib.hid hG; clear hG
  have hb2s := hb2.size
  go_upto_region 8 with (at_make; refine wpList_make_full _ rfl _ _ 35 rfl w2.heap.size 2 ii _ 1 Try.underlying35 hii hzi0 hzi1 _ _ _ _ n rfl rfl rfl rfl (by rw [hzi2]; omega) (by unfold maxLen; omega) (Nat.le_refl _) ?_; intro w3 hown hg)
  rw [fl_made n (.int .i64 0) rfl, plV_start l n kk] at hown
  have hb3 : Below w2.heap.size w2 w3 := (Below.refl _ _).grown hg (Nat.le_refl _) (fun k hk => by cases hk)
  have hltP : w2.heap.size < w3.heap.size := (hown.lt w2.heap.size rfl).2
  have HP := Lib.hid hown; clear hown hg
  have HG3 := Lib.hid (own_call HG.out hb3)
  go_wp2_with fail
  have hx0 : (w3.alloc (.cells #[] 51)).ownsRow w3.heap.size 51 4 (.slice (some ⟨w3.heap.size, 0, none⟩) 0 0) 0 [] := World.ownsRow_made w3 #[] 0 (Nat.le_refl _) (by simp [maxLen]) (by simp)
  have hG0 := HG3.out.alloc (.cells #[] 51)
  have hP0 := HP.out.alloc (.cells #[] 51)
  have hb3w : Below w1.heap.size w1 w3 := hb2.trans (hb3.mono hb2s)
  obtain ⟨b1, off, rfl, hbl, hc⟩ := (hr.below (hb1.trans (hb3w.mono hb1s))).piece (by rw [HN.out]; omega)
  have HC := Lib.hid hc; clear hc
  go_loopw [9, 10] (fun o i wr => ∃ (m : Nat), m ≤ n ∧ i = .int .i64 m ∧ Below w2.heap.size w3 wr ∧ w3.heap.size ≤ wr.heap.size ∧ wr.ownsRow w1.heap.size 4 1 (.slice (some ⟨w1.heap.size, 0, none⟩) n n) n (fl n (upto l kk n)) ∧ wr.ownsRow w2.heap.size 2 1 (.slice (some ⟨w2.heap.size, 0, none⟩) n n) n (fl n (plV l kk m)) ∧ wr.ownsRow w3.heap.size 51 4 o (keptN l kk m) ((cutL l kk m).flatMap pcell)) (fun _ i _ => n - (intOf i).toNat)
  case atStart => exact ⟨0, Nat.zero_le _, rfl, by (repeat' (first | (with_reducible exact Below.refl _ _) | (with_reducible assumption) | (with_reducible refine below_drewN ?_ _) | (with_reducible refine Below.drew ?_) | (with_reducible refine Below.alloc ?_ ?_ _) | (with_reducible refine Below.setCell ?_ ?_ _) | (with_reducible refine via (by with_reducible assumption) ?_ ?_) | go_size)), by simp, hG0, hP0, hx0⟩
  case round =>
    clear hx0 hG0 hP0
    obtain ⟨m, hmn, rfl, hb, hbs, hG, hP, hX⟩ := hrel
    have HX := Lib.hid hX; clear hX
    have HGr := Lib.hid hG; clear hG
    have HPr := Lib.hid hP; clear hP
    by_cases hlt : m < n
    · obtain ⟨d, hd⟩ := get_ex l m (by rw [HN.out]; omega)
      obtain ⟨g0, g1, g2, g3⟩ := HC.out m d hd
      have hbl2 : b1 < w2.heap.size := by omega
      rw [← hb.cell (p := ⟨b1, off + m * 4, none⟩) hbl2] at g0
      rw [← hb.cell (p := ⟨b1, off + m * 4 + 1, none⟩) hbl2] at g1
      rw [← hb.cell (p := ⟨b1, off + m * 4 + 2, none⟩) hbl2] at g2
      rw [← hb.cell (p := ⟨b1, off + m * 4 + 3, none⟩) hbl2] at g3
      have HDG := Lib.hid (getP_eq hd); clear hd
      have p3 : (0 : Int) ≤ (m : Int) := by omega
      have p4 : (m : Int) < (n : Int) := by omega
      have c1 : wr.cell? ⟨w1.heap.size, m, none⟩ = some (.bool (uB l kk m)) := by rw [HGr.out.cellAt m (by omega)]; exact upto_get hlt (Nat.le_refl _)
      cases hu : uB l kk m
      · have HX2 := Lib.hid (cutL_yes hu)
        have HK2 := Lib.hid (show keptN l kk (m + 1) = keptN l kk m + 1 by rw [← cutL_len, HX2.out, List.length_append, cutL_len]; rfl)
        have hkl := keptN_le l kk m
        have st := HPr.out.stored m (.int .i64 (keptN l kk m : Int))
        rw [plV_set hu] at st
        obtain ⟨st1, st2⟩ := st
        have hG2 := own_ne HGr.out st2 (fun q hq hc => by simp only [Value.ownBlock, Option.some.injEq] at hq hc; omega)
        have hX2 := own_ne HX.out st2 (fun q hq hc => by have h1 := (HX.out.lt q hq).1; simp only [Option.some.injEq] at hc; omega)
        have hb4 : Below w2.heap.size w3 (wr.setCell ⟨w2.heap.size, m, none⟩ (.int .i64 (keptN l kk m : Int))) := by (repeat' (first | (with_reducible exact Below.refl _ _) | (with_reducible assumption) | (with_reducible refine below_drewN ?_ _) | (with_reducible refine Below.drew ?_) | (with_reducible refine Below.alloc ?_ ?_ _) | (with_reducible refine Below.setCell ?_ ?_ _) | (with_reducible refine via (by with_reducible assumption) ?_ ?_) | go_size))
        have c2 : wr.cell? ⟨w2.heap.size, m, none⟩ = some (plV l kk m m) := by rw [HPr.out.cellAt m (by omega), fl_get hlt]
        have f2 : wr.frozen? ⟨w2.heap.size, m, none⟩ = false := HPr.out.frozenAt m
        have cst : ∀ p, p < n → (wr.setCell ⟨w2.heap.size, m, none⟩ (.int .i64 (keptN l kk m : Int))).cell? ⟨w2.heap.size, p, none⟩ = some (.int .i64 (plI l kk (m + 1) p)) := fun p hp => by rw [st1.cellAt p (by omega), fl_get hp]; rfl
        have hbne : b1 ≠ w2.heap.size := by omega
        have HST1 := Lib.hid st1; clear st1 st2
        have HG2 := Lib.hid hG2; clear hG2
        have HXX := Lib.hid hX2; clear hX2
        have CST := Lib.hid cst; clear cst
        obtain ⟨vA, vc, rfl, _⟩ := own_form HX.out
        clear HX HPr HGr
        generalize hkq : keptN l kk m = kq at *
        have HKQ := Lib.hid hkq; clear hkq
        go_upto_region 14 with fail
        refine gen_world fun V hV => ?_
        have hvc : ∀ o, V.cell? ⟨b1, o, none⟩ = wr.cell? ⟨b1, o, none⟩ := fun o => by rw [hV.out]; exact Below.cell (B := w2.heap.size) (w := wr) (by (repeat' (first | (with_reducible exact Below.refl _ _) | (with_reducible assumption) | (with_reducible refine below_drewN ?_ _) | (with_reducible refine Below.drew ?_) | (with_reducible refine Below.alloc ?_ ?_ _) | (with_reducible refine Below.setCell ?_ ?_ _) | (with_reducible refine via (by with_reducible assumption) ?_ ?_) | go_size))) hbl2
        rw [← hvc] at g0 g1 g2 g3
        rw [← hV.out] at HST1 HG2 HXX CST hb4
        have hVs : w3.heap.size ≤ V.heap.size := by rw [hV.out]; simp only [World.size_setCell]; exact hbs
        clear hV hvc c1 c2 f2 hb
        have hf1 := far (show b1 < V.heap.size by omega)
        have hf2 := far (show w2.heap.size < V.heap.size by omega)
        have CUTD : ∀ x : Int, (m = 0 → x = d.parent) → (¬ m = 0 → x = plI l kk (m + 1) d.parent.toNat) → cutD l kk m = ⟨d.name, x, d.each, d.price⟩ := fun x h1 h2 => by
          unfold cutD
          rw [HDG.out]
          by_cases h : m = 0
          · rw [if_pos h, h1 h]
          · rw [if_neg h, h2 h]
        have HCD := Lib.hid CUTD; clear CUTD
        by_cases hm0 : m = 0
        · have q1 : decide (0 < m) = false := by simp [hm0]
          have q2 : ¬ 0 < m := by omega
          have HCX := Lib.hid (HCD.out d.parent (fun _ => rfl) (fun h => absurd hm0 h))
          have HM0 := Lib.hid hm0; clear hm0
          go_wp2_with (at_builtin; refine app_list (W := V) (news := pcell ⟨d.name, d.parent, d.each, d.price⟩) (z := (.agg #[.string ByteArray.empty, .int .i64 0, .int .i64 0, .int .i64 0])) (.tmp 58) (.tmp 60) rfl rfl Try.underlying25 hi0 hz0 hz1 hz2 rfl (by decide) (by decide) rfl ((HXX.out.alloc _).alloc _) rfl rfl (news4 (by simp [go_sem]) (by simp [go_sem]) (by simp [go_sem]) (by simp [go_sem])) (pcell_one _) (by omega) (by (repeat' (first | (with_reducible exact Below.refl _ _) | (with_reducible assumption) | (with_reducible refine below_drewN ?_ _) | (with_reducible refine Below.drew ?_) | (with_reducible refine Below.alloc ?_ ?_ _) | (with_reducible refine Below.setCell ?_ ?_ _) | (with_reducible refine via (by with_reducible assumption) ?_ ?_) | go_size))) hVs ?_; intro v4 w4 hown4 hg4 hblk4 hb5)
          have hG4 := own_ne ((HG2.out.alloc _).alloc _) hg4 (fun q hq hc => by have h1 := (HXX.out.lt q hc.symm).1; simp only [Value.ownBlock, Option.some.injEq] at hq; omega)
          have hP4 := own_ne ((HST1.out.alloc _).alloc _) hg4 (fun q hq hc => by have h1 := (HXX.out.lt q hc.symm).1; simp only [Value.ownBlock, Option.some.injEq] at hq; omega)
          have HG4 := Lib.hid hG4; clear hG4
          have HP4 := Lib.hid hP4; clear hP4
          have HO := Lib.hid hown4; clear hown4 hg4 hblk4
          have hb5s := hb5.size
          have hb6 : Below w2.heap.size w3 w4 := hb4.trans (hb5.mono (by omega))
          (first | (refine ⟨?_, ?_⟩; rotate_left; (simp [intOf]; omega); (repeat apply Exists.intro); refine ⟨?_, rfl⟩; exact ⟨m + 1, by omega, by go_num, hb6, by omega, HG4.out, HP4.out, by rw [HX2.out, HK2.out, HCX.out, List.flatMap_append]; simpa using HO.out⟩) | exact ⟨⟨m + 1, by omega, by go_num, hb6, by omega, HG4.out, HP4.out, by rw [HX2.out, HK2.out, HCX.out, List.flatMap_append]; simpa using HO.out⟩, by simp [intOf]; omega⟩)
        · obtain ⟨p, hp, hpm⟩ := parent_of HV.out (by rw [HN.out]; exact hlt) (show 0 < m by omega)
          rw [HDG.out] at hp
          have HCX := Lib.hid (HCD.out (plI l kk (m + 1) p) (fun h => absurd h hm0) (fun _ => by rw [hp, Int.toNat_natCast]))
          have g5 := CST.out p (by omega)
          rw [hp] at g1
          clear hp
          have q1 : decide (0 < m) = true := by simp; omega
          have q2 : 0 < m := by omega
          have p5 : (0 : Int) ≤ (p : Int) := by omega
          have p6 : (p : Int) < (n : Int) := by omega
          generalize plI l kk (m + 1) p = np at *
          go_wp2_with (at_builtin; refine app_list (W := V) (news := pcell ⟨d.name, np, d.each, d.price⟩) (z := (.agg #[.string ByteArray.empty, .int .i64 0, .int .i64 0, .int .i64 0])) (.tmp 58) (.tmp 60) rfl rfl Try.underlying25 hi0 hz0 hz1 hz2 rfl (by decide) (by decide) rfl ((HXX.out.alloc _).alloc _) rfl rfl (news4 (by simp [go_sem]) (by simp [go_sem]) (by simp [go_sem]) (by simp [go_sem])) (pcell_one _) (by omega) (by (repeat' (first | (with_reducible exact Below.refl _ _) | (with_reducible assumption) | (with_reducible refine below_drewN ?_ _) | (with_reducible refine Below.drew ?_) | (with_reducible refine Below.alloc ?_ ?_ _) | (with_reducible refine Below.setCell ?_ ?_ _) | (with_reducible refine via (by with_reducible assumption) ?_ ?_) | go_size))) hVs ?_; intro v4 w4 hown4 hg4 hblk4 hb5)
          have hG4 := own_ne ((HG2.out.alloc _).alloc _) hg4 (fun q hq hc => by have h1 := (HXX.out.lt q hc.symm).1; simp only [Value.ownBlock, Option.some.injEq] at hq; omega)
          have hP4 := own_ne ((HST1.out.alloc _).alloc _) hg4 (fun q hq hc => by have h1 := (HXX.out.lt q hc.symm).1; simp only [Value.ownBlock, Option.some.injEq] at hq; omega)
          have HG4 := Lib.hid hG4; clear hG4
          have HP4 := Lib.hid hP4; clear hP4
          have HO := Lib.hid hown4; clear hown4 hg4 hblk4
          have hb5s := hb5.size
          have hb6 : Below w2.heap.size w3 w4 := hb4.trans (hb5.mono (by omega))
          (first | (refine ⟨?_, ?_⟩; rotate_left; (simp [intOf]; omega); (repeat apply Exists.intro); refine ⟨?_, rfl⟩; exact ⟨m + 1, by omega, by go_num, hb6, by omega, HG4.out, HP4.out, by rw [HX2.out, HK2.out, HCX.out, List.flatMap_append]; simpa using HO.out⟩) | exact ⟨⟨m + 1, by omega, by go_num, hb6, by omega, HG4.out, HP4.out, by rw [HX2.out, HK2.out, HCX.out, List.flatMap_append]; simpa using HO.out⟩, by simp [intOf]; omega⟩)
      · have HX2 := Lib.hid (cutL_no hu)
        have HP2 := Lib.hid (plV_gone (n := n) hu)
        have HK2 := Lib.hid (show keptN l kk (m + 1) = keptN l kk m by rw [← cutL_len, HX2.out, cutL_len])
        go_wp2_with fail
        (first | (refine ⟨?_, ?_⟩; rotate_left; (simp [intOf]; omega); (repeat apply Exists.intro); refine ⟨?_, rfl⟩; exact ⟨m + 1, by omega, by go_num, hb, hbs, HGr.out, by rw [← HP2.out]; exact HPr.out, by rw [HX2.out, HK2.out]; exact HX.out⟩) | exact ⟨⟨m + 1, by omega, by go_num, hb, hbs, HGr.out, by rw [← HP2.out]; exact HPr.out, by rw [HX2.out, HK2.out]; exact HX.out⟩, by simp [intOf]; omega⟩)
    · have hmn' : m = n := by omega
      subst hmn'
      obtain ⟨vA, vc, rfl, _⟩ := own_form HX.out
      go_wp2_with fail
      refine bodyPost_ret (v := .tuple #[.slice vA (keptN l kk m) vc, .int .i64 0]) (by simp only [results, Try.results37]; go_simp) rfl ⟨_, by rw [HR.out], by rw [HR.out, cutL_len]; exact Go.Joins.ownsRow_le HX.out (by omega), by (repeat' (first | (with_reducible exact Below.refl _ _) | (with_reducible assumption) | (with_reducible refine below_drewN ?_ _) | (with_reducible refine Below.drew ?_) | (with_reducible refine Below.alloc ?_ ?_ _) | (with_reducible refine Below.setCell ?_ ?_ _) | (with_reducible refine via (by with_reducible assumption) ?_ ?_) | go_size))⟩

theorem make_run (n : Nat) (hn : n ≤ 1048576) : ∃ mk : World → World, ∀ W : World, Sem.run Try.prog (Instr.makeSlice 35 (.int .i64 (n : Int)) (.int .i64 (n : Int))) W = .ok (.slice (some ⟨W.heap.size, 0, none⟩) n n) (mk W) ∧
    (mk W).ownsRow W.heap.size 2 1 (.slice (some ⟨W.heap.size, 0, none⟩) n n) n (fl n (fun _ => .int .i64 0)) ∧ W.grownBy (mk W) none := by
  obtain ⟨ii, hii, hzi0, hzi1, hzi2⟩ := info_parts info_i64
  have key : ∀ W : World, ∃ W' : World, Sem.run Try.prog (Instr.makeSlice 35 (.int .i64 (n : Int)) (.int .i64 (n : Int))) W = .ok (.slice (some ⟨W.heap.size, 0, none⟩) n n) W' ∧
      W'.ownsRow W.heap.size 2 1 (.slice (some ⟨W.heap.size, 0, none⟩) n n) n (fl n (fun _ => .int .i64 0)) ∧ W.grownBy W' none := fun W => by
    obtain ⟨W', h1, h2, h3⟩ := run_make_full (P := Try.prog) W W.heap.size 35 2 ii _ 1 Try.underlying35 hii hzi0 hzi1 .i64 .i64 n (by rw [hzi2]; omega) (by unfold maxLen; omega) (Nat.le_refl _)
    rw [fl_made n (.int .i64 0) rfl] at h2
    exact ⟨W', h1, h2, h3⟩
  exact Classical.axiomOfChoice key
/-- what the call has made: a row of places, a row of pieces -/
def TwoRows (W : World) (n : Nat) (o p : Value) (wx : World) : Prop := ∃ g go : Nat, p = .slice (some ⟨g, 0, none⟩) n n ∧ o = .slice (some ⟨go, 0, none⟩) 0 0 ∧ W.heap.size ≤ g ∧ g < wx.heap.size ∧ go ≠ g ∧
  wx.ownsRow W.heap.size 2 1 p n (fl n (fun _ => .int .i64 0)) ∧ wx.ownsRow W.heap.size 51 4 o 0 [] ∧ Below W.heap.size W wx
theorem twoA {W : World} {mk : World → World} {n : Nat} (h : ∀ X : World, (mk X).ownsRow X.heap.size 2 1 (.slice (some ⟨X.heap.size, 0, none⟩) n n) n (fl n (fun _ => .int .i64 0)) ∧ X.grownBy (mk X) none) :
    TwoRows W n (.slice (some ⟨W.heap.size, 0, none⟩) 0 0) (.slice (some ⟨W.heap.size + 1, 0, none⟩) n n) (mk (W.alloc (.cells #[] 51)).drew) := by
  obtain ⟨h1, h2⟩ := h (W.alloc (.cells #[] 51)).drew
  have hs : (W.alloc (.cells #[] 51)).drew.heap.size = W.heap.size + 1 := by simp [go_sem]
  have hlt := (h1.lt _ rfl).2
  have ho : (W.alloc (.cells #[] 51)).ownsRow W.heap.size 51 4 (.slice (some ⟨W.heap.size, 0, none⟩) 0 0) 0 [] := World.ownsRow_made W #[] 0 (Nat.le_refl _) (by simp [maxLen]) (by simp)
  have hb : Below W.heap.size W (W.alloc (.cells #[] 51)).drew := by (repeat' (first | (with_reducible exact Below.refl _ _) | (with_reducible assumption) | (with_reducible refine below_drewN ?_ _) | (with_reducible refine Below.drew ?_) | (with_reducible refine Below.alloc ?_ ?_ _) | (with_reducible refine Below.setCell ?_ ?_ _) | (with_reducible refine via (by with_reducible assumption) ?_ ?_) | go_size))
  rw [hs] at h1 hlt
  exact ⟨W.heap.size + 1, W.heap.size, rfl, rfl, by omega, hlt, by omega, Go.Joins.ownsRow_le h1 (by omega), own_ne ho.drew h2 (fun q _ hc => by cases hc), hb.grown h2 (by omega) (fun q hq => by cases hq)⟩
theorem twoB {W : World} {mk : World → World} {n : Nat} (h : ∀ X : World, (mk X).ownsRow X.heap.size 2 1 (.slice (some ⟨X.heap.size, 0, none⟩) n n) n (fl n (fun _ => .int .i64 0)) ∧ X.grownBy (mk X) none) :
    TwoRows W n (.slice (some ⟨(mk W.drew).heap.size, 0, none⟩) 0 0) (.slice (some ⟨W.heap.size, 0, none⟩) n n) ((mk W.drew).alloc (.cells #[] 51)) := by
  obtain ⟨h1, h2⟩ := h W.drew
  have hs : W.drew.heap.size = W.heap.size := by simp [go_sem]
  have hb : Below W.heap.size W (mk W.drew) := (Below.refl _ _).drew.grown h2 (by omega) (fun q hq => by cases hq)
  have ho : ((mk W.drew).alloc (.cells #[] 51)).ownsRow W.heap.size 51 4 (.slice (some ⟨(mk W.drew).heap.size, 0, none⟩) 0 0) 0 [] := World.ownsRow_made (mk W.drew) #[] 0 hb.size (by simp [maxLen]) (by simp)
  rw [hs] at h1
  have hlt : W.heap.size < (mk W.drew).heap.size := (h1.lt W.heap.size rfl).2
  exact ⟨W.heap.size, (mk W.drew).heap.size, rfl, rfl, Nat.le_refl _, by simp [go_sem]; omega, by omega, h1.alloc _, ho, hb.alloc hb.size _⟩
theorem twoB' {W : World} {mk : World → World} {n : Nat} (h : ∀ X : World, (mk X).ownsRow X.heap.size 2 1 (.slice (some ⟨X.heap.size, 0, none⟩) n n) n (fl n (fun _ => .int .i64 0)) ∧ X.grownBy (mk X) none) :
    TwoRows W n (.slice (some ⟨(mk W).heap.size, 0, none⟩) 0 0) (.slice (some ⟨W.heap.size, 0, none⟩) n n) ((mk W).alloc (.cells #[] 51)).drew := by
  obtain ⟨h1, h2⟩ := h W
  have hlt : W.heap.size < (mk W).heap.size := (h1.lt W.heap.size rfl).2
  have hb : Below W.heap.size W (mk W) := (Below.refl _ _).grown h2 (by omega) (fun q hq => by cases hq)
  have ho : ((mk W).alloc (.cells #[] 51)).ownsRow W.heap.size 51 4 (.slice (some ⟨(mk W).heap.size, 0, none⟩) 0 0) 0 [] := World.ownsRow_made (mk W) #[] 0 hb.size (by simp [maxLen]) (by simp)
  exact ⟨W.heap.size, (mk W).heap.size, rfl, rfl, Nat.le_refl _, by simp [go_sem]; omega, by omega, h1.alloc _, ho, (hb.alloc hb.size _).drew⟩

set_option maxRecDepth 100000 in
set_option maxHeartbeats 4000000 in
theorem CutPieceI_c (A : Option Addr) (n c : Nat) (l : List PieceD) (k : Int) (w : World) (hn : l.length = n) (hm : n ≤ 1048576) (hr : Rd w w.heap.size 4 pcell A l) (ok : ∀ d ∈ l, okP d) :
    Calls Try.prog 38 #[.slice A n c, .int .i64 k] w fun e w' => ∃ v, e = .returned (.tuple #[v, .int .i64 (cutR l k).2]) ∧ w'.ownsRow w.heap.size 51 4 v (cutR l k).1.length ((cutR l k).1.flatMap pcell) ∧ Below w.heap.size w w' := by
  obtain ⟨i0, hi0, hz0, hz1, hz2⟩ := info_parts info_piece
  obtain ⟨ii, hii, hzi0, hzi1, hzi2⟩ := info_parts info_i64
  obtain ⟨ib, hib, hzb0, hzb1, hzb2⟩ := info_parts info_bool
  have HN := Lib.hid hn; clear hn
  generalize hq : codeR l k = q
  have cb := codeR_bd l k
  rw [hq] at cb
  by_cases h0 : q = 0
  rotate_left
  · have HR := Lib.hid (show cutR l k = ([], q) by unfold cutR; rw [hq, if_neg h0])
    have HQ := Lib.hid hq; clear hq
    have q1 : (q == 0) = false := by simpa using h0
    have q2 : (q != 0) = true := by simpa using h0
    go_enter Try.func38, Try.ntmps38
    go_wp2_with fail
    refine (pieceCode_c A n c l k _ HN.out hm hr ok).mono ?_
    rw [HQ.out]
    rintro e w1 ⟨rfl, hb1⟩
    go_wp2_with fail
    refine bodyPost_ret (v := .tuple #[.slice none 0 0, .int .i64 q]) (by simp only [results, Try.results38]; go_simp) rfl ⟨.slice none 0 0, by rw [HR.out], no_pieces (by rw [HR.out]), hb1⟩
  subst h0
  obtain ⟨hv, k0, kn⟩ := codeR_zero hq
  by_cases hk0 : k = 0
  · have HR := Lib.hid (show cutR l k = ([], 6) by unfold cutR; rw [if_pos hq, if_pos hk0])
    have HQ := Lib.hid hq; clear hq
    subst hk0
    go_enter Try.func38, Try.ntmps38
    go_wp2_with fail
    refine (pieceCode_c A n c l 0 _ HN.out hm hr ok).mono ?_
    rw [HQ.out]
    rintro e w1 ⟨rfl, hb1⟩
    go_wp2_with fail
    refine bodyPost_ret (v := .tuple #[.slice none 0 0, .int .i64 6]) (by simp only [results, Try.results38]; go_simp) rfl ⟨.slice none 0 0, by rw [HR.out], no_pieces (by rw [HR.out]), hb1⟩
  have hS := (valid_all hv).2.2.1
  have h40 := (valid_all hv).2.1
  rw [HN.out] at hS kn h40
  have HS := Lib.hid hS; clear hS
  have HV := Lib.hid hv; clear hv
  obtain ⟨kk, rfl⟩ := Int.eq_ofNat_of_zero_le k0
  have HR := Lib.hid (show cutR l (kk : Int) = (cutL l kk n, 0) by unfold cutR; rw [if_pos hq, if_neg hk0, HN.out, Int.toNat_natCast])
  have HQ := Lib.hid hq; clear hq
  have hkn : kk < n := by omega
  have qk : ((kk : Int) == 0) = false := by rw [beq_eq_false_iff_ne]; exact hk0
  have qk' : (kk == 0) = false := by rw [beq_eq_false_iff_ne]; omega
  have qk2 : ¬ kk = 0 := by omega
  clear hk0
  go_enter Try.func38, Try.ntmps38
  go_wp2_with fail
  refine (pieceCode_c A n c l _ _ HN.out hm hr ok).mono ?_
  rw [HQ.out]
  rintro e w1 ⟨rfl, hb1⟩
  have hb1s := hb1.size
  have hr1 := (hr.below hb1).mono hb1s

  go_upto_region 7 with (at_make; refine wpList_make_full _ rfl _ _ 60 rfl w1.heap.size 4 ib _ 1 Try.underlying60 hib hzb0 hzb1 _ _ _ _ n rfl rfl rfl rfl (by rw [hzb2]; omega) (by unfold maxLen; omega) (Nat.le_refl _) ?_; intro w2 hown hg)
  rw [fl_made n (.bool false) rfl] at hown
  have hb2 : Below w1.heap.size w1 w2 := (Below.refl _ _).grown hg (Nat.le_refl _) (fun k hk => by cases hk)
  have hltG : w1.heap.size < w2.heap.size := (hown.lt w1.heap.size rfl).2
  have c0 : w2.cell? ⟨w1.heap.size, kk, none⟩ = some (.bool false) := by rw [hown.cellAt kk (by omega), fl_get hkn]
  have f0 : w2.frozen? ⟨w1.heap.size, kk, none⟩ = false := hown.frozenAt kk
  have st := (hown.stored kk (.bool true)).1
  rw [goneV_start l kk n] at st
  have ST := Lib.hid st; clear st hown hg
  have p1 : (0 : Int) ≤ (kk : Int) := by omega
  have p2 : (kk : Int) < (n : Int) := by omega
  go_wp2_with fail
  refine gen_calls fun V hV => ?_
  rw [← hV.out] at ST
  have hbV : Below w1.heap.size w1 V := by rw [hV.out]; (repeat' (first | (with_reducible exact Below.refl _ _) | (with_reducible assumption) | (with_reducible refine below_drewN ?_ _) | (with_reducible refine Below.drew ?_) | (with_reducible refine Below.alloc ?_ ?_ _) | (with_reducible refine Below.setCell ?_ ?_ _) | (with_reducible refine via (by with_reducible assumption) ?_ ?_) | go_size))
  have hVs : w1.heap.size < V.heap.size := by rw [hV.out]; simp only [World.size_setCell]; exact hltG
  clear hV c0 f0
  refine (under_c A n c l kk V HN.out hm ((hr1.below hbV).mono hbV.size) HV.out hkn).mono ?_
  rintro e w3 ⟨v, rfl, hx, hb3⟩
  have HX := Lib.hid hx; clear hx
  have HG3 := Lib.hid (own_call ST.out hb3); clear ST
  have hb3s := hb3.size
  have hul := undL_len l kk n
  obtain ⟨vA, vc, rfl, _⟩ := own_form HX.out
  have hb13 : Below w1.heap.size w1 w3 := hbV.trans (hb3.mono (by omega))
  obtain ⟨b1, off, rfl, hbl, hc⟩ := hr1.piece (by rw [HN.out]; omega)
  have HC := Lib.hid hc; clear hc
  go_wp2_with fail
  go_loopw [32] (fun i wr => ∃ (q : Nat), q ≤ (undL l kk n).length ∧ i = .int .i64 q ∧ Below w1.heap.size w1 wr ∧ w3.heap.size ≤ wr.heap.size ∧ wr.ownsRow w1.heap.size 4 1 (.slice (some ⟨w1.heap.size, 0, none⟩) n n) n (fl n (goneV l kk n q)) ∧ wr.ownsRow V.heap.size 2 1 (.slice vA (undL l kk n).length vc) (undL l kk n).length ((undL l kk n).map (Value.int .i64))) (fun i _ => (undL l kk n).length - (intOf i).toNat)
  case atStart => exact ⟨0, Nat.zero_le _, rfl, hb13, Nat.le_refl _, HG3.out, HX.out⟩
  case round =>
    obtain ⟨q, hq, rfl, hb, hbs, hG, hU⟩ := hrel
    have HG := Lib.hid hG; clear hG
    have HU := Lib.hid hU; clear hU
    by_cases hlt : q < (undL l kk n).length
    · obtain ⟨i, hi, hin⟩ := undL_at hlt
      have hrdd := rd_own HU.out
      obtain ⟨g', go, rfl, hgl, hgc⟩ := hrdd.ints' (by omega)
      have g5 := hgc q _ hi
      have st := HG.out.stored i (.bool true)
      rw [goneV_set hi] at st
      obtain ⟨st1, st2⟩ := st
      have hU2 := own_ne HU.out st2 (fun q hq hc => by have h1 := (HU.out.lt q hq).1; simp only [Option.some.injEq] at hc; omega)
      have c2 : wr.cell? ⟨w1.heap.size, i, none⟩ = some (goneV l kk n q i) := by rw [HG.out.cellAt i (by omega), fl_get hin]
      have f2 : wr.frozen? ⟨w1.heap.size, i, none⟩ = false := HG.out.frozenAt i
      have ST1 := Lib.hid st1; clear st1 st2
      have HU2 := Lib.hid hU2; clear hU2 hi hgc hrdd
      have p3 : (0 : Int) ≤ (q : Int) := by omega
      have p5 : (0 : Int) ≤ (i : Int) := by omega
      have p6 : (i : Int) < (n : Int) := by omega
      generalize hul2 : (undL l kk n).length = ul at *
      have HULL := Lib.hid hul2; clear hul2
      have p4 : (q : Int) < (ul : Int) := by omega
      go_wp2_with fail
      (first | (refine ⟨?_, ?_⟩; rotate_left; (simp [intOf]; omega); (repeat apply Exists.intro); refine ⟨?_, rfl⟩; exact ⟨q + 1, by omega, by go_num, by (repeat' (first | (with_reducible exact Below.refl _ _) | (with_reducible assumption) | (with_reducible refine below_drewN ?_ _) | (with_reducible refine Below.drew ?_) | (with_reducible refine Below.alloc ?_ ?_ _) | (with_reducible refine Below.setCell ?_ ?_ _) | (with_reducible refine via (by with_reducible assumption) ?_ ?_) | go_size)), by simp only [World.size_setCell]; exact hbs, ST1.out, HU2.out⟩) | exact ⟨⟨q + 1, by omega, by go_num, by (repeat' (first | (with_reducible exact Below.refl _ _) | (with_reducible assumption) | (with_reducible refine below_drewN ?_ _) | (with_reducible refine Below.drew ?_) | (with_reducible refine Below.alloc ?_ ?_ _) | (with_reducible refine Below.setCell ?_ ?_ _) | (with_reducible refine via (by with_reducible assumption) ?_ ?_) | go_size)), by simp only [World.size_setCell]; exact hbs, ST1.out, HU2.out⟩, by simp [intOf]; omega⟩)
    · have hgg := HG.out
      rw [fl_congr (g' := fun j => Value.bool (uB l kk j)) (fun j hj => by unfold goneV; rw [goneB_end (by omega) hj])] at hgg
      have HGG := Lib.hid hgg; clear hgg
      have p4 : ¬ (q : Int) < (((undL l kk n).length : Nat) : Int) := by omega
      generalize (undL l kk n).length = ul at *
      obtain ⟨mk, hmk⟩ := make_run n hm
      have hmr := fun W => (hmk W).1
      have HMK := Lib.hid (fun W => (hmk W).2); clear hmk
      go_upto_region 13 with fail
      obtain ⟨W, rfl⟩ : ∃ w' : World, w' = wr := ⟨_, rfl⟩
      go_cut [10, 11] (fun oo pp wx => TwoRows W n oo pp wx)
      case first =>
        go_region_with (fail)
        all_goals
          (go_wp2_with fail; refine Met.intro ?_; apply_assumption; (repeat apply Exists.intro); refine ⟨?_, rfl⟩)
          first | exact twoA HMK.out | exact twoB HMK.out | exact twoB' HMK.out
      case rest =>
        obtain ⟨wd, rfl⟩ : ∃ w' : World, w' = wc := ⟨_, rfl⟩
        obtain ⟨g, go, rfl, rfl, hg1, hg2, hg3, hP0, hX0, hbd⟩ := hcut
        have hWs := hbs
        have HGD := Lib.hid (own_call HGG.out hbd)
        have hb1W : Below w1.heap.size w1 W := hb
        rw [plV_start l n kk] at hP0
        have HP0 := Lib.hid hP0; clear hP0
        have HX0 := Lib.hid hX0; clear hX0
        have HNE := Lib.hid (show ∀ q, (Value.slice (some ⟨go, 0, none⟩) 0 0).ownBlock = some q → q ≠ g from fun q hq => by simp only [Value.ownBlock, Option.some.injEq] at hq; omega)
        clear hmr hb hbs hg3 HGG
        go_wp2_with fail
        go_loopw [10, 46] (fun o i wr => ∃ (m : Nat), m ≤ n ∧ i = .int .i64 m ∧ Below W.heap.size W wr ∧ wd.heap.size ≤ wr.heap.size ∧ wr.ownsRow w1.heap.size 4 1 (.slice (some ⟨w1.heap.size, 0, none⟩) n n) n (fl n (fun j => Value.bool (uB l kk j))) ∧ wr.ownsRow W.heap.size 2 1 (.slice (some ⟨g, 0, none⟩) n n) n (fl n (plV l kk m)) ∧ wr.ownsRow W.heap.size 51 4 o (keptN l kk m) ((cutL l kk m).flatMap pcell) ∧ (∀ q, o.ownBlock = some q → q ≠ g)) (fun _ i _ => n - (intOf i).toNat)
        case atStart => exact ⟨0, Nat.zero_le _, rfl, hbd, Nat.le_refl _, HGD.out, HP0.out, HX0.out, HNE.out⟩
        case round =>
          obtain ⟨m, hmn, rfl, hb, hbs, hG, hP, hX, hne⟩ := hrel
          have HX := Lib.hid hX; clear hX
          have HGr := Lib.hid hG; clear hG
          have HPr := Lib.hid hP; clear hP
          have HNEr := Lib.hid hne; clear hne
          by_cases hlt : m < n
          · obtain ⟨d, hd⟩ := get_ex l m (by rw [HN.out]; omega)
            obtain ⟨g0, g1, g2, g3⟩ := HC.out m d hd
            have hbl2 : b1 < w1.heap.size := hbl
            have hbw := hb1W.trans (hb.mono (by omega : w1.heap.size ≤ W.heap.size))
            rw [← hbw.cell (p := ⟨b1, off + m * 4, none⟩) hbl2] at g0
            rw [← hbw.cell (p := ⟨b1, off + m * 4 + 1, none⟩) hbl2] at g1
            rw [← hbw.cell (p := ⟨b1, off + m * 4 + 2, none⟩) hbl2] at g2
            rw [← hbw.cell (p := ⟨b1, off + m * 4 + 3, none⟩) hbl2] at g3
            have HDG := Lib.hid (getP_eq hd); clear hd
            have p3 : (0 : Int) ≤ (m : Int) := by omega
            have p4 : (m : Int) < (n : Int) := by omega
            have hf0 := far (show b1 < wr.heap.size by omega)
            have hf01 := far (show g < wr.heap.size by omega)
            have hf02 := far (show w1.heap.size < wr.heap.size by omega)
            have c1 : wr.cell? ⟨w1.heap.size, m, none⟩ = some (.bool (uB l kk m)) := by rw [HGr.out.cellAt m (by omega), fl_get hlt]
            cases hu : uB l kk m
            · have HX2 := Lib.hid (cutL_yes hu)
              have HK2 := Lib.hid (show keptN l kk (m + 1) = keptN l kk m + 1 by rw [← cutL_len, HX2.out, List.length_append, cutL_len]; rfl)
              have hkl := keptN_le l kk m
              have st := HPr.out.stored m (.int .i64 (keptN l kk m : Int))
              rw [plV_set hu] at st
              obtain ⟨st1, st2⟩ := st
              have hG2 := own_ne HGr.out st2 (fun q hq hc => by simp only [Value.ownBlock, Option.some.injEq] at hq hc; omega)
              have hX2 := own_ne HX.out st2 (fun q hq hc => by have h1 := HNEr.out q hq; simp only [Option.some.injEq] at hc; omega)
              have hb4 : Below W.heap.size W (wr.setCell ⟨g, m, none⟩ (.int .i64 (keptN l kk m : Int))) := hb.setCell hg1 _
              have c2 : wr.cell? ⟨g, m, none⟩ = some (plV l kk m m) := by rw [HPr.out.cellAt m (by omega), fl_get hlt]
              have f2 : wr.frozen? ⟨g, m, none⟩ = false := HPr.out.frozenAt m
              have cst : ∀ p, p < n → (wr.setCell ⟨g, m, none⟩ (.int .i64 (keptN l kk m : Int))).cell? ⟨g, p, none⟩ = some (.int .i64 (plI l kk (m + 1) p)) := fun p hp => by rw [st1.cellAt p (by omega), fl_get hp]; rfl
              have HST1 := Lib.hid st1; clear st1 st2
              have HG2 := Lib.hid hG2; clear hG2
              have HXX := Lib.hid hX2; clear hX2
              have CST := Lib.hid cst; clear cst
              obtain ⟨vA2, vc2, rfl, _⟩ := own_form HX.out
              clear HX HPr HGr
              generalize hkq : keptN l kk m = kq at *
              have HKQ := Lib.hid hkq; clear hkq
              have CUTD : ∀ x : Int, (m = 0 → x = d.parent) → (¬ m = 0 → x = plI l kk (m + 1) d.parent.toNat) → cutD l kk m = ⟨d.name, x, d.each, d.price⟩ := fun x h1 h2 => by
                unfold cutD
                rw [HDG.out]
                by_cases h : m = 0
                · rw [if_pos h, h1 h]
                · rw [if_neg h, h2 h]
              have HCD := Lib.hid CUTD; clear CUTD
              generalize hdp : d.parent = dp at *
              have HDP := Lib.hid hdp; clear hdp
              go_upto_region 19 with fail
              obtain ⟨U, hU⟩ : ∃ U : World, U = wr.setCell ⟨g, m, none⟩ (.int .i64 (kq : Int)) := ⟨_, rfl⟩
              have hUs : U.heap.size = wr.heap.size := by rw [hU]; exact World.size_setCell _ _ _
              rw [← hU] at HST1 HG2 HXX CST hb4
              have HU := Lib.hid hU; clear hU
              rw [← HU.out, ← hUs]
              have hVs : W.heap.size ≤ U.heap.size := by omega
              have hgU : g < U.heap.size := by omega
              have hdU : wd.heap.size ≤ U.heap.size := by omega
              have HUS := Lib.hid hUs
              clear hUs c1 c2 f2 hb g0 g1 g2 g3 hf0 hf01 hf02
              have hf1 := far hgU
              by_cases hm0 : m = 0
              · have hpar := (valid_all HV.out).2.2.2 m (by rw [HN.out]; exact hlt)
                have hpr := hpar.2.2.2
                unfold parB at hpr
                rw [if_pos hm0, HDG.out, HDP.out] at hpr
                obtain rfl : dp = -1 := eq_of_beq hpr
                have HCX := Lib.hid (HCD.out (-1) (fun _ => rfl) (fun h => absurd hm0 h))
                have HM0 := Lib.hid hm0; clear hm0 hpar hpr
                go_wp2_with (at_builtin; refine app_list (W := U) (news := pcell ⟨d.name, -1, d.each, d.price⟩) (z := (.agg #[.string ByteArray.empty, .int .i64 0, .int .i64 0, .int .i64 0])) (.tmp 69) (.tmp 71) rfl rfl Try.underlying25 hi0 hz0 hz1 hz2 rfl (by decide) (by decide) rfl ((HXX.out.alloc _).alloc _) rfl rfl (news4 (by simp [go_sem]) (by simp [go_sem]) (by simp [go_sem]) (by simp [go_sem])) (pcell_one _) (by omega) (by (repeat' (first | (with_reducible exact Below.refl _ _) | (with_reducible assumption) | (with_reducible refine below_drewN ?_ _) | (with_reducible refine Below.drew ?_) | (with_reducible refine Below.alloc ?_ ?_ _) | (with_reducible refine Below.setCell ?_ ?_ _) | (with_reducible refine via (by with_reducible assumption) ?_ ?_) | go_size))) hVs ?_; intro v4 w4 hown4 hg4 hblk4 hb5)
                have hG4 := own_ne ((HG2.out.alloc _).alloc _) hg4 (fun q hq hc => by have h1 := (HXX.out.lt q hc.symm).1; simp only [Value.ownBlock, Option.some.injEq] at hq; omega)
                have hP4 := own_ne ((HST1.out.alloc _).alloc _) hg4 (fun q hq hc => by have h1 := HNEr.out q hc.symm; simp only [Value.ownBlock, Option.some.injEq] at hq; omega)
                have HG4 := Lib.hid hG4; clear hG4
                have HP4 := Lib.hid hP4; clear hP4
                have HO := Lib.hid hown4; clear hown4
                have hne4 : ∀ q, v4.ownBlock = some q → q ≠ g := fun q hq => by
                  rcases hblk4 with h | h
                  · rw [h] at hq; exact HNEr.out q hq
                  · rw [h] at hq; simp only [Option.some.injEq, World.size_alloc] at hq; omega
                have HNE4 := Lib.hid hne4; clear hne4 hg4 hblk4
                have hb5s := hb5.size
                have hb6 : Below W.heap.size W w4 := hb4.trans hb5
                (first | (refine ⟨?_, ?_⟩; rotate_left; (simp [intOf]; omega); (repeat apply Exists.intro); refine ⟨?_, rfl⟩; exact ⟨m + 1, by omega, by go_num, hb6, by omega, HG4.out, HP4.out, by rw [HX2.out, HK2.out, HCX.out, List.flatMap_append]; simpa using HO.out, HNE4.out⟩) | exact ⟨⟨m + 1, by omega, by go_num, hb6, by omega, HG4.out, HP4.out, by rw [HX2.out, HK2.out, HCX.out, List.flatMap_append]; simpa using HO.out, HNE4.out⟩, by simp [intOf]; omega⟩)
              · obtain ⟨p, hp, hpm⟩ := parent_of HV.out (by rw [HN.out]; exact hlt) (show 0 < m by omega)
                rw [HDG.out, HDP.out] at hp
                subst hp
                have HCX := Lib.hid (HCD.out (plI l kk (m + 1) p) (fun h => absurd h hm0) (fun _ => by rw [Int.toNat_natCast]))
                have g5 := CST.out p (by omega)
                have q1 : decide ((0 : Int) ≤ (p : Int)) = true := by simp
                have p5 : (0 : Int) ≤ (p : Int) := by omega
                have p6 : (p : Int) < (n : Int) := by omega
                generalize plI l kk (m + 1) p = np at *
                go_wp2_with (at_builtin; refine app_list (W := U) (news := pcell ⟨d.name, np, d.each, d.price⟩) (z := (.agg #[.string ByteArray.empty, .int .i64 0, .int .i64 0, .int .i64 0])) (.tmp 69) (.tmp 71) rfl rfl Try.underlying25 hi0 hz0 hz1 hz2 rfl (by decide) (by decide) rfl ((HXX.out.alloc _).alloc _) rfl rfl (news4 (by simp [go_sem]) (by simp [go_sem]) (by simp [go_sem]) (by simp [go_sem])) (pcell_one _) (by omega) (by (repeat' (first | (with_reducible exact Below.refl _ _) | (with_reducible assumption) | (with_reducible refine below_drewN ?_ _) | (with_reducible refine Below.drew ?_) | (with_reducible refine Below.alloc ?_ ?_ _) | (with_reducible refine Below.setCell ?_ ?_ _) | (with_reducible refine via (by with_reducible assumption) ?_ ?_) | go_size))) hVs ?_; intro v4 w4 hown4 hg4 hblk4 hb5)
                have hG4 := own_ne ((HG2.out.alloc _).alloc _) hg4 (fun q hq hc => by have h1 := (HXX.out.lt q hc.symm).1; simp only [Value.ownBlock, Option.some.injEq] at hq; omega)
                have hP4 := own_ne ((HST1.out.alloc _).alloc _) hg4 (fun q hq hc => by have h1 := HNEr.out q hc.symm; simp only [Value.ownBlock, Option.some.injEq] at hq; omega)
                have HG4 := Lib.hid hG4; clear hG4
                have HP4 := Lib.hid hP4; clear hP4
                have HO := Lib.hid hown4; clear hown4
                have hne4 : ∀ q, v4.ownBlock = some q → q ≠ g := fun q hq => by
                  rcases hblk4 with h | h
                  · rw [h] at hq; exact HNEr.out q hq
                  · rw [h] at hq; simp only [Option.some.injEq, World.size_alloc] at hq; omega
                have HNE4 := Lib.hid hne4; clear hne4 hg4 hblk4
                have hb5s := hb5.size
                have hb6 : Below W.heap.size W w4 := hb4.trans hb5
                (first | (refine ⟨?_, ?_⟩; rotate_left; (simp [intOf]; omega); (repeat apply Exists.intro); refine ⟨?_, rfl⟩; exact ⟨m + 1, by omega, by go_num, hb6, by omega, HG4.out, HP4.out, by rw [HX2.out, HK2.out, HCX.out, List.flatMap_append]; simpa using HO.out, HNE4.out⟩) | exact ⟨⟨m + 1, by omega, by go_num, hb6, by omega, HG4.out, HP4.out, by rw [HX2.out, HK2.out, HCX.out, List.flatMap_append]; simpa using HO.out, HNE4.out⟩, by simp [intOf]; omega⟩)
            · have HX2 := Lib.hid (cutL_no hu)
              have HP2 := Lib.hid (plV_gone (n := n) hu)
              have HK2 := Lib.hid (show keptN l kk (m + 1) = keptN l kk m by rw [← cutL_len, HX2.out, cutL_len])
              go_wp2_with fail
              (first | (refine ⟨?_, ?_⟩; rotate_left; (simp [intOf]; omega); (repeat apply Exists.intro); refine ⟨?_, rfl⟩; exact ⟨m + 1, by omega, by go_num, by (repeat' (first | (with_reducible exact Below.refl _ _) | (with_reducible assumption) | (with_reducible refine below_drewN ?_ _) | (with_reducible refine Below.drew ?_) | (with_reducible refine Below.alloc ?_ ?_ _) | (with_reducible refine Below.setCell ?_ ?_ _) | (with_reducible refine via (by with_reducible assumption) ?_ ?_) | go_size)), by simp; omega, HGr.out.alloc _, by rw [← HP2.out]; exact HPr.out.alloc _, by rw [HX2.out, HK2.out]; exact HX.out.alloc _, HNEr.out⟩) | exact ⟨⟨m + 1, by omega, by go_num, by (repeat' (first | (with_reducible exact Below.refl _ _) | (with_reducible assumption) | (with_reducible refine below_drewN ?_ _) | (with_reducible refine Below.drew ?_) | (with_reducible refine Below.alloc ?_ ?_ _) | (with_reducible refine Below.setCell ?_ ?_ _) | (with_reducible refine via (by with_reducible assumption) ?_ ?_) | go_size)), by simp; omega, HGr.out.alloc _, by rw [← HP2.out]; exact HPr.out.alloc _, by rw [HX2.out, HK2.out]; exact HX.out.alloc _, HNEr.out⟩, by simp [intOf]; omega⟩)
          · have hmn' : m = n := by omega
            rw [hmn'] at HX
            have p4 : ¬ (m : Int) < (n : Int) := by omega
            clear hmn'
            have hbw := hb1W.trans (hb.mono (by omega : w1.heap.size ≤ W.heap.size))
            obtain ⟨vA2, vc2, rfl, _⟩ := own_form HX.out
            go_wp2_with fail
            refine bodyPost_ret (v := .tuple #[.slice vA2 (keptN l kk n) vc2, .int .i64 0]) (by simp only [results, Try.results38]; go_simp) rfl ⟨_, by rw [HR.out], by rw [HR.out, cutL_len]; exact Go.Joins.ownsRow_le HX.out (by omega), hb1.trans (hbw.mono hb1s)⟩

end Go.Proofs.Ytnifpmfmhilhlaa
