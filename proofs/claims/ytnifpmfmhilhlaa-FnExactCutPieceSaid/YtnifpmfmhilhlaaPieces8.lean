/- Contracts: what is missing; both sides. -/
import Derived.Test.YtnifpmfmhilhlaaPieces7
import Derived.Test.YtnifpmfmhilhlaaPieceMath3
import Derived.Lib.MinMax
set_option linter.unusedVariables false
set_option linter.unusedSimpArgs false
namespace Go.Proofs.Ytnifpmfmhilhlaa
open Go.RowKit

theorem getD_eq {l : List Int} {i : Nat} {x : Int} (h : l[i]? = some x) : l.getD i 0 = x := by rw [List.getD_eq_getElem?_getD, h]; rfl
theorem stockR_bd (l : List PieceD) (s : List Int) : 0 ≤ stockR l s ∧ stockR l s ≤ 6 := by
  unfold stockR
  split
  · split
    · split <;> omega
    · omega
  · omega

set_option maxHeartbeats 2000000 in
theorem stockCode_c (A : Option Addr) (n c : Nat) (l : List PieceD) (A2 : Option Addr) (n2 c2 : Nat) (s : List Int) (w : World) (hn : l.length = n) (hm : n ≤ 1048576) (hr : Rd w w.heap.size 4 pcell A l) (ok : ∀ d ∈ l, okP d) (hn2 : s.length = n2) (hm2 : n2 ≤ 1048576) (hr2 : Rd w w.heap.size 1 icell A2 s) :
    Calls Try.prog 59 #[.slice A n c, .slice A2 n2 c2] w fun e w' => e = .returned (.int .i64 (stockR l s)) ∧ Below w.heap.size w w' := by
  have HN := Lib.hid hn; clear hn
  have HN2 := Lib.hid hn2; clear hn2
  cases hv : validS l
  · have HR := Lib.hid (show stockR l s = 1 by unfold stockR; rw [hv]; rfl)
    go_enter Try.func59, Try.ntmps59
    go_wp2_with fail
    refine (retb (ValidPiecesI_c A n c l _ HN.out hm hr ok) hv).mono ?_
    rintro e w1 ⟨rfl, hb1⟩
    go_wp2_with fail
    go_ret
    exact ⟨ret_int HR.out.symm, hb1⟩
  have HR := Lib.hid (show stockR l s = (if stockB s = true then (if s.length = l.length then 0 else 6) else 2) by unfold stockR; rw [hv, if_pos rfl])
  go_enter Try.func59, Try.ntmps59
  go_wp2_with fail
  refine (retb (ValidPiecesI_c A n c l _ HN.out hm hr ok) hv).mono ?_
  rintro e w1 ⟨rfl, hb1⟩
  have hb1s := hb1.size
  have hr1 := hr2.below hb1
  clear hv
  go_wp2_with fail
  go_loop [12] (fun i => ∃ k : Nat, k ≤ n2 ∧ i = .int .i64 k ∧ (List.range k).all (fun i => inB (s.getD i 0) 0 1000000000000) = true) (fun i => n2 - (intOf i).toNat)
  case atStart => exact ⟨0, Nat.zero_le _, rfl, by simp⟩
  case round =>
    obtain ⟨k, hk, rfl, ha⟩ := hrel
    have HA := Lib.hid ha; clear ha
    by_cases hlt : k < n2
    · obtain ⟨b1, off, rfl, hbl, hc⟩ := hr1.ints' (by rw [HN2.out]; omega)
      obtain ⟨x, hx⟩ := get_ex s k (by rw [HN2.out]; omega)
      have g0 := hc k x hx
      have HG := Lib.hid (getD_eq hx); clear hx hc
      have p1 : (0 : Int) ≤ (k : Int) := by omega
      have p2 : (k : Int) < (n2 : Int) := by omega
      cases h1 : inB x 0 1000000000000
      · have HO := Lib.hid (show stockB s = false by unfold stockB; exact all_range_no _ _ k (by rw [HN2.out]; exact hlt) (by rw [HG.out]; exact h1))
        go_wp2_with (go_at_call 46; refine (between_c _ _ _ _).mono ?_; rintro e w' ⟨rfl, rfl⟩)
        go_ret
        exact ⟨ret_int (by rw [HR.out, HO.out]; rfl), hb1⟩
      · have HS := Lib.hid (all_range_succ _ k HA.out (show inB (s.getD k 0) 0 1000000000000 = true by rw [HG.out]; exact h1))
        go_wp2_with (go_at_call 46; refine (between_c _ _ _ _).mono ?_; rintro e w' ⟨rfl, rfl⟩)
        (first | (refine ⟨⟨(by first | trivial | rfl), ?_⟩, ?_⟩; rotate_left; (simp [intOf]; omega); (repeat apply Exists.intro); refine ⟨?_, rfl⟩; exact ⟨k + 1, by omega, by go_num, HS.out⟩) | exact ⟨⟨k + 1, by omega, by go_num, HS.out⟩, by simp [intOf]; omega⟩)
    · have hkn : k = n2 := by omega
      have HO := Lib.hid (show stockB s = true by unfold stockB; rw [HN2.out, ← hkn]; exact HA.out)
      clear hkn
      by_cases h3 : n2 = n
      · subst h3
        go_wp2_with fail
        go_ret
        exact ⟨ret_int (by rw [HR.out, HO.out, if_pos rfl, if_pos (by rw [HN.out, HN2.out])]), hb1⟩
      · have q1 : ((n2 : Int) == (n : Int)) = false := by rw [beq_eq_false_iff_ne]; omega
        have q2 : ((n2 : Int) != (n : Int)) = true := by rw [bne_iff_ne]; omega
        have q3 : (n2 == n) = false := by simpa using h3
        have q4 : (n2 != n) = true := by simpa using h3
        go_wp2_with fail
        go_ret
        exact ⟨ret_int (by rw [HR.out, HO.out, if_pos rfl, if_neg (by rw [HN.out, HN2.out]; exact h3)]), hb1⟩

set_option maxHeartbeats 2000000 in
theorem l21Stock_c (A : Option Addr) (n c : Nat) (l : List PieceD) (A2 : Option Addr) (n2 c2 : Nat) (s : List Int) (w : World) (hn : l.length = n) (hm : n ≤ 1048576) (hr : Rd w w.heap.size 4 pcell A l) (ok : ∀ d ∈ l, okP d) (hn2 : s.length = n2) (hm2 : n2 ≤ 1048576) (hr2 : Rd w w.heap.size 1 icell A2 s) :
    Calls Try.prog 57 #[.slice A n c, .slice A2 n2 c2] w fun e w' => e = .returned (.int .i64 (stockR l s)) ∧ Below w.heap.size w w' := by
  have HN := Lib.hid hn; clear hn
  have HN2 := Lib.hid hn2; clear hn2
  cases hv : validS l
  · have HR := Lib.hid (show stockR l s = 1 by unfold stockR; rw [hv]; rfl)
    go_enter Try.func57, Try.ntmps57
    go_wp2_with fail
    refine (retb (l21OkB_c A n c l _ HN.out hm hr ok) hv).mono ?_
    rintro e w1 ⟨rfl, hb1⟩
    go_wp2_with fail
    go_ret
    exact ⟨ret_int HR.out.symm, hb1⟩
  have HR := Lib.hid (show stockR l s = (if stockB s = true then (if s.length = l.length then 0 else 6) else 2) by unfold stockR; rw [hv, if_pos rfl])
  go_enter Try.func57, Try.ntmps57
  go_wp2_with fail
  refine (retb (l21OkB_c A n c l _ HN.out hm hr ok) hv).mono ?_
  rintro e w1 ⟨rfl, hb1⟩
  have hb1s := hb1.size
  have hr1 := hr2.below hb1
  clear hv
  go_wp2_with fail
  go_loop [5] (fun i => ∃ k : Nat, k ≤ n2 ∧ i = .int .i64 k ∧ (List.range k).all (fun i => inB (s.getD i 0) 0 1000000000000) = true) (fun i => n2 - (intOf i).toNat)
  case atStart => exact ⟨0, Nat.zero_le _, rfl, by simp⟩
  case round =>
    obtain ⟨k, hk, rfl, ha⟩ := hrel
    have HA := Lib.hid ha; clear ha
    by_cases hlt : k < n2
    · obtain ⟨b1, off, rfl, hbl, hc⟩ := hr1.ints' (by rw [HN2.out]; omega)
      obtain ⟨x, hx⟩ := get_ex s k (by rw [HN2.out]; omega)
      have g0 := hc k x hx
      have HG := Lib.hid (getD_eq hx); clear hx hc
      have p1 : (0 : Int) ≤ (k : Int) := by omega
      have p2 : (k : Int) < (n2 : Int) := by omega
      cases h1 : inB x 0 1000000000000
      · have HO := Lib.hid (show stockB s = false by unfold stockB; exact all_range_no _ _ k (by rw [HN2.out]; exact hlt) (by rw [HG.out]; exact h1))
        go_wp2_with (go_at_call 61; refine (l00In_c _ _ _ _).mono ?_; rintro e w' ⟨rfl, rfl⟩)
        go_ret
        exact ⟨ret_int (by rw [HR.out, HO.out]; rfl), hb1⟩
      · have HS := Lib.hid (all_range_succ _ k HA.out (show inB (s.getD k 0) 0 1000000000000 = true by rw [HG.out]; exact h1))
        go_wp2_with (go_at_call 61; refine (l00In_c _ _ _ _).mono ?_; rintro e w' ⟨rfl, rfl⟩)
        (first | (refine ⟨⟨(by first | trivial | rfl), ?_⟩, ?_⟩; rotate_left; (simp [intOf]; omega); (repeat apply Exists.intro); refine ⟨?_, rfl⟩; exact ⟨k + 1, by omega, by go_num, HS.out⟩) | exact ⟨⟨k + 1, by omega, by go_num, HS.out⟩, by simp [intOf]; omega⟩)
    · have hkn : k = n2 := by omega
      have HO := Lib.hid (show stockB s = true by unfold stockB; rw [HN2.out, ← hkn]; exact HA.out)
      clear hkn
      by_cases h3 : n2 = n
      · subst h3
        go_wp2_with fail
        go_ret
        exact ⟨ret_int (by rw [HR.out, HO.out, if_pos rfl, if_pos (by rw [HN.out, HN2.out])]), hb1⟩
      · have q1 : ((n2 : Int) == (n : Int)) = false := by rw [beq_eq_false_iff_ne]; omega
        have q2 : ((n2 : Int) != (n : Int)) = true := by rw [bne_iff_ne]; omega
        have q3 : (n2 == n) = false := by simpa using h3
        have q4 : (n2 != n) = true := by simpa using h3
        go_wp2_with fail
        go_ret
        exact ⟨ret_int (by rw [HR.out, HO.out, if_pos rfl, if_neg (by rw [HN.out, HN2.out]; exact h3)]), hb1⟩

set_option maxRecDepth 100000 in
set_option maxHeartbeats 4000000 in
theorem missing_c (A : Option Addr) (n c : Nat) (l : List PieceD) (A2 : Option Addr) (c2 : Nat) (s : List Int) (m : Int) (w : World) (hn : l.length = n) (hm : n ≤ 1048576) (hr : Rd w w.heap.size 4 pcell A l) (hn2 : s.length = n) (hr2 : Rd w w.heap.size 1 icell A2 s) (hv : validS l = true) (hs : stockB s = true) (h0 : 0 ≤ m) (h1 : m ≤ 1000000) :
    Calls Try.prog 60 #[.slice A n c, .slice A2 n c2, .int .i64 m] w fun e w' => ∃ v, e = .returned v ∧ w'.ownsRow w.heap.size 2 1 v (missL l s m n).length ((missL l s m n).map (Value.int .i64)) ∧ Below w.heap.size w w' := by
  obtain ⟨i0, hi0, hz0, hz1, hz2⟩ := info_parts info_i64
  have HN := Lib.hid hn; clear hn
  have HN2 := Lib.hid hn2; clear hn2
  have hS := (valid_all hv).2.2.1
  have h40 := (valid_all hv).2.1
  have hn1 := (valid_all hv).1
  rw [HN.out] at hS h40 hn1
  have HS := Lib.hid hS; clear hS
  have HV := Lib.hid hv; clear hv
  have HST := Lib.hid hs; clear hs
  have ND := need_bd HV.out HST.out (by rw [HN.out, HN2.out]) h0 h1
  rw [HN.out] at ND
  have HND := Lib.hid ND; clear ND
  obtain ⟨b1, off, rfl, hbl, hc⟩ := hr.piece (by rw [HN.out]; omega)
  have HC := Lib.hid hc; clear hc
  obtain ⟨b2, off2, rfl, hbl2, hc2⟩ := hr2.ints' (by rw [HN2.out]; omega)
  have HC2 := Lib.hid hc2; clear hc2
  have HE0 := Lib.hid (show 1 ≤ (getP l 0).each ∧ (getP l 0).each ≤ 100 from ⟨(HS.out 0 (by omega)).1, (HS.out 0 (by omega)).2.1⟩)
  go_enter Try.func60, Try.ntmps60
  go_wp2_with fail
  have hown0 : (w.alloc (.cells #[] 2)).ownsRow w.heap.size 2 1 (.slice (some ⟨w.heap.size, 0, none⟩) 0 0) 0 [] := World.ownsRow_made w #[] 0 (Nat.le_refl _) (by simp [maxLen]) (by simp)
  go_loopw [7, 14] (fun o i wr => ∃ k : Nat, k ≤ n ∧ i = .int .i64 k ∧ Below w.heap.size w wr ∧ wr.ownsRow w.heap.size 2 1 o k ((missL l s m k).map (Value.int .i64))) (fun _ i _ => n - (intOf i).toNat)
  case atStart => exact ⟨0, Nat.zero_le _, rfl, by (repeat' (first | (with_reducible exact Below.refl _ _) | (with_reducible assumption) | (with_reducible refine below_drewN ?_ _) | (with_reducible refine Below.drew ?_) | (with_reducible refine Below.alloc ?_ ?_ _) | (with_reducible refine Below.setCell ?_ ?_ _) | (with_reducible refine via (by with_reducible assumption) ?_ ?_) | go_size)), hown0⟩
  case round =>
    clear hown0
    obtain ⟨k, hk, rfl, hb, hx⟩ := hrel
    have HX := Lib.hid hx; clear hx
    have hbs := hb.size
    by_cases hlt : k < n
    · obtain ⟨d, hd⟩ := get_ex l k (by rw [HN.out]; omega)
      obtain ⟨g0, g1, g2, g3⟩ := HC.out k d hd
      rw [← hb.cell (p := ⟨b1, off + k * 4, none⟩) hbl] at g0
      rw [← hb.cell (p := ⟨b1, off + k * 4 + 1, none⟩) hbl] at g1
      rw [← hb.cell (p := ⟨b1, off + k * 4 + 2, none⟩) hbl] at g2
      rw [← hb.cell (p := ⟨b1, off + k * 4 + 3, none⟩) hbl] at g3
      obtain ⟨d0, hd0⟩ := get_ex l 0 (by rw [HN.out]; omega)
      obtain ⟨_, _, z2, _⟩ := HC.out 0 d0 hd0
      simp only [Nat.zero_mul, Nat.add_zero] at z2
      rw [← hb.cell (p := ⟨b1, off + 2, none⟩) hbl] at z2
      obtain ⟨st, hst⟩ := get_ex s k (by rw [HN2.out]; omega)
      have g4 := HC2.out k st hst
      rw [← hb.cell (p := ⟨b2, off2 + k, none⟩) hbl2] at g4
      obtain ⟨e1, e2, _, _⟩ := HS.out k hlt
      obtain ⟨nd1, nd2, nd3, nd4, nd5⟩ := HND.out k hlt
      have hss := stock_at HST.out k (by rw [HN2.out]; exact hlt)
      have hd00 := getP_eq hd0
      have hdk := getP_eq hd
      have he0 := HE0.out
      rw [hd00] at he0
      rw [hdk] at e1 e2
      rw [getD_eq hst] at hss
      obtain ⟨hss1, hss2⟩ := hss
      obtain ⟨he1, he2⟩ := he0
      have HNV : needV l m (missL l s m k) k = (if k = 0 then m * d.each else d.each * (missL l s m k).getD d.parent.toNat 0) := by
        unfold needV
        by_cases h0 : k = 0
        · rw [if_pos h0, if_pos h0, show getP l 0 = d by rw [← h0]; exact hdk]
        · rw [if_neg h0, if_neg h0, hdk]
      have HMV : missV l s m (missL l s m k) k = max 0 (needV l m (missL l s m k) k - st) := by unfold missV; rw [getD_eq hst]
      rw [HMV] at nd3
      have HML := Lib.hid (missL_succ l s m k)
      rw [HMV] at HML
      have hf1 := far (show b1 < wr.heap.size by omega)
      have hf2 := far (show b2 < wr.heap.size by omega)
      have p1 : (0 : Int) ≤ (k : Int) := by omega
      have p2 : (k : Int) < (n : Int) := by omega
      have pm := mul_bd (a := m + 1) (m := 1000001) (b := d.each) (k := 100) (by omega) (by omega) (by omega) (by omega)
      have pm2 : (m + 1) * d.each = m * d.each + d.each := by rw [Int.add_mul, Int.one_mul]
      have pm3 := Int.mul_nonneg h0 (show 0 ≤ d.each by omega)
      have pm4 : m * d.each ≤ 100000100 := by omega
      clear pm pm2
      have ndb : needV l m (missL l s m k) k ≤ 1000000000000 := by omega
      generalize needV l m (missL l s m k) k = nd at *
      have HNV := Lib.hid HNV
      have HDK := Lib.hid hdk
      clear nd2 nd4 nd5 HMV hst hd hd0 hd00 hdk
      have ndl : 0 ≤ nd := nd1
      have HL := Lib.hid (show (missL l s m k).length = k from missL_len l s m k)
      by_cases h00 : k = 0
      · have hnd : m * d.each = nd := by rw [HNV.out, if_pos h00]
        have q1 : decide (0 < k) = false := by simp [h00]
        have q2 : ¬ 0 < k := by omega
        have H00 := Lib.hid h00; clear h00
        obtain ⟨vA, vc, rfl, _⟩ := own_form HX.out
        have HND2 := Lib.hid hnd; clear hnd
        go_wp2_with (at_builtin; refine app_list (W := w) (z := .int .i64 0) (.tmp 33) (.tmp 41) rfl rfl Try.underlying35 hi0 hz0 hz1 hz2 rfl (by decide) (by decide) rfl ((HX.out.alloc _).alloc _) rfl rfl (news1 (z := .int .i64 (max (m * d.each - st) 0)) (by first | (simp [go_sem]; done) | exact (Go.Joins.cell_alloc_mark_at _ _ _ _ _ _ rfl).trans rfl)) (by simp [Value.oneCell']) (by omega) (by (repeat' (first | (with_reducible exact Below.refl _ _) | (with_reducible assumption) | (with_reducible refine below_drewN ?_ _) | (with_reducible refine Below.drew ?_) | (with_reducible refine Below.alloc ?_ ?_ _) | (with_reducible refine Below.setCell ?_ ?_ _) | (with_reducible refine via (by with_reducible assumption) ?_ ?_) | go_size))) (Nat.le_refl _) ?_; intro v1 w1 hown1 hg1 hblk1 hb1)
        have HO := Lib.hid hown1; clear hown1 hg1 hblk1
        have HVL := Lib.hid (show max (m * d.each - st) 0 = max 0 (nd - st) by rw [HND2.out]; exact Int.max_comm _ _)
        (first | (refine ⟨?_, ?_⟩; rotate_left; (simp [intOf]; omega); (repeat apply Exists.intro); refine ⟨?_, rfl⟩; exact ⟨k + 1, by omega, by go_num, hb1, by rw [HML.out, List.map_append, ← HVL.out]; exact HO.out⟩) | exact ⟨⟨k + 1, by omega, by go_num, hb1, by rw [HML.out, List.map_append, ← HVL.out]; exact HO.out⟩, by simp [intOf]; omega⟩)
      · obtain ⟨p, hp, hpk⟩ := parent_of HV.out (by rw [HN.out]; exact hlt) (show 0 < k by omega)
        rw [HDK.out] at hp
        rw [hp] at g1
        obtain ⟨y, hy⟩ := get_ex (missL l s m k) p (by rw [HL.out]; exact hpk)
        have hnd : y * d.each = nd := by rw [HNV.out, if_neg h00, hp, Int.toNat_natCast, getD_eq hy]; exact Int.mul_comm _ _
        obtain ⟨vA, vc, rfl, hva⟩ := own_form HX.out
        have hrdd := rd_own HX.out
        obtain ⟨g, go, rfl, hgl, hgc⟩ := hrdd.ints' (by rw [HL.out]; omega)
        have g5 := hgc p y hy
        have hgf := far hgl
        clear hp hy hgc hrdd hva
        have p5 : (0 : Int) ≤ (p : Int) := by omega
        have p6 : (p : Int) < (k : Int) := by omega
        have q1 : decide (0 < k) = true := by simp; omega
        have q2 : 0 < k := by omega
        have b5 : 0 ≤ y * d.each ∧ y * d.each ≤ 1000000000000 := by rw [hnd]; omega
        obtain ⟨b51, b52⟩ := b5
        have HND2 := Lib.hid hnd; clear hnd
        have ew : IntKind.i64.wrap (y * d.each) = y * d.each := IntWalk.i64_in _ (by omega)
        go_wp2_with fail
        go_quiet (fail)
        clear ew
        go_wp2_with (at_builtin; refine app_list (W := w) (z := .int .i64 0) (.tmp 33) (.tmp 41) rfl rfl Try.underlying35 hi0 hz0 hz1 hz2 rfl (by decide) (by decide) rfl ((own_drewN (HX.out.alloc _) _).alloc _) rfl rfl (news1 (z := .int .i64 (max (y * d.each - st) 0)) (by first | (simp [go_sem]; done) | exact (Go.Joins.cell_alloc_mark_at _ _ _ _ _ _ rfl).trans rfl)) (by simp [Value.oneCell']) (by omega) (by (repeat' (first | (with_reducible exact Below.refl _ _) | (with_reducible assumption) | (with_reducible refine below_drewN ?_ _) | (with_reducible refine Below.drew ?_) | (with_reducible refine Below.alloc ?_ ?_ _) | (with_reducible refine Below.setCell ?_ ?_ _) | (with_reducible refine via (by with_reducible assumption) ?_ ?_) | go_size))) (Nat.le_refl _) ?_; intro v1 w1 hown1 hg1 hblk1 hb1)
        have HO := Lib.hid hown1; clear hown1 hg1 hblk1
        have HVL := Lib.hid (show max (y * d.each - st) 0 = max 0 (nd - st) by rw [HND2.out]; exact Int.max_comm _ _)
        (first | (refine ⟨?_, ?_⟩; rotate_left; (simp [intOf]; omega); (repeat apply Exists.intro); refine ⟨?_, rfl⟩; exact ⟨k + 1, by omega, by go_num, hb1, by rw [HML.out, List.map_append, ← HVL.out]; exact HO.out⟩) | exact ⟨⟨k + 1, by omega, by go_num, hb1, by rw [HML.out, List.map_append, ← HVL.out]; exact HO.out⟩, by simp [intOf]; omega⟩)
    · have hkn : k = n := by omega
      subst hkn
      obtain ⟨vA, vc, rfl, _⟩ := own_form HX.out
      go_wp2_with fail
      refine bodyPost_ret (v := .slice vA k vc) (by simp only [results, Try.results60]; go_simp) rfl ⟨_, rfl, by rw [missL_len]; exact HX.out, hb⟩

set_option maxRecDepth 100000 in
set_option maxHeartbeats 4000000 in
theorem l21Missing_c (A : Option Addr) (n c : Nat) (l : List PieceD) (A2 : Option Addr) (c2 : Nat) (s : List Int) (m : Int) (w : World) (hn : l.length = n) (hm : n ≤ 1048576) (hr : Rd w w.heap.size 4 pcell A l) (hn2 : s.length = n) (hr2 : Rd w w.heap.size 1 icell A2 s) (hv : validS l = true) (hs : stockB s = true) (h0 : 0 ≤ m) (h1 : m ≤ 1000000) :
    Calls Try.prog 62 #[.slice A n c, .slice A2 n c2, .int .i64 m] w fun e w' => ∃ v, e = .returned v ∧ w'.ownsRow w.heap.size 2 1 v (missL l s m n).length ((missL l s m n).map (Value.int .i64)) ∧ Below w.heap.size w w' := by
  obtain ⟨i0, hi0, hz0, hz1, hz2⟩ := info_parts info_i64
  have HN := Lib.hid hn; clear hn
  have HN2 := Lib.hid hn2; clear hn2
  have hS := (valid_all hv).2.2.1
  have h40 := (valid_all hv).2.1
  have hn1 := (valid_all hv).1
  rw [HN.out] at hS h40 hn1
  have HS := Lib.hid hS; clear hS
  have HV := Lib.hid hv; clear hv
  have HST := Lib.hid hs; clear hs
  have ND := need_bd HV.out HST.out (by rw [HN.out, HN2.out]) h0 h1
  rw [HN.out] at ND
  have HND := Lib.hid ND; clear ND
  obtain ⟨b1, off, rfl, hbl, hc⟩ := hr.piece (by rw [HN.out]; omega)
  have HC := Lib.hid hc; clear hc
  obtain ⟨b2, off2, rfl, hbl2, hc2⟩ := hr2.ints' (by rw [HN2.out]; omega)
  have HC2 := Lib.hid hc2; clear hc2
  have HE0 := Lib.hid (show 1 ≤ (getP l 0).each ∧ (getP l 0).each ≤ 100 from ⟨(HS.out 0 (by omega)).1, (HS.out 0 (by omega)).2.1⟩)
  go_enter Try.func62, Try.ntmps62
  go_wp2_with fail
  have hown0 : (w.alloc (.cells #[] 2)).ownsRow w.heap.size 2 1 (.slice (some ⟨w.heap.size, 0, none⟩) 0 0) 0 [] := World.ownsRow_made w #[] 0 (Nat.le_refl _) (by simp [maxLen]) (by simp)
  go_loopw [7, 8] (fun o i wr => ∃ k : Nat, k ≤ n ∧ i = .int .i64 k ∧ Below w.heap.size w wr ∧ wr.ownsRow w.heap.size 2 1 o k ((missL l s m k).map (Value.int .i64))) (fun _ i _ => n - (intOf i).toNat)
  case atStart => exact ⟨0, Nat.zero_le _, rfl, by (repeat' (first | (with_reducible exact Below.refl _ _) | (with_reducible assumption) | (with_reducible refine below_drewN ?_ _) | (with_reducible refine Below.drew ?_) | (with_reducible refine Below.alloc ?_ ?_ _) | (with_reducible refine Below.setCell ?_ ?_ _) | (with_reducible refine via (by with_reducible assumption) ?_ ?_) | go_size)), hown0⟩
  case round =>
    clear hown0
    obtain ⟨k, hk, rfl, hb, hx⟩ := hrel
    have HX := Lib.hid hx; clear hx
    have hbs := hb.size
    by_cases hlt : k < n
    · obtain ⟨d, hd⟩ := get_ex l k (by rw [HN.out]; omega)
      obtain ⟨g0, g1, g2, g3⟩ := HC.out k d hd
      rw [← hb.cell (p := ⟨b1, off + k * 4, none⟩) hbl] at g0
      rw [← hb.cell (p := ⟨b1, off + k * 4 + 1, none⟩) hbl] at g1
      rw [← hb.cell (p := ⟨b1, off + k * 4 + 2, none⟩) hbl] at g2
      rw [← hb.cell (p := ⟨b1, off + k * 4 + 3, none⟩) hbl] at g3
      obtain ⟨d0, hd0⟩ := get_ex l 0 (by rw [HN.out]; omega)
      obtain ⟨_, _, z2, _⟩ := HC.out 0 d0 hd0
      simp only [Nat.zero_mul, Nat.add_zero] at z2
      rw [← hb.cell (p := ⟨b1, off + 2, none⟩) hbl] at z2
      obtain ⟨st, hst⟩ := get_ex s k (by rw [HN2.out]; omega)
      have g4 := HC2.out k st hst
      rw [← hb.cell (p := ⟨b2, off2 + k, none⟩) hbl2] at g4
      obtain ⟨e1, e2, _, _⟩ := HS.out k hlt
      obtain ⟨nd1, nd2, nd3, nd4, nd5⟩ := HND.out k hlt
      have hss := stock_at HST.out k (by rw [HN2.out]; exact hlt)
      have hd00 := getP_eq hd0
      have hdk := getP_eq hd
      have he0 := HE0.out
      rw [hd00] at he0
      rw [hdk] at e1 e2
      rw [getD_eq hst] at hss
      obtain ⟨hss1, hss2⟩ := hss
      obtain ⟨he1, he2⟩ := he0
      have HNV : needV l m (missL l s m k) k = (if k = 0 then m * d0.each else d.each * (missL l s m k).getD d.parent.toNat 0) := by
        unfold needV
        by_cases h0 : k = 0
        · rw [if_pos h0, if_pos h0, hd00]
        · rw [if_neg h0, if_neg h0, hdk]
      have HMV : missV l s m (missL l s m k) k = max 0 (needV l m (missL l s m k) k - st) := by unfold missV; rw [getD_eq hst]
      rw [HMV] at nd3
      have HML := Lib.hid (missL_succ l s m k)
      rw [HMV] at HML
      have hf1 := far (show b1 < wr.heap.size by omega)
      have hf2 := far (show b2 < wr.heap.size by omega)
      have p1 : (0 : Int) ≤ (k : Int) := by omega
      have p2 : (k : Int) < (n : Int) := by omega
      have pm := mul_bd (a := m + 1) (m := 1000001) (b := d0.each) (k := 100) (by omega) (by omega) (by omega) (by omega)
      have pm2 : (m + 1) * d0.each = m * d0.each + d0.each := by rw [Int.add_mul, Int.one_mul]
      have pm3 := Int.mul_nonneg h0 (show 0 ≤ d0.each by omega)
      have pm4 : m * d0.each ≤ 100000100 := by omega
      clear pm pm2
      have ndb : needV l m (missL l s m k) k ≤ 1000000000000 := by omega
      generalize needV l m (missL l s m k) k = nd at *
      have HNV := Lib.hid HNV
      have HDK := Lib.hid hdk
      clear nd2 nd4 nd5 HMV hst hd hd0 hd00 hdk
      have ndl : 0 ≤ nd := nd1
      have HL := Lib.hid (show (missL l s m k).length = k from missL_len l s m k)
      by_cases h00 : k = 0
      · have hnd : m * d0.each = nd := by rw [HNV.out, if_pos h00]
        have q1 : decide (0 < k) = false := by simp [h00]
        have q2 : ¬ 0 < k := by omega
        have H00 := Lib.hid h00; clear h00
        obtain ⟨vA, vc, rfl, _⟩ := own_form HX.out
        have HND2 := Lib.hid hnd; clear hnd
        go_wp2_with (first | (go_at_call 66; refine (l00Max_c _ _ _).mono ?_; rintro e w' ⟨rfl, rfl⟩) | (at_builtin; refine app_list (W := w) (z := .int .i64 0) (.tmp 39) (.tmp 47) rfl rfl Try.underlying35 hi0 hz0 hz1 hz2 rfl (by decide) (by decide) rfl (HX.out.alloc _) rfl rfl (news1 (z := .int .i64 (max 0 (m * d0.each - st))) (by first | (simp [go_sem]; done) | exact (Go.Joins.cell_alloc_mark_at _ _ _ _ _ _ rfl).trans rfl)) (by simp [Value.oneCell']) (by omega) (by (repeat' (first | (with_reducible exact Below.refl _ _) | (with_reducible assumption) | (with_reducible refine below_drewN ?_ _) | (with_reducible refine Below.drew ?_) | (with_reducible refine Below.alloc ?_ ?_ _) | (with_reducible refine Below.setCell ?_ ?_ _) | (with_reducible refine via (by with_reducible assumption) ?_ ?_) | go_size))) (Nat.le_refl _) ?_; intro v1 w1 hown1 hg1 hblk1 hb1))
        have HO := Lib.hid hown1; clear hown1 hg1 hblk1
        have HVL := Lib.hid (show max 0 (m * d0.each - st) = max 0 (nd - st) by rw [HND2.out])
        (first | (refine ⟨?_, ?_⟩; rotate_left; (simp [intOf]; omega); (repeat apply Exists.intro); refine ⟨?_, rfl⟩; exact ⟨k + 1, by omega, by go_num, hb1, by rw [HML.out, List.map_append, ← HVL.out]; exact HO.out⟩) | exact ⟨⟨k + 1, by omega, by go_num, hb1, by rw [HML.out, List.map_append, ← HVL.out]; exact HO.out⟩, by simp [intOf]; omega⟩)
      · obtain ⟨p, hp, hpk⟩ := parent_of HV.out (by rw [HN.out]; exact hlt) (show 0 < k by omega)
        rw [HDK.out] at hp
        rw [hp] at g1
        obtain ⟨y, hy⟩ := get_ex (missL l s m k) p (by rw [HL.out]; exact hpk)
        have hnd : d.each * y = nd := by rw [HNV.out, if_neg h00, hp, Int.toNat_natCast, getD_eq hy]
        obtain ⟨vA, vc, rfl, hva⟩ := own_form HX.out
        have hrdd := rd_own HX.out
        obtain ⟨g, go, rfl, hgl, hgc⟩ := hrdd.ints' (by rw [HL.out]; omega)
        have g5 := hgc p y hy
        have hgf := far hgl
        clear hp hy hgc hrdd hva
        have p5 : (0 : Int) ≤ (p : Int) := by omega
        have p6 : (p : Int) < (k : Int) := by omega
        have q1 : decide (0 < k) = true := by simp; omega
        have q2 : 0 < k := by omega
        have b5 : 0 ≤ d.each * y ∧ d.each * y ≤ 1000000000000 := by rw [hnd]; omega
        obtain ⟨b51, b52⟩ := b5
        have HND2 := Lib.hid hnd; clear hnd
        have ew : IntKind.i64.wrap (d.each * y) = d.each * y := IntWalk.i64_in _ (by omega)
        go_wp2_with fail
        go_quiet (fail)
        clear ew
        go_wp2_with (first | (go_at_call 66; refine (l00Max_c _ _ _).mono ?_; rintro e w' ⟨rfl, rfl⟩) | (at_builtin; refine app_list (W := w) (z := .int .i64 0) (.tmp 39) (.tmp 47) rfl rfl Try.underlying35 hi0 hz0 hz1 hz2 rfl (by decide) (by decide) rfl ((own_drewN HX.out _).alloc _) rfl rfl (news1 (z := .int .i64 (max 0 (d.each * y - st))) (by first | (simp [go_sem]; done) | exact (Go.Joins.cell_alloc_mark_at _ _ _ _ _ _ rfl).trans rfl)) (by simp [Value.oneCell']) (by omega) (by (repeat' (first | (with_reducible exact Below.refl _ _) | (with_reducible assumption) | (with_reducible refine below_drewN ?_ _) | (with_reducible refine Below.drew ?_) | (with_reducible refine Below.alloc ?_ ?_ _) | (with_reducible refine Below.setCell ?_ ?_ _) | (with_reducible refine via (by with_reducible assumption) ?_ ?_) | go_size))) (Nat.le_refl _) ?_; intro v1 w1 hown1 hg1 hblk1 hb1))
        have HO := Lib.hid hown1; clear hown1 hg1 hblk1
        have HVL := Lib.hid (show max 0 (d.each * y - st) = max 0 (nd - st) by rw [HND2.out])
        (first | (refine ⟨?_, ?_⟩; rotate_left; (simp [intOf]; omega); (repeat apply Exists.intro); refine ⟨?_, rfl⟩; exact ⟨k + 1, by omega, by go_num, hb1, by rw [HML.out, List.map_append, ← HVL.out]; exact HO.out⟩) | exact ⟨⟨k + 1, by omega, by go_num, hb1, by rw [HML.out, List.map_append, ← HVL.out]; exact HO.out⟩, by simp [intOf]; omega⟩)
    · have hkn : k = n := by omega
      subst hkn
      obtain ⟨vA, vc, rfl, _⟩ := own_form HX.out
      go_wp2_with fail
      refine bodyPost_ret (v := .slice vA k vc) (by simp only [results, Try.results62]; go_simp) rfl ⟨_, rfl, by rw [missL_len]; exact HX.out, hb⟩

set_option maxHeartbeats 2000000 in
theorem MissingPiecesI_c (A : Option Addr) (n c : Nat) (l : List PieceD) (A2 : Option Addr) (n2 c2 : Nat) (s : List Int) (m : Int) (w : World) (hn : l.length = n) (hm : n ≤ 1048576) (hr : Rd w w.heap.size 4 pcell A l) (ok : ∀ d ∈ l, okP d) (hn2 : s.length = n2) (hm2 : n2 ≤ 1048576) (hr2 : Rd w w.heap.size 1 icell A2 s) :
    Calls Try.prog 41 #[.slice A n c, .slice A2 n2 c2, .int .i64 m] w fun e w' => ∃ v, e = .returned (.tuple #[v, .int .i64 (missR l s m).2]) ∧ w'.ownsRow w.heap.size 2 1 v (missR l s m).1.length ((missR l s m).1.map (Value.int .i64)) ∧ Below w.heap.size w w' := by
  have HN := Lib.hid hn; clear hn
  have HN2 := Lib.hid hn2; clear hn2
  generalize hq : stockR l s = q
  have cb := stockR_bd l s
  rw [hq] at cb
  by_cases h0 : q = 0
  rotate_left
  · have HR := Lib.hid (show missR l s m = ([], q) by unfold missR; rw [hq, if_neg h0])
    have HQ := Lib.hid hq; clear hq
    have q1 : (q == 0) = false := by simpa using h0
    have q2 : (q != 0) = true := by simpa using h0
    go_enter Try.func41, Try.ntmps41
    go_wp2_with fail
    refine (stockCode_c A n c l A2 n2 c2 s w HN.out hm hr ok HN2.out hm2 hr2).mono ?_
    rw [HQ.out]
    rintro e w1 ⟨rfl, hb1⟩
    go_wp2_with (go_at_call 46; refine (between_c _ _ _ _).mono ?_; rintro e w' ⟨rfl, rfl⟩)
    refine bodyPost_ret (v := .tuple #[.slice none 0 0, .int .i64 q]) (by simp only [results, Try.results41]; go_simp) rfl ⟨.slice none 0 0, by rw [HR.out], no_ints (by rw [HR.out]), hb1⟩
  subst h0
  obtain ⟨hv, hst, hsl⟩ := stockR_zero hq
  rw [HN.out, HN2.out] at hsl
  subst hsl
  have HST := Lib.hid hst; clear hst
  have HV := Lib.hid hv; clear hv
  have HQ := Lib.hid hq; clear hq
  cases h5 : inB m 0 1000000
  · have HR := Lib.hid (show missR l s m = ([], 2) by unfold missR; rw [if_pos HQ.out, h5]; rfl)
    go_enter Try.func41, Try.ntmps41
    go_wp2_with fail
    refine (stockCode_c A n2 c l A2 n2 c2 s w HN.out hm hr ok HN2.out hm2 hr2).mono ?_
    rw [HQ.out]
    rintro e w1 ⟨rfl, hb1⟩
    go_wp2_with (go_at_call 46; refine (between_c _ _ _ _).mono ?_; rintro e w' ⟨rfl, rfl⟩)
    refine bodyPost_ret (v := .tuple #[.slice none 0 0, .int .i64 2]) (by simp only [results, Try.results41]; go_simp) rfl ⟨.slice none 0 0, by rw [HR.out], no_ints (by rw [HR.out]), hb1⟩
  · have HR := Lib.hid (show missR l s m = (missL l s m n2, 0) by unfold missR; rw [if_pos HQ.out, h5, if_pos rfl, HN.out])
    have hmb := inB_iff.1 h5
    obtain ⟨m1, m2⟩ := hmb
    go_enter Try.func41, Try.ntmps41
    go_wp2_with fail
    refine (stockCode_c A n2 c l A2 n2 c2 s w HN.out hm hr ok HN2.out hm2 hr2).mono ?_
    rw [HQ.out]
    rintro e w1 ⟨rfl, hb1⟩
    have hb1s := hb1.size
    go_wp2_with (go_at_call 46; refine (between_c _ _ _ _).mono ?_; rintro e w' ⟨rfl, rfl⟩)
    refine (missing_c A n2 c l A2 c2 s m w1 HN.out hm ((hr.below hb1).mono hb1s) HN2.out ((hr2.below hb1).mono hb1s) HV.out HST.out m1 m2).mono ?_
    rintro e w2 ⟨v, rfl, hx, hb2⟩
    have HX := Lib.hid hx
    obtain ⟨vA, vc, rfl, _⟩ := own_form hx
    clear hx
    go_wp2_with fail
    refine bodyPost_ret (v := .tuple #[.slice vA (missL l s m n2).length vc, .int .i64 0]) (by simp only [results, Try.results41]; go_simp) rfl ⟨_, by rw [HR.out], by rw [HR.out]; exact Go.Joins.ownsRow_le HX.out hb1s, by (repeat' (first | (with_reducible exact Below.refl _ _) | (with_reducible assumption) | (with_reducible refine below_drewN ?_ _) | (with_reducible refine Below.drew ?_) | (with_reducible refine Below.alloc ?_ ?_ _) | (with_reducible refine Below.setCell ?_ ?_ _) | (with_reducible refine via (by with_reducible assumption) ?_ ?_) | go_size))⟩

set_option maxHeartbeats 2000000 in
theorem MissingPiecesS_c (A : Option Addr) (n c : Nat) (l : List PieceD) (A2 : Option Addr) (n2 c2 : Nat) (s : List Int) (m : Int) (w : World) (hn : l.length = n) (hm : n ≤ 1048576) (hr : Rd w w.heap.size 4 pcell A l) (ok : ∀ d ∈ l, okP d) (hn2 : s.length = n2) (hm2 : n2 ≤ 1048576) (hr2 : Rd w w.heap.size 1 icell A2 s) :
    Calls Try.prog 40 #[.slice A n c, .slice A2 n2 c2, .int .i64 m] w fun e w' => ∃ v, e = .returned (.tuple #[v, .int .i64 (missR l s m).2]) ∧ w'.ownsRow w.heap.size 2 1 v (missR l s m).1.length ((missR l s m).1.map (Value.int .i64)) ∧ Below w.heap.size w w' := by
  have HN := Lib.hid hn; clear hn
  have HN2 := Lib.hid hn2; clear hn2
  generalize hq : stockR l s = q
  have cb := stockR_bd l s
  rw [hq] at cb
  by_cases h0 : q = 0
  rotate_left
  · have HR := Lib.hid (show missR l s m = ([], q) by unfold missR; rw [hq, if_neg h0])
    have HQ := Lib.hid hq; clear hq
    have q1 : (q == 0) = false := by simpa using h0
    have q2 : (q != 0) = true := by simpa using h0
    go_enter Try.func40, Try.ntmps40
    go_wp2_with fail
    refine (l21Stock_c A n c l A2 n2 c2 s w HN.out hm hr ok HN2.out hm2 hr2).mono ?_
    rw [HQ.out]
    rintro e w1 ⟨rfl, hb1⟩
    go_wp2_with (go_at_call 61; refine (l00In_c _ _ _ _).mono ?_; rintro e w' ⟨rfl, rfl⟩)
    refine bodyPost_ret (v := .tuple #[.slice none 0 0, .int .i64 q]) (by simp only [results, Try.results40]; go_simp) rfl ⟨.slice none 0 0, by rw [HR.out], no_ints (by rw [HR.out]), hb1⟩
  subst h0
  obtain ⟨hv, hst, hsl⟩ := stockR_zero hq
  rw [HN.out, HN2.out] at hsl
  subst hsl
  have HST := Lib.hid hst; clear hst
  have HV := Lib.hid hv; clear hv
  have HQ := Lib.hid hq; clear hq
  cases h5 : inB m 0 1000000
  · have HR := Lib.hid (show missR l s m = ([], 2) by unfold missR; rw [if_pos HQ.out, h5]; rfl)
    go_enter Try.func40, Try.ntmps40
    go_wp2_with fail
    refine (l21Stock_c A n2 c l A2 n2 c2 s w HN.out hm hr ok HN2.out hm2 hr2).mono ?_
    rw [HQ.out]
    rintro e w1 ⟨rfl, hb1⟩
    go_wp2_with (go_at_call 61; refine (l00In_c _ _ _ _).mono ?_; rintro e w' ⟨rfl, rfl⟩)
    refine bodyPost_ret (v := .tuple #[.slice none 0 0, .int .i64 2]) (by simp only [results, Try.results40]; go_simp) rfl ⟨.slice none 0 0, by rw [HR.out], no_ints (by rw [HR.out]), hb1⟩
  · have HR := Lib.hid (show missR l s m = (missL l s m n2, 0) by unfold missR; rw [if_pos HQ.out, h5, if_pos rfl, HN.out])
    have hmb := inB_iff.1 h5
    obtain ⟨m1, m2⟩ := hmb
    go_enter Try.func40, Try.ntmps40
    go_wp2_with fail
    refine (l21Stock_c A n2 c l A2 n2 c2 s w HN.out hm hr ok HN2.out hm2 hr2).mono ?_
    rw [HQ.out]
    rintro e w1 ⟨rfl, hb1⟩
    have hb1s := hb1.size
    go_wp2_with (go_at_call 61; refine (l00In_c _ _ _ _).mono ?_; rintro e w' ⟨rfl, rfl⟩)
    refine (l21Missing_c A n2 c l A2 c2 s m w1 HN.out hm ((hr.below hb1).mono hb1s) HN2.out ((hr2.below hb1).mono hb1s) HV.out HST.out m1 m2).mono ?_
    rintro e w2 ⟨v, rfl, hx, hb2⟩
    have HX := Lib.hid hx
    obtain ⟨vA, vc, rfl, _⟩ := own_form hx
    clear hx
    go_wp2_with fail
    refine bodyPost_ret (v := .tuple #[.slice vA (missL l s m n2).length vc, .int .i64 0]) (by simp only [results, Try.results40]; go_simp) rfl ⟨_, by rw [HR.out], by rw [HR.out]; exact Go.Joins.ownsRow_le HX.out hb1s, by (repeat' (first | (with_reducible exact Below.refl _ _) | (with_reducible assumption) | (with_reducible refine below_drewN ?_ _) | (with_reducible refine Below.drew ?_) | (with_reducible refine Below.alloc ?_ ?_ _) | (with_reducible refine Below.setCell ?_ ?_ _) | (with_reducible refine via (by with_reducible assumption) ?_ ?_) | go_size))⟩

end Go.Proofs.Ytnifpmfmhilhlaa
