/- Contracts: odd rows; both sides. -/
import Derived.Test.YtklpjpablmiaoaaGuess2
import Derived.Test.YtklpjpablmiaoaaLawInts
set_option linter.unusedVariables false
set_option linter.unusedSimpArgs false
namespace Go.Proofs.Ytklpjpablmiaoaa
open Go.RowKit

def oddR (s : ByteArray) (f t : Int) (l : List Int) (order : Int) : List Int × Int :=
  if guessR s f t l order = 0 then (oddG order.toNat (l.length - order.toNat) order.toNat l, 0) else ([], guessR s f t l order)
theorem oddR_len (s : ByteArray) (f t : Int) (l : List Int) (order : Int) : (oddR s f t l order).1.length ≤ l.length := by
  unfold oddR
  split
  · have := oddG_len order.toNat (l.length - order.toNat) order.toNat l
    simp only
    omega
  · simp
theorem oddG_same {order f i : Nat} {l : List Int} (h : gss l i order = l.getD i 0) : oddG order (f + 1) i l = oddG order f (i + 1) l := by rw [oddG, if_pos h]
theorem oddG_yes {order f i : Nat} {l : List Int} (h : ¬ gss l i order = l.getD i 0) (hv : valB (gss l i order) = true) : oddG order (f + 1) i l = (i : Int) :: oddG order f (i + 1) (l.set i (gss l i order)) := by
  rw [oddG, if_neg h]; unfold valB at hv; rw [if_pos hv]
theorem oddG_no {order f i : Nat} {l : List Int} (h : ¬ gss l i order = l.getD i 0) (hv : valB (gss l i order) = false) : oddG order (f + 1) i l = (i : Int) :: oddG order f (i + 1) l := by
  rw [oddG, if_neg h]; unfold valB at hv; rw [if_neg (by rw [hv]; simp)]
theorem own_base {w : World} {B B' : Nat} {e : TypeId} {size : Nat} {v : Value} {n : Nat} {xs : List Value} (h : w.ownsRow B e size v n xs) (hB : B' ≤ B) : w.ownsRow B' e size v n xs :=
  ⟨h.1, by rcases h.2 with h | ⟨g, cap, cur, hv, hg, rest⟩; exact .inl h; exact .inr ⟨g, cap, cur, hv, Nat.le_trans hB hg, rest⟩⟩
theorem map_set_int (l : List Int) (k : Nat) (x : Int) : (l.map (Value.int .i64)).set k (.int .i64 x) = (l.set k x).map (Value.int .i64) := by rw [List.map_set]

set_option maxRecDepth 100000 in
set_option maxHeartbeats 4000000 in
theorem OddRowsI_c (s : ByteArray) (f t : Int) (A : Option Addr) (n c : Nat) (l : List Int) (order : Int) (w : World) (hs : s.size ≤ 1048576) (hn : l.length = n) (hm : n ≤ 1048576) (hr : Rd w w.heap.size 1 icell A l) :
    Calls Try.prog 36 #[pg s f t A n c, .int .i64 order] w fun e w' => ∃ v, e = .returned (.tuple #[v, .int .i64 (oddR s f t l order).2]) ∧ w'.ownsRow w.heap.size 2 1 v (oddR s f t l order).1.length ((oddR s f t l order).1.map (Value.int .i64)) ∧ Below w.heap.size w w' := by
  obtain ⟨i0, hi0, hi1, hi2, hi3⟩ := info_parts info_i64
  have hA : A = none → n = 0 := fun h => by rw [← hn]; exact hr.none_len h
  have HN := Lib.hid hn; clear hn
  have HGB := guessR_bd s f t l order
  have HR0 := Lib.hid (show ¬ guessR s f t l order = 0 → oddR s f t l order = ([], guessR s f t l order) from fun h => by unfold oddR; rw [if_neg h])
  have HR1 := Lib.hid (show guessR s f t l order = 0 → oddR s f t l order = (oddG order.toNat (l.length - order.toNat) order.toNat l, 0) from fun h => by unfold oddR; rw [if_pos h])
  have HZ := Lib.hid (show guessR s f t l order = 0 → _ from guessR_zero)
  generalize hq : guessR s f t l order = q at *
  have HQ := Lib.hid hq; clear hq
  unfold pg
  go_enter Try.func36, Try.ntmps36
  go_wp2_with fail
  refine gen_calls fun W hW => ?_
  have hbW : Below w.heap.size w W := by rw [hW.out]; (repeat' (first | (with_reducible exact Below.refl _ _) | (with_reducible assumption) | (with_reducible refine below_drewN ?_ _) | (with_reducible refine Below.drew ?_) | (with_reducible refine Below.alloc ?_ ?_ _) | (with_reducible refine Below.setCell ?_ ?_ _) | (with_reducible refine via (by with_reducible assumption) ?_ ?_) | go_size))
  have hp : PgAt W w.heap.size s f t A n c := by rw [hW.out]; unfold PgAt; simp [go_sem]
  have hlt : w.heap.size < W.heap.size := by rw [hW.out]; simp [go_sem]
  clear hW
  refine (guessCode_c s f t A n c l order W hs HN.out hm ((hr.below hbW).mono hbW.size)).mono ?_
  rw [HQ.out]
  rintro e W1 ⟨rfl, hb1⟩
  have hp1 := hp.below hb1 hlt
  have hlt1 : w.heap.size < W1.heap.size := Nat.lt_of_lt_of_le hlt hb1.size
  have hbW1 : Below w.heap.size w W1 := hbW.trans (hb1.mono hbW.size)
  clear hp hb1 hbW hlt
  obtain ⟨g0, g1, g2, g3⟩ := hp1
  have hfar := far hlt1
  by_cases hq0 : q = 0
  rotate_left
  · have HR := Lib.hid (HR0.out hq0)
    have q1 : (q == 0) = false := by simpa using hq0
    have q2 : (q != 0) = true := by simpa using hq0
    go_wp2_with fail
    refine bodyPost_ret (v := .tuple #[.slice none 0 0, .int .i64 q]) (by simp only [results, Try.results36]; go_simp) rfl ⟨.slice none 0 0, by rw [HR.out], by rw [HR.out]; exact World.ownsRow_nil _ _ _ _, hbW1⟩
  subst hq0
  obtain ⟨hpb, hob, hlb⟩ := HZ.out rfl
  rw [HN.out] at hlb
  obtain ⟨d, rfl⟩ : ∃ d : Nat, order = (d : Int) := ⟨order.toNat, by omega⟩
  have HR := Lib.hid (HR1.out rfl)
  rw [HN.out, Int.toNat_natCast] at HR
  have HSM := Lib.hid (page_small hpb)
  have hd : 1 ≤ d ∧ d ≤ 8 := by omega
  have hdl : 2 * d + 1 ≤ n := by omega
  obtain ⟨R, hRR⟩ : ∃ R, oddG d (n - d) d l = R := ⟨_, rfl⟩
  rw [hRR] at HR
  have HRR := Lib.hid hRR; clear hRR hpb HZ HR0 HR1 hob hlb
  have hbs1 := hbW1.size
  go_wp2_with fail
  refine (copyNumbers_c A n c l W1 HN.out hm hA ((hr.below hbW1).mono hbs1)).mono ?_
  rintro e w2 ⟨v2, rfl, hx2, hb2⟩
  obtain ⟨A2, c2, rfl, _⟩ := own_form hx2
  have hg : ∃ g, A2 = some ⟨g, 0, none⟩ := by
    rcases hx2.2 with ⟨hv, h0⟩ | ⟨g, cap, cur, hv, _⟩
    · omega
    · exact ⟨g, by injection hv⟩
  obtain ⟨g, rfl⟩ := hg
  have hgl := hx2.lt g rfl
  have HX2 := Lib.hid hx2; clear hx2
  have hb2s := hb2.size
  have hbw2 : Below w.heap.size w w2 := hbW1.trans (hb2.mono hbs1)
  clear g0 g1 g2 g3 hfar
  go_wp2_with fail
  go_loopw [8, 9] (fun ov i wr => ∃ (k : Nat) (cur acc : List Int), d ≤ k ∧ k ≤ n ∧ i = .int .i64 k ∧ acc.length ≤ k ∧ acc ++ oddG d (n - k) k cur = R ∧ cur.length = n ∧ smallV cur ∧ Below w.heap.size w wr ∧ w2.heap.size ≤ wr.heap.size ∧ wr.ownsRow W1.heap.size 2 1 (.slice (some ⟨g, 0, none⟩) n c2) n (cur.map (Value.int .i64)) ∧ wr.ownsRow w2.heap.size 2 1 ov acc.length (acc.map (Value.int .i64))) (fun _ i _ => n - (intOf i).toNat)
  case atStart =>
    refine ⟨d, l, [], Nat.le_refl _, by omega, rfl, by simp, by rw [List.nil_append]; exact HRR.out, HN.out, HSM.out, by (repeat' (first | (with_reducible exact Below.refl _ _) | (with_reducible assumption) | (with_reducible refine below_drewN ?_ _) | (with_reducible refine Below.drew ?_) | (with_reducible refine Below.alloc ?_ ?_ _) | (with_reducible refine Below.setCell ?_ ?_ _) | (with_reducible refine via (by with_reducible assumption) ?_ ?_) | go_size)), by simp, HX2.out.alloc _, ?_⟩
    simpa using World.ownsRow_made w2 #[] 0 (Nat.le_refl _) (by simp [maxLen]) (by simp)
  case round =>
    clear hb2 hbw2
    obtain ⟨k, cur, acc, hdk, hk, rfl, hal, hcr, hcn, hsm, hb, hw2, hv, ho⟩ := hrel
    have HV := Lib.hid hv; clear hv
    have HO := Lib.hid ho; clear ho
    have HCR := Lib.hid hcr; clear hcr
    have HCN := Lib.hid hcn; clear hcn
    have HS := Lib.hid hsm; clear hsm
    have hbs := hb.size
    by_cases hlt : k < n
    · obtain ⟨x, hx⟩ := get_ex cur k (by rw [HCN.out]; exact hlt)
      have hgk : wr.cell? ⟨g, k, none⟩ = some (.int .i64 x) := by rw [HV.out.cellAt k (by omega), List.getElem?_map, hx]; rfl
      have hfk : wr.frozen? ⟨g, k, none⟩ = false := HV.out.frozenAt k
      have hx0 : cur.getD k 0 = x := by rw [List.getD_eq_getElem?_getD, hx]; rfl
      have HCUR := Lib.hid hx; clear hx
      obtain ⟨m, hm2⟩ : ∃ m, n - k = m + 1 := ⟨n - k - 1, by omega⟩
      have HM := Lib.hid (show n - (k + 1) = m by omega)
      have hyb := gss_bd (row := k) HS.out hd.2
      have HSS := Lib.hid (oddG_same (order := d) (f := m) (i := k) (l := cur))
      have HYY := Lib.hid (oddG_yes (order := d) (f := m) (i := k) (l := cur))
      have HNN := Lib.hid (oddG_no (order := d) (f := m) (i := k) (l := cur))
      rw [hm2] at HCR
      rw [hx0] at HSS HYY HNN
      clear hx0 hm2
      have hrg : Rd wr wr.heap.size 1 icell (some ⟨g, 0, none⟩) cur := rd_own HV.out
      have HGU := Lib.hid (guess_c (some ⟨g, 0, none⟩) n c2 cur k d wr.heap.size wr HCN.out hm hrg HS.out hd hdl hlt)
      generalize hy : gss cur k d = y at *
      have HY := Lib.hid hy; clear hy hrg
      have hfar := far (show g < wr.heap.size from (HV.out.lt g rfl).2)
      have HGL := Lib.hid hgl
      go_wp2_with fail
      refine HGU.out.mono ?_
      rintro e w3 ⟨rfl, mg, hw3⟩
      have hb3 : Below wr.heap.size wr w3 := by rw [hw3]; exact below_drewN (Below.refl _ _) mg
      have hz3 : w2.heap.size ≤ w3.heap.size := Nat.le_trans hw2 hb3.size
      clear hw3
      have hbw3 : Below w.heap.size w w3 := hb.trans (hb3.mono hbs)
      have HV3 := Lib.hid (own_call HV.out hb3)
      have HO3 := Lib.hid (own_call HO.out hb3)
      rw [← hb3.cell (p := ⟨g, k, none⟩) (HV.out.lt g rfl).2] at hgk
      rw [← hb3.frozen (p := ⟨g, k, none⟩) (HV.out.lt g rfl).2] at hfk
      have hfar3 := far (show g < w3.heap.size from (HV3.out.lt g rfl).2)
      clear HV HO
      by_cases hyx : y = x
      · have HST := Lib.hid (show acc ++ oddG d (n - (k + 1)) (k + 1) cur = R by rw [HM.out, ← HSS.out hyx]; exact HCR.out)
        subst hyx
        go_wp2_with fail
        (first | (refine ⟨?_, ?_⟩; rotate_left; (first | (simp [intOf]; done) | (simp [intOf]; omega)); (repeat apply Exists.intro); refine ⟨?_, rfl⟩; exact ⟨k + 1, cur, acc, by omega, by omega, by go_num, by omega, HST.out, HCN.out, HS.out, hbw3, hz3, HV3.out, HO3.out⟩) | exact ⟨⟨k + 1, cur, acc, by omega, by omega, by go_num, by omega, HST.out, HCN.out, HS.out, hbw3, hz3, HV3.out, HO3.out⟩, by first | (simp [intOf]; done) | (simp [intOf]; omega)⟩)
      · have q1 : (x == y) = false := by simp; omega
        have q2 : (y == x) = false := by simp; omega
        have q3 : ¬ x = y := by omega
        cases hvl : valB y
        · have HST := Lib.hid (show (acc ++ [(k : Int)]) ++ oddG d (n - (k + 1)) (k + 1) cur = R by rw [HM.out, List.append_assoc, List.singleton_append, ← HNN.out hyx hvl]; exact HCR.out)
          go_wp2_with (first | (go_at_call 43; refine (isValue_c _ _).mono ?_; rintro e w' ⟨rfl, rfl⟩) | (at_builtin; refine app_list (W := w3) (z := .int .i64 0) (.tmp 38) (.tmp 40) rfl rfl Try.underlying26 hi0 hi1 hi2 hi3 rfl (by decide) (by decide) rfl (HO3.out.alloc _) rfl rfl (news1 (z := .int .i64 (k : Int)) (by simp [go_sem])) (by simp [Value.oneCell']) (by omega) (by (repeat' (first | (with_reducible exact Below.refl _ _) | (with_reducible assumption) | (with_reducible refine below_drewN ?_ _) | (with_reducible refine Below.drew ?_) | (with_reducible refine Below.alloc ?_ ?_ _) | (with_reducible refine Below.setCell ?_ ?_ _) | (with_reducible refine via (by with_reducible assumption) ?_ ?_) | go_size))) hz3 ?_; intro v1 w4 hown1 hg1 hblk1 hb4; have HV4 := Lib.hid (own_ne (HV3.out.alloc _) hg1 (fun q hq hc => by have h1 := HO3.out.lt q hc.symm; simp only [Value.ownBlock, Option.some.injEq] at hq; omega)); have hgk4 : w4.cell? ⟨g, k, none⟩ = some (.int .i64 x) := (by rw [HV4.out.cellAt k (by omega), List.getElem?_map, HCUR.out]; rfl); have hfk4 : w4.frozen? ⟨g, k, none⟩ = false := HV4.out.frozenAt k; have hfar4 := far (show g < w4.heap.size from (HV4.out.lt g rfl).2); have hb4w : Below w.heap.size w w4 := hbw3.trans (hb4.mono (by omega)); have hz4 : w2.heap.size ≤ w4.heap.size := Nat.le_trans hz3 hb4.size; have HO4 := Lib.hid (show w4.ownsRow w2.heap.size 2 1 v1 (acc ++ [(k : Int)]).length ((acc ++ [(k : Int)]).map (Value.int .i64)) from (by rw [List.length_append, List.map_append]; exact hown1)); clear hown1 hg1 hb4 hgk hfk))
          (first | (refine ⟨?_, ?_⟩; rotate_left; (first | (simp [intOf]; done) | (simp [intOf]; omega)); (repeat apply Exists.intro); refine ⟨?_, rfl⟩; exact ⟨k + 1, cur, acc ++ [(k : Int)], by omega, by omega, by go_num, by rw [List.length_append]; simp; omega, HST.out, HCN.out, HS.out, hb4w, hz4, HV4.out, HO4.out⟩) | exact ⟨⟨k + 1, cur, acc ++ [(k : Int)], by omega, by omega, by go_num, by rw [List.length_append]; simp; omega, HST.out, HCN.out, HS.out, hb4w, hz4, HV4.out, HO4.out⟩, by first | (simp [intOf]; done) | (simp [intOf]; omega)⟩)
        · have HST := Lib.hid (show (acc ++ [(k : Int)]) ++ oddG d (n - (k + 1)) (k + 1) (cur.set k y) = R by rw [HM.out, List.append_assoc, List.singleton_append, ← HYY.out hyx hvl]; exact HCR.out)
          have HVB := Lib.hid (valB_iff.1 hvl)
          go_wp2_with (first | (go_at_call 43; refine (isValue_c _ _).mono ?_; rintro e w' ⟨rfl, rfl⟩) | (at_builtin; refine app_list (W := w3) (z := .int .i64 0) (.tmp 38) (.tmp 40) rfl rfl Try.underlying26 hi0 hi1 hi2 hi3 rfl (by decide) (by decide) rfl (HO3.out.alloc _) rfl rfl (news1 (z := .int .i64 (k : Int)) (by simp [go_sem])) (by simp [Value.oneCell']) (by omega) (by (repeat' (first | (with_reducible exact Below.refl _ _) | (with_reducible assumption) | (with_reducible refine below_drewN ?_ _) | (with_reducible refine Below.drew ?_) | (with_reducible refine Below.alloc ?_ ?_ _) | (with_reducible refine Below.setCell ?_ ?_ _) | (with_reducible refine via (by with_reducible assumption) ?_ ?_) | go_size))) hz3 ?_; intro v1 w4 hown1 hg1 hblk1 hb4; have HV4 := Lib.hid (own_ne (HV3.out.alloc _) hg1 (fun q hq hc => by have h1 := HO3.out.lt q hc.symm; simp only [Value.ownBlock, Option.some.injEq] at hq; omega)); have hgk4 : w4.cell? ⟨g, k, none⟩ = some (.int .i64 x) := (by rw [HV4.out.cellAt k (by omega), List.getElem?_map, HCUR.out]; rfl); have hfk4 : w4.frozen? ⟨g, k, none⟩ = false := HV4.out.frozenAt k; have hfar4 := far (show g < w4.heap.size from (HV4.out.lt g rfl).2); have hb4w : Below w.heap.size w w4 := hbw3.trans (hb4.mono (by omega)); have hz4 : w2.heap.size ≤ w4.heap.size := Nat.le_trans hz3 hb4.size; have HO4 := Lib.hid (show w4.ownsRow w2.heap.size 2 1 v1 (acc ++ [(k : Int)]).length ((acc ++ [(k : Int)]).map (Value.int .i64)) from (by rw [List.length_append, List.map_append]; exact hown1)); clear hown1 hg1 hb4 hgk hfk))
          have st := HV4.out.stored k (.int .i64 y)
          have HV5 := Lib.hid st.1
          have HO5 := Lib.hid (own_ne HO4.out st.2 (fun q hq hc => by have h1 := HO4.out.lt q hq; simp only [Value.ownBlock, Option.some.injEq] at hc; omega))
          rw [map_set_int] at HV5
          clear st
          (first | (refine ⟨?_, ?_⟩; rotate_left; (first | (simp [intOf]; done) | (simp [intOf]; omega)); (repeat apply Exists.intro); refine ⟨?_, rfl⟩; exact ⟨k + 1, cur.set k y, acc ++ [(k : Int)], by omega, by omega, by go_num, by rw [List.length_append]; simp; omega, HST.out, by rw [List.length_set]; exact HCN.out, small_set HS.out k HVB.out, by (repeat' (first | (with_reducible exact Below.refl _ _) | (with_reducible assumption) | (with_reducible refine below_drewN ?_ _) | (with_reducible refine Below.drew ?_) | (with_reducible refine Below.alloc ?_ ?_ _) | (with_reducible refine Below.setCell ?_ ?_ _) | (with_reducible refine via (by with_reducible assumption) ?_ ?_) | go_size)), (by rw [World.size_setCell]; exact hz4), HV5.out, HO5.out⟩) | exact ⟨⟨k + 1, cur.set k y, acc ++ [(k : Int)], by omega, by omega, by go_num, by rw [List.length_append]; simp; omega, HST.out, by rw [List.length_set]; exact HCN.out, small_set HS.out k HVB.out, by (repeat' (first | (with_reducible exact Below.refl _ _) | (with_reducible assumption) | (with_reducible refine below_drewN ?_ _) | (with_reducible refine Below.drew ?_) | (with_reducible refine Below.alloc ?_ ?_ _) | (with_reducible refine Below.setCell ?_ ?_ _) | (with_reducible refine via (by with_reducible assumption) ?_ ?_) | go_size)), (by rw [World.size_setCell]; exact hz4), HV5.out, HO5.out⟩, by first | (simp [intOf]; done) | (simp [intOf]; omega)⟩)
    · have hkn : k = n := by omega
      subst hkn
      have h6 := HCR.out
      rw [Nat.sub_self, oddG, List.append_nil] at h6
      have H6 := Lib.hid h6; clear h6
      obtain ⟨v1, rfl⟩ : ∃ v : Value, v = u8 := ⟨_, rfl⟩
      go_wp2_with fail
      refine bodyPost_ret (v := .tuple #[v1, .int .i64 0]) (by simp only [results, Try.results36]; go_simp) rfl ⟨v1, by rw [HR.out], by rw [HR.out]; simp only; rw [← H6.out]; exact own_base HO.out (by omega), hb⟩

set_option maxRecDepth 100000 in
set_option maxHeartbeats 4000000 in
theorem OddRowsS_c (s : ByteArray) (f t : Int) (A : Option Addr) (n c : Nat) (l : List Int) (order : Int) (w : World) (hs : s.size ≤ 1048576) (hn : l.length = n) (hm : n ≤ 1048576) (hr : Rd w w.heap.size 1 icell A l) :
    Calls Try.prog 35 #[pg s f t A n c, .int .i64 order] w fun e w' => ∃ v, e = .returned (.tuple #[v, .int .i64 (oddR s f t l order).2]) ∧ w'.ownsRow w.heap.size 2 1 v (oddR s f t l order).1.length ((oddR s f t l order).1.map (Value.int .i64)) ∧ Below w.heap.size w w' := by
  obtain ⟨i0, hi0, hi1, hi2, hi3⟩ := info_parts info_i64
  have hA : A = none → n = 0 := fun h => by rw [← hn]; exact hr.none_len h
  have HN := Lib.hid hn; clear hn
  have HGB := guessR_bd s f t l order
  have HR0 := Lib.hid (show ¬ guessR s f t l order = 0 → oddR s f t l order = ([], guessR s f t l order) from fun h => by unfold oddR; rw [if_neg h])
  have HR1 := Lib.hid (show guessR s f t l order = 0 → oddR s f t l order = (oddG order.toNat (l.length - order.toNat) order.toNat l, 0) from fun h => by unfold oddR; rw [if_pos h])
  have HZ := Lib.hid (show guessR s f t l order = 0 → _ from guessR_zero)
  generalize hq : guessR s f t l order = q at *
  have HQ := Lib.hid hq; clear hq
  unfold pg
  go_enter Try.func35, Try.ntmps35
  go_wp2_with fail
  refine gen_calls fun W hW => ?_
  have hbW : Below w.heap.size w W := by rw [hW.out]; (repeat' (first | (with_reducible exact Below.refl _ _) | (with_reducible assumption) | (with_reducible refine below_drewN ?_ _) | (with_reducible refine Below.drew ?_) | (with_reducible refine Below.alloc ?_ ?_ _) | (with_reducible refine Below.setCell ?_ ?_ _) | (with_reducible refine via (by with_reducible assumption) ?_ ?_) | go_size))
  have hp : PgAt W w.heap.size s f t A n c := by rw [hW.out]; unfold PgAt; simp [go_sem]
  have hlt : w.heap.size < W.heap.size := by rw [hW.out]; simp [go_sem]
  clear hW
  refine (l18Code_c w.heap.size s f t A n c l order w.heap.size W (by unfold maxLen; omega) HN.out hm (hr.below hbW) hp).mono ?_
  rw [HQ.out]
  rintro e W1 ⟨rfl, mq, hW1⟩
  have hb1 : Below W.heap.size W W1 := by rw [hW1]; exact below_drewN (Below.refl _ _) mq
  clear hW1
  have hp1 := hp.below hb1 hlt
  have hlt1 : w.heap.size < W1.heap.size := Nat.lt_of_lt_of_le hlt hb1.size
  have hbW1 : Below w.heap.size w W1 := hbW.trans (hb1.mono hbW.size)
  clear hp hb1 hbW hlt
  obtain ⟨g0, g1, g2, g3⟩ := hp1
  have hfar := far hlt1
  by_cases hq0 : q = 0
  rotate_left
  · have HR := Lib.hid (HR0.out hq0)
    have q1 : (q == 0) = false := by simpa using hq0
    have q2 : (q != 0) = true := by simpa using hq0
    go_wp2_with fail
    refine bodyPost_ret (v := .tuple #[.slice none 0 0, .int .i64 q]) (by simp only [results, Try.results35]; go_simp) rfl ⟨.slice none 0 0, by rw [HR.out], by rw [HR.out]; exact World.ownsRow_nil _ _ _ _, hbW1⟩
  subst hq0
  obtain ⟨hpb, hob, hlb⟩ := HZ.out rfl
  rw [HN.out] at hlb
  obtain ⟨d, rfl⟩ : ∃ d : Nat, order = (d : Int) := ⟨order.toNat, by omega⟩
  have HR := Lib.hid (HR1.out rfl)
  rw [HN.out, Int.toNat_natCast] at HR
  have HSM := Lib.hid (page_small hpb)
  have hd : 1 ≤ d ∧ d ≤ 8 := by omega
  have hdl : 2 * d + 1 ≤ n := by omega
  obtain ⟨R, hRR⟩ : ∃ R, oddG d (n - d) d l = R := ⟨_, rfl⟩
  rw [hRR] at HR
  have HRR := Lib.hid hRR; clear hRR hpb HZ HR0 HR1 hob hlb
  have hbs1 := hbW1.size
  go_wp2_with fail
  refine (l00Own_c A n c l W1 HN.out hm hA ((hr.below hbW1).mono hbs1)).mono ?_
  rintro e w2 ⟨v2, rfl, hx2, hb2⟩
  obtain ⟨A2, c2, rfl, _⟩ := own_form hx2
  have hg : ∃ g, A2 = some ⟨g, 0, none⟩ := by
    rcases hx2.2 with ⟨hv, h0⟩ | ⟨g, cap, cur, hv, _⟩
    · omega
    · exact ⟨g, by injection hv⟩
  obtain ⟨g, rfl⟩ := hg
  have hgl := hx2.lt g rfl
  have HX2 := Lib.hid hx2; clear hx2
  have hb2s := hb2.size
  have hbw2 : Below w.heap.size w w2 := hbW1.trans (hb2.mono hbs1)
  clear g0 g1 g2 g3 hfar
  go_wp2_with fail
  go_loopw [8, 9] (fun ov i wr => ∃ (k : Nat) (cur acc : List Int), d ≤ k ∧ k ≤ n ∧ i = .int .i64 k ∧ acc.length ≤ k ∧ acc ++ oddG d (n - k) k cur = R ∧ cur.length = n ∧ smallV cur ∧ Below w.heap.size w wr ∧ w2.heap.size ≤ wr.heap.size ∧ wr.ownsRow W1.heap.size 2 1 (.slice (some ⟨g, 0, none⟩) n c2) n (cur.map (Value.int .i64)) ∧ wr.ownsRow w2.heap.size 2 1 ov acc.length (acc.map (Value.int .i64))) (fun _ i _ => n - (intOf i).toNat)
  case atStart =>
    refine ⟨d, l, [], Nat.le_refl _, by omega, rfl, by simp, by rw [List.nil_append]; exact HRR.out, HN.out, HSM.out, by (repeat' (first | (with_reducible exact Below.refl _ _) | (with_reducible assumption) | (with_reducible refine below_drewN ?_ _) | (with_reducible refine Below.drew ?_) | (with_reducible refine Below.alloc ?_ ?_ _) | (with_reducible refine Below.setCell ?_ ?_ _) | (with_reducible refine via (by with_reducible assumption) ?_ ?_) | go_size)), by simp, HX2.out.alloc _, ?_⟩
    simpa using World.ownsRow_made w2 #[] 0 (Nat.le_refl _) (by simp [maxLen]) (by simp)
  case round =>
    clear hb2 hbw2
    obtain ⟨k, cur, acc, hdk, hk, rfl, hal, hcr, hcn, hsm, hb, hw2, hv, ho⟩ := hrel
    have HV := Lib.hid hv; clear hv
    have HO := Lib.hid ho; clear ho
    have HCR := Lib.hid hcr; clear hcr
    have HCN := Lib.hid hcn; clear hcn
    have HS := Lib.hid hsm; clear hsm
    have hbs := hb.size
    by_cases hlt : k < n
    · obtain ⟨x, hx⟩ := get_ex cur k (by rw [HCN.out]; exact hlt)
      have hgk : wr.cell? ⟨g, k, none⟩ = some (.int .i64 x) := by rw [HV.out.cellAt k (by omega), List.getElem?_map, hx]; rfl
      have hfk : wr.frozen? ⟨g, k, none⟩ = false := HV.out.frozenAt k
      have hx0 : cur.getD k 0 = x := by rw [List.getD_eq_getElem?_getD, hx]; rfl
      have HCUR := Lib.hid hx; clear hx
      obtain ⟨m, hm2⟩ : ∃ m, n - k = m + 1 := ⟨n - k - 1, by omega⟩
      have HM := Lib.hid (show n - (k + 1) = m by omega)
      have hyb := gss_bd (row := k) HS.out hd.2
      have HSS := Lib.hid (oddG_same (order := d) (f := m) (i := k) (l := cur))
      have HYY := Lib.hid (oddG_yes (order := d) (f := m) (i := k) (l := cur))
      have HNN := Lib.hid (oddG_no (order := d) (f := m) (i := k) (l := cur))
      rw [hm2] at HCR
      rw [hx0] at HSS HYY HNN
      clear hx0 hm2
      have hrg : Rd wr wr.heap.size 1 icell (some ⟨g, 0, none⟩) cur := rd_own HV.out
      have HGU := Lib.hid (l18Guess_c (some ⟨g, 0, none⟩) n c2 cur k d wr.heap.size wr HCN.out hm hrg HS.out hd hdl hlt)
      generalize hy : gss cur k d = y at *
      have HY := Lib.hid hy; clear hy hrg
      have hfar := far (show g < wr.heap.size from (HV.out.lt g rfl).2)
      have HGL := Lib.hid hgl
      go_wp2_with fail
      refine HGU.out.mono ?_
      rintro e w3 ⟨rfl, mg, hw3⟩
      have hb3 : Below wr.heap.size wr w3 := by rw [hw3]; exact below_drewN (Below.refl _ _) mg
      have hz3 : w2.heap.size ≤ w3.heap.size := Nat.le_trans hw2 hb3.size
      clear hw3
      have hbw3 : Below w.heap.size w w3 := hb.trans (hb3.mono hbs)
      have HV3 := Lib.hid (own_call HV.out hb3)
      have HO3 := Lib.hid (own_call HO.out hb3)
      rw [← hb3.cell (p := ⟨g, k, none⟩) (HV.out.lt g rfl).2] at hgk
      rw [← hb3.frozen (p := ⟨g, k, none⟩) (HV.out.lt g rfl).2] at hfk
      have hfar3 := far (show g < w3.heap.size from (HV3.out.lt g rfl).2)
      clear HV HO
      by_cases hyx : y = x
      · have HST := Lib.hid (show acc ++ oddG d (n - (k + 1)) (k + 1) cur = R by rw [HM.out, ← HSS.out hyx]; exact HCR.out)
        subst hyx
        go_wp2_with fail
        (first | (refine ⟨?_, ?_⟩; rotate_left; (first | (simp [intOf]; done) | (simp [intOf]; omega)); (repeat apply Exists.intro); refine ⟨?_, rfl⟩; exact ⟨k + 1, cur, acc, by omega, by omega, by go_num, by omega, HST.out, HCN.out, HS.out, hbw3, hz3, HV3.out, HO3.out⟩) | exact ⟨⟨k + 1, cur, acc, by omega, by omega, by go_num, by omega, HST.out, HCN.out, HS.out, hbw3, hz3, HV3.out, HO3.out⟩, by first | (simp [intOf]; done) | (simp [intOf]; omega)⟩)
      · have q1 : (x == y) = false := by simp; omega
        have q2 : (y == x) = false := by simp; omega
        have q3 : ¬ x = y := by omega
        cases hvl : valB y
        · have HST := Lib.hid (show (acc ++ [(k : Int)]) ++ oddG d (n - (k + 1)) (k + 1) cur = R by rw [HM.out, List.append_assoc, List.singleton_append, ← HNN.out hyx hvl]; exact HCR.out)
          go_wp2_with (first | (go_at_call 41; refine (l17Most_c _ _).mono ?_; rintro e w' ⟨rfl, rfl⟩) | (at_builtin; refine app_list (W := w3) (z := .int .i64 0) (.tmp 41) (.tmp 43) rfl rfl Try.underlying26 hi0 hi1 hi2 hi3 rfl (by decide) (by decide) rfl (HO3.out.alloc _) rfl rfl (news1 (z := .int .i64 (k : Int)) (by simp [go_sem])) (by simp [Value.oneCell']) (by omega) (by (repeat' (first | (with_reducible exact Below.refl _ _) | (with_reducible assumption) | (with_reducible refine below_drewN ?_ _) | (with_reducible refine Below.drew ?_) | (with_reducible refine Below.alloc ?_ ?_ _) | (with_reducible refine Below.setCell ?_ ?_ _) | (with_reducible refine via (by with_reducible assumption) ?_ ?_) | go_size))) hz3 ?_; intro v1 w4 hown1 hg1 hblk1 hb4; have HV4 := Lib.hid (own_ne (HV3.out.alloc _) hg1 (fun q hq hc => by have h1 := HO3.out.lt q hc.symm; simp only [Value.ownBlock, Option.some.injEq] at hq; omega)); have hgk4 : w4.cell? ⟨g, k, none⟩ = some (.int .i64 x) := (by rw [HV4.out.cellAt k (by omega), List.getElem?_map, HCUR.out]; rfl); have hfk4 : w4.frozen? ⟨g, k, none⟩ = false := HV4.out.frozenAt k; have hfar4 := far (show g < w4.heap.size from (HV4.out.lt g rfl).2); have hb4w : Below w.heap.size w w4 := hbw3.trans (hb4.mono (by omega)); have hz4 : w2.heap.size ≤ w4.heap.size := Nat.le_trans hz3 hb4.size; have HO4 := Lib.hid (show w4.ownsRow w2.heap.size 2 1 v1 (acc ++ [(k : Int)]).length ((acc ++ [(k : Int)]).map (Value.int .i64)) from (by rw [List.length_append, List.map_append]; exact hown1)); clear hown1 hg1 hb4 hgk hfk))
          (first | (refine ⟨?_, ?_⟩; rotate_left; (first | (simp [intOf]; done) | (simp [intOf]; omega)); (repeat apply Exists.intro); refine ⟨?_, rfl⟩; exact ⟨k + 1, cur, acc ++ [(k : Int)], by omega, by omega, by go_num, by rw [List.length_append]; simp; omega, HST.out, HCN.out, HS.out, hb4w, hz4, HV4.out, HO4.out⟩) | exact ⟨⟨k + 1, cur, acc ++ [(k : Int)], by omega, by omega, by go_num, by rw [List.length_append]; simp; omega, HST.out, HCN.out, HS.out, hb4w, hz4, HV4.out, HO4.out⟩, by first | (simp [intOf]; done) | (simp [intOf]; omega)⟩)
        · have HST := Lib.hid (show (acc ++ [(k : Int)]) ++ oddG d (n - (k + 1)) (k + 1) (cur.set k y) = R by rw [HM.out, List.append_assoc, List.singleton_append, ← HYY.out hyx hvl]; exact HCR.out)
          have HVB := Lib.hid (valB_iff.1 hvl)
          go_wp2_with (first | (go_at_call 41; refine (l17Most_c _ _).mono ?_; rintro e w' ⟨rfl, rfl⟩) | (at_builtin; refine app_list (W := w3) (z := .int .i64 0) (.tmp 41) (.tmp 43) rfl rfl Try.underlying26 hi0 hi1 hi2 hi3 rfl (by decide) (by decide) rfl (HO3.out.alloc _) rfl rfl (news1 (z := .int .i64 (k : Int)) (by simp [go_sem])) (by simp [Value.oneCell']) (by omega) (by (repeat' (first | (with_reducible exact Below.refl _ _) | (with_reducible assumption) | (with_reducible refine below_drewN ?_ _) | (with_reducible refine Below.drew ?_) | (with_reducible refine Below.alloc ?_ ?_ _) | (with_reducible refine Below.setCell ?_ ?_ _) | (with_reducible refine via (by with_reducible assumption) ?_ ?_) | go_size))) hz3 ?_; intro v1 w4 hown1 hg1 hblk1 hb4; have HV4 := Lib.hid (own_ne (HV3.out.alloc _) hg1 (fun q hq hc => by have h1 := HO3.out.lt q hc.symm; simp only [Value.ownBlock, Option.some.injEq] at hq; omega)); have hgk4 : w4.cell? ⟨g, k, none⟩ = some (.int .i64 x) := (by rw [HV4.out.cellAt k (by omega), List.getElem?_map, HCUR.out]; rfl); have hfk4 : w4.frozen? ⟨g, k, none⟩ = false := HV4.out.frozenAt k; have hfar4 := far (show g < w4.heap.size from (HV4.out.lt g rfl).2); have hb4w : Below w.heap.size w w4 := hbw3.trans (hb4.mono (by omega)); have hz4 : w2.heap.size ≤ w4.heap.size := Nat.le_trans hz3 hb4.size; have HO4 := Lib.hid (show w4.ownsRow w2.heap.size 2 1 v1 (acc ++ [(k : Int)]).length ((acc ++ [(k : Int)]).map (Value.int .i64)) from (by rw [List.length_append, List.map_append]; exact hown1)); clear hown1 hg1 hb4 hgk hfk))
          have st := HV4.out.stored k (.int .i64 y)
          have HV5 := Lib.hid st.1
          have HO5 := Lib.hid (own_ne HO4.out st.2 (fun q hq hc => by have h1 := HO4.out.lt q hq; simp only [Value.ownBlock, Option.some.injEq] at hc; omega))
          rw [map_set_int] at HV5
          clear st
          (first | (refine ⟨?_, ?_⟩; rotate_left; (first | (simp [intOf]; done) | (simp [intOf]; omega)); (repeat apply Exists.intro); refine ⟨?_, rfl⟩; exact ⟨k + 1, cur.set k y, acc ++ [(k : Int)], by omega, by omega, by go_num, by rw [List.length_append]; simp; omega, HST.out, by rw [List.length_set]; exact HCN.out, small_set HS.out k HVB.out, by (repeat' (first | (with_reducible exact Below.refl _ _) | (with_reducible assumption) | (with_reducible refine below_drewN ?_ _) | (with_reducible refine Below.drew ?_) | (with_reducible refine Below.alloc ?_ ?_ _) | (with_reducible refine Below.setCell ?_ ?_ _) | (with_reducible refine via (by with_reducible assumption) ?_ ?_) | go_size)), (by rw [World.size_setCell]; exact hz4), HV5.out, HO5.out⟩) | exact ⟨⟨k + 1, cur.set k y, acc ++ [(k : Int)], by omega, by omega, by go_num, by rw [List.length_append]; simp; omega, HST.out, by rw [List.length_set]; exact HCN.out, small_set HS.out k HVB.out, by (repeat' (first | (with_reducible exact Below.refl _ _) | (with_reducible assumption) | (with_reducible refine below_drewN ?_ _) | (with_reducible refine Below.drew ?_) | (with_reducible refine Below.alloc ?_ ?_ _) | (with_reducible refine Below.setCell ?_ ?_ _) | (with_reducible refine via (by with_reducible assumption) ?_ ?_) | go_size)), (by rw [World.size_setCell]; exact hz4), HV5.out, HO5.out⟩, by first | (simp [intOf]; done) | (simp [intOf]; omega)⟩)
    · have hkn : k = n := by omega
      subst hkn
      have h6 := HCR.out
      rw [Nat.sub_self, oddG, List.append_nil] at h6
      have H6 := Lib.hid h6; clear h6
      obtain ⟨v1, rfl⟩ : ∃ v : Value, v = u8 := ⟨_, rfl⟩
      go_wp2_with fail
      refine bodyPost_ret (v := .tuple #[v1, .int .i64 0]) (by simp only [results, Try.results35]; go_simp) rfl ⟨v1, by rw [HR.out], by rw [HR.out]; simp only; rw [← H6.out]; exact own_base HO.out (by omega), hb⟩

end Go.Proofs.Ytklpjpablmiaoaa
