/- Contracts: the price of a piece with all that belongs to it; both sides. -/
import Derived.Test.YtnifpmfmhilhlaaPieces7
import Derived.Test.YtnifpmfmhilhlaaPriceMath
set_option linter.unusedVariables false
set_option linter.unusedSimpArgs false
namespace Go.Proofs.Ytnifpmfmhilhlaa
open Go.RowKit

theorem wrap_rng (a : Int) : -9223372036854775808 ≤ wrap64 a ∧ wrap64 a ≤ 9223372036854775807 := by
  unfold wrap64
  omega
def priceR (l : List PieceD) (k : Int) : Int × Int := if codeR l k = 0 then (wrap64 (priceP l l.length k.toNat), 0) else (0, codeR l k)

set_option maxHeartbeats 2000000 in
theorem l21Price_c (A : Option Addr) (n c : Nat) (l : List PieceD) (B : Nat) (hn : l.length = n) (hm : n ≤ 1048576) (hv : validS l = true) :
    ∀ (f k : Nat), n - k ≤ f → k < n → ∀ w : World, Rd w B 4 pcell A l → Calls Try.prog 53 #[.slice A n c, .int .i64 (k : Int)] w fun e w' => e = .returned (.int .i64 (wrap64 (priceP l n k))) ∧ ∃ m, w' = w.drewN m := by
  have HVA := Lib.hid (valid_all hv); clear hv
  have HN := Lib.hid hn; clear hn
  intro f
  induction f with
  | zero => intro k h1 h2; omega
  | succ f ih =>
    intro k hf hkn w hr
    have HIH := Lib.hid ih; clear ih
    obtain ⟨b1, off, rfl, hbl, hc⟩ := hr.piece (by rw [HN.out]; omega)
    obtain ⟨d0, hd0⟩ := get_ex l k (by rw [HN.out]; omega)
    have z3 := (hc k d0 hd0).2.2.2
    have hpv := (HVA.out.2.2.2 k (by rw [HN.out]; exact hkn)).2
    rw [getP_eq hd0] at hpv
    have e1 := hpv.1
    have e2 := hpv.2.1
    have HPR := Lib.hid (show priceP l n k = d0.price + (sm (addP l n k) n - sm (addP l n k) (k + 1)) by rw [priceP_eq hkn, getP_eq hd0])
    have HC := Lib.hid hc; clear hc hd0 hpv
    have p1 : (0 : Int) ≤ (k : Int) := by omega
    have p2 : (k : Int) < (n : Int) := by omega
    go_enter Try.func53, Try.ntmps53
    go_wp2_with fail
    go_loopw [5, 6] (fun t i wr => ∃ (m : Nat) (s : Int), k + 1 ≤ m ∧ m ≤ n ∧ i = .int .i64 m ∧ t = .int .i64 s ∧ -9223372036854775808 ≤ s ∧ s ≤ 9223372036854775807 ∧ Cg s (d0.price + (sm (addP l n k) m - sm (addP l n k) (k + 1))) ∧ ∃ m2, wr = w.drewN m2) (fun _ i _ => n - (intOf i).toNat)
    case atStart => exact ⟨k + 1, d0.price, Nat.le_refl _, by omega, by go_num, rfl, by omega, by omega, ⟨0, by omega⟩, 0, rfl⟩
    case round =>
      obtain ⟨m, s, hm1, hm2, rfl, rfl, s1, s2, hcg, m2, hw⟩ := hrel
      have HCG := Lib.hid hcg; clear hcg
      have HW := Lib.hid hw
      by_cases hlt : m < n
      · obtain ⟨d, hd⟩ := get_ex l m (by rw [HN.out]; omega)
        obtain ⟨_, g1, g2, _⟩ := HC.out m d hd
        have hrw : Rd wr B 4 pcell (some ⟨b1, off, none⟩) l := by rw [hw]; exact hr
        have g1' : wr.cell? ⟨b1, off + m * 4 + 1, none⟩ = some (.int .i64 d.parent) := by rw [hw]; exact g1
        have g2' : wr.cell? ⟨b1, off + m * 4 + 2, none⟩ = some (.int .i64 d.each) := by rw [hw]; exact g2
        have HAP := Lib.hid (show addP l n k m = (if d.parent = (k : Int) then d.each * priceP l n m else 0) by unfold addP; rw [getP_eq hd])
        have HSM := Lib.hid (show sm (addP l n k) (m + 1) = sm (addP l n k) m + addP l n k m from rfl)
        clear hd g1 g2 hw
        have p3 : (0 : Int) ≤ (m : Int) := by omega
        have p4 : (m : Int) < (n : Int) := by omega
        cases h1 : (d.parent == (k : Int))
        · have HS := Lib.hid (show Cg s (d0.price + (sm (addP l n k) (m + 1) - sm (addP l n k) (k + 1))) by
            have h2 : ¬ d.parent = (k : Int) := by simpa using h1
            have := HCG.out
            rw [HSM.out, HAP.out, if_neg h2, Int.add_zero]
            exact this)
          go_wp2_with fail
          (first | (refine ⟨?_, ?_⟩; rotate_left; (first | (simp [intOf]; done) | (simp [intOf]; omega)); (repeat apply Exists.intro); refine ⟨?_, rfl⟩; exact ⟨m + 1, s, by omega, by omega, by go_num, rfl, s1, s2, HS.out, m2, HW.out⟩) | exact ⟨⟨m + 1, s, by omega, by omega, by go_num, rfl, s1, s2, HS.out, m2, HW.out⟩, by first | (simp [intOf]; done) | (simp [intOf]; omega)⟩)
        · obtain ⟨p, hp⟩ : ∃ p, wrap64 (priceP l n m) = p := ⟨_, rfl⟩
          have HCALL := Lib.hid (HIH.out m (by omega) hlt)
          rw [hp] at HCALL
          have HCP := Lib.hid (show Cg p (priceP l n m) by rw [← hp]; exact Cg.wr _)
          clear hp
          have HS := Lib.hid (show Cg (wrap64 (s + wrap64 (d.each * p))) (d0.price + (sm (addP l n k) (m + 1) - sm (addP l n k) (k + 1))) by
            have h2 : d.parent = (k : Int) := by simpa using h1
            have e0 := HCG.out
            rw [HSM.out, HAP.out, if_pos h2]
            have e3 := (Cg.wr (s + wrap64 (d.each * p))).trans (Cg.add e0 ((Cg.wr _).trans (Cg.mul d.each HCP.out)))
            have e4 : d0.price + (sm (addP l n k) m - sm (addP l n k) (k + 1)) + d.each * priceP l n m = d0.price + (sm (addP l n k) m + d.each * priceP l n m - sm (addP l n k) (k + 1)) := by omega
            rw [← e4]
            exact e3)
          have HR2 := Lib.hid (wrap_rng (s + wrap64 (d.each * p)))
          go_wp2_with fail
          go_quiet (((go_at_call 53; exact Calls.quiet_of (HCALL.out _ hrw))))
          generalize wrap64 (s + wrap64 (d.each * p)) = s' at *
          go_wp2_with fail
          (first | (refine ⟨?_, ?_⟩; rotate_left; (first | (simp [intOf]; done) | (simp [intOf]; omega)); (repeat apply Exists.intro); refine ⟨?_, rfl⟩; exact ⟨m + 1, s', by omega, by omega, by go_num, rfl, HR2.out.1, HR2.out.2, HS.out, m2 + nq, by rw [HW.out, World.drewN_drewN]⟩) | exact ⟨⟨m + 1, s', by omega, by omega, by go_num, rfl, HR2.out.1, HR2.out.2, HS.out, m2 + nq, by rw [HW.out, World.drewN_drewN]⟩, by first | (simp [intOf]; done) | (simp [intOf]; omega)⟩)
      · have hmn : m = n := by omega
        have HF := Lib.hid (show s = wrap64 (priceP l n k) by rw [HPR.out]; exact Cg.eq (by rw [← hmn]; rw [hmn]; have := HCG.out; rw [hmn] at this; exact this) s1 s2)
        clear hmn hw
        go_wp2_with fail
        go_ret
        exact ⟨ret_int HF.out, m2, HW.out⟩

set_option maxRecDepth 100000 in
set_option maxHeartbeats 4000000 in
theorem PriceOfS_c (A : Option Addr) (n c : Nat) (l : List PieceD) (k : Int) (w : World) (hn : l.length = n) (hm : n ≤ 1048576) (hr : Rd w w.heap.size 4 pcell A l) (ok : ∀ d ∈ l, okP d) :
    Calls Try.prog 24 #[.slice A n c, .int .i64 k] w fun e w' => e = .returned (.tuple #[.int .i64 (priceR l k).1, .int .i64 (priceR l k).2]) ∧ Below w.heap.size w w' := by
  obtain ⟨ii, hii, hzi0, hzi1, hzi2⟩ := info_parts info_i64
  have HN := Lib.hid hn; clear hn
  generalize hq : codeR l k = q
  have cb := codeR_bd l k
  rw [hq] at cb
  by_cases h0 : q = 0
  rotate_left
  · have HR := Lib.hid (show priceR l k = (0, q) by unfold priceR; rw [hq, if_neg h0])
    have HQ := Lib.hid hq; clear hq
    have q1 : (q == 0) = false := by simpa using h0
    have q2 : (q != 0) = true := by simpa using h0
    go_enter Try.func24, Try.ntmps24
    go_wp2_with fail
    refine (l21Code_c A n c l k _ HN.out hm hr ok).mono ?_
    rw [HQ.out]
    rintro e w1 ⟨rfl, hb1⟩
    go_wp2_with fail
    go_ret2
    exact ⟨ret_two HR.out.symm, hb1⟩
  subst h0
  obtain ⟨hv, k0, kn⟩ := codeR_zero hq
  have h40 := (valid_all hv).2.1
  rw [HN.out] at kn h40
  have HVA := Lib.hid (valid_all hv)
  have HV := Lib.hid hv; clear hv
  obtain ⟨kk, rfl⟩ := Int.eq_ofNat_of_zero_le k0
  have HR := Lib.hid (show priceR l (kk : Int) = (wrap64 (priceP l n kk), 0) by unfold priceR; rw [if_pos hq, HN.out, Int.toNat_natCast])
  have HQ := Lib.hid hq; clear hq
  have hkn : kk < n := by omega
  go_enter Try.func24, Try.ntmps24
  go_wp2_with fail
  refine (l21Code_c A n c l _ _ HN.out hm hr ok).mono ?_
  rw [HQ.out]
  rintro e w1 ⟨rfl, hb1⟩
  have hb1s := hb1.size
  have hr1 := (hr.below hb1).mono hb1s

  go_wp2_with fail
  refine (l21Price_c A n c l w1.heap.size HN.out hm HV.out n kk (by omega) hkn w1 hr1).mono ?_
  rintro e w2 ⟨rfl, m, rfl⟩
  go_wp2_with fail
  go_ret2
  exact ⟨ret_two HR.out.symm, by (repeat' (first | (with_reducible exact Below.refl _ _) | (with_reducible assumption) | (with_reducible refine below_drewN ?_ _) | (with_reducible refine Below.drew ?_) | (with_reducible refine Below.alloc ?_ ?_ _) | (with_reducible refine Below.setCell ?_ ?_ _) | (with_reducible refine via (by with_reducible assumption) ?_ ?_) | go_size))⟩

/-- the sums when all pieces from index i0 on have been taken -/
def prX (l : List PieceD) (n i0 j : Nat) : Int := if i0 ≤ j then priceP l n j else sm (addP l n j) n - sm (addP l n j) i0
def prV (l : List PieceD) (n i0 j : Nat) : Value := .int .i64 (wrap64 (prX l n i0 j))
theorem prV_start (l : List PieceD) (n : Nat) : fl n (fun _ => Value.int .i64 0) = fl n (prV l n n) := fl_congr fun j hj => by
  unfold prV prX
  rw [if_neg (by omega), Int.sub_self, show wrap64 0 = 0 by unfold wrap64; omega]
/-- the sums when piece i itself has been added, its parent's not -/
def prM (l : List PieceD) (n i j : Nat) : Value := .int .i64 (wrap64 (if i ≤ j then priceP l n j else sm (addP l n j) n - sm (addP l n j) (i + 1)))
theorem prM_set {l : List PieceD} {n i : Nat} {v : Int} (hv : v = wrap64 (priceP l n i)) : (fl n (prV l n (i + 1))).set i (.int .i64 v) = fl n (prM l n i) := by
  subst hv
  apply fl_set_eq
  intro j hj
  unfold prM prV prX
  by_cases h : j = i
  · subst h; rw [if_pos rfl, if_pos (Nat.le_refl _)]
  · rw [if_neg h]
    by_cases h2 : i ≤ j
    · rw [if_pos h2, if_pos (by omega)]
    · rw [if_neg h2, if_neg (by omega)]
theorem addP_no {l : List PieceD} {n j i : Nat} (h : ¬ (getP l i).parent = (j : Int)) : sm (addP l n j) (i + 1) = sm (addP l n j) i := by
  show sm (addP l n j) i + addP l n j i = _
  unfold addP
  rw [if_neg h, Int.add_zero]
theorem prV_end {l : List PieceD} {n i : Nat} (h : (getP l i).parent < 0) : fl n (prM l n i) = fl n (prV l n i) := fl_congr fun j hj => by
  unfold prM prV prX
  rw [addP_no (by omega)]
theorem prV_set {l : List PieceD} {n i p : Nat} {v : Int} (hp : (getP l i).parent = (p : Int)) (hpi : p < i) (hv : v = wrap64 (sm (addP l n p) n - sm (addP l n p) i)) : (fl n (prM l n i)).set p (.int .i64 v) = fl n (prV l n i) := by
  subst hv
  apply fl_set_eq
  intro j hj
  unfold prM prV prX
  by_cases h : j = p
  · subst h; rw [if_pos rfl, if_neg (by omega)]
  · rw [if_neg h, addP_no (by rw [hp]; omega)]

set_option maxRecDepth 100000 in
set_option maxHeartbeats 4000000 in
theorem PriceOfI_c (A : Option Addr) (n c : Nat) (l : List PieceD) (k : Int) (w : World) (hn : l.length = n) (hm : n ≤ 1048576) (hr : Rd w w.heap.size 4 pcell A l) (ok : ∀ d ∈ l, okP d) :
    Calls Try.prog 25 #[.slice A n c, .int .i64 k] w fun e w' => e = .returned (.tuple #[.int .i64 (priceR l k).1, .int .i64 (priceR l k).2]) ∧ Below w.heap.size w w' := by
  obtain ⟨ii, hii, hzi0, hzi1, hzi2⟩ := info_parts info_i64
  have HN := Lib.hid hn; clear hn
  generalize hq : codeR l k = q
  have cb := codeR_bd l k
  rw [hq] at cb
  by_cases h0 : q = 0
  rotate_left
  · have HR := Lib.hid (show priceR l k = (0, q) by unfold priceR; rw [hq, if_neg h0])
    have HQ := Lib.hid hq; clear hq
    have q1 : (q == 0) = false := by simpa using h0
    have q2 : (q != 0) = true := by simpa using h0
    go_enter Try.func25, Try.ntmps25
    go_wp2_with fail
    refine (pieceCode_c A n c l k _ HN.out hm hr ok).mono ?_
    rw [HQ.out]
    rintro e w1 ⟨rfl, hb1⟩
    go_wp2_with fail
    go_ret2
    exact ⟨ret_two HR.out.symm, hb1⟩
  subst h0
  obtain ⟨hv, k0, kn⟩ := codeR_zero hq
  have h40 := (valid_all hv).2.1
  rw [HN.out] at kn h40
  have HVA := Lib.hid (valid_all hv)
  have HV := Lib.hid hv; clear hv
  obtain ⟨kk, rfl⟩ := Int.eq_ofNat_of_zero_le k0
  have HR := Lib.hid (show priceR l (kk : Int) = (wrap64 (priceP l n kk), 0) by unfold priceR; rw [if_pos hq, HN.out, Int.toNat_natCast])
  have HQ := Lib.hid hq; clear hq
  have hkn : kk < n := by omega
  go_enter Try.func25, Try.ntmps25
  go_wp2_with fail
  refine (pieceCode_c A n c l _ _ HN.out hm hr ok).mono ?_
  rw [HQ.out]
  rintro e w1 ⟨rfl, hb1⟩
  have hb1s := hb1.size
  have hr1 := (hr.below hb1).mono hb1s

  obtain ⟨b1, off, rfl, hbl, hc⟩ := hr1.piece (by rw [HN.out]; omega)
  have HC := Lib.hid hc; clear hc
  go_wp2_with (at_make; refine wpList_make_full _ rfl _ _ 35 rfl w1.heap.size 2 ii _ 1 Try.underlying35 hii hzi0 hzi1 _ _ _ _ n rfl rfl rfl rfl (by rw [hzi2]; omega) (by unfold maxLen; omega) (Nat.le_refl _) ?_; intro w2 hown hg)
  rw [fl_made n (.int .i64 0) rfl, prV_start l n] at hown
  have hb2 : Below w1.heap.size w1 w2 := (Below.refl _ _).grown hg (Nat.le_refl _) (fun k hk => by cases hk)
  have HOW := Lib.hid hown; clear hown hg
  have p0 : (0 : Int) ≤ (kk : Int) := by omega
  go_loopw [8] (fun t wr => ∃ x : Int, (kk : Int) - 1 ≤ x ∧ x < (n : Int) ∧ t = .int .i64 x ∧ Below w1.heap.size w1 wr ∧ wr.ownsRow w1.heap.size 2 1 (.slice (some ⟨w1.heap.size, 0, none⟩) n n) n (fl n (prV l n (x + 1).toNat))) (fun t _ => (intOf t + 1).toNat)
  case atStart => exact ⟨(n : Int) - 1, by omega, by omega, rfl, hb2, by rw [show ((n : Int) - 1 + 1).toNat = n by omega]; exact HOW.out⟩
  case round =>
    clear hb2
    obtain ⟨x, x1, x2, rfl, hb, hO⟩ := hrel
    have HO := Lib.hid hO; clear hO
    have hbs := hb.size
    by_cases hlt : (kk : Int) ≤ x
    · obtain ⟨i, rfl⟩ := Int.eq_ofNat_of_zero_le (show 0 ≤ x by omega)
      have hin : i < n := by omega
      have hO1 : wr.ownsRow w1.heap.size 2 1 (.slice (some ⟨w1.heap.size, 0, none⟩) n n) n (fl n (prV l n (i + 1))) := by have := HO.out; rwa [show ((i : Int) + 1).toNat = i + 1 by omega] at this
      have HO1 := Lib.hid hO1; clear hO1
      obtain ⟨d, hd⟩ := get_ex l i (by rw [HN.out]; omega)
      obtain ⟨g0, g1, g2, g3⟩ := HC.out i d hd
      rw [← hb.cell (p := ⟨b1, off + i * 4 + 1, none⟩) hbl] at g1
      rw [← hb.cell (p := ⟨b1, off + i * 4 + 2, none⟩) hbl] at g2
      rw [← hb.cell (p := ⟨b1, off + i * 4 + 3, none⟩) hbl] at g3
      clear g0
      have hpe := priceP_eq (l := l) (n := n) (k := i) hin
      rw [getP_eq hd] at hpe
      have HPE := Lib.hid hpe; clear hpe
      have HDG := Lib.hid (getP_eq hd); clear hd
      have p3 : (0 : Int) ≤ (i : Int) := by omega
      have p4 : (i : Int) < (n : Int) := by omega
      obtain ⟨a, ha⟩ : ∃ a, wrap64 (sm (addP l n i) n - sm (addP l n i) (i + 1)) = a := ⟨_, rfl⟩
      have c1 : wr.cell? ⟨w1.heap.size, i, none⟩ = some (.int .i64 a) := by rw [HO1.out.cellAt i (by omega), fl_get hin]; unfold prV prX; rw [if_neg (by omega), ha]
      have f1 : wr.frozen? ⟨w1.heap.size, i, none⟩ = false := HO1.out.frozenAt i
      have HCA := Lib.hid (show Cg a (sm (addP l n i) n - sm (addP l n i) (i + 1)) by rw [← ha]; exact Cg.wr _)
      clear ha
      have hbne : b1 ≠ w1.heap.size := by omega
      have hsum : sm (addP l n i) n - sm (addP l n i) (i + 1) + d.price = priceP l n i := by rw [HPE.out]; omega
      have hval : wrap64 (a + d.price) = wrap64 (priceP l n i) := by
        have h1 := (Cg.wr (a + d.price)).trans (Cg.add HCA.out (Cg.refl d.price))
        rw [hsum] at h1
        exact Cg.eq h1 (wrap_rng _).1 (wrap_rng _).2
      have st := (HO1.out.stored i (.int .i64 (wrap64 (a + d.price)))).1
      rw [prM_set hval] at st
      have ST := Lib.hid st; clear st hval hsum
      go_upto_region 8 with fail
      (refine still_tail 11 (by kernel_rfl) (by kernel_rfl) ?_; simp only [List.take_succ_cons, List.take_zero, List.drop_succ_cons, List.drop_zero]; (repeat (refine wpStill_step (fun K hK => ?_); go_simp; (try go_bits); refine hK _ ?_; clear hK K)); refine wpStill_nil ?_)
      go_upto_region 9 with fail
      refine gen_world fun V hV => ?_
      have hrow : V.ownsRow w1.heap.size 2 1 (.slice (some ⟨w1.heap.size, 0, none⟩) n n) n (fl n (prM l n i)) := by rw [hV.out]; exact ST.out
      have hbV : Below w1.heap.size w1 V := by rw [hV.out]; (repeat' (first | (with_reducible exact Below.refl _ _) | (with_reducible assumption) | (with_reducible refine below_drewN ?_ _) | (with_reducible refine Below.drew ?_) | (with_reducible refine Below.alloc ?_ ?_ _) | (with_reducible refine Below.setCell ?_ ?_ _) | (with_reducible refine via (by with_reducible assumption) ?_ ?_) | go_size))
      have hc3 : ∀ o, V.cell? ⟨b1, o, none⟩ = wr.cell? ⟨b1, o, none⟩ := fun o => by rw [hbV.cell (p := ⟨b1, o, none⟩) hbl, hb.cell (p := ⟨b1, o, none⟩) hbl]
      rw [← hc3] at g1 g2
      clear hV c1 f1 g3 hc3
      have HROW := Lib.hid hrow; clear hrow
      by_cases hi0 : i = 0
      · have hpar := (HVA.out.2.2.2 i (by rw [HN.out]; exact hin)).2.2.2
        unfold parB at hpar
        rw [if_pos hi0, HDG.out] at hpar
        have hpe := eq_of_beq hpar
        have HE := Lib.hid (prV_end (n := n) (l := l) (i := i) (by rw [HDG.out, hpe]; omega))
        rw [hpe] at g1
        have HI0 := Lib.hid hi0; clear hpar hpe hi0
        go_wp2_with fail
        (first | (refine ⟨?_, ?_⟩; rotate_left; (first | (simp [intOf]; done) | (simp [intOf]; omega)); (repeat apply Exists.intro); refine ⟨?_, rfl⟩; exact ⟨(i : Int) - 1, by omega, by omega, rfl, by (repeat' (first | (with_reducible exact Below.refl _ _) | (with_reducible assumption) | (with_reducible refine below_drewN ?_ _) | (with_reducible refine Below.drew ?_) | (with_reducible refine Below.alloc ?_ ?_ _) | (with_reducible refine Below.setCell ?_ ?_ _) | (with_reducible refine via (by with_reducible assumption) ?_ ?_) | go_size)), by rw [show ((i : Int) - 1 + 1).toNat = i by omega, ← HE.out]; exact HROW.out⟩) | exact ⟨⟨(i : Int) - 1, by omega, by omega, rfl, by (repeat' (first | (with_reducible exact Below.refl _ _) | (with_reducible assumption) | (with_reducible refine below_drewN ?_ _) | (with_reducible refine Below.drew ?_) | (with_reducible refine Below.alloc ?_ ?_ _) | (with_reducible refine Below.setCell ?_ ?_ _) | (with_reducible refine via (by with_reducible assumption) ?_ ?_) | go_size)), by rw [show ((i : Int) - 1 + 1).toNat = i by omega, ← HE.out]; exact HROW.out⟩, by first | (simp [intOf]; done) | (simp [intOf]; omega)⟩)
      · obtain ⟨p, hp, hpi⟩ := parent_of HV.out (by rw [HN.out]; exact hin) (show 0 < i by omega)
        have hP := hp
        rw [HDG.out] at hp
        rw [hp] at g1
        clear hp
        obtain ⟨q, hq⟩ : ∃ q, wrap64 (sm (addP l n p) n - sm (addP l n p) (i + 1)) = q := ⟨_, rfl⟩
        obtain ⟨r, hr'⟩ : ∃ r, wrap64 (priceP l n i) = r := ⟨_, rfl⟩
        have c1 : V.cell? ⟨w1.heap.size, p, none⟩ = some (.int .i64 q) := by rw [HROW.out.cellAt p (by omega), fl_get (by omega)]; unfold prM; rw [if_neg (by omega), hq]
        have c2 : V.cell? ⟨w1.heap.size, i, none⟩ = some (.int .i64 r) := by rw [HROW.out.cellAt i (by omega), fl_get hin]; unfold prM; rw [if_pos (Nat.le_refl _), hr']
        have f1 : V.frozen? ⟨w1.heap.size, p, none⟩ = false := HROW.out.frozenAt p
        have hval : wrap64 (q + wrap64 (d.each * r)) = wrap64 (sm (addP l n p) n - sm (addP l n p) i) := by
          have h1 : Cg q (sm (addP l n p) n - sm (addP l n p) (i + 1)) := by rw [← hq]; exact Cg.wr _
          have h2 : Cg r (priceP l n i) := by rw [← hr']; exact Cg.wr _
          have h3 := (Cg.wr (q + wrap64 (d.each * r))).trans (Cg.add h1 ((Cg.wr _).trans (Cg.mul d.each h2)))
          have h4 : sm (addP l n p) (i + 1) = sm (addP l n p) i + d.each * priceP l n i := by
            show sm (addP l n p) i + addP l n p i = _
            unfold addP
            rw [if_pos hP, HDG.out]
          rw [h4] at h3
          have h5 : sm (addP l n p) n - (sm (addP l n p) i + d.each * priceP l n i) + d.each * priceP l n i = sm (addP l n p) n - sm (addP l n p) i := by omega
          rw [h5] at h3
          exact Cg.eq h3 (wrap_rng _).1 (wrap_rng _).2
        have st := (HROW.out.stored p (.int .i64 (wrap64 (q + wrap64 (d.each * r))))).1
        rw [prV_set hP hpi hval] at st
        have ST2 := Lib.hid st; clear st hval hq hr' hP
        have p5 : (0 : Int) ≤ (p : Int) := by omega
        have p6 : (p : Int) < (n : Int) := by omega
        have q1 : decide ((0 : Int) ≤ (p : Int)) = true := by simp
        go_upto_region 11 with fail
        (refine still_tail 16 (by kernel_rfl) (by kernel_rfl) ?_; simp only [List.take_succ_cons, List.take_zero, List.drop_succ_cons, List.drop_zero]; (repeat (refine wpStill_step (fun K hK => ?_); go_simp; (try go_bits); refine hK _ ?_; clear hK K)); refine wpStill_nil ?_)
        go_wp2_with fail
        (first | (refine ⟨?_, ?_⟩; rotate_left; (first | (simp [intOf]; done) | (simp [intOf]; omega)); (repeat apply Exists.intro); refine ⟨?_, rfl⟩; exact ⟨(i : Int) - 1, by omega, by omega, rfl, by (repeat' (first | (with_reducible exact Below.refl _ _) | (with_reducible assumption) | (with_reducible refine below_drewN ?_ _) | (with_reducible refine Below.drew ?_) | (with_reducible refine Below.alloc ?_ ?_ _) | (with_reducible refine Below.setCell ?_ ?_ _) | (with_reducible refine via (by with_reducible assumption) ?_ ?_) | go_size)), by rw [show ((i : Int) - 1 + 1).toNat = i by omega]; exact ST2.out⟩) | exact ⟨⟨(i : Int) - 1, by omega, by omega, rfl, by (repeat' (first | (with_reducible exact Below.refl _ _) | (with_reducible assumption) | (with_reducible refine below_drewN ?_ _) | (with_reducible refine Below.drew ?_) | (with_reducible refine Below.alloc ?_ ?_ _) | (with_reducible refine Below.setCell ?_ ?_ _) | (with_reducible refine via (by with_reducible assumption) ?_ ?_) | go_size)), by rw [show ((i : Int) - 1 + 1).toNat = i by omega]; exact ST2.out⟩, by first | (simp [intOf]; done) | (simp [intOf]; omega)⟩)
    · have hxk : x = (kk : Int) - 1 := by omega
      have hO1 : wr.ownsRow w1.heap.size 2 1 (.slice (some ⟨w1.heap.size, 0, none⟩) n n) n (fl n (prV l n kk)) := by have := HO.out; rwa [show (x + 1).toNat = kk by omega] at this
      have c1 : wr.cell? ⟨w1.heap.size, kk, none⟩ = some (.int .i64 (wrap64 (priceP l n kk))) := by rw [hO1.cellAt kk (by omega), fl_get hkn]; unfold prV prX; rw [if_pos (Nat.le_refl _)]
      generalize wrap64 (priceP l n kk) = r at *
      have HO2 := Lib.hid hO1; clear hO1 hxk
      have p2 : (kk : Int) < (n : Int) := by omega
      go_wp2_with fail
      go_ret2
      exact ⟨ret_two HR.out.symm, by (repeat' (first | (with_reducible exact Below.refl _ _) | (with_reducible assumption) | (with_reducible refine below_drewN ?_ _) | (with_reducible refine Below.drew ?_) | (with_reducible refine Below.alloc ?_ ?_ _) | (with_reducible refine Below.setCell ?_ ?_ _) | (with_reducible refine via (by with_reducible assumption) ?_ ?_) | go_size))⟩

end Go.Proofs.Ytnifpmfmhilhlaa
