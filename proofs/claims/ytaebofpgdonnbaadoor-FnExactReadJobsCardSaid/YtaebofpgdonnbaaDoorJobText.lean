/- Contracts: the text of jobs; both sides. -/
import Derived.Test.YtaebofpgdonnbaaDoorJobs5
import Derived.Test.YtaebofpgdonnbaaDoorBytes
import Derived.Test.YtaebofpgdonnbaaDoorParts
import Derived.Deep.DeepCutAuto
set_option linter.unusedVariables false
set_option linter.unusedSimpArgs false
namespace Go.Proofs.YtaebofpgdonnbaaDoor
open Go.RowKit

def headJ (l : List JobD) (k : Nat) : ByteArray := (getJ l k).name ++ ⟨#[32]⟩ ++ dec (getJ l k).days ++ ⟨#[32]⟩ ++ dec (getJ l k).cost
/-- the names of the first i jobs that job k needs -/
def needJ (l : List JobD) (k : Nat) (t : ByteArray) : Nat → ByteArray
  | 0 => t
  | i + 1 => needJ l k t i ++ (⟨#[32]⟩ ++ (getJ l ((getJ l k).needs.getD i 0).toNat).name)
def textJ (l : List JobD) : Nat → ByteArray
  | 0 => ByteArray.empty
  | k + 1 => needJ l k (textJ l k ++ headJ l k) (getJ l k).needs.length ++ ⟨#[10]⟩
def jtextR (l : List JobD) : ByteArray := if validS l then textJ l l.length else ByteArray.empty
theorem name_size {s : ByteArray} (h : nameB s = true) : s.size ≤ 12 := by
  by_cases hc : 0 < s.size ∧ s.size ≤ 12
  · exact hc.2
  · rw [nameB_size s hc] at h; cases h
theorem valid_name {l : List JobD} (h : validS l = true) {k : Nat} (hk : k < l.length) : nameB (getJ l k).name = true := by
  unfold validS at h
  simp only [Bool.and_eq_true, decide_eq_true_eq] at h
  have h1 := (all_range_iff _ _).1 h.1 k hk
  unfold okS jobB at h1
  simp only [Bool.and_eq_true] at h1
  first | exact h1.1.1.1.1.1 | exact h1.1.1.1.1 | exact h1.1.1.1 | exact h1.1.1 | exact h1.1
theorem headJ_size {l : List JobD} (h : validS l = true) {k : Nat} (hk : k < l.length) : (headJ l k).size ≤ 60 := by
  have h1 := name_size (valid_name h hk)
  have hall := (valid_all h).2 k hk
  have h3 := dec_size (getJ l k).days (by omega)
  have h4 := dec_size (getJ l k).cost (by omega)
  unfold headJ
  simp only [ByteArray.size_append]
  have s0 : (⟨#[32]⟩ : ByteArray).size = 1 := rfl
  omega
theorem needJ_size {l : List JobD} (h : validS l = true) {k : Nat} (hk : k < l.length) (t : ByteArray) : ∀ i, i ≤ (getJ l k).needs.length → (needJ l k t i).size ≤ t.size + 13 * i ∧ t.size ≤ (needJ l k t i).size
  | 0, _ => ⟨Nat.le_refl _, Nat.le_refl _⟩
  | i + 1, hi => by
    have ih := needJ_size h hk t i (by omega)
    obtain ⟨x, hx⟩ := get_ex (getJ l k).needs i (by omega)
    have hb := ((valid_all h).2 k hk).2.2.2.2.1 i x hx
    have h1 := name_size (valid_name h (k := x.toNat) (by omega))
    simp only [needJ, ByteArray.size_append]
    rw [getD_eq hx]
    have s0 : (⟨#[32]⟩ : ByteArray).size = 1 := rfl
    omega
theorem textJ_size {l : List JobD} (h : validS l = true) : ∀ k, k ≤ l.length → (textJ l k).size ≤ 500 * k ∧ k ≤ (textJ l k).size
  | 0, _ => ⟨Nat.le_refl _, Nat.le_refl _⟩
  | k + 1, hk => by
    have ih := textJ_size h k (by omega)
    have h1 := headJ_size h (k := k) (by omega)
    have h2 := needJ_size h (k := k) (by omega) (textJ l k ++ headJ l k) (getJ l k).needs.length (Nat.le_refl _)
    have h3 := ((valid_all h).2 k (by omega)).2.2.2.2.2
    have h4 := (valid_all h).1
    have s0 : (⟨#[10]⟩ : ByteArray).size = 1 := rfl
    simp only [textJ, ByteArray.size_append] at h2 ⊢
    omega

set_option maxRecDepth 100000 in
set_option maxHeartbeats 4000000 in
theorem JobsTextI_c (A : Option Addr) (n c : Nat) (l : List JobD) (w : World) (hn : l.length = n) (hm : n ≤ 1048576) (hr : JRd w w.heap.size A l) (ok : ∀ d ∈ l, okJD d) (hkk : ∀ (i : Nat) (d : JobD), l[i]? = some d → d.needs.length ≤ 1048576) (ht : Tab w) :
    Calls Tryd.prog 38 #[.slice A n c] w fun e w' => e = .returned (.string (jtextR l)) ∧ Below w.heap.size w w' := by
  have HN := Lib.hid hn; clear hn
  have HT := Lib.hid ht; clear ht
  have HV0 := Lib.hid (ValidJobsI_c A n c l w HN.out hm hr ok hkk); clear hkk
  go_enter Tryd.func38, Tryd.ntmps38
  go_wp2_with fail
  refine HV0.out.mono ?_
  rintro e w1 ⟨rfl, hb1⟩
  cases hv : validS l
  · have HR := Lib.hid (show jtextR l = ByteArray.empty by unfold jtextR; rw [hv]; rfl)
    go_wp2_with fail
    go_ret
    exact ⟨by rw [HR.out]; rfl, hb1⟩
  have HR := Lib.hid (show jtextR l = textJ l n by unfold jtextR; rw [hv, if_pos rfl, HN.out])
  have hn30 := (valid_all hv).1
  rw [HN.out] at hn30
  have HV := Lib.hid hv
  clear hv
  go_wp2_with fail
  go_loopw [3, 13] (fun q i wr => ∃ k : Nat, k ≤ n ∧ i = .int .i64 k ∧ q = .string (textJ l k) ∧ Below w.heap.size w wr) (fun _ i _ => n - (intOf i).toNat)
  case atStart => exact ⟨0, Nat.zero_le _, rfl, rfl, hb1⟩
  case round =>
    clear hb1
    obtain ⟨k, hk, rfl, rfl, hb⟩ := hrel
    have hbs := hb.size
    by_cases hlt : k < n
    · have hkl : k < l.length := by rw [HN.out]; exact hlt
      obtain ⟨b, off, rfl, hbl, hc⟩ := (hr.below hb) (by omega)
      obtain ⟨d, hd⟩ := get_ex l k hkl
      obtain ⟨g0, g1, g2, An, cn, g3, g4⟩ := hc k d hd
      have hG := getJ_eq hd
      have h1 := name_size (valid_name HV.out hkl)
      have h0 := headJ_size HV.out hkl
      have h4 := (valid_all HV.out).2 k hkl
      have z0 := textJ_size HV.out k (by omega)
      have HLN := Lib.hid (show textJ l (k + 1) = needJ l k (textJ l k ++ headJ l k) (getJ l k).needs.length ++ ⟨#[10]⟩ from rfl)
      have HLP := Lib.hid (show headJ l k = (getJ l k).name ++ ⟨#[32]⟩ ++ dec (getJ l k).days ++ ⟨#[32]⟩ ++ dec (getJ l k).cost from rfl)
      have HNS := Lib.hid (fun i hi => (needJ_size HV.out hkl (textJ l k ++ headJ l k) i hi).1)
      have HNE := Lib.hid (show ∀ i x, d.needs[i]? = some x → needJ l k (textJ l k ++ headJ l k) (i + 1) = needJ l k (textJ l k ++ headJ l k) i ++ (⟨#[32]⟩ ++ (getJ l x.toNat).name) from fun i x hx => by
        show needJ l k (textJ l k ++ headJ l k) i ++ (⟨#[32]⟩ ++ (getJ l ((getJ l k).needs.getD i 0).toNat).name) = _
        rw [hG, getD_eq hx])
      have HN0 := Lib.hid (show needJ l k (textJ l k ++ headJ l k) 0 = textJ l k ++ headJ l k from rfl)
      rw [hG] at h1 h4 HLP HLN HNS
      have z1 := dec_size d.days (by omega)
      have z2 := dec_size d.cost (by omega)
      have HA := Lib.hid (Decimal_c d.days · (by omega))
      have HP := Lib.hid (Decimal_c d.cost · (by omega))
      have HNB := Lib.hid h4.2.2.2.2.1
      have hnl : d.needs.length ≤ k := h4.2.2.2.2.2
      have HCC := Lib.hid hc
      have HG4 := Lib.hid (g4.mono hbs)
      clear hG h4 hd hc g4
      generalize headJ l k = HD at *
      generalize textJ l k = T at *
      generalize dec d.days = DE at *
      generalize dec d.cost = DP at *
      have s0 : (⟨#[32]⟩ : ByteArray).size = 1 := rfl
      have s1 : (⟨#[10]⟩ : ByteArray).size = 1 := rfl
      have hf := far (show b < wr.heap.size by omega)
      have p1 : (0 : Int) ≤ (k : Int) := by omega
      have p2 : (k : Int) < (n : Int) := by omega
      go_wp2_with fail
      refine gen_world fun W hW => ?_
      have hbW : Below wr.heap.size wr W := by rw [hW.out]; (repeat' (first | (with_reducible exact Below.refl _ _) | (with_reducible assumption) | (with_reducible refine below_drewN ?_ _) | (with_reducible refine Below.drew ?_) | (with_reducible refine Below.alloc ?_ ?_ _) | (with_reducible refine Below.setCell ?_ ?_ _) | (with_reducible refine via (by with_reducible assumption) ?_ ?_) | go_size))
      have c0 : W.cell? ⟨wr.heap.size, 0, none⟩ = some (.string d.name) := by rw [hW.out]; simp [go_sem]
      have c1 : W.cell? ⟨wr.heap.size, 1, none⟩ = some (.int .i64 d.days) := by rw [hW.out]; simp [go_sem]
      have c2 : W.cell? ⟨wr.heap.size, 2, none⟩ = some (.int .i64 d.cost) := by rw [hW.out]; simp [go_sem]
      have c3 : W.cell? ⟨wr.heap.size, 3, none⟩ = some (.slice An d.needs.length cn) := by rw [hW.out]; simp [go_sem]
      have hfW := far (show wr.heap.size < W.heap.size by rw [hW.out]; simp [go_sem])
      clear hW
      have hbsW := hbW.size
      (refine wp_region_quiet_below (by kernel_rfl) (by kernel_rfl) ?_; (repeat (go_big_quiet_step (first | ((go_at_call_of 63 (Value.int .i64 d.days); exact rg_of (fun w' hb => HA.out w' (HT.out.below (by (repeat' (first | (with_reducible exact Below.refl _ _) | (with_reducible assumption) | (with_reducible refine below_drewN ?_ _) | (with_reducible refine Below.drew ?_) | (with_reducible refine Below.alloc ?_ ?_ _) | (with_reducible refine Below.setCell ?_ ?_ _) | (with_reducible refine via (by with_reducible assumption) ?_ ?_) | go_size))))))) | ((go_at_call_of 63 (Value.int .i64 d.cost); exact rg_of (fun w' hb => HP.out w' (HT.out.below (by (repeat' (first | (with_reducible exact Below.refl _ _) | (with_reducible assumption) | (with_reducible refine below_drewN ?_ _) | (with_reducible refine Below.drew ?_) | (with_reducible refine Below.alloc ?_ ?_ _) | (with_reducible refine Below.setCell ?_ ?_ _) | (with_reducible refine via (by with_reducible assumption) ?_ ?_) | go_size)))))))))); refine wpQuiet_nil ?_; refine qg_end ?_; intro wq hbq)
      have hc3 : wq.cell? ⟨wr.heap.size, 3, none⟩ = some (.slice An d.needs.length cn) := by rw [hbq.cell (p := ⟨wr.heap.size, 3, none⟩) (by simp only; omega)]; exact c3
      have hbw : Below wr.heap.size wr wq := by (repeat' (first | (with_reducible exact Below.refl _ _) | (with_reducible assumption) | (with_reducible refine below_drewN ?_ _) | (with_reducible refine Below.drew ?_) | (with_reducible refine Below.alloc ?_ ?_ _) | (with_reducible refine Below.setCell ?_ ?_ _) | (with_reducible refine via (by with_reducible assumption) ?_ ?_) | go_size))
      have HBW := Lib.hid hbw
      have hbws := hbw.size
      have hbq2 : Below w.heap.size w wq := hb.trans (hbw.mono hbs)
      clear c0 c1 c2 c3 hfW hbq
      go_wp2_with fail
      obtain ⟨u, rfl⟩ : ∃ u : World, u = wq := ⟨_, rfl⟩
      go_loop [3, 34] (fun q i => ∃ j : Nat, j ≤ d.needs.length ∧ i = .int .i64 j ∧ q = .string (needJ l k (T ++ HD) j)) (fun _ i => d.needs.length - (intOf i).toNat)
      case atStart => exact ⟨0, Nat.zero_le _, rfl, by rw [HN0.out, HLP.out]⟩
      case round =>
        obtain ⟨j, hj, rfl, rfl⟩ := hrel
        by_cases hjl : j < d.needs.length
        · obtain ⟨b2, o2, rfl, hbl2, hc2⟩ := (HG4.out.below hbw).ints' (by omega)
          obtain ⟨x, hx⟩ := get_ex d.needs j hjl
          have e2 := hc2 j x hx
          have hxb := HNB.out j x hx
          obtain ⟨p, rfl⟩ := Int.eq_ofNat_of_zero_le hxb.1
          obtain ⟨pd, hpd⟩ := get_ex l p (by rw [HN.out]; omega)
          have e3 := (HCC.out p pd hpd).1
          rw [← hbw.cell (p := ⟨b, off + p * 4, none⟩) (by simp only; omega)] at e3
          have HS := Lib.hid (show needJ l k (T ++ HD) (j + 1) = needJ l k (T ++ HD) j ++ (⟨#[32]⟩ ++ pd.name) by rw [HNE.out j p hx, Int.toNat_natCast, getJ_eq hpd])
          have h5 := name_size (valid_name HV.out (k := p) (by rw [HN.out]; omega))
          rw [getJ_eq hpd] at h5
          have h6 := HNS.out j hj
          simp only [ByteArray.size_append] at h6
          clear hx hc2 hpd
          generalize needJ l k (T ++ HD) j = Q at *
          have p3 : (0 : Int) ≤ (p : Int) := by omega
          have p4 : (p : Int) < (n : Int) := by omega
          have p5 : p < n := by omega
          have p6 : (0 : Int) ≤ (j : Int) := by omega
          have p7 : (j : Int) < (d.needs.length : Int) := by omega
          go_wp2_with fail
          (first | (refine ⟨⟨(by first | trivial | rfl), ?_⟩, ?_⟩; rotate_left; (first | (simp [intOf]; done) | (simp [intOf]; omega)); (repeat apply Exists.intro); refine ⟨?_, rfl⟩; exact ⟨j + 1, by omega, by go_num, by rw [HS.out]⟩) | exact ⟨⟨j + 1, by omega, by go_num, by rw [HS.out]⟩, by first | (simp [intOf]; done) | (simp [intOf]; omega)⟩)
        · obtain rfl : j = d.needs.length := by omega
          have h6 := HNS.out d.needs.length (Nat.le_refl _)
          simp only [ByteArray.size_append] at h6
          generalize needJ l k (T ++ HD) d.needs.length = Q at *
          go_wp2_with fail
          (first | (refine ⟨?_, ?_⟩; rotate_left; (first | (simp [intOf]; done) | (simp [intOf]; omega)); (repeat apply Exists.intro); refine ⟨?_, rfl⟩; exact ⟨k + 1, by omega, by go_num, by rw [HLN.out], hbq2⟩) | exact ⟨⟨k + 1, by omega, by go_num, by rw [HLN.out], hbq2⟩, by first | (simp [intOf]; done) | (simp [intOf]; omega)⟩)
    · obtain rfl : k = n := by omega
      go_wp2_with fail
      go_ret
      exact ⟨by rw [HR.out]; rfl, hb⟩

theorem jtext_pos {l : List JobD} {k : Nat} (h : 0 < k) : 0 < (textJ l k).size := by
  obtain ⟨q, rfl⟩ : ∃ q, k = q + 1 := ⟨k - 1, by omega⟩
  simp only [textJ, ByteArray.size_append]
  have s0 : (⟨#[10]⟩ : ByteArray).size = 1 := rfl
  omega
theorem run_text0 {w : World} {B : Nat} {v : Value} (h : w.ownsRow B 5 1 v 0 []) : (convert 104 9 v).run Tryd.prog w = .ok (.string ByteArray.empty) w := by
  rcases h.2 with ⟨rfl, _⟩ | ⟨g, cap, cur, rfl, _⟩
  · exact Go.run_convert_bytes_nil w 104 5 Tryd.underlying104 Tryd.underlying5 0 0 _ Tryd.underlying9
  · exact (Go.run_convert_bytes_arg w 104 5 Tryd.underlying104 Tryd.underlying5 g 0 0 cap [] rfl (fun i hi => by omega) _ Tryd.underlying9).trans rfl

set_option maxRecDepth 100000 in
set_option maxHeartbeats 4000000 in
theorem l22Text_c (A : Option Addr) (n c : Nat) (l : List JobD) (W : World) (hn : l.length = n) (hm : n ≤ 1048576) (hr : JRd W W.heap.size A l) (hv : validS l = true) :
    Calls Tryd.prog 73 #[.slice A n c] W fun e w' => e = .returned (.string (textJ l n)) ∧ Below W.heap.size W w' := by
  obtain ⟨i0, hi0, hy0, hy1, hy2⟩ := info_parts info_u8
  have HN := Lib.hid hn; clear hn
  have hown0 : (W.alloc (.cells #[] 5)).ownsRow W.heap.size 5 1 (.slice (some ⟨W.heap.size, 0, none⟩) 0 0) 0 [] := World.ownsRow_made W #[] 0 (Nat.le_refl _) (by simp [maxLen]) (by simp)
  have hn30 := (valid_all hv).1
  rw [HN.out] at hn30
  have HV := Lib.hid hv
  clear hv
  go_enter Tryd.func73, Tryd.ntmps73
  go_wp2_with fail
  go_loopw [3, 4] (fun o i wr => ∃ k : Nat, k ≤ n ∧ i = .int .i64 k ∧ Below W.heap.size W wr ∧ wr.ownsRow W.heap.size 5 1 o (textJ l k).size (Lib.strCells (textJ l k))) (fun _ i _ => n - (intOf i).toNat)
  case atStart => exact ⟨0, Nat.zero_le _, rfl, by (repeat' (first | (with_reducible exact Below.refl _ _) | (with_reducible assumption) | (with_reducible refine below_drewN ?_ _) | (with_reducible refine Below.drew ?_) | (with_reducible refine Below.alloc ?_ ?_ _) | (with_reducible refine Below.setCell ?_ ?_ _) | (with_reducible refine via (by with_reducible assumption) ?_ ?_) | go_size)), hown0⟩
  case round =>
    clear hown0
    obtain ⟨k, hk, rfl, hb, hx⟩ := hrel
    have HX := Lib.hid hx; clear hx
    have hbs := hb.size
    by_cases hlt : k < n
    · obtain ⟨hcr, hfr⟩ := bcell hb
      have hkl : k < l.length := by rw [HN.out]; exact hlt
      obtain ⟨b, off, rfl, hbl, hc⟩ := hr (by omega)
      obtain ⟨d, hd⟩ := get_ex l k hkl
      obtain ⟨g0, g1, g2, An, cn, g3, g4⟩ := hc k d hd
      have hG := getJ_eq hd
      have h1 := name_size (valid_name HV.out hkl)
      have h0 := headJ_size HV.out hkl
      have h4 := (valid_all HV.out).2 k hkl
      have z0 := textJ_size HV.out k (by omega)
      have HLN := Lib.hid (show textJ l (k + 1) = needJ l k (textJ l k ++ headJ l k) (getJ l k).needs.length ++ ⟨#[10]⟩ from rfl)
      have HLP := Lib.hid (show headJ l k = (getJ l k).name ++ ⟨#[32]⟩ ++ dec (getJ l k).days ++ ⟨#[32]⟩ ++ dec (getJ l k).cost from rfl)
      have HNS := Lib.hid (fun i hi => (needJ_size HV.out hkl (textJ l k ++ headJ l k) i hi).1)
      have HNE := Lib.hid (show ∀ i x, d.needs[i]? = some x → needJ l k (textJ l k ++ headJ l k) (i + 1) = needJ l k (textJ l k ++ headJ l k) i ++ (⟨#[32]⟩ ++ (getJ l x.toNat).name) from fun i x hx => by
        show needJ l k (textJ l k ++ headJ l k) i ++ (⟨#[32]⟩ ++ (getJ l ((getJ l k).needs.getD i 0).toNat).name) = _
        rw [hG, getD_eq hx])
      have HN0 := Lib.hid (show needJ l k (textJ l k ++ headJ l k) 0 = textJ l k ++ headJ l k from rfl)
      rw [hG] at h1 h4 HLP HLN HNS
      have z1 := dec_size d.days (by omega)
      have z2 := dec_size d.cost (by omega)
      have HA := Lib.hid (l01Dec_c d.days · (by omega))
      have HP := Lib.hid (l01Dec_c d.cost · (by omega))
      have HNB := Lib.hid h4.2.2.2.2.1
      have hnl : d.needs.length ≤ k := h4.2.2.2.2.2
      have HCC := Lib.hid hc
      have HG4 := Lib.hid g4
      clear hG h4 hd hc g4
      generalize headJ l k = HD at *
      generalize textJ l k = T at *
      generalize dec d.days = DE at *
      generalize dec d.cost = DP at *
      have s0 : (⟨#[32]⟩ : ByteArray).size = 1 := rfl
      have s1 : (⟨#[10]⟩ : ByteArray).size = 1 := rfl
      have hf := far (show b < wr.heap.size by omega)
      have p1 : (0 : Int) ≤ (k : Int) := by omega
      have p2 : (k : Int) < (n : Int) := by omega
      have y1 : ¬ 9223372036854775807 < d.name.size + 1 := by omega
      have y2 : ¬ 9223372036854775807 < d.name.size + 1 + DE.size := by omega
      have y3 : ¬ 9223372036854775807 < d.name.size + 1 + DE.size + 1 := by omega
      have y4 : ¬ 9223372036854775807 < d.name.size + 1 + DE.size + 1 + DP.size := by omega
      go_wp2_with fail
      go_region_held3 (fun w' => (∀ b o, b < W.heap.size → w'.cell? ⟨b, o, none⟩ = W.cell? ⟨b, o, none⟩) ∧ Below W.heap.size W w') (exact old_of (by (repeat' (first | (with_reducible exact Below.refl _ _) | (with_reducible assumption) | (with_reducible refine below_drewN ?_ _) | (with_reducible refine Below.drew ?_) | (with_reducible refine Below.alloc ?_ ?_ _) | (with_reducible refine Below.setCell ?_ ?_ _) | (with_reducible refine via (by with_reducible assumption) ?_ ?_) | go_size))))
        (first
          | (go_at_call_of 80 (Value.int .i64 d.days); refine (HA.out _).mono ?_; rintro e w5 ⟨rfl, hb5⟩; have hT5 : Below wr.heap.size wr w5 := (by (repeat' (first | (with_reducible exact Below.refl _ _) | (with_reducible assumption) | (with_reducible refine below_drewN ?_ _) | (with_reducible refine Below.drew ?_) | (with_reducible refine Below.alloc ?_ ?_ _) | (with_reducible refine Below.setCell ?_ ?_ _) | (with_reducible refine via (by with_reducible assumption) ?_ ?_) | go_size))); have hS5 : Below W.heap.size W w5 := (by (repeat' (first | (with_reducible exact Below.refl _ _) | (with_reducible assumption) | (with_reducible refine below_drewN ?_ _) | (with_reducible refine Below.drew ?_) | (with_reducible refine Below.alloc ?_ ?_ _) | (with_reducible refine Below.setCell ?_ ?_ _) | (with_reducible refine via (by with_reducible assumption) ?_ ?_) | go_size))); obtain ⟨hc5, hf5⟩ := bcell hS5; have hz5 := hT5.size)
          | (go_at_call_of 80 (Value.int .i64 d.cost); refine (HP.out _).mono ?_; rintro e w6 ⟨rfl, hb6⟩; have hT6 : Below wr.heap.size wr w6 := (by (repeat' (first | (with_reducible exact Below.refl _ _) | (with_reducible assumption) | (with_reducible refine below_drewN ?_ _) | (with_reducible refine Below.drew ?_) | (with_reducible refine Below.alloc ?_ ?_ _) | (with_reducible refine Below.setCell ?_ ?_ _) | (with_reducible refine via (by with_reducible assumption) ?_ ?_) | go_size))); have hS6 : Below W.heap.size W w6 := (by (repeat' (first | (with_reducible exact Below.refl _ _) | (with_reducible assumption) | (with_reducible refine below_drewN ?_ _) | (with_reducible refine Below.drew ?_) | (with_reducible refine Below.alloc ?_ ?_ _) | (with_reducible refine Below.setCell ?_ ?_ _) | (with_reducible refine via (by with_reducible assumption) ?_ ?_) | go_size))); obtain ⟨hc6, hf6⟩ := bcell hS6; have hz6 := hT6.size)
          | ((refine apps_step (W := W) (.tmp 17) (.tmp 35) (by rfl) (by rfl) Tryd.underlying104 Tryd.underlying9 hi0 hy0 hy1 hy2 (by rfl) (own_call HX.out (by (repeat' (first | (with_reducible exact Below.refl _ _) | (with_reducible assumption) | (with_reducible refine below_drewN ?_ _) | (with_reducible refine Below.drew ?_) | (with_reducible refine Below.alloc ?_ ?_ _) | (with_reducible refine Below.setCell ?_ ?_ _) | (with_reducible refine via (by with_reducible assumption) ?_ ?_) | go_size)))) (by rfl) (by simp only [ByteArray.size_append]; omega) (by (repeat' (first | (with_reducible exact Below.refl _ _) | (with_reducible assumption) | (with_reducible refine below_drewN ?_ _) | (with_reducible refine Below.drew ?_) | (with_reducible refine Below.alloc ?_ ?_ _) | (with_reducible refine Below.setCell ?_ ?_ _) | (with_reducible refine via (by with_reducible assumption) ?_ ?_) | go_size))) (Nat.le_refl _) ?_; intro v3 w3 hown3 _ hb3)))
      rw [← HLP.out, ← HN0.out] at hown3
      have HO := Lib.hid hown3; clear hown3
      obtain ⟨wk, rfl⟩ : ∃ w' : World, w' = wr := ⟨_, rfl⟩
      clear hcr hfr hf hbs y1 y2 y3 y4
      obtain ⟨hcr, hfr⟩ := bcell hb3
      have hbs := hb3.size
      have hf := far (show b < w3.heap.size by omega)
      go_wp2_with fail
      go_loopw [3, 6] (fun o i wr => ∃ j : Nat, j ≤ d.needs.length ∧ i = .int .i64 j ∧ Below W.heap.size W wr ∧ wr.ownsRow W.heap.size 5 1 o (needJ l k (T ++ HD) j).size (Lib.strCells (needJ l k (T ++ HD) j))) (fun _ i _ => d.needs.length - (intOf i).toNat)
      case atStart => exact ⟨0, Nat.zero_le _, rfl, hb3, HO.out⟩
      case round =>
        clear hcr hfr hf HO hb3 hbs
        obtain ⟨j, hj, rfl, hb, hx⟩ := hrel
        have HX2 := Lib.hid hx; clear hx
        obtain ⟨hcr, hfr⟩ := bcell hb
        have hbs := hb.size
        have hf := far (show b < wr.heap.size by omega)
        by_cases hjl : j < d.needs.length
        · obtain ⟨b2, o2, rfl, hbl2, hc2⟩ := HG4.out.ints' (by omega)
          obtain ⟨x, hx⟩ := get_ex d.needs j hjl
          have e2 := hc2 j x hx
          have hxb := HNB.out j x hx
          obtain ⟨p, rfl⟩ := Int.eq_ofNat_of_zero_le hxb.1
          obtain ⟨pd, hpd⟩ := get_ex l p (by rw [HN.out]; omega)
          have e3 := (HCC.out p pd hpd).1
          have HS := Lib.hid (show needJ l k (T ++ HD) (j + 1) = needJ l k (T ++ HD) j ++ (⟨#[32]⟩ ++ pd.name) by rw [HNE.out j p hx, Int.toNat_natCast, getJ_eq hpd])
          have h5 := name_size (valid_name HV.out (k := p) (by rw [HN.out]; omega))
          rw [getJ_eq hpd] at h5
          have h6 := HNS.out j hj
          simp only [ByteArray.size_append] at h6
          clear hx hc2 hpd
          generalize needJ l k (T ++ HD) j = Q at *
          have p3 : (0 : Int) ≤ (p : Int) := by omega
          have p4 : (p : Int) < (n : Int) := by omega
          have p5 : p < n := by omega
          have p6 : (0 : Int) ≤ (j : Int) := by omega
          have p7 : (j : Int) < (d.needs.length : Int) := by omega
          go_wp2_with (at_builtin; refine appstr_list (W := W) (.tmp 46) (.tmp 58) rfl rfl Tryd.underlying104 Tryd.underlying9 hi0 hy0 hy1 hy2 (by rfl) HX2.out (by rfl) (by simp only [ByteArray.size_append]; omega) hb (Nat.le_refl _) ?_; intro v3 w3 hown3 _ hb3)
          have HO := Lib.hid hown3; clear hown3
          (first | (refine ⟨?_, ?_⟩; rotate_left; (first | (simp [intOf]; done) | (simp [intOf]; omega)); (repeat apply Exists.intro); refine ⟨?_, rfl⟩; exact ⟨j + 1, by omega, by go_num, hb3, by rw [HS.out]; exact HO.out⟩) | exact ⟨⟨j + 1, by omega, by go_num, hb3, by rw [HS.out]; exact HO.out⟩, by first | (simp [intOf]; done) | (simp [intOf]; omega)⟩)
        · obtain rfl : j = d.needs.length := by omega
          have h6 := HNS.out d.needs.length (Nat.le_refl _)
          simp only [ByteArray.size_append] at h6
          have HLN2 := Lib.hid (show (textJ l (k + 1)).size = (needJ l k (T ++ HD) d.needs.length).size + 1 ∧ Lib.strCells (textJ l (k + 1)) = Lib.strCells (needJ l k (T ++ HD) d.needs.length) ++ [Value.int .u8 10] by
            rw [HLN.out, ByteArray.size_append, str_app]
            exact ⟨rfl, rfl⟩)
          generalize needJ l k (T ++ HD) d.needs.length = Q at *
          go_wp2_with (at_builtin; refine app_list (W := W) (z := .int .u8 0) (.tmp 60) (.tmp 61) rfl rfl Tryd.underlying104 hi0 hy0 hy1 hy2 rfl (by decide) (by decide) rfl (HX2.out.alloc _) rfl rfl (news1 (z := .int .u8 10) (by simp [go_sem])) (by simp [Value.oneCell']) (by omega) (by (repeat' (first | (with_reducible exact Below.refl _ _) | (with_reducible assumption) | (with_reducible refine below_drewN ?_ _) | (with_reducible refine Below.drew ?_) | (with_reducible refine Below.alloc ?_ ?_ _) | (with_reducible refine Below.setCell ?_ ?_ _) | (with_reducible refine via (by with_reducible assumption) ?_ ?_) | go_size))) (Nat.le_refl _) ?_; intro v3 w3 hown3 _ _ hb3)
          have HO := Lib.hid hown3; clear hown3
          (first | (refine ⟨?_, ?_⟩; rotate_left; (first | (simp [intOf]; done) | (simp [intOf]; omega)); (repeat apply Exists.intro); refine ⟨?_, rfl⟩; exact ⟨k + 1, by omega, by go_num, hb3, by rw [HLN2.out.1, HLN2.out.2]; exact HO.out⟩) | exact ⟨⟨k + 1, by omega, by go_num, hb3, by rw [HLN2.out.1, HLN2.out.2]; exact HO.out⟩, by first | (simp [intOf]; done) | (simp [intOf]; omega)⟩)
    · obtain rfl : k = n := by omega
      by_cases h0 : k = 0
      · have hT : textJ l k = ByteArray.empty := by rw [h0]; rfl
        have hx := HX.out
        rw [hT] at hx
        have kc := run_text0 hx
        have HTX := Lib.hid hT; clear hT hx
        go_wp2_with fail
        go_ret
        exact ⟨by rw [HTX.out]; rfl, hb⟩
      · have kc := run_text HX.out (jtext_pos (by omega))
        go_wp2_with fail
        go_ret
        exact ⟨rfl, hb⟩

set_option maxHeartbeats 1000000 in
theorem JobsTextS_c (A : Option Addr) (n c : Nat) (l : List JobD) (w : World) (hn : l.length = n) (hm : n ≤ 1048576) (hr : JRd w w.heap.size A l) (ok : ∀ d ∈ l, okJD d) (hkk : ∀ (i : Nat) (d : JobD), l[i]? = some d → d.needs.length ≤ 1048576) :
    Calls Tryd.prog 36 #[.slice A n c] w fun e w' => e = .returned (.string (jtextR l)) ∧ Below w.heap.size w w' := by
  have HV0 := Lib.hid (l22OkB_c A n c l w hn hm hr ok hkk); clear hkk
  go_enter Tryd.func36, Tryd.ntmps36
  go_wp2_with fail
  refine HV0.out.mono ?_
  rintro e w1 ⟨rfl, hb1⟩
  cases hv : validS l
  · have HR := Lib.hid (show jtextR l = ByteArray.empty by unfold jtextR; rw [hv]; rfl)
    go_wp2_with fail
    go_ret
    exact ⟨by rw [HR.out]; rfl, hb1⟩
  · have HR := Lib.hid (show jtextR l = textJ l n by unfold jtextR; rw [hv, if_pos rfl, hn])
    have HL := Lib.hid (l22Text_c A n c l w1 hn hm ((hr.below hb1).mono hb1.size) hv)
    clear hv
    go_wp2_with fail
    refine HL.out.mono ?_
    rintro e w2 ⟨rfl, hb2⟩
    go_wp2_with fail
    go_ret
    exact ⟨by rw [HR.out]; rfl, hb1.trans (hb2.mono hb1.size)⟩

end Go.Proofs.YtaebofpgdonnbaaDoor
