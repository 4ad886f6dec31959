/- Contracts: the text of pieces; both sides. -/
import Derived.Test.YtaebofpgdonnbaaDoorPieces4
import Derived.Test.YtaebofpgdonnbaaDoorBytes
import Derived.Test.YtaebofpgdonnbaaDoorParts
import Derived.Deep.DeepCutAuto
set_option linter.unusedVariables false
set_option linter.unusedSimpArgs false
namespace Go.Proofs.YtaebofpgdonnbaaDoor
open Go.RowKit

def parT (l : List PieceD) (k : Nat) : ByteArray := if 0 ≤ (getP l k).parent then (getP l (getP l k).parent.toNat).name else ⟨#[45]⟩
def lineP (l : List PieceD) (k : Nat) : ByteArray := (getP l k).name ++ ⟨#[32]⟩ ++ parT l k ++ ⟨#[32]⟩ ++ dec (getP l k).each ++ ⟨#[32]⟩ ++ dec (getP l k).price ++ ⟨#[10]⟩
def textP (l : List PieceD) : Nat → ByteArray
  | 0 => ByteArray.empty
  | k + 1 => textP l k ++ lineP l k
def ptextR (l : List PieceD) : ByteArray := if validS l then textP l l.length else ByteArray.empty
theorem name_size {s : ByteArray} (h : nameB s = true) : s.size ≤ 12 := by
  by_cases hc : 0 < s.size ∧ s.size ≤ 12
  · exact hc.2
  · rw [nameB_size s hc] at h; cases h
theorem valid_name {l : List PieceD} (h : validS l = true) {k : Nat} (hk : k < l.length) : nameB (getP l k).name = true := by
  unfold validS at h
  rw [Bool.and_eq_true] at h
  have h1 := (all_range_iff _ _).1 h.2 k hk
  unfold okS pieceB at h1
  simp only [Bool.and_eq_true] at h1
  exact h1.1.1.1.1
theorem parT_size {l : List PieceD} (h : validS l = true) {k : Nat} (hk : k < l.length) : (parT l k).size ≤ 12 := by
  unfold parT
  split
  · have := (valid_all h).2.2.1 k hk
    exact name_size (valid_name h (by omega))
  · show (1 : Nat) ≤ 12; omega
theorem lineP_size {l : List PieceD} (h : validS l = true) {k : Nat} (hk : k < l.length) : (lineP l k).size ≤ 80 ∧ 0 < (lineP l k).size := by
  have h1 := name_size (valid_name h hk)
  have h2 := parT_size h hk
  obtain ⟨_, _, hst, hall⟩ := valid_all h
  have h3 := dec_size (getP l k).each (by have := hst k hk; omega)
  have h4 := dec_size (getP l k).price (by have := hall k hk; omega)
  unfold lineP
  simp only [ByteArray.size_append]
  have s0 : (⟨#[32]⟩ : ByteArray).size = 1 := rfl
  have s1 : (⟨#[10]⟩ : ByteArray).size = 1 := rfl
  omega
theorem textP_size {l : List PieceD} (h : validS l = true) : ∀ k, k ≤ l.length → (textP l k).size ≤ 80 * k ∧ k ≤ (textP l k).size
  | 0, _ => ⟨Nat.le_refl _, Nat.le_refl _⟩
  | k + 1, hk => by
    have ih := textP_size h k (by omega)
    have := lineP_size h (k := k) (by omega)
    simp only [textP, ByteArray.size_append]
    omega

set_option maxRecDepth 100000 in
set_option maxHeartbeats 4000000 in
theorem PiecesTextI_c (A : Option Addr) (n c : Nat) (l : List PieceD) (w : World) (hn : l.length = n) (hm : n ≤ 1048576) (hr : Rd w w.heap.size 4 pcell A l) (ok : ∀ d ∈ l, okP d) (ht : Tab w) :
    Calls Tryd.prog 29 #[.slice A n c] w fun e w' => e = .returned (.string (ptextR l)) ∧ Below w.heap.size w w' := by
  have HN := Lib.hid hn; clear hn
  have HT := Lib.hid ht; clear ht
  go_enter Tryd.func29, Tryd.ntmps29
  go_wp2_with fail
  refine (ValidPiecesI_c A n c l w HN.out hm hr ok).mono ?_
  rintro e w1 ⟨rfl, hb1⟩
  cases hv : validS l
  · have HR := Lib.hid (show ptextR l = ByteArray.empty by unfold ptextR; rw [hv]; rfl)
    go_wp2_with fail
    go_ret
    exact ⟨by rw [HR.out]; rfl, hb1⟩
  have HR := Lib.hid (show ptextR l = textP l n by unfold ptextR; rw [hv, if_pos rfl, HN.out])
  obtain ⟨hn1, hn2, hst, hall⟩ := valid_all hv
  rw [HN.out] at hn1 hn2
  have HST := Lib.hid hst; have HAL := Lib.hid hall; have HV := Lib.hid hv
  clear hst hall hv
  go_wp2_with fail
  go_loopw [3, 12] (fun q i wr => ∃ k : Nat, k ≤ n ∧ i = .int .i64 k ∧ q = .string (textP l k) ∧ Below w.heap.size w wr) (fun _ i _ => n - (intOf i).toNat)
  case atStart => exact ⟨0, Nat.zero_le _, rfl, rfl, hb1⟩
  case round =>
    clear hb1
    obtain ⟨k, hk, rfl, rfl, hb⟩ := hrel
    have hbs := hb.size
    by_cases hlt : k < n
    · have hkl : k < l.length := by rw [HN.out]; exact hlt
      obtain ⟨b, off, rfl, hbl, hc⟩ := (hr.below hb).piece (by omega)
      obtain ⟨d, hd⟩ := get_ex l k hkl
      obtain ⟨g0, g1, g2, g3⟩ := hc k d hd
      have hG := getP_eq hd
      have h1 := name_size (valid_name HV.out hkl)
      have h2 := parT_size HV.out hkl
      have h3 := HST.out k hkl
      have h4 := HAL.out k hkl
      have z0 := textP_size HV.out k (by omega)
      have HLN := Lib.hid (show textP l (k + 1) = textP l k ++ lineP l k from rfl)
      have HPT := Lib.hid (show parT l k = if 0 ≤ (getP l k).parent then (getP l (getP l k).parent.toNat).name else ⟨#[45]⟩ from rfl)
      have HLP := Lib.hid (show lineP l k = (getP l k).name ++ ⟨#[32]⟩ ++ parT l k ++ ⟨#[32]⟩ ++ dec (getP l k).each ++ ⟨#[32]⟩ ++ dec (getP l k).price ++ ⟨#[10]⟩ from rfl)
      rw [hG] at h1 h3 h4 HPT HLP
      have z1 := dec_size d.each (by omega)
      have z2 := dec_size d.price (by omega)
      have HA := Lib.hid (Decimal_c d.each · (by omega))
      have HP := Lib.hid (Decimal_c d.price · (by omega))
      have hpar : -1 ≤ d.parent ∧ d.parent < (k : Int) := ⟨h3.2.2.1, h3.2.2.2⟩
      clear hG h3 h4
      generalize parT l k = PT at *
      generalize lineP l k = LN at *
      generalize textP l k = T at *
      generalize dec d.each = DE at *
      generalize dec d.price = DP at *
      have s0 : (⟨#[32]⟩ : ByteArray).size = 1 := rfl
      have s1 : (⟨#[10]⟩ : ByteArray).size = 1 := rfl
      have s2 : (⟨#[45]⟩ : ByteArray).size = 1 := rfl
      have hf := far (show b < wr.heap.size by omega)
      by_cases hp : 0 ≤ d.parent
      · obtain ⟨p, hpe⟩ := Int.eq_ofNat_of_zero_le hp
        obtain ⟨pd, hpd⟩ := get_ex l p (by omega)
        have e0 := (hc p pd hpd).1
        have HPE := Lib.hid (show PT = pd.name by rw [HPT.out, if_pos hp, hpe, Int.toNat_natCast, getP_eq hpd])
        rw [HPE.out] at h2
        rw [hpe] at g1 hpar
        have hd2 := hd
        clear hc hd hpd hd2 hpe hp
        have p1 : (0 : Int) ≤ (k : Int) := by omega
        have p2 : (k : Int) < (n : Int) := by omega
        have p3 : (0 : Int) ≤ (p : Int) := by omega
        have p4 : (p : Int) < (n : Int) := by omega
        have p5 : p < n := by omega
        go_wp2_with fail
        (refine wp_region_quiet_below (by kernel_rfl) (by kernel_rfl) ?_; (repeat (go_big_quiet_step (first | ((go_at_call_of 63 (Value.int .i64 d.each); exact rg_of (fun w' hb => HA.out w' (HT.out.below (by (repeat' (first | (with_reducible exact Below.refl _ _) | (with_reducible assumption) | (with_reducible refine below_drewN ?_ _) | (with_reducible refine Below.drew ?_) | (with_reducible refine Below.alloc ?_ ?_ _) | (with_reducible refine Below.setCell ?_ ?_ _) | (with_reducible refine via (by with_reducible assumption) ?_ ?_) | go_size))))))) | ((go_at_call_of 63 (Value.int .i64 d.price); exact rg_of (fun w' hb => HP.out w' (HT.out.below (by (repeat' (first | (with_reducible exact Below.refl _ _) | (with_reducible assumption) | (with_reducible refine below_drewN ?_ _) | (with_reducible refine Below.drew ?_) | (with_reducible refine Below.alloc ?_ ?_ _) | (with_reducible refine Below.setCell ?_ ?_ _) | (with_reducible refine via (by with_reducible assumption) ?_ ?_) | go_size)))))))))); refine wpQuiet_nil ?_; refine qg_end ?_; intro wq hbq)
        go_wp2_with fail
        (first | (refine ⟨?_, ?_⟩; rotate_left; (first | (simp [intOf]; done) | (simp [intOf]; omega)); (repeat apply Exists.intro); refine ⟨?_, rfl⟩; exact ⟨k + 1, by omega, by go_num, by rw [HLN.out, HLP.out, HPE.out], by (repeat' (first | (with_reducible exact Below.refl _ _) | (with_reducible assumption) | (with_reducible refine below_drewN ?_ _) | (with_reducible refine Below.drew ?_) | (with_reducible refine Below.alloc ?_ ?_ _) | (with_reducible refine Below.setCell ?_ ?_ _) | (with_reducible refine via (by with_reducible assumption) ?_ ?_) | go_size))⟩) | exact ⟨⟨k + 1, by omega, by go_num, by rw [HLN.out, HLP.out, HPE.out], by (repeat' (first | (with_reducible exact Below.refl _ _) | (with_reducible assumption) | (with_reducible refine below_drewN ?_ _) | (with_reducible refine Below.drew ?_) | (with_reducible refine Below.alloc ?_ ?_ _) | (with_reducible refine Below.setCell ?_ ?_ _) | (with_reducible refine via (by with_reducible assumption) ?_ ?_) | go_size))⟩, by first | (simp [intOf]; done) | (simp [intOf]; omega)⟩)
      · have HPE := Lib.hid (show PT = ⟨#[45]⟩ by rw [HPT.out, if_neg hp])
        clear hc hd
        have p1 : (0 : Int) ≤ (k : Int) := by omega
        have p2 : (k : Int) < (n : Int) := by omega
        have p3 : ¬ (0 : Int) ≤ d.parent := hp
        go_wp2_with fail
        (refine wp_region_quiet_below (by kernel_rfl) (by kernel_rfl) ?_; (repeat (go_big_quiet_step (first | ((go_at_call_of 63 (Value.int .i64 d.each); exact rg_of (fun w' hb => HA.out w' (HT.out.below (by (repeat' (first | (with_reducible exact Below.refl _ _) | (with_reducible assumption) | (with_reducible refine below_drewN ?_ _) | (with_reducible refine Below.drew ?_) | (with_reducible refine Below.alloc ?_ ?_ _) | (with_reducible refine Below.setCell ?_ ?_ _) | (with_reducible refine via (by with_reducible assumption) ?_ ?_) | go_size))))))) | ((go_at_call_of 63 (Value.int .i64 d.price); exact rg_of (fun w' hb => HP.out w' (HT.out.below (by (repeat' (first | (with_reducible exact Below.refl _ _) | (with_reducible assumption) | (with_reducible refine below_drewN ?_ _) | (with_reducible refine Below.drew ?_) | (with_reducible refine Below.alloc ?_ ?_ _) | (with_reducible refine Below.setCell ?_ ?_ _) | (with_reducible refine via (by with_reducible assumption) ?_ ?_) | go_size)))))))))); refine wpQuiet_nil ?_; refine qg_end ?_; intro wq hbq)
        go_wp2_with fail
        (first | (refine ⟨?_, ?_⟩; rotate_left; (first | (simp [intOf]; done) | (simp [intOf]; omega)); (repeat apply Exists.intro); refine ⟨?_, rfl⟩; exact ⟨k + 1, by omega, by go_num, by rw [HLN.out, HLP.out, HPE.out], by (repeat' (first | (with_reducible exact Below.refl _ _) | (with_reducible assumption) | (with_reducible refine below_drewN ?_ _) | (with_reducible refine Below.drew ?_) | (with_reducible refine Below.alloc ?_ ?_ _) | (with_reducible refine Below.setCell ?_ ?_ _) | (with_reducible refine via (by with_reducible assumption) ?_ ?_) | go_size))⟩) | exact ⟨⟨k + 1, by omega, by go_num, by rw [HLN.out, HLP.out, HPE.out], by (repeat' (first | (with_reducible exact Below.refl _ _) | (with_reducible assumption) | (with_reducible refine below_drewN ?_ _) | (with_reducible refine Below.drew ?_) | (with_reducible refine Below.alloc ?_ ?_ _) | (with_reducible refine Below.setCell ?_ ?_ _) | (with_reducible refine via (by with_reducible assumption) ?_ ?_) | go_size))⟩, by first | (simp [intOf]; done) | (simp [intOf]; omega)⟩)
    · obtain rfl : k = n := by omega
      go_wp2_with fail
      go_ret
      exact ⟨by rw [HR.out]; rfl, hb⟩

set_option maxRecDepth 100000 in
set_option maxHeartbeats 4000000 in
theorem l21Text_c (A : Option Addr) (n c : Nat) (l : List PieceD) (W : World) (hn : l.length = n) (hm : n ≤ 1048576) (hr : Rd W W.heap.size 4 pcell A l) (hv : validS l = true) :
    Calls Tryd.prog 60 #[.slice A n c] W fun e w' => e = .returned (.string (textP l n)) ∧ Below W.heap.size W w' := by
  obtain ⟨i0, hi0, hy0, hy1, hy2⟩ := info_parts info_u8
  have HN := Lib.hid hn; clear hn
  have hown0 : (W.alloc (.cells #[] 5)).ownsRow W.heap.size 5 1 (.slice (some ⟨W.heap.size, 0, none⟩) 0 0) 0 [] := World.ownsRow_made W #[] 0 (Nat.le_refl _) (by simp [maxLen]) (by simp)
  obtain ⟨hn1, hn2, hst, hall⟩ := valid_all hv
  rw [HN.out] at hn1 hn2
  have HST := Lib.hid hst; have HAL := Lib.hid hall; have HV := Lib.hid hv
  clear hst hall hv
  go_enter Tryd.func60, Tryd.ntmps60
  go_wp2_with fail
  go_loopw [3, 4] (fun o i wr => ∃ k : Nat, k ≤ n ∧ i = .int .i64 k ∧ Below W.heap.size W wr ∧ wr.ownsRow W.heap.size 5 1 o (textP l k).size (Lib.strCells (textP l k))) (fun _ i _ => n - (intOf i).toNat)
  case atStart => exact ⟨0, Nat.zero_le _, rfl, by (repeat' (first | (with_reducible exact Below.refl _ _) | (with_reducible assumption) | (with_reducible refine below_drewN ?_ _) | (with_reducible refine Below.drew ?_) | (with_reducible refine Below.alloc ?_ ?_ _) | (with_reducible refine Below.setCell ?_ ?_ _) | (with_reducible refine via (by with_reducible assumption) ?_ ?_) | go_size)), hown0⟩
  case round =>
    clear hown0
    obtain ⟨k, hk, rfl, hb, hx⟩ := hrel
    have HX := Lib.hid hx; clear hx
    have hbs := hb.size
    obtain ⟨hcr, hfr⟩ := bcell hb
    by_cases hlt : k < n
    · have hkl : k < l.length := by rw [HN.out]; exact hlt
      obtain ⟨b, off, rfl, hbl, hc⟩ := hr.piece (by omega)
      obtain ⟨d, hd⟩ := get_ex l k hkl
      obtain ⟨g0, g1, g2, g3⟩ := hc k d hd
      have hG := getP_eq hd
      have h1 := name_size (valid_name HV.out hkl)
      have h2 := parT_size HV.out hkl
      have h3 := HST.out k hkl
      have h4 := HAL.out k hkl
      have z0 := textP_size HV.out k (by omega)
      have HLN := Lib.hid (show textP l (k + 1) = textP l k ++ lineP l k from rfl)
      have HPT := Lib.hid (show parT l k = if 0 ≤ (getP l k).parent then (getP l (getP l k).parent.toNat).name else ⟨#[45]⟩ from rfl)
      have HLP := Lib.hid (show lineP l k = (getP l k).name ++ ⟨#[32]⟩ ++ parT l k ++ ⟨#[32]⟩ ++ dec (getP l k).each ++ ⟨#[32]⟩ ++ dec (getP l k).price ++ ⟨#[10]⟩ from rfl)
      rw [hG] at h1 h3 h4 HPT HLP
      have z1 := dec_size d.each (by omega)
      have z2 := dec_size d.price (by omega)
      have HA := Lib.hid (l01Dec_c d.each · (by omega))
      have HP := Lib.hid (l01Dec_c d.price · (by omega))
      have hpb := h4.2.2.2
      have hpar : -1 ≤ d.parent ∧ d.parent < (k : Int) := ⟨h3.2.2.1, h3.2.2.2⟩
      have hpos : 0 < k ↔ 0 ≤ d.parent := by
        unfold parB at hpb
        split at hpb
        · have := eq_of_beq hpb; omega
        · have := inB_iff.1 hpb; omega
      clear hG h3 h4 hpb
      generalize parT l k = PT at *
      generalize lineP l k = LN at *
      generalize textP l k = T at *
      generalize dec d.each = DE at *
      generalize dec d.price = DP at *
      have s0 : (⟨#[32]⟩ : ByteArray).size = 1 := rfl
      have s1 : (⟨#[10]⟩ : ByteArray).size = 1 := rfl
      have s2 : (⟨#[45]⟩ : ByteArray).size = 1 := rfl
      have hf := far (show b < wr.heap.size by omega)
      have p1 : (0 : Int) ≤ (k : Int) := by omega
      have p2 : (k : Int) < (n : Int) := by omega
      have y1 : ¬ 9223372036854775807 < d.name.size + 1 := by omega
      have y2 : ¬ 9223372036854775807 < d.name.size + 1 + PT.size := by omega
      have y3 : ¬ 9223372036854775807 < d.name.size + 1 + PT.size + 1 := by omega
      have y4 : ¬ 9223372036854775807 < d.name.size + 1 + PT.size + 1 + DE.size := by omega
      have y5 : ¬ 9223372036854775807 < d.name.size + 1 + PT.size + 1 + DE.size + 1 := by omega
      have y6 : ¬ 9223372036854775807 < d.name.size + 1 + PT.size + 1 + DE.size + 1 + DP.size := by omega
      have y7 : ¬ 9223372036854775807 < d.name.size + 1 + PT.size + 1 + DE.size + 1 + DP.size + 1 := by omega
      by_cases hp : 0 < k
      · have hp0 := hpos.1 hp
        obtain ⟨p, hpe⟩ := Int.eq_ofNat_of_zero_le hp0
        obtain ⟨pd, hpd⟩ := get_ex l p (by omega)
        have e0 := (hc p pd hpd).1
        have HPE := Lib.hid (show PT = pd.name by rw [HPT.out, if_pos hp0, hpe, Int.toNat_natCast, getP_eq hpd])
        rw [HPE.out] at h2 y2 y3 y4 y5 y6 y7
        rw [hpe] at g1 hpar
        clear hc hd hpd hpe hp0 hpos
        have p3 : (0 : Int) ≤ (p : Int) := by omega
        have p4 : (p : Int) < (n : Int) := by omega
        have p5 : p < n := by omega
        have p6 : (0 : Int) < (k : Int) := by omega
        go_wp2_with fail
        go_region_held3 (fun w' => (∀ b o, b < W.heap.size → w'.cell? ⟨b, o, none⟩ = W.cell? ⟨b, o, none⟩) ∧ Below W.heap.size W w') (exact old_of (by (repeat' (first | (with_reducible exact Below.refl _ _) | (with_reducible assumption) | (with_reducible refine below_drewN ?_ _) | (with_reducible refine Below.drew ?_) | (with_reducible refine Below.alloc ?_ ?_ _) | (with_reducible refine Below.setCell ?_ ?_ _) | (with_reducible refine via (by with_reducible assumption) ?_ ?_) | go_size))))
          (first
            | (go_at_call_of 80 (Value.int .i64 d.each); refine (HA.out _).mono ?_; rintro e w5 ⟨rfl, hb5⟩; have hT5 : Below wr.heap.size wr w5 := (by (repeat' (first | (with_reducible exact Below.refl _ _) | (with_reducible assumption) | (with_reducible refine below_drewN ?_ _) | (with_reducible refine Below.drew ?_) | (with_reducible refine Below.alloc ?_ ?_ _) | (with_reducible refine Below.setCell ?_ ?_ _) | (with_reducible refine via (by with_reducible assumption) ?_ ?_) | go_size))); have hS5 : Below W.heap.size W w5 := (by (repeat' (first | (with_reducible exact Below.refl _ _) | (with_reducible assumption) | (with_reducible refine below_drewN ?_ _) | (with_reducible refine Below.drew ?_) | (with_reducible refine Below.alloc ?_ ?_ _) | (with_reducible refine Below.setCell ?_ ?_ _) | (with_reducible refine via (by with_reducible assumption) ?_ ?_) | go_size))); obtain ⟨hc5, hf5⟩ := bcell hS5; have hz5 := hT5.size)
            | (go_at_call_of 80 (Value.int .i64 d.price); refine (HP.out _).mono ?_; rintro e w6 ⟨rfl, hb6⟩; have hT6 : Below wr.heap.size wr w6 := (by (repeat' (first | (with_reducible exact Below.refl _ _) | (with_reducible assumption) | (with_reducible refine below_drewN ?_ _) | (with_reducible refine Below.drew ?_) | (with_reducible refine Below.alloc ?_ ?_ _) | (with_reducible refine Below.setCell ?_ ?_ _) | (with_reducible refine via (by with_reducible assumption) ?_ ?_) | go_size))); have hS6 : Below W.heap.size W w6 := (by (repeat' (first | (with_reducible exact Below.refl _ _) | (with_reducible assumption) | (with_reducible refine below_drewN ?_ _) | (with_reducible refine Below.drew ?_) | (with_reducible refine Below.alloc ?_ ?_ _) | (with_reducible refine Below.setCell ?_ ?_ _) | (with_reducible refine via (by with_reducible assumption) ?_ ?_) | go_size))); obtain ⟨hc6, hf6⟩ := bcell hS6; have hz6 := hT6.size)
            | ((refine apps_step (W := W) (.tmp 27) (.tmp 49) (by rfl) (by rfl) Tryd.underlying104 Tryd.underlying9 hi0 hy0 hy1 hy2 (by rfl) (own_call HX.out (by (repeat' (first | (with_reducible exact Below.refl _ _) | (with_reducible assumption) | (with_reducible refine below_drewN ?_ _) | (with_reducible refine Below.drew ?_) | (with_reducible refine Below.alloc ?_ ?_ _) | (with_reducible refine Below.setCell ?_ ?_ _) | (with_reducible refine via (by with_reducible assumption) ?_ ?_) | go_size)))) (by rfl) (by simp only [ByteArray.size_append]; omega) (by (repeat' (first | (with_reducible exact Below.refl _ _) | (with_reducible assumption) | (with_reducible refine below_drewN ?_ _) | (with_reducible refine Below.drew ?_) | (with_reducible refine Below.alloc ?_ ?_ _) | (with_reducible refine Below.setCell ?_ ?_ _) | (with_reducible refine via (by with_reducible assumption) ?_ ?_) | go_size))) (Nat.le_refl _) ?_; intro v3 w3 hown3 _ hb3)))
        have HO := Lib.hid hown3; clear hown3
        go_wp2_with fail
        (first | (refine ⟨?_, ?_⟩; rotate_left; (first | (simp [intOf]; done) | (simp [intOf]; omega)); (repeat apply Exists.intro); refine ⟨?_, rfl⟩; exact ⟨k + 1, by omega, by go_num, hb3, by rw [HLN.out, HLP.out, HPE.out]; exact HO.out⟩) | exact ⟨⟨k + 1, by omega, by go_num, hb3, by rw [HLN.out, HLP.out, HPE.out]; exact HO.out⟩, by first | (simp [intOf]; done) | (simp [intOf]; omega)⟩)
      · have HPE := Lib.hid (show PT = ⟨#[45]⟩ by rw [HPT.out, if_neg (fun h => hp (hpos.2 h))])
        rw [HPE.out, s2] at y2 y3 y4 y5 y6 y7
        clear hc hd hpos
        have p6 : ¬ (0 : Int) < (k : Int) := by omega
        go_wp2_with fail
        go_region_held3 (fun w' => (∀ b o, b < W.heap.size → w'.cell? ⟨b, o, none⟩ = W.cell? ⟨b, o, none⟩) ∧ Below W.heap.size W w') (exact old_of (by (repeat' (first | (with_reducible exact Below.refl _ _) | (with_reducible assumption) | (with_reducible refine below_drewN ?_ _) | (with_reducible refine Below.drew ?_) | (with_reducible refine Below.alloc ?_ ?_ _) | (with_reducible refine Below.setCell ?_ ?_ _) | (with_reducible refine via (by with_reducible assumption) ?_ ?_) | go_size))))
          (first
            | (go_at_call_of 80 (Value.int .i64 d.each); refine (HA.out _).mono ?_; rintro e w5 ⟨rfl, hb5⟩; have hT5 : Below wr.heap.size wr w5 := (by (repeat' (first | (with_reducible exact Below.refl _ _) | (with_reducible assumption) | (with_reducible refine below_drewN ?_ _) | (with_reducible refine Below.drew ?_) | (with_reducible refine Below.alloc ?_ ?_ _) | (with_reducible refine Below.setCell ?_ ?_ _) | (with_reducible refine via (by with_reducible assumption) ?_ ?_) | go_size))); have hS5 : Below W.heap.size W w5 := (by (repeat' (first | (with_reducible exact Below.refl _ _) | (with_reducible assumption) | (with_reducible refine below_drewN ?_ _) | (with_reducible refine Below.drew ?_) | (with_reducible refine Below.alloc ?_ ?_ _) | (with_reducible refine Below.setCell ?_ ?_ _) | (with_reducible refine via (by with_reducible assumption) ?_ ?_) | go_size))); obtain ⟨hc5, hf5⟩ := bcell hS5; have hz5 := hT5.size)
            | (go_at_call_of 80 (Value.int .i64 d.price); refine (HP.out _).mono ?_; rintro e w6 ⟨rfl, hb6⟩; have hT6 : Below wr.heap.size wr w6 := (by (repeat' (first | (with_reducible exact Below.refl _ _) | (with_reducible assumption) | (with_reducible refine below_drewN ?_ _) | (with_reducible refine Below.drew ?_) | (with_reducible refine Below.alloc ?_ ?_ _) | (with_reducible refine Below.setCell ?_ ?_ _) | (with_reducible refine via (by with_reducible assumption) ?_ ?_) | go_size))); have hS6 : Below W.heap.size W w6 := (by (repeat' (first | (with_reducible exact Below.refl _ _) | (with_reducible assumption) | (with_reducible refine below_drewN ?_ _) | (with_reducible refine Below.drew ?_) | (with_reducible refine Below.alloc ?_ ?_ _) | (with_reducible refine Below.setCell ?_ ?_ _) | (with_reducible refine via (by with_reducible assumption) ?_ ?_) | go_size))); obtain ⟨hc6, hf6⟩ := bcell hS6; have hz6 := hT6.size)
            | ((refine apps_step (W := W) (.tmp 27) (.tmp 49) (by rfl) (by rfl) Tryd.underlying104 Tryd.underlying9 hi0 hy0 hy1 hy2 (by rfl) (own_call HX.out (by (repeat' (first | (with_reducible exact Below.refl _ _) | (with_reducible assumption) | (with_reducible refine below_drewN ?_ _) | (with_reducible refine Below.drew ?_) | (with_reducible refine Below.alloc ?_ ?_ _) | (with_reducible refine Below.setCell ?_ ?_ _) | (with_reducible refine via (by with_reducible assumption) ?_ ?_) | go_size)))) (by rfl) (by simp only [ByteArray.size_append]; omega) (by (repeat' (first | (with_reducible exact Below.refl _ _) | (with_reducible assumption) | (with_reducible refine below_drewN ?_ _) | (with_reducible refine Below.drew ?_) | (with_reducible refine Below.alloc ?_ ?_ _) | (with_reducible refine Below.setCell ?_ ?_ _) | (with_reducible refine via (by with_reducible assumption) ?_ ?_) | go_size))) (Nat.le_refl _) ?_; intro v3 w3 hown3 _ hb3)))
        have HO := Lib.hid hown3; clear hown3
        go_wp2_with fail
        (first | (refine ⟨?_, ?_⟩; rotate_left; (first | (simp [intOf]; done) | (simp [intOf]; omega)); (repeat apply Exists.intro); refine ⟨?_, rfl⟩; exact ⟨k + 1, by omega, by go_num, hb3, by rw [HLN.out, HLP.out, HPE.out]; exact HO.out⟩) | exact ⟨⟨k + 1, by omega, by go_num, hb3, by rw [HLN.out, HLP.out, HPE.out]; exact HO.out⟩, by first | (simp [intOf]; done) | (simp [intOf]; omega)⟩)
    · obtain rfl : k = n := by omega
      have z0 := textP_size HV.out k (by rw [HN.out]; exact Nat.le_refl _)
      have kc := run_text HX.out (by omega)
      go_wp2_with fail
      go_ret
      exact ⟨rfl, hb⟩

set_option maxHeartbeats 1000000 in
theorem PiecesTextS_c (A : Option Addr) (n c : Nat) (l : List PieceD) (w : World) (hn : l.length = n) (hm : n ≤ 1048576) (hr : Rd w w.heap.size 4 pcell A l) (ok : ∀ d ∈ l, okP d) :
    Calls Tryd.prog 27 #[.slice A n c] w fun e w' => e = .returned (.string (ptextR l)) ∧ Below w.heap.size w w' := by
  go_enter Tryd.func27, Tryd.ntmps27
  go_wp2_with fail
  refine (l21OkB_c A n c l w hn hm hr ok).mono ?_
  rintro e w1 ⟨rfl, hb1⟩
  cases hv : validS l
  · have HR := Lib.hid (show ptextR l = ByteArray.empty by unfold ptextR; rw [hv]; rfl)
    go_wp2_with fail
    go_ret
    exact ⟨by rw [HR.out]; rfl, hb1⟩
  · have HR := Lib.hid (show ptextR l = textP l n by unfold ptextR; rw [hv, if_pos rfl, hn])
    have HL := Lib.hid (l21Text_c A n c l w1 hn hm ((hr.below hb1).mono hb1.size) hv)
    clear hv
    go_wp2_with fail
    refine HL.out.mono ?_
    rintro e w2 ⟨rfl, hb2⟩
    go_wp2_with fail
    go_ret
    exact ⟨by rw [HR.out]; rfl, hb1.trans (hb2.mono hb1.size)⟩

end Go.Proofs.YtaebofpgdonnbaaDoor
