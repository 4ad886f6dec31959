/- Contracts: the decimal form of a number, both sides. -/
import Derived.Test.YtaebofpgdonnbaaDoorOwn
import Derived.Test.YtaebofpgdonnbaaDoorLawCalls
import Derived.Test.YtaebofpgdonnbaaDoorShelf
import Derived.Lib.AppendIntMem
import Derived.Laws.BytesArg
set_option linter.unusedVariables false
set_option linter.unusedSimpArgs false
namespace Go.Proofs.YtaebofpgdonnbaaDoor
open Go.RowKit Go.Sort

/-- the library's table lies as its initialiser lays it -/
def Tab (w : World) : Prop := Lib.TabIs Tryd.prog w "internal/strconv.uint64pow10" .u64 Lib.pow10Tab
theorem Tab.below {w w' : World} (h : Tab w) (hb : Below w.heap.size w w') : Tab w' := by
  unfold Tab Lib.TabIs World.var? at h ⊢
  cases hg : (Tryd.prog).globalNamed "internal/strconv.uint64pow10" with
  | none => rw [hg] at h; cases h
  | some g =>
    rw [hg] at h
    simp only [Option.bind_some] at h ⊢
    have hlt : g < w.heap.size := by
      rcases Nat.lt_or_ge g w.heap.size with h' | h'
      · exact h'
      · rw [Array.getElem?_eq_none h'] at h; cases h
    rw [hb.block g hlt]
    exact h

def dec (n : Int) : ByteArray := ⟨(Lib.itoa n).toArray⟩
theorem decimal_len (u : Nat) (h : u < 18446744073709551616) : (Lib.decDigits u).length ≤ 20 := by
  rw [Lib.decDigits_length]
  rcases Nat.eq_zero_or_pos u with h0 | h0
  · subst h0; rw [Lib.nDigits_small (by omega)]; omega
  · have h1 := Lib.numDigits_eq u h0 h
    rw [← h1.1]
    split <;> omega
theorem dec_size (n : Int) (h : -9223372036854775808 ≤ n ∧ n ≤ 9223372036854775807) : (dec n).size ≤ 21 := by
  unfold dec Lib.itoa
  split
  · have := decimal_len n.natAbs (by omega)
    simp [ByteArray.size]; omega
  · have := decimal_len n.toNat (by omega)
    simp [ByteArray.size]; omega

set_option maxHeartbeats 400000 in
theorem Decimal_c (n : Int) (w : World) (h : -9223372036854775808 ≤ n ∧ n ≤ 9223372036854775807) (ht : Tab w) :
    Calls Tryd.prog 63 #[.int .i64 n] w fun e w' => e = .returned (.string (dec n)) ∧ Below w.heap.size w w' := by
  have hf : Calls Tryd.prog 98 #[.int .i64 n, .int .i64 10] w fun e w' => e = .returned (.string (dec n)) ∧ Below w.heap.size w w' := by
    go_enter Tryd.func98, Tryd.ntmps98
    go_wp2_with fail
    refine (Tryd.internal_strconv_FormatInt_10 n h.1 h.2 w ht).mono ?_
    rintro e w' ⟨rfl, k, os, rfl⟩
    have hb := Lib.below_grow w.heap.size w (Nat.le_refl _) k os
    go_wp2_with fail
    go_ret
    exact ⟨rfl, hb⟩
  have HF := Lib.hid hf; clear hf
  go_enter Tryd.func63, Tryd.ntmps63
  go_wp2_with fail
  refine HF.out.mono ?_
  rintro e w' ⟨rfl, hb⟩
  go_wp2_with fail
  go_ret
  exact ⟨rfl, hb⟩

def ycell (b : UInt8) : List Value := [.int .u8 (b.toNat : Int)]
theorem ycell_len (b : UInt8) : (ycell b).length = 1 := rfl
theorem ycell_one (b : UInt8) : ∀ u ∈ ycell b, u.oneCell' = true := by simp [ycell, Value.oneCell']
theorem info_u8 : (Tryd.prog.info? 5).map (fun i => (i.zero, i.size, i.bytes)) = some (some (.int .u8 0), 1, 1) := by kernel_rfl
theorem own_lit (w : World) (x : Value) (e : TypeId) : (w.alloc (.cells #[x] e)).ownsRow w.heap.size e 1 (.slice (some ⟨w.heap.size, 0, none⟩) 1 1) 1 [x] :=
  ⟨by simp, .inr ⟨w.heap.size, 1, #[x], rfl, Nat.le_refl _, heap_alloc_new w _, Nat.le_refl _, by simp [maxLen], by simp, by simp⟩⟩
theorem dig_nat (d : Nat) (h : d < 10) : ((UInt8.ofNat (48 + d)).toNat : Int) = 48 + (d : Int) := by
  rw [UInt8.toNat_ofNat']
  have : (48 + d) % 2 ^ 8 = 48 + d := Nat.mod_eq_of_lt (by omega)
  rw [this]; omega
theorem dec_step {u : Nat} {l D : List UInt8} (h0 : 0 < u) (h : Lib.decDigits u ++ l = D) :
    (u / 10 = 0 → UInt8.ofNat (48 + u % 10) :: l = D) ∧ (0 < u / 10 → Lib.decDigits (u / 10) ++ (UInt8.ofNat (48 + u % 10) :: l) = D) := by
  constructor
  · intro hz
    have h10 : u < 10 := by omega
    rw [Lib.decDigits_one h10] at h
    rw [Nat.mod_eq_of_lt h10]; exact h
  · intro hz
    have h10 : ¬ u < 10 := by omega
    rw [Lib.decDigits, dif_neg h10, List.append_assoc] at h
    exact h
theorem str_of (l : List UInt8) : strOfNums (l.map fun b => (b.toNat : Int)) = ⟨l.toArray⟩ := by
  unfold strOfNums
  rw [List.map_map]
  congr 2
  conv => rhs; rw [← List.map_id l]
  apply List.map_congr_left
  intro b _
  simp
theorem minus_app (l : List UInt8) : (⟨#[45]⟩ : ByteArray) ++ ⟨l.toArray⟩ = ⟨(45 :: l).toArray⟩ := by
  apply ByteArray.ext
  rw [ByteArray.data_append]
  simp
set_option maxRecDepth 100000 in
theorem run_bytes {w : World} {b off n c : Nat} {l : List UInt8} (hn : l.length = n) (h : Rd w w.heap.size 1 ycell (some ⟨b, off, none⟩) l) (h0 : 0 < n) :
    (convert 104 9 (.slice (some ⟨b, off, none⟩) n c)).run Tryd.prog w = .ok (.string ⟨l.toArray⟩) w := by
  rw [← str_of]
  obtain ⟨b', off', e, _, hc⟩ := h (by omega)
  injection e with e
  injection e with e1 e2
  subst e1; subst e2
  refine run_convert_bytes_arg w 104 5 Tryd.underlying104 Tryd.underlying5 b off n c (l.map fun b => (b.toNat : Int)) (by rw [List.length_map, hn]) (fun i hi => ?_) _ Tryd.underlying9
  have hi' : i < l.length := by omega
  have := hc i l[i] (List.getElem?_eq_getElem hi') 0 (.int .u8 (l[i].toNat : Int)) rfl
  rw [Nat.mul_one, Nat.add_zero] at this
  rw [this, List.getD_eq_getElem?_getD, List.getElem?_map, List.getElem?_eq_getElem hi']
  rfl







theorem tdec_neg (u : Nat) : Int.tmod (-(u : Int)) 10 = -((u % 10 : Nat) : Int) := by rw [Int.neg_tmod, Int.ofNat_tmod]; rfl
theorem qdec_neg (u : Nat) : Int.tdiv (-(u : Int)) 10 = -((u / 10 : Nat) : Int) := by rw [Int.neg_tdiv, Int.ofNat_tdiv]; rfl

set_option maxRecDepth 100000 in
set_option maxHeartbeats 2000000 in
theorem l01Dec_pos (n : Int) (w : World) (h : -9223372036854775808 ≤ n ∧ n ≤ 9223372036854775807) (hn : 0 < n) :
    Calls Tryd.prog 80 #[.int .i64 n] w fun e w' => e = .returned (.string (dec n)) ∧ Below w.heap.size w w' := by
  obtain ⟨i0, hi0, hi1, hi2, hi3⟩ := info_parts info_u8
  obtain ⟨D, hD⟩ : ∃ D, Lib.decDigits n.natAbs = D := ⟨_, rfl⟩
  have hDl : D.length ≤ 20 := by rw [← hD]; exact decimal_len _ (by omega)
  have HR := Lib.hid (show dec n = ⟨(D).toArray⟩ by unfold dec Lib.itoa; rw [← hD]; rw [if_neg (by omega), show n.toNat = n.natAbs by omega])
  have HD := Lib.hid hD; clear hD
  go_enter Tryd.func80, Tryd.ntmps80
  go_wp2_with fail
  go_loopw [3, 4] (fun o q wr => ∃ (u : Nat) (l : List UInt8) (A : Option Addr) (m c : Nat), q = .int .i64 ((u : Int)) ∧ u ≤ n.natAbs ∧ o = .slice A m c ∧ l.length = m ∧ (A = none → m = 0) ∧ Rd wr wr.heap.size 1 ycell A l ∧ (u = 0 → l = D) ∧ (0 < u → Lib.decDigits u ++ l = D) ∧ Below w.heap.size w wr) (fun _ q _ => (intOf q).natAbs)
  case atStart =>
    refine ⟨n.natAbs, [], some ⟨w.heap.size, 0, none⟩, 0, 0, by congr 1; omega, Nat.le_refl _, rfl, rfl, fun h => (by cases h), Rd.nil, fun h => (by omega), fun _ => by rw [List.append_nil]; exact HD.out, by (repeat' (first | (with_reducible exact Below.refl _ _) | (with_reducible assumption) | (with_reducible refine below_drewN ?_ _) | (with_reducible refine Below.drew ?_) | (with_reducible refine Below.alloc ?_ ?_ _) | (with_reducible refine Below.setCell ?_ ?_ _) | (with_reducible refine via (by with_reducible assumption) ?_ ?_) | go_size))⟩
  case round =>
    obtain ⟨u, l, A, m, c, rfl, hu, rfl, hm, hA, hr, hz, hp, hb⟩ := hrel
    have HR2 := Lib.hid hr; clear hr
    have HM := Lib.hid hm; clear hm
    have HZ := Lib.hid hz; clear hz
    have HP := Lib.hid hp; clear hp
    have hbs := hb.size
    by_cases hu0 : 0 < u
    · obtain ⟨s1, s2⟩ := dec_step hu0 (HP.out hu0)
      have hlen : m ≤ 20 := by rw [← HM.out]; have := congrArg List.length (HP.out hu0); rw [List.length_append] at this; omega
      have HS1 := Lib.hid s1; have HS2 := Lib.hid s2; clear s1 s2
      have HD1 := Lib.hid (dig_nat (u % 10) (by omega))
      have HTM := Lib.hid (tdec_neg u)
      have HQM := Lib.hid (qdec_neg u)
      have d1 : (((u % 10 : Nat) : Int)) = (u : Int) % 10 := by omega
      have q1 : ¬ ((u : Int) = 0) := by omega
      have HYC := Lib.hid (show ycell (UInt8.ofNat (48 + u % 10)) = [.int .u8 (48 + (u : Int) % 10)] by unfold ycell; rw [HD1.out, d1])
      go_wp2_with (at_builtin; (refine apps_list (W := wr) (n := 1) (z := .int .u8 0) (.tmp 21) (.tmp 22) rfl rfl Tryd.underlying104 hi0 hi1 hi2 hi3 rfl (by decide) (by decide) rfl (own_lit wr _ 5) rfl HM.out ycell_len (HR2.out.alloc (Nat.le_refl _) _) ycell_one (by omega) (by (repeat' (first | (with_reducible exact Below.refl _ _) | (with_reducible assumption) | (with_reducible refine below_drewN ?_ _) | (with_reducible refine Below.drew ?_) | (with_reducible refine Below.alloc ?_ ?_ _) | (with_reducible refine Below.setCell ?_ ?_ _) | (with_reducible refine via (by with_reducible assumption) ?_ ?_) | go_size))) (Nat.le_refl _) hA ?_; intro v1 w1 hown1 _ _ hb1))
      obtain ⟨A1, c1, rfl, hA1⟩ := own_form hown1
      have hrd : Rd w1 w1.heap.size 1 ycell A1 (UInt8.ofNat (48 + u % 10) :: l) := Rd.of_own ycell_len (by decide) (n := 1 + m) (c := c1) (by rw [List.flatMap_cons, HYC.out]; exact hown1)
      have hA1n : A1 = none → 1 + m = 0 := fun h => by
        subst h
        rcases hown1.2 with ⟨_, h0⟩ | ⟨g, cap, cur, hv, _⟩
        · exact h0
        · cases hv
      have HRD := Lib.hid hrd; have HOW := Lib.hid hA1n; clear hown1 hrd hA1n hA1
      have hb1w : Below w.heap.size w w1 := hb.trans (hb1.mono hbs)
      (first | (refine ⟨?_, ?_⟩; rotate_left; (first | (simp [intOf]; done) | (simp [intOf]; omega)); (repeat apply Exists.intro); refine ⟨?_, rfl⟩; exact ⟨u / 10, _, A1, 1 + m, c1, ret_val (by omega), by omega, rfl, by rw [List.length_cons, HM.out, Nat.add_comm], HOW.out, HRD.out, fun h => HS1.out h, fun h => HS2.out h, hb1w⟩) | exact ⟨⟨u / 10, _, A1, 1 + m, c1, ret_val (by omega), by omega, rfl, by rw [List.length_cons, HM.out, Nat.add_comm], HOW.out, HRD.out, fun h => HS1.out h, fun h => HS2.out h, hb1w⟩, by first | (simp [intOf]; done) | (simp [intOf]; omega)⟩)
    · have hu00 : u = 0 := by omega
      subst hu00
      have HE := HZ.out rfl
      have hm20 : m ≤ 20 := by rw [← HM.out, HE]; exact hDl
      have hm0 : 0 < m := by
        rw [← HM.out, HE, ← HD.out, Lib.decDigits_length]; exact Lib.nDigits_pos _
      have hA9 : ∃ b o, A = some ⟨b, o, none⟩ := by
        obtain ⟨b, o, e, _⟩ := HR2.out (by rw [HM.out]; exact hm0)
        exact ⟨b, o, e⟩
      obtain ⟨b, o, rfl⟩ := hA9
      have kc := run_bytes (c := c) HM.out HR2.out hm0
      rw [HE] at kc
      have n0 : ¬ n = 0 := by omega
      have n1 : ¬ m = 0 := by omega
      have n2 : (0 : Int) < (m : Int) := by omega
      clear HE
      have HMN := Lib.hid (minus_app D)
      go_wp2_with fail
      go_ret
      exact ⟨by rw [HR.out]; rfl, hb⟩

set_option maxRecDepth 100000 in
set_option maxHeartbeats 2000000 in
theorem l01Dec_neg (n : Int) (w : World) (h : -9223372036854775808 ≤ n ∧ n ≤ 9223372036854775807) (hn : n < 0) :
    Calls Tryd.prog 80 #[.int .i64 n] w fun e w' => e = .returned (.string (dec n)) ∧ Below w.heap.size w w' := by
  obtain ⟨i0, hi0, hi1, hi2, hi3⟩ := info_parts info_u8
  obtain ⟨D, hD⟩ : ∃ D, Lib.decDigits n.natAbs = D := ⟨_, rfl⟩
  have hDl : D.length ≤ 20 := by rw [← hD]; exact decimal_len _ (by omega)
  have HR := Lib.hid (show dec n = ⟨(45 :: D).toArray⟩ by unfold dec Lib.itoa; rw [← hD]; rw [if_pos hn])
  have HD := Lib.hid hD; clear hD
  go_enter Tryd.func80, Tryd.ntmps80
  go_wp2_with fail
  go_loopw [3, 4] (fun o q wr => ∃ (u : Nat) (l : List UInt8) (A : Option Addr) (m c : Nat), q = .int .i64 (-(u : Int)) ∧ u ≤ n.natAbs ∧ o = .slice A m c ∧ l.length = m ∧ (A = none → m = 0) ∧ Rd wr wr.heap.size 1 ycell A l ∧ (u = 0 → l = D) ∧ (0 < u → Lib.decDigits u ++ l = D) ∧ Below w.heap.size w wr) (fun _ q _ => (intOf q).natAbs)
  case atStart =>
    refine ⟨n.natAbs, [], some ⟨w.heap.size, 0, none⟩, 0, 0, by congr 1; omega, Nat.le_refl _, rfl, rfl, fun h => (by cases h), Rd.nil, fun h => (by omega), fun _ => by rw [List.append_nil]; exact HD.out, by (repeat' (first | (with_reducible exact Below.refl _ _) | (with_reducible assumption) | (with_reducible refine below_drewN ?_ _) | (with_reducible refine Below.drew ?_) | (with_reducible refine Below.alloc ?_ ?_ _) | (with_reducible refine Below.setCell ?_ ?_ _) | (with_reducible refine via (by with_reducible assumption) ?_ ?_) | go_size))⟩
  case round =>
    obtain ⟨u, l, A, m, c, rfl, hu, rfl, hm, hA, hr, hz, hp, hb⟩ := hrel
    have HR2 := Lib.hid hr; clear hr
    have HM := Lib.hid hm; clear hm
    have HZ := Lib.hid hz; clear hz
    have HP := Lib.hid hp; clear hp
    have hbs := hb.size
    by_cases hu0 : 0 < u
    · obtain ⟨s1, s2⟩ := dec_step hu0 (HP.out hu0)
      have hlen : m ≤ 20 := by rw [← HM.out]; have := congrArg List.length (HP.out hu0); rw [List.length_append] at this; omega
      have HS1 := Lib.hid s1; have HS2 := Lib.hid s2; clear s1 s2
      have HD1 := Lib.hid (dig_nat (u % 10) (by omega))
      have HTM := Lib.hid (tdec_neg u)
      have HQM := Lib.hid (qdec_neg u)
      have d1 : (((u % 10 : Nat) : Int)) = (u : Int) % 10 := by omega
      have q1 : ¬ (-(u : Int) = 0) := by omega
      by_cases hd0 : 0 < (u : Int) % 10
      · have d2 : ¬ (u : Int) % 10 = 0 := by omega
        have HYC := Lib.hid (show ycell (UInt8.ofNat (48 + u % 10)) = [.int .u8 (48 + (u : Int) % 10)] by unfold ycell; rw [HD1.out, d1])
        go_wp2_with (at_builtin; (refine apps_list (W := wr) (n := 1) (z := .int .u8 0) (.tmp 21) (.tmp 22) rfl rfl Tryd.underlying104 hi0 hi1 hi2 hi3 rfl (by decide) (by decide) rfl (own_lit wr _ 5) rfl HM.out ycell_len (HR2.out.alloc (Nat.le_refl _) _) ycell_one (by omega) (by (repeat' (first | (with_reducible exact Below.refl _ _) | (with_reducible assumption) | (with_reducible refine below_drewN ?_ _) | (with_reducible refine Below.drew ?_) | (with_reducible refine Below.alloc ?_ ?_ _) | (with_reducible refine Below.setCell ?_ ?_ _) | (with_reducible refine via (by with_reducible assumption) ?_ ?_) | go_size))) (Nat.le_refl _) hA ?_; intro v1 w1 hown1 _ _ hb1))
        obtain ⟨A1, c1, rfl, hA1⟩ := own_form hown1
        have hrd : Rd w1 w1.heap.size 1 ycell A1 (UInt8.ofNat (48 + u % 10) :: l) := Rd.of_own ycell_len (by decide) (n := 1 + m) (c := c1) (by rw [List.flatMap_cons, HYC.out]; exact hown1)
        have hA1n : A1 = none → 1 + m = 0 := fun h => by
          subst h
          rcases hown1.2 with ⟨_, h0⟩ | ⟨g, cap, cur, hv, _⟩
          · exact h0
          · cases hv
        have HRD := Lib.hid hrd; have HOW := Lib.hid hA1n; clear hown1 hrd hA1n hA1
        have hb1w : Below w.heap.size w w1 := hb.trans (hb1.mono hbs)
        (first | (refine ⟨?_, ?_⟩; rotate_left; (first | (simp [intOf]; done) | (simp [intOf]; omega)); (repeat apply Exists.intro); refine ⟨?_, rfl⟩; exact ⟨u / 10, _, A1, 1 + m, c1, ret_val (by omega), by omega, rfl, by rw [List.length_cons, HM.out, Nat.add_comm], HOW.out, HRD.out, fun h => HS1.out h, fun h => HS2.out h, hb1w⟩) | exact ⟨⟨u / 10, _, A1, 1 + m, c1, ret_val (by omega), by omega, rfl, by rw [List.length_cons, HM.out, Nat.add_comm], HOW.out, HRD.out, fun h => HS1.out h, fun h => HS2.out h, hb1w⟩, by first | (simp [intOf]; done) | (simp [intOf]; omega)⟩)
      · have d2 : (u : Int) % 10 = 0 := by omega
        have hdz : u % 10 = 0 := by omega
        have HDZ := Lib.hid d2
        have HYC := Lib.hid (show ycell (UInt8.ofNat (48 + u % 10)) = [.int .u8 48] by unfold ycell; rw [HD1.out, d1, d2]; rfl)
        go_wp2_with (at_builtin; (refine apps_list (W := wr) (n := 1) (z := .int .u8 0) (.tmp 21) (.tmp 22) rfl rfl Tryd.underlying104 hi0 hi1 hi2 hi3 rfl (by decide) (by decide) rfl (own_lit wr _ 5) rfl HM.out ycell_len (HR2.out.alloc (Nat.le_refl _) _) ycell_one (by omega) (by (repeat' (first | (with_reducible exact Below.refl _ _) | (with_reducible assumption) | (with_reducible refine below_drewN ?_ _) | (with_reducible refine Below.drew ?_) | (with_reducible refine Below.alloc ?_ ?_ _) | (with_reducible refine Below.setCell ?_ ?_ _) | (with_reducible refine via (by with_reducible assumption) ?_ ?_) | go_size))) (Nat.le_refl _) hA ?_; intro v1 w1 hown1 _ _ hb1))
        obtain ⟨A1, c1, rfl, hA1⟩ := own_form hown1
        have hrd : Rd w1 w1.heap.size 1 ycell A1 (UInt8.ofNat (48 + u % 10) :: l) := Rd.of_own ycell_len (by decide) (n := 1 + m) (c := c1) (by rw [List.flatMap_cons, HYC.out]; exact hown1)
        have hA1n : A1 = none → 1 + m = 0 := fun h => by
          subst h
          rcases hown1.2 with ⟨_, h0⟩ | ⟨g, cap, cur, hv, _⟩
          · exact h0
          · cases hv
        have HRD := Lib.hid hrd; have HOW := Lib.hid hA1n; clear hown1 hrd hA1n hA1
        have hb1w : Below w.heap.size w w1 := hb.trans (hb1.mono hbs)
        (first | (refine ⟨?_, ?_⟩; rotate_left; (first | (simp [intOf]; done) | (simp [intOf]; omega)); (repeat apply Exists.intro); refine ⟨?_, rfl⟩; exact ⟨u / 10, _, A1, 1 + m, c1, ret_val (by omega), by omega, rfl, by rw [List.length_cons, HM.out, Nat.add_comm], HOW.out, HRD.out, fun h => HS1.out h, fun h => HS2.out h, hb1w⟩) | exact ⟨⟨u / 10, _, A1, 1 + m, c1, ret_val (by omega), by omega, rfl, by rw [List.length_cons, HM.out, Nat.add_comm], HOW.out, HRD.out, fun h => HS1.out h, fun h => HS2.out h, hb1w⟩, by first | (simp [intOf]; done) | (simp [intOf]; omega)⟩)
    · have hu00 : u = 0 := by omega
      subst hu00
      have HE := HZ.out rfl
      have hm20 : m ≤ 20 := by rw [← HM.out, HE]; exact hDl
      have hm0 : 0 < m := by
        rw [← HM.out, HE, ← HD.out, Lib.decDigits_length]; exact Lib.nDigits_pos _
      have hA9 : ∃ b o, A = some ⟨b, o, none⟩ := by
        obtain ⟨b, o, e, _⟩ := HR2.out (by rw [HM.out]; exact hm0)
        exact ⟨b, o, e⟩
      obtain ⟨b, o, rfl⟩ := hA9
      have kc := run_bytes (c := c) HM.out HR2.out hm0
      rw [HE] at kc
      have n0 : ¬ n = 0 := by omega
      have n1 : ¬ m = 0 := by omega
      have n2 : (0 : Int) < (m : Int) := by omega
      have hsz : (⟨#[45]⟩ : ByteArray).size + (⟨D.toArray⟩ : ByteArray).size ≤ 9223372036854775807 := by simp [ByteArray.size]; omega
      have hs2 : ¬ 9223372036854775807 < (⟨#[45]⟩ : ByteArray).size + (⟨D.toArray⟩ : ByteArray).size := by omega
      clear HE
      have HMN := Lib.hid (minus_app D)
      go_wp2_with fail
      go_ret
      exact ⟨by rw [HR.out, HMN.out]; rfl, hb⟩

set_option maxHeartbeats 400000 in
theorem l01Dec_zero (w : World) : Calls Tryd.prog 80 #[.int .i64 0] w fun e w' => e = .returned (.string (dec 0)) ∧ Below w.heap.size w w' := by
  have HR := Lib.hid (show dec 0 = ⟨#[48]⟩ by unfold dec Lib.itoa; rw [if_neg (by omega), show (0 : Int).toNat = 0 from rfl, Lib.decDigits_one (by omega)]; rfl)
  go_enter Tryd.func80, Tryd.ntmps80
  go_wp2_with fail
  refine wp_loop_rounds 1 ?_
  rw [rounds_succ]
  go_wp2_with fail
  go_ret
  refine ⟨by rw [HR.out]; rfl, ?_⟩
  (repeat' (first | (with_reducible exact Below.refl _ _) | (with_reducible assumption) | (with_reducible refine below_drewN ?_ _) | (with_reducible refine Below.drew ?_) | (with_reducible refine Below.alloc ?_ ?_ _) | (with_reducible refine Below.setCell ?_ ?_ _) | (with_reducible refine via (by with_reducible assumption) ?_ ?_) | go_size))
theorem l01Dec_c (n : Int) (w : World) (h : -9223372036854775808 ≤ n ∧ n ≤ 9223372036854775807) :
    Calls Tryd.prog 80 #[.int .i64 n] w fun e w' => e = .returned (.string (dec n)) ∧ Below w.heap.size w w' := by
  rcases Int.lt_trichotomy n 0 with h1 | h1 | h1
  · exact l01Dec_neg n w h h1
  · subst h1; exact l01Dec_zero w
  · exact l01Dec_pos n w h h1
end Go.Proofs.YtaebofpgdonnbaaDoor
