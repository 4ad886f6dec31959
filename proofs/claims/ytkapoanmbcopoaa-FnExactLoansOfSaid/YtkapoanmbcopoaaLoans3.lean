/- Plain laws of lists of loans; ValidLoans, both sides. -/
import Derived.Test.YtkapoanmbcopoaaLoans2
set_option linter.unusedVariables false
set_option linter.unusedSimpArgs false
namespace Go.Proofs.Ytkapoanmbcopoaa
open Go.RowKit

instance : Inhabited LoanD := ⟨⟨ByteArray.empty, ByteArray.empty, 0, 0⟩⟩
def getL (l : List LoanD) (i : Nat) : LoanD := l[i]?.getD default
theorem getL_eq {l : List LoanD} {i : Nat} {d : LoanD} (h : l[i]? = some d) : getL l i = d := by rw [getL, h]; rfl

/-- loan i fits to those before it: the reference's test, the program's test -/
def okS (l : List LoanD) (i : Nat) : Bool := loanB (getL l i) && (i == 0 || aheadB (getL l (i - 1)) (getL l i)) && (List.range i).all fun k => !clashB (getL l k) (getL l i)
def okI (l : List LoanD) (i : Nat) : Bool := loanB (getL l i) && (i == 0 || !aheadB (getL l i) (getL l (i - 1))) && (List.range i).all fun k => !clashB (getL l i) (getL l k)
def validS (l : List LoanD) : Bool := (List.range l.length).all (okS l) && decide (l.length ≤ 60)
def validI (l : List LoanD) : Bool := (List.range l.length).all (okI l) && decide (l.length ≤ 60)

theorem clash_symm (x y : LoanD) : clashB x y = clashB y x := by
  have h : (x.ex.toList == y.ex.toList) = (y.ex.toList == x.ex.toList) := Bool.eq_iff_iff.2 (by rw [beq_iff_eq, beq_iff_eq]; exact eq_comm)
  unfold clashB
  rw [h, Bool.and_assoc, Bool.and_assoc, Bool.and_comm (decide (x.fr ≤ y.to))]

theorem less_tri (a b : List UInt8) : (Op.bytesLess a b = true ∧ Op.bytesLess b a = false) ∨ (a = b ∧ Op.bytesLess a b = false) ∨ (Op.bytesLess a b = false ∧ Op.bytesLess b a = true) := by
  induction a generalizing b with
  | nil =>
    cases b with
    | nil => exact .inr (.inl ⟨rfl, rfl⟩)
    | cons y b => exact .inl ⟨rfl, rfl⟩
  | cons x a ih =>
    cases b with
    | nil => exact .inr (.inr ⟨rfl, rfl⟩)
    | cons y b =>
      have e1 : Op.bytesLess (x :: a) (y :: b) = (decide (x < y) || (x == y && Op.bytesLess a b)) := rfl
      have e2 : Op.bytesLess (y :: b) (x :: a) = (decide (y < x) || (y == x && Op.bytesLess b a)) := rfl
      rw [e1, e2]
      rcases Nat.lt_trichotomy x.toNat y.toNat with h | h | h
      · have h1 : x < y := UInt8.lt_iff_toNat_lt.2 h
        have h2 : ¬ y < x := fun h' => by have := UInt8.lt_iff_toNat_lt.1 h'; omega
        have h3 : ¬ y = x := fun h' => by subst h'; omega
        left
        simp [h1, h2, h3]
      · have h0 : x = y := UInt8.toNat_inj.1 h
        subst h0
        have h2 : ¬ x < x := fun h' => by have := UInt8.lt_iff_toNat_lt.1 h'; omega
        rcases ih b with ⟨i1, i2⟩ | ⟨i1, i2⟩ | ⟨i1, i2⟩
        · left; simp [h2, i1, i2]
        · right; left; subst i1; simp [h2, i2]
        · right; right; simp [h2, i1, i2]
      · have h1 : y < x := UInt8.lt_iff_toNat_lt.2 h
        have h2 : ¬ x < y := fun h' => by have := UInt8.lt_iff_toNat_lt.1 h'; omega
        have h3 : ¬ x = y := fun h' => by subst h'; omega
        right; right
        simp [h1, h2, h3]

/-- of two good loans that don't clash one is ahead, and one alone -/
theorem ahead_tri (x y : LoanD) (hx : loanB x = true) (hy : loanB y = true) (hc : clashB y x = false) : aheadB y x = !aheadB x y := by
  have h5 : x.fr ≤ x.to := by
    unfold loanB at hx
    simp only [Bool.and_eq_true, decide_eq_true_eq] at hx
    exact hx.2
  have h6' : y.fr ≤ y.to := by
    unfold loanB at hy
    simp only [Bool.and_eq_true, decide_eq_true_eq] at hy
    exact hy.2
  unfold aheadB
  rcases Int.lt_trichotomy x.fr y.fr with h | h | h
  · have h1 : ¬ y.fr < x.fr := by omega
    have h2 : ¬ y.fr = x.fr := by omega
    simp [h, h1, h2]
  · have h1 : ¬ y.fr < x.fr := by omega
    have h2 : ¬ x.fr < y.fr := by omega
    rcases less_tri y.ex.toList x.ex.toList with ⟨i1, i2⟩ | ⟨i1, i2⟩ | ⟨i1, i2⟩
    · simp [h1, h2, h, i1, i2]
    · exfalso
      unfold clashB at hc
      rw [i1] at hc
      have h6 : y.fr ≤ x.to := by omega
      by_cases h7 : x.fr ≤ y.to
      · simp [h6, h7] at hc
      · omega
    · simp [h1, h2, h, i1, i2]
  · have h1 : ¬ x.fr < y.fr := by omega
    have h2 : ¬ x.fr = y.fr := by omega
    simp [h, h1, h2]

theorem clash_all (l : List LoanD) (i : Nat) : ((List.range i).all fun k => !clashB (getL l i) (getL l k)) = (List.range i).all fun k => !clashB (getL l k) (getL l i) := by
  congr 1
  funext k
  rw [clash_symm]

theorem ok_eq (l : List LoanD) (k : Nat) (h : (List.range k).all (okS l) = true) : okI l k = okS l k := by
  unfold okI okS
  rw [clash_all]
  cases h1 : loanB (getL l k)
  · rfl
  · cases h2 : ((List.range k).all fun j => !clashB (getL l j) (getL l k))
    · simp
    · cases k with
      | zero => rfl
      | succ k =>
        have h3 := List.all_eq_true.1 h k (List.mem_range.2 (Nat.lt_succ_self k))
        have h4 : loanB (getL l k) = true := by
          unfold okS at h3
          simp only [Bool.and_eq_true] at h3
          exact h3.1.1
        have h5 := List.all_eq_true.1 h2 k (List.mem_range.2 (Nat.lt_succ_self k))
        have h6 : clashB (getL l k) (getL l (k + 1)) = false := by simpa using h5
        rw [show k + 1 - 1 = k from rfl, ahead_tri (getL l (k + 1)) (getL l k) h1 h4 h6]

theorem all_ok_eq (l : List LoanD) (k : Nat) : (List.range k).all (okI l) = (List.range k).all (okS l) := by
  induction k with
  | zero => rfl
  | succ k ih =>
    rw [List.range_succ, List.all_append, List.all_append, ih]
    cases h : (List.range k).all (okS l)
    · rfl
    · simp only [List.all_cons, List.all_nil]
      rw [ok_eq l k h]
theorem valid_eq (l : List LoanD) : validI l = validS l := by unfold validI validS; rw [all_ok_eq]

theorem all_range_no (p : Nat → Bool) (n k : Nat) (hk : k < n) (h : p k = false) : (List.range n).all p = false := by
  rw [List.all_eq_false]
  exact ⟨k, List.mem_range.2 hk, by simp [h]⟩
theorem validS_no (l : List LoanD) (k : Nat) (hk : k < l.length) (h : okS l k = false) : validS l = false := by unfold validS; rw [all_range_no _ _ k hk h]; rfl
theorem validI_no (l : List LoanD) (k : Nat) (hk : k < l.length) (h : okI l k = false) : validI l = false := by unfold validI; rw [all_range_no _ _ k hk h]; rfl

theorem LoanAt.of_rd {w : World} {b off : Nat} {l : List LoanD} {k : Nat} {d : LoanD} (hc : ∀ i d, l[i]? = some d → w.cell? ⟨b, off + i * 4, none⟩ = some (.string d.ex) ∧ w.cell? ⟨b, off + i * 4 + 1, none⟩ = some (.string d.bo) ∧ w.cell? ⟨b, off + i * 4 + 2, none⟩ = some (.int .i64 d.fr) ∧ w.cell? ⟨b, off + i * 4 + 3, none⟩ = some (.int .i64 d.to)) (h : l[k]? = some d) : LoanAt w b (off + k * 4) d := hc k d h
theorem LoanAt.drewN {w : World} {b o : Nat} {d : LoanD} (h : LoanAt w b o d) (m : Nat) : LoanAt (w.drewN m) b o d := h

def sizesOk (l : List LoanD) : Prop := ∀ d ∈ l, d.ex.size ≤ maxLen ∧ d.bo.size ≤ maxLen

set_option maxHeartbeats 2000000 in
theorem l23Ok_c (A : Option Addr) (n c : Nat) (l : List LoanD) (B : Nat) (w : World) (hn : l.length = n) (hm : n ≤ 1048576) (hr : Rd w B 4 lcell A l) (hs : sizesOk l) :
    Calls Try.prog 46 #[.slice A n c] w fun e w' => e = .returned (.bool (validS l)) ∧ ∃ m, w' = w.drewN m := by
  go_enter Try.func46, Try.ntmps46
  go_wp2
  go_loopw [3] (fun i wr => ∃ k : Nat, k ≤ n ∧ i = .int .i64 k ∧ (List.range k).all (okS l) = true ∧ ∃ m, wr = w.drewN m) (fun i _ => n - (intOf i).toNat)
  case atStart => exact ⟨0, Nat.zero_le _, rfl, by simp, 0, rfl⟩
  case round =>
    obtain ⟨k, hk, rfl, ha, m, hw⟩ := hrel
    have hrw : Rd wr B 4 lcell A l := by rw [hw]; exact hr
    have HA := Lib.hid ha; clear ha
    have HW := Lib.hid hw; clear hw
    by_cases hlt : k < n
    · obtain ⟨b, off, rfl, _, hc⟩ := hrw.loan (by omega)
      obtain ⟨d, ed⟩ := get_ex l k (by omega)
      have hd := hs d (List.mem_of_getElem? ed)
      obtain ⟨k1, k2⟩ := hd
      have hat := Lib.hid (LoanAt.of_rd hc ed)
      have HC := Lib.hid hc
      have hg := getL_eq ed
      have HG := Lib.hid hg; clear hg ed hc
      have HN := Lib.hid hn; clear hn
      have K1 := Lib.hid k1; clear k1
      have K2 := Lib.hid k2; clear k2
      have p1 : (0 : Int) ≤ (k : Int) := by omega
      have p2 : (k : Int) < (n : Int) := by omega
      cases h1 : loanB d
      · have HO := Lib.hid (validS_no l k (by rw [HN.out]; exact hlt) (by unfold okS; rw [HG.out, h1]; rfl))
        go_wp2
        go_quiet (((go_at_call 64; exact Calls.quiet_of (retb (l23One_c d b (off + k * 4) _ K1.out K2.out hat.out) h1))))
        go_wp2_with fail
        go_ret
        exact ⟨ret_bool HO.out.symm, m + nq, by rw [HW.out, World.drewN_drewN]⟩
      · by_cases h0 : k = 0
        · have HB := Lib.hid (show (k == 0 || aheadB (getL l (k - 1)) (getL l k)) = true by simp [h0])
          have q1 : decide (0 < k) = false := by simp [h0]
          have q2 : ¬ 0 < k := by omega
          have H0 := Lib.hid h0; clear h0
          go_wp2
          go_quiet (((go_at_call 64; exact Calls.quiet_of (retb (l23One_c d b (off + k * 4) _ K1.out K2.out hat.out) h1))))
          go_wp2_with fail
          obtain ⟨wo, rfl⟩ : ∃ wo : World, wo = wr := ⟨_, rfl⟩
          go_loopw [4] (fun i wi => ∃ j : Nat, j ≤ k ∧ i = .int .i64 j ∧ (List.range j).all (fun q => !clashB (getL l q) (getL l k)) = true ∧ ∃ m2, wi = wo.drewN m2) (fun i _ => k - (intOf i).toNat)
          case atStart => exact ⟨0, Nat.zero_le _, rfl, by simp, nq, rfl⟩
          case round =>
            obtain ⟨j, hj, rfl, hja, m2, hw2⟩ := hrel
            have HJ := Lib.hid hja; clear hja
            have hrj : Rd wr B 4 lcell (some ⟨b, off, none⟩) l := by rw [hw2]; exact hrw
            have HW2 := Lib.hid hw2; clear hw2
            by_cases hjt : j < k
            · obtain ⟨b1, off1, e1, _, hc1⟩ := hrj.loan (by rw [HN.out]; omega)
              obtain ⟨rfl, rfl⟩ : b1 = b ∧ off1 = off := by cases e1; exact ⟨rfl, rfl⟩
              clear e1
              obtain ⟨d1, ed1⟩ := get_ex l j (by rw [HN.out]; omega)
              have hat1 := Lib.hid (LoanAt.of_rd hc1 ed1)
              have hat0 := Lib.hid (show LoanAt wr b1 (off1 + k * 4) d by rw [HW2.out]; exact hat.out)
              have HG1 := Lib.hid (getL_eq ed1)
              clear hc1 ed1
              have p3 : (0 : Int) ≤ (j : Int) := by omega
              have p4 : (j : Int) < (n : Int) := by omega
              have p5 : (j : Int) < (k : Int) := by omega
              cases h3 : clashB d1 d
              · go_wp2
                go_quiet (((go_at_call 66; exact Calls.quiet_of (retb (l23Clash_c d1 d b1 (off1 + j * 4) b1 (off1 + k * 4) _ hat1.out hat0.out) h3))))
                go_wp2_with fail
                have HS := Lib.hid (all_range_succ _ _ HJ.out (show (!clashB (getL l j) (getL l k)) = true by rw [HG1.out, HG.out, h3]; rfl))
                (first | (refine ⟨?_, ?_⟩; rotate_left; (simp [intOf]; omega); (repeat apply Exists.intro); refine ⟨?_, rfl⟩; exact ⟨j + 1, by omega, by go_num, HS.out, m2 + nq, by rw [HW2.out, World.drewN_drewN]⟩) | exact ⟨⟨j + 1, by omega, by go_num, HS.out, m2 + nq, by rw [HW2.out, World.drewN_drewN]⟩, by simp [intOf]; omega⟩)
              · have HO := Lib.hid (validS_no l k (by rw [HN.out]; exact hlt) (by unfold okS; rw [all_range_no _ k j hjt (by rw [HG1.out, HG.out, h3]; rfl), Bool.and_false]))
                go_wp2
                go_quiet (((go_at_call 66; exact Calls.quiet_of (retb (l23Clash_c d1 d b1 (off1 + j * 4) b1 (off1 + k * 4) _ hat1.out hat0.out) h3))))
                go_wp2_with fail
                go_ret
                exact ⟨ret_bool HO.out.symm, m + (m2 + nq), by rw [HW2.out, HW.out, World.drewN_drewN, World.drewN_drewN]⟩
            · have hjk : j = k := by omega
              have p5 : ¬ (j : Int) < (k : Int) := by omega
              have HS := Lib.hid (all_range_succ (okS l) k HA.out (by have h6 := HJ.out; have h7 := HB.out; rw [hjk] at h6; unfold okS; rw [h7, h6, HG.out, h1]; rfl))
              clear hjk
              go_wp2_with fail
              (first | (refine ⟨?_, ?_⟩; rotate_left; (simp [intOf]; omega); (repeat apply Exists.intro); refine ⟨?_, rfl⟩; exact ⟨k + 1, by omega, by go_num, HS.out, m + m2, by rw [HW2.out, HW.out, World.drewN_drewN]⟩) | exact ⟨⟨k + 1, by omega, by go_num, HS.out, m + m2, by rw [HW2.out, HW.out, World.drewN_drewN]⟩, by simp [intOf]; omega⟩)
        · obtain ⟨pd, epd⟩ := get_ex l (k - 1) (by rw [HN.out]; omega)
          have hatp := Lib.hid (LoanAt.of_rd HC.out epd)
          have HGp := Lib.hid (getL_eq epd)
          clear epd
          have q1 : 0 < k := by omega
          have e1 : IntKind.i64.wrap ((k : Int) - 1) = (k : Int) - 1 := IntWalk.i64_in _ (by omega)
          have e2 : ((k : Int) - 1).toNat = k - 1 := by omega
          have e3 : (0 : Int) ≤ (k : Int) - 1 := by omega
          have e4 : (1 : Int) ≤ (k : Int) := by omega
          have e5 : (k : Int) - 1 < (n : Int) := by omega
          have e6 : k - 1 < n := by omega
          cases h2 : aheadB pd d
          · have HO := Lib.hid (validS_no l k (by rw [HN.out]; exact hlt) (by unfold okS; rw [HGp.out, HG.out, h2]; simp [h0]))
            go_wp2
            go_quiet (first | ((go_at_call 64; exact Calls.quiet_of (retb (l23One_c d b (off + k * 4) _ K1.out K2.out hat.out) h1))) | ((go_at_call 65; exact Calls.quiet_of (retb (l23Before_c pd d b (off + (k - 1) * 4) b (off + k * 4) _ hatp.out hat.out) h2))))
            go_wp2_with fail
            go_ret
            exact ⟨ret_bool HO.out.symm, m + nq, by rw [HW.out, World.drewN_drewN]⟩
          · have HB := Lib.hid (show (k == 0 || aheadB (getL l (k - 1)) (getL l k)) = true by rw [HGp.out, HG.out, h2]; simp)
            go_wp2
            go_quiet (first | ((go_at_call 64; exact Calls.quiet_of (retb (l23One_c d b (off + k * 4) _ K1.out K2.out hat.out) h1))) | ((go_at_call 65; exact Calls.quiet_of (retb (l23Before_c pd d b (off + (k - 1) * 4) b (off + k * 4) _ hatp.out hat.out) h2))))
            clear e1 e2 e3 e4 e5 e6
            go_wp2_with fail
            obtain ⟨wo, rfl⟩ : ∃ wo : World, wo = wr := ⟨_, rfl⟩
            go_loopw [4] (fun i wi => ∃ j : Nat, j ≤ k ∧ i = .int .i64 j ∧ (List.range j).all (fun q => !clashB (getL l q) (getL l k)) = true ∧ ∃ m2, wi = wo.drewN m2) (fun i _ => k - (intOf i).toNat)
            case atStart => exact ⟨0, Nat.zero_le _, rfl, by simp, nq, rfl⟩
            case round =>
              obtain ⟨j, hj, rfl, hja, m2, hw2⟩ := hrel
              have HJ := Lib.hid hja; clear hja
              have hrj : Rd wr B 4 lcell (some ⟨b, off, none⟩) l := by rw [hw2]; exact hrw
              have HW2 := Lib.hid hw2; clear hw2
              by_cases hjt : j < k
              · obtain ⟨b1, off1, e1, _, hc1⟩ := hrj.loan (by rw [HN.out]; omega)
                obtain ⟨rfl, rfl⟩ : b1 = b ∧ off1 = off := by cases e1; exact ⟨rfl, rfl⟩
                clear e1
                obtain ⟨d1, ed1⟩ := get_ex l j (by rw [HN.out]; omega)
                have hat1 := Lib.hid (LoanAt.of_rd hc1 ed1)
                have hat0 := Lib.hid (show LoanAt wr b1 (off1 + k * 4) d by rw [HW2.out]; exact hat.out)
                have HG1 := Lib.hid (getL_eq ed1)
                clear hc1 ed1
                have p3 : (0 : Int) ≤ (j : Int) := by omega
                have p4 : (j : Int) < (n : Int) := by omega
                have p5 : (j : Int) < (k : Int) := by omega
                cases h3 : clashB d1 d
                · go_wp2
                  go_quiet (((go_at_call 66; exact Calls.quiet_of (retb (l23Clash_c d1 d b1 (off1 + j * 4) b1 (off1 + k * 4) _ hat1.out hat0.out) h3))))
                  go_wp2_with fail
                  have HS := Lib.hid (all_range_succ _ _ HJ.out (show (!clashB (getL l j) (getL l k)) = true by rw [HG1.out, HG.out, h3]; rfl))
                  (first | (refine ⟨?_, ?_⟩; rotate_left; (simp [intOf]; omega); (repeat apply Exists.intro); refine ⟨?_, rfl⟩; exact ⟨j + 1, by omega, by go_num, HS.out, m2 + nq, by rw [HW2.out, World.drewN_drewN]⟩) | exact ⟨⟨j + 1, by omega, by go_num, HS.out, m2 + nq, by rw [HW2.out, World.drewN_drewN]⟩, by simp [intOf]; omega⟩)
                · have HO := Lib.hid (validS_no l k (by rw [HN.out]; exact hlt) (by unfold okS; rw [all_range_no _ k j hjt (by rw [HG1.out, HG.out, h3]; rfl), Bool.and_false]))
                  go_wp2
                  go_quiet (((go_at_call 66; exact Calls.quiet_of (retb (l23Clash_c d1 d b1 (off1 + j * 4) b1 (off1 + k * 4) _ hat1.out hat0.out) h3))))
                  go_wp2_with fail
                  go_ret
                  exact ⟨ret_bool HO.out.symm, m + (m2 + nq), by rw [HW2.out, HW.out, World.drewN_drewN, World.drewN_drewN]⟩
              · have hjk : j = k := by omega
                have p5 : ¬ (j : Int) < (k : Int) := by omega
                have HS := Lib.hid (all_range_succ (okS l) k HA.out (by have h6 := HJ.out; have h7 := HB.out; rw [hjk] at h6; unfold okS; rw [h7, h6, HG.out, h1]; rfl))
                clear hjk
                go_wp2_with fail
                (first | (refine ⟨?_, ?_⟩; rotate_left; (simp [intOf]; omega); (repeat apply Exists.intro); refine ⟨?_, rfl⟩; exact ⟨k + 1, by omega, by go_num, HS.out, m + m2, by rw [HW2.out, HW.out, World.drewN_drewN]⟩) | exact ⟨⟨k + 1, by omega, by go_num, HS.out, m + m2, by rw [HW2.out, HW.out, World.drewN_drewN]⟩, by simp [intOf]; omega⟩)
    · have hkn : k = n := by omega
      have hfin : validS l = decide (n ≤ 60) := by
        have h1 := HA.out
        rw [hkn] at h1
        unfold validS
        rw [hn, h1]; rfl
      have HF := Lib.hid hfin
      by_cases h60 : n ≤ 60
      · go_wp2_with fail
        go_ret
        exact ⟨ret_bool (by rw [HF.out]; simp; omega), m, HW.out⟩
      · go_wp2_with fail
        go_ret
        exact ⟨ret_bool (by rw [HF.out]; simp; omega), m, HW.out⟩

end Go.Proofs.Ytkapoanmbcopoaa
