/- Contracts: lists of numbers whose elements lie within bounds; both sides of LeadingDifferences. -/
import Derived.Test.YtphckllloiogjaaLead2
import Derived.Test.YtphckllloiogjaaFracFn
set_option linter.unusedVariables false
set_option linter.unusedSimpArgs false
namespace Go.Proofs.Ytphckllloiogjaa
open Go.RowKit

theorem all_take_succ {α : Type} (p : α → Bool) (l : List α) (k : Nat) (x : α) (h : l[k]? = some x) (ha : (l.take k).all p = true) (hp : p x = true) : (l.take (k + 1)).all p = true := by
  rw [take_snoc' _ _ _ h, List.all_append, ha]; simp [hp]
theorem all_no {α : Type} (p : α → Bool) (l : List α) (k : Nat) (x : α) (h : l[k]? = some x) (hp : p x = false) : l.all p = false := by
  rw [List.all_eq_false]
  exact ⟨x, List.mem_of_getElem? h, by simp [hp]⟩

def knownB (l : List Int) : Bool := l.all (fun v => inB v (-100000) 100000) && inB l.length 1 6

set_option maxHeartbeats 400000 in
theorem areKnown_c (A : Option Addr) (n c : Nat) (l : List Int) (B : Nat) (w : World) (hn : l.length = n) (hm : n ≤ 1048576) (hr : Rd w B 1 icell A l) :
    Calls Try.prog 55 #[.slice A n c] w fun e w' => e = .returned (.bool (knownB l)) ∧ w = w' := by
  go_enter Try.func55, Try.ntmps55
  go_wp2
  go_loop [7] (fun i => ∃ k : Nat, k ≤ n ∧ i = .int .i64 k ∧ (l.take k).all (fun v => inB v (-100000) 100000) = true) (fun i => n - (intOf i).toNat)
  case atStart => exact ⟨0, Nat.zero_le _, rfl, by simp⟩
  case round =>
    obtain ⟨k, hk, rfl, ha⟩ := hrel
    have HA := Lib.hid ha; clear ha
    by_cases hlt : k < n
    · obtain ⟨b, off, rfl, _, hc⟩ := hr.ints' (by omega)
      obtain ⟨x, ex⟩ := get_ex l k (by omega)
      have g1 : w.cell? ⟨b, off + k, none⟩ = some (.int .i64 x) := hc k x ex
      have EX := Lib.hid ex; clear ex hc
      cases hp : inB x (-100000) 100000
      · go_wp2_with (go_at_call 61; refine (between_c _ _ _ _).mono ?_; rintro e w' ⟨rfl, rfl⟩)
        go_ret
        exact ⟨ret_bool (by rw [knownB, all_no _ _ _ _ EX.out hp]; rfl), rfl⟩
      · go_wp2_with (go_at_call 61; refine (between_c _ _ _ _).mono ?_; rintro e w' ⟨rfl, rfl⟩)
        go_round
        case rel => exact ⟨k + 1, by omega, by go_num, all_take_succ _ _ _ _ EX.out HA.out hp⟩
        case measure => simp [intOf]; omega
    · have hfin : l.all (fun v => inB v (-100000) 100000) = true := by have := HA.out; rwa [List.take_of_length_le (by omega)] at this
      have HF := Lib.hid hfin; clear hfin
      go_wp2_with (go_at_call 61; refine (between_c _ _ _ _).mono ?_; rintro e w' ⟨rfl, rfl⟩)
      go_ret
      exact ⟨ret_bool (by rw [knownB, HF.out, hn]; rfl), rfl⟩

set_option maxHeartbeats 400000 in
theorem l19Values_c (A : Option Addr) (n c : Nat) (l : List Int) (B : Nat) (w : World) (hn : l.length = n) (hm : n ≤ 1048576) (hr : Rd w B 1 icell A l) :
    Calls Try.prog 53 #[.slice A n c] w fun e w' => e = .returned (.bool (knownB l)) ∧ w = w' := by
  go_enter Try.func53, Try.ntmps53
  go_wp2
  go_loop [3] (fun i => ∃ k : Nat, k ≤ n ∧ i = .int .i64 k ∧ (l.take k).all (fun v => inB v (-100000) 100000) = true) (fun i => n - (intOf i).toNat)
  case atStart => exact ⟨0, Nat.zero_le _, rfl, by simp⟩
  case round =>
    obtain ⟨k, hk, rfl, ha⟩ := hrel
    have HA := Lib.hid ha; clear ha
    by_cases hlt : k < n
    · obtain ⟨b, off, rfl, _, hc⟩ := hr.ints' (by omega)
      obtain ⟨x, ex⟩ := get_ex l k (by omega)
      have g1 : w.cell? ⟨b, off + k, none⟩ = some (.int .i64 x) := hc k x ex
      have EX := Lib.hid ex; clear ex hc
      cases hp : inB x (-100000) 100000
      · go_wp2_with (go_at_call 58; refine (l00In_c _ _ _ _).mono ?_; rintro e w' ⟨rfl, rfl⟩)
        go_ret
        exact ⟨ret_bool (by rw [knownB, all_no _ _ _ _ EX.out hp]; rfl), rfl⟩
      · go_wp2_with (go_at_call 58; refine (l00In_c _ _ _ _).mono ?_; rintro e w' ⟨rfl, rfl⟩)
        go_round
        case rel => exact ⟨k + 1, by omega, by go_num, all_take_succ _ _ _ _ EX.out HA.out hp⟩
        case measure => simp [intOf]; omega
    · have hfin : l.all (fun v => inB v (-100000) 100000) = true := by have := HA.out; rwa [List.take_of_length_le (by omega)] at this
      have HF := Lib.hid hfin; clear hfin
      go_wp2_with (go_at_call 58; refine (l00In_c _ _ _ _).mono ?_; rintro e w' ⟨rfl, rfl⟩)
      go_ret
      exact ⟨ret_bool (by rw [knownB, HF.out, hn]; rfl), rfl⟩

/-- the numbers handed back, and the code -/
def leadRes (l : List Int) : List Int × Int := if knownB l then (leads l, 0) else ([], 2)

theorem leadRes_len (l : List Int) : (leadRes l).1.length ≤ l.length := by
  unfold leadRes
  split
  · rw [leads_len]; exact Nat.le_refl _
  · exact Nat.zero_le _

set_option maxHeartbeats 400000 in
theorem LeadingDifferencesI_c (A : Option Addr) (n c : Nat) (l : List Int) (w : World) (hn : l.length = n) (hm : n ≤ 1048576) (_ : A = none → n = 0) (hr : Rd w w.heap.size 1 icell A l) :
    Calls Try.prog 21 #[.slice A n c] w fun e w' => ∃ v, e = .returned (.tuple #[v, .int .i64 (leadRes l).2]) ∧ w'.ownsRow w.heap.size 2 1 v (leadRes l).1.length ((leadRes l).1.map (Value.int .i64)) ∧ Below w.heap.size w w' := by
  cases hp : knownB l
  · rw [leadRes, hp]
    go_enter Try.func21, Try.ntmps21
    go_wp2_with (go_at_call 55; refine (areKnown_c _ _ _ _ _ _ hn hm hr).mono ?_; rintro e w' ⟨rfl, rfl⟩)
    go_ret2
    exact ⟨_, rfl, by simpa using World.ownsRow_nil w _ _ _, Below.refl _ _⟩
  · rw [leadRes, hp]
    simp only [if_true, leads_len, hn]
    go_enter Try.func21, Try.ntmps21
    go_wp2_with (go_at_call 55; refine (areKnown_c _ _ _ _ _ _ hn hm hr).mono ?_; rintro e w' ⟨rfl, rfl⟩)
    refine (leading_c A n c l w hn hm hr).mono ?_
    rintro e w1 ⟨v, rfl, hown, hb⟩
    go_wp2_with fail
    go_ret2
    exact ⟨_, rfl, hown, hb⟩

set_option maxHeartbeats 400000 in
theorem LeadingDifferencesS_c (A : Option Addr) (n c : Nat) (l : List Int) (w : World) (hn : l.length = n) (hm : n ≤ 1048576) (hA : A = none → n = 0) (hr : Rd w w.heap.size 1 icell A l) :
    Calls Try.prog 19 #[.slice A n c] w fun e w' => ∃ v, e = .returned (.tuple #[v, .int .i64 (leadRes l).2]) ∧ w'.ownsRow w.heap.size 2 1 v (leadRes l).1.length ((leadRes l).1.map (Value.int .i64)) ∧ Below w.heap.size w w' := by
  cases hp : knownB l
  · rw [leadRes, hp]
    go_enter Try.func19, Try.ntmps19
    go_wp2_with (go_at_call 53; refine (l19Values_c _ _ _ _ _ _ hn hm hr).mono ?_; rintro e w' ⟨rfl, rfl⟩)
    go_ret2
    exact ⟨_, rfl, by simpa using World.ownsRow_nil w _ _ _, Below.refl _ _⟩
  · rw [leadRes, hp]
    simp only [if_true, leads_len, hn]
    go_enter Try.func19, Try.ntmps19
    go_wp2_with (go_at_call 53; refine (l19Values_c _ _ _ _ _ _ hn hm hr).mono ?_; rintro e w' ⟨rfl, rfl⟩)
    refine (l19Leads_c A n c l w hn hm hA hr).mono ?_
    rintro e w1 ⟨v, rfl, hown, hb⟩
    go_wp2_with fail
    go_ret2
    exact ⟨_, rfl, hown, hb⟩

end Go.Proofs.Ytphckllloiogjaa
