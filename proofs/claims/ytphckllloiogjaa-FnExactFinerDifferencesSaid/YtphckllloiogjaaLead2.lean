/- Contracts: leading differences of the reference; both sides of LeadingDifferences. -/
import Derived.Test.YtphckllloiogjaaOwn
import Derived.Test.YtphckllloiogjaaLead
set_option linter.unusedVariables false
set_option linter.unusedSimpArgs false
namespace Go.Proofs.Ytphckllloiogjaa
open Go.RowKit

def lenV : Value → Nat
  | .slice _ n _ => n
  | _ => 0

set_option maxHeartbeats 1000000 in
theorem l19Leads_c (A : Option Addr) (n c : Nat) (l : List Int) (w : World) (hn : l.length = n) (hm : n ≤ 1048576) (hA : A = none → n = 0) (hr : Rd w w.heap.size 1 icell A l) :
    Calls Try.prog 54 #[.slice A n c] w fun e w' => ∃ v, e = .returned v ∧ w'.ownsRow w.heap.size 2 1 v n ((leads l).map (Value.int .i64)) ∧ Below w.heap.size w w' := by
  obtain ⟨i0, hi0, hz0, hz1, hz2⟩ := info_parts info_i64
  go_enter Try.func54, Try.ntmps54
  go_wp2_with fail
  refine (l00Own_c A n c l w hn hm hA hr).mono ?_
  rintro e w0 ⟨v0, rfl, hown0, hb0⟩
  obtain ⟨A0, c0, rfl, hA0⟩ := own_form hown0
  have hr0 : Rd w0 w0.heap.size 1 icell A0 l := Rd.of_own icell_len (by decide) (n := n) (c := c0) (by rw [icell_flat]; exact hown0)
  clear hown0
  have hz := hb0.size
  go_wp2_with fail
  go_loopw [3, 4] (fun nw o wr => ∃ k : Nat, k ≤ n ∧ Below w.heap.size w wr ∧ wr.ownsRow w.heap.size 2 1 o k (((leads l).take k).map (Value.int .i64)) ∧
      ∃ A' c', nw = .slice A' (n - k) c' ∧ Rd wr wr.heap.size 1 icell A' (iterD k l) ∧ (∀ a, A' = some a → some a.block ≠ o.ownBlock)) (fun nw _ _ => lenV nw)
  case atStart =>
    refine ⟨0, Nat.zero_le _, by (repeat' (first | (with_reducible exact Below.refl _ _) | (with_reducible assumption) | (with_reducible refine below_drewN ?_ _) | (with_reducible refine Below.drew ?_) | (with_reducible refine Below.alloc ?_ ?_ _) | (with_reducible refine Below.setCell ?_ ?_ _) | (with_reducible refine via (by with_reducible assumption) ?_ ?_) | go_size)), ?_, A0, c0, rfl, (hr0.alloc (Nat.le_refl _) _).mono (by simp), fun a ha => ?_⟩
    · simpa using World.ownsRow_made w0 #[] 0 hz (by simp [maxLen]) (by simp)
    · have := hA0 a ha
      simp [Value.ownBlock]
      omega
  case round =>
    clear hr0 hA0
    obtain ⟨k, hk, hb, hx, A', c', rfl, hrn, hne⟩ := hrel
    have HX := Lib.hid hx; clear hx
    have HE := Lib.hid hne; clear hne
    by_cases hlt : k < n
    · obtain ⟨b, off, rfl, hbl, hc⟩ := hrn.ints' (by rw [iterD_len]; omega)
      obtain ⟨x, ex⟩ := get_ex (iterD k l) 0 (by rw [iterD_len]; omega)
      have g1 : wr.cell? ⟨b, off, none⟩ = some (.int .i64 x) := hc 0 x ex
      have HD := Lib.hid (leads_get l k x (by omega) ex)
      clear hc ex
      have HR := Lib.hid hrn; clear hrn
      have HN := Lib.hid hn; clear hn
      have hbs := hb.size
      have p1 : (0 : Int) < ((n - k : Nat) : Int) := by omega
      have p2 : 0 < n - k := by omega
      have hlen : (iterD k l).length = n - k := by rw [iterD_len, HN.out]
      generalize hq : n - k = q at *
      have HQ := Lib.hid hq; clear hq
      have HLn := Lib.hid hlen; clear hlen
      have hq2 : q ≤ 1048576 := by have := HQ.out; omega
      go_wp2_with (at_builtin; refine app_list (W := w) (z := .int .i64 0) (.tmp 13) (.tmp 17) rfl rfl Try.underlying32 hi0 hz0 hz1 hz2 rfl (by decide) (by decide) rfl (HX.out.alloc _) rfl rfl (news1 (z := .int .i64 x) (by simp [go_sem])) (by simp [Value.oneCell']) (by omega) (by (repeat' (first | (with_reducible exact Below.refl _ _) | (with_reducible assumption) | (with_reducible refine below_drewN ?_ _) | (with_reducible refine Below.drew ?_) | (with_reducible refine Below.alloc ?_ ?_ _) | (with_reducible refine Below.setCell ?_ ?_ _) | (with_reducible refine via (by with_reducible assumption) ?_ ?_) | go_size))) (Nat.le_refl _) ?_; intro v1 w1 hown1 hg1 hblk1 hb1)
      have hr1 : Rd w1 wr.heap.size 1 icell (some ⟨b, off, none⟩) (iterD k l) := (HR.out.alloc (Nat.le_refl _) _).grown hg1 (by simp) (fun a ha => HE.out a ha)
      have hs1 : wr.heap.size ≤ w1.heap.size := by have := hg1.size; simp at this; omega
      have HO := Lib.hid hown1; clear hown1
      have hbw1 := hb1.size
      clear hg1 g1
      go_loopw [5, 6] (fun nx i wi => ∃ j : Nat, (j = 0 ∨ j + 1 ≤ q) ∧ i = .int .i64 ((j : Int) + 1) ∧ Below w1.heap.size w1 wi ∧ wi.ownsRow w1.heap.size 2 1 nx j (((diffs (iterD k l)).take j).map (Value.int .i64))) (fun _ i _ => q - (intOf i).toNat)
      case atStart =>
        exact ⟨0, .inl rfl, rfl, by (repeat' (first | (with_reducible exact Below.refl _ _) | (with_reducible assumption) | (with_reducible refine below_drewN ?_ _) | (with_reducible refine Below.drew ?_) | (with_reducible refine Below.alloc ?_ ?_ _) | (with_reducible refine Below.setCell ?_ ?_ _) | (with_reducible refine via (by with_reducible assumption) ?_ ?_) | go_size)), by simpa using World.ownsRow_made w1 #[] 0 (Nat.le_refl _) (by simp [maxLen]) (by simp)⟩
      case round =>
        obtain ⟨j, hj, rfl, hbi, hxi⟩ := hrel
        have HI := Lib.hid hxi; clear hxi
        have hbis := hbi.size
        by_cases hjt : j + 1 < q
        · obtain ⟨b1, off1, e1, hbl1, hc1⟩ := hr1.ints' (by rw [HLn.out]; omega)
          obtain ⟨rfl, rfl⟩ : b1 = b ∧ off1 = off := by simp at e1; exact ⟨e1.1.symm, e1.2.symm⟩
          clear e1
          obtain ⟨y0, ey0⟩ := get_ex (iterD k l) j (by rw [HLn.out]; omega)
          obtain ⟨y1, ey1⟩ := get_ex (iterD k l) (j + 1) (by rw [HLn.out]; omega)
          have g1 : w1.cell? ⟨b1, off1 + (j + 1), none⟩ = some (.int .i64 y1) := hc1 (j + 1) y1 ey1
          have g2 : w1.cell? ⟨b1, off1 + j, none⟩ = some (.int .i64 y0) := hc1 j y0 ey0
          have HDD := Lib.hid (diffs_get (iterD k l) j y0 y1 ey0 ey1)
          clear hc1 ey0 ey1
          have hbl2 : b1 < w1.heap.size := by omega
          have p3 : (0 : Int) ≤ (j : Int) + 1 := by omega
          have p4 : j < q := by omega
          have e1 : IntKind.i64.wrap (j : Int) = j := IntWalk.i64_in _ (by omega)
          have e3 : IntKind.i64.wrap (y1 - y0) = wrap64 (y1 - y0) := IntWalk.i64_left _
          have p5 : (0 : Int) ≤ (j : Int) := by omega
          have p6 : (j : Int) < (q : Int) := by omega
          have p7 : (j : Int) + 1 < (q : Int) := by omega
          have HRR := Lib.hid hr1; clear hr1
          go_wp2
          go_region_held3 (fun w' => (∀ b o, b < w1.heap.size → w'.cell? ⟨b, o, none⟩ = w1.cell? ⟨b, o, none⟩) ∧ Below w1.heap.size w1 w') (exact old_of (by (repeat' (first | (with_reducible exact Below.refl _ _) | (with_reducible assumption) | (with_reducible refine below_drewN ?_ _) | (with_reducible refine Below.drew ?_) | (with_reducible refine Below.alloc ?_ ?_ _) | (with_reducible refine Below.setCell ?_ ?_ _) | (with_reducible refine via (by with_reducible assumption) ?_ ?_) | go_size))))
            ((refine app_step (W := w1) (z := .int .i64 0) (.tmp 26) (.tmp 37) (by rfl) (by rfl) Try.underlying32 hi0 hz0 hz1 hz2 rfl (by decide) (by decide) (by rfl) ((HI.out.alloc _).drew) (by rfl) (by rfl) (news1 (z := .int .i64 (wrap64 (y1 - y0))) (by simp [go_sem])) (by simp [Value.oneCell']) (by omega) (by (repeat' (first | (with_reducible exact Below.refl _ _) | (with_reducible assumption) | (with_reducible refine below_drewN ?_ _) | (with_reducible refine Below.drew ?_) | (with_reducible refine Below.alloc ?_ ?_ _) | (with_reducible refine Below.setCell ?_ ?_ _) | (with_reducible refine via (by with_reducible assumption) ?_ ?_) | go_size))) (Nat.le_refl _) ?_; intro v3 w3 hown3 _ _ hb3))
          go_wp2_with fail
          go_roundw
          case rel =>
            refine ⟨j + 1, by omega, by go_num, hb3, ?_⟩
            rw [take_snoc' _ _ _ HDD.out]
            simpa using hown3
          case measure => simp [intOf]; omega
        · have hfin : wr.ownsRow w1.heap.size 2 1 u5 (q - 1) ((iterD (k + 1) l).map (Value.int .i64)) := by
            have h1 := HI.out
            have hk' : j = q - 1 := by omega
            rw [List.take_of_length_le (by rw [diffs_len, HLn.out]; omega), hk'] at h1
            exact h1
          obtain ⟨A2, c2, rfl, hA2⟩ := own_form hfin
          have HO2 := Lib.hid hfin; clear hfin
          go_wp2_with fail
          go_roundw
          case rel =>
            have h2 := HO2.out
            have hlt1 := HO.out.lt
            refine ⟨k + 1, by omega, hb1.trans (hbi.mono (by omega)), ?_, A2, c2, by rw [show n - (k + 1) = q - 1 by have := HQ.out; omega], ?_, fun a ha hco => ?_⟩
            · rw [take_snoc' _ _ _ HD.out, List.map_append]
              exact HO.out.kept (row := none) ⟨hbi.os, hbi.tape, hbi.output, hbi.size, fun q hq _ => hbi.block q hq⟩ (by cases hv : v1.ownBlock <;> simp)
            · exact Rd.of_own icell_len (by decide) (n := q - 1) (c := c2) (by rw [icell_flat]; exact h2)
            · have h3 := hA2 a ha
              have h4 := hlt1 a.block hco.symm
              omega
          case measure => simp [lenV]; omega
    · have hkn : k = n := by omega
      subst hkn
      have hfin : wr.ownsRow w.heap.size 2 1 u4 k ((leads l).map (Value.int .i64)) := by
        have h1 := HX.out
        rw [List.take_of_length_le (by rw [leads_len]; omega)] at h1
        exact h1
      have p1 : ¬ (0 : Int) < ((k - k : Nat) : Int) := by omega
      go_wp2
      go_ret
      exact ⟨_, rfl, hfin, hb⟩

end Go.Proofs.Ytphckllloiogjaa
