/- Contracts: leading differences; LeadingDifferences. -/
import Derived.Test.YtphckllloiogjaaDiffs
set_option linter.unusedVariables false
set_option linter.unusedSimpArgs false
namespace Go.Proofs.Ytphckllloiogjaa
open Go.RowKit

def iterD : Nat → List Int → List Int
  | 0, l => l
  | k + 1, l => diffs (iterD k l)
theorem iterD_len (k : Nat) (l : List Int) : (iterD k l).length = l.length - k := by
  induction k with
  | zero => simp [iterD]
  | succ k ih => rw [iterD, diffs_len, ih]; omega
def leads (l : List Int) : List Int := (List.range l.length).map fun k => (iterD k l)[0]?.getD 0
theorem leads_len (l : List Int) : (leads l).length = l.length := by simp [leads]
theorem leads_get (l : List Int) (k : Nat) (x : Int) (hk : k < l.length) (hx : (iterD k l)[0]? = some x) : (leads l)[k]? = some x := by
  simp [leads, hk, hx]

set_option maxHeartbeats 1000000 in
theorem leading_c (A : Option Addr) (n c : Nat) (l : List Int) (w : World) (hn : l.length = n) (hm : n ≤ 1048576) (hr : Rd w w.heap.size 1 icell A l) :
    Calls Try.prog 56 #[.slice A n c, .int .i64 n] w fun e w' => ∃ v, e = .returned v ∧ w'.ownsRow w.heap.size 2 1 v n ((leads l).map (Value.int .i64)) ∧ Below w.heap.size w w' := by
  obtain ⟨i0, hi0, hz0, hz1, hz2⟩ := info_parts info_i64
  have hblk : ∀ a, A = some a → 0 < n → a.block < w.heap.size := fun a ha h0 => by
    obtain ⟨b, off, e, hb, _⟩ := hr (by omega)
    rw [ha] at e; injection e with e; subst e; exact hb
  go_enter Try.func56, Try.ntmps56
  go_wp2
  go_loopw [5, 6, 10] (fun o nw i wr => ∃ k : Nat, k ≤ n ∧ i = .int .i64 k ∧ Below w.heap.size w wr ∧ wr.ownsRow w.heap.size 2 1 o k (((leads l).take k).map (Value.int .i64)) ∧
      ∃ A' c', nw = .slice A' (n - k) c' ∧ Rd wr wr.heap.size 1 icell A' (iterD k l) ∧ (∀ a, A' = some a → k < n → some a.block ≠ o.ownBlock)) (fun _ _ i _ => n - (intOf i).toNat)
  case atStart =>
    refine ⟨0, Nat.zero_le _, rfl, by (repeat' (first | (with_reducible exact Below.refl _ _) | (with_reducible assumption) | (with_reducible refine below_drewN ?_ _) | (with_reducible refine Below.drew ?_) | (with_reducible refine Below.alloc ?_ ?_ _) | (with_reducible refine Below.setCell ?_ ?_ _) | (with_reducible refine via (by with_reducible assumption) ?_ ?_) | go_size)), by simpa using World.ownsRow_made w #[] 0 (Nat.le_refl _) (by simp [maxLen]) (by simp), A, c, rfl, (hr.alloc (Nat.le_refl _) _).mono (by simp), fun a ha h0 => ?_⟩
    have := hblk a ha h0
    simp [Value.ownBlock]
    omega
  case round =>
    obtain ⟨k, hk, rfl, hb, hx, A', c', rfl, hrn, hne⟩ := hrel
    have HX := Lib.hid hx; clear hx
    have HE := Lib.hid hne; clear hne
    by_cases hlt : k < n
    · obtain ⟨b, off, rfl, hbl, hc⟩ := hrn.ints' (by rw [iterD_len]; omega)
      obtain ⟨x, ex⟩ := get_ex (iterD k l) 0 (by rw [iterD_len]; omega)
      have g1 : wr.cell? ⟨b, off, none⟩ = some (.int .i64 x) := hc 0 x ex
      have HD := Lib.hid (leads_get l k x (by omega) ex)
      clear hc ex
      have HR := Lib.hid hrn; clear hrn
      have HN := Lib.hid hn; clear hn
      have hbs := hb.size
      have p1 : (0 : Int) < ((n - k : Nat) : Int) := by omega
      have p2 : 0 < n - k := by omega
      go_wp2_with (at_builtin; refine app_list (W := w) (z := .int .i64 0) (.tmp 12) (.tmp 16) rfl rfl Try.underlying32 hi0 hz0 hz1 hz2 rfl (by decide) (by decide) rfl (HX.out.alloc _) rfl rfl (news1 (z := .int .i64 x) (by simp [go_sem])) (by simp [Value.oneCell']) (by omega) (by (repeat' (first | (with_reducible exact Below.refl _ _) | (with_reducible assumption) | (with_reducible refine below_drewN ?_ _) | (with_reducible refine Below.drew ?_) | (with_reducible refine Below.alloc ?_ ?_ _) | (with_reducible refine Below.setCell ?_ ?_ _) | (with_reducible refine via (by with_reducible assumption) ?_ ?_) | go_size))) (Nat.le_refl _) ?_; intro v1 w1 hown1 hg1 hblk1 hb1)
      have hr1 : Rd w1 wr.heap.size 1 icell (some ⟨b, off, none⟩) (iterD k l) := (HR.out.alloc (Nat.le_refl _) _).grown hg1 (by simp) (fun a ha => HE.out a ha hlt)
      have hs1 : wr.heap.size ≤ w1.heap.size := by have := hg1.size; simp at this; omega
      have HO := Lib.hid hown1; clear hown1
      refine (lessBefore_c _ (n - k) _ (iterD k l) _ (by rw [iterD_len, HN.out]) (by omega) (hr1.mono hs1)).mono ?_
      rintro e w2 ⟨v2, rfl, hown2, hb2⟩
      obtain ⟨A2, c2, rfl, hA2⟩ := own_form hown2
      have HO2 := Lib.hid hown2; clear hown2
      clear hg1
      go_wp2_with fail
      go_roundw
      case rel =>
        have h2 := HO2.out
        have hlt1 := HO.out.lt
        refine ⟨k + 1, by omega, by go_num, hb1.trans (hb2.mono (by omega)), ?_, A2, c2, by rw [show n - (k + 1) = n - k - 1 by omega], ?_, fun a ha h0 hco => ?_⟩
        · rw [take_snoc' _ _ _ HD.out, List.map_append]
          exact HO.out.kept (row := none) ⟨hb2.os, hb2.tape, hb2.output, hb2.size, fun q hq _ => hb2.block q hq⟩ (by cases hv : v1.ownBlock <;> simp)
        · have := Rd.of_own icell_len (by decide) (l := iterD (k + 1) l) (n := n - k - 1) (c := c2) (A := A2) (by rw [icell_flat]; exact h2)
          exact this
        · have h3 := hA2 a ha
          have h4 := hlt1 a.block hco.symm
          omega
      case measure => simp [intOf]; omega
    · have hkn : k = n := by omega
      subst hkn
      have hfin : wr.ownsRow w.heap.size 2 1 u5 k ((leads l).map (Value.int .i64)) := by
        have h1 := HX.out
        rw [List.take_of_length_le (by rw [leads_len]; omega)] at h1
        exact h1
      go_wp2
      go_ret
      exact ⟨_, rfl, hfin, hb⟩

end Go.Proofs.Ytphckllloiogjaa
