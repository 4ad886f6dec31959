/- Contracts: the loans of a borrower, both sides. -/
import Derived.Test.YtkapoanmbcopoaaLoans7
import Derived.Test.YtkapoanmbcopoaaRows3
set_option linter.unusedVariables false
set_option linter.unusedSimpArgs false
namespace Go.Proofs.Ytkapoanmbcopoaa
open Go.RowKit

def ofB (bo : ByteArray) (d : LoanD) : Bool := d.bo.toList == bo.toList
def loansOfR (l : List LoanD) (bo : ByteArray) : List LoanD × Int := if validS l = true then (l.filter (ofB bo), 0) else ([], 1)
theorem loansOfR_len (l : List LoanD) (bo : ByteArray) : (loansOfR l bo).1.length ≤ l.length := by
  unfold loansOfR
  split
  · exact List.length_filter_le _ _
  · simp
theorem no_loans {w : World} {base : Nat} {e : TypeId} {l : List LoanD} (h : l = []) : w.ownsRow base e 4 (.slice none 0 0) l.length (l.flatMap lcell) := by subst h; exact World.ownsRow_nil _ _ _ _

set_option maxHeartbeats 2000000 in
theorem LoansOfI_c (A : Option Addr) (n c : Nat) (l : List LoanD) (bo : ByteArray) (w : World) (hn : l.length = n) (hm : n ≤ 1048576) (hcap : n ≤ c) (hr : Rd w w.heap.size 4 lcell A l) (ok : ∀ d ∈ l, okL d) (_ : bo.size ≤ 1048576) :
    Calls Try.prog 33 #[.slice A n c, .string bo] w fun e w' => ∃ v, e = .returned (.tuple #[v, .int .i64 (loansOfR l bo).2]) ∧ w'.ownsRow w.heap.size 54 4 v (loansOfR l bo).1.length ((loansOfR l bo).1.flatMap lcell) ∧ Below w.heap.size w w' := by
  obtain ⟨i0, hi0, hz0, hz1, hz2⟩ := info_parts info_loan
  have HN := Lib.hid hn; clear hn
  cases hv : validS l
  · have HR := Lib.hid (show loansOfR l bo = ([], 1) by unfold loansOfR; rw [hv]; rfl)
    go_enter Try.func33, Try.ntmps33
    go_wp2_with fail
    refine (retb (ValidLoansI_c A n c l _ HN.out hm hcap hr ok) hv).mono ?_
    rintro e w1 ⟨rfl, hb1⟩
    go_wp2_with fail
    refine bodyPost_ret (v := .tuple #[.slice none 0 0, .int .i64 1]) (by simp only [results, Try.results33]; go_simp) rfl ⟨.slice none 0 0, by rw [HR.out], no_loans (by rw [HR.out]), hb1⟩
  have HR := Lib.hid (show loansOfR l bo = (l.filter (ofB bo), 0) by unfold loansOfR; rw [hv, if_pos rfl])
  go_enter Try.func33, Try.ntmps33
  go_wp2_with fail
  refine (retb (ValidLoansI_c A n c l _ HN.out hm hcap hr ok) hv).mono ?_
  rintro e w1 ⟨rfl, hb1⟩
  have hb1s := hb1.size
  go_wp2_with fail
  have hown0 : (w1.alloc (.cells #[] 54)).ownsRow w.heap.size 54 4 (.slice (some ⟨w1.heap.size, 0, none⟩) 0 0) 0 [] := World.ownsRow_made w1 #[] 0 hb1s (by simp [maxLen]) (by simp)
  clear hv
  go_loopw [6, 15] (fun o i wr => ∃ k : Nat, ∃ acc : List LoanD, k ≤ n ∧ i = .int .i64 k ∧ acc.length ≤ k ∧ acc = (l.take k).filter (ofB bo) ∧ Below w.heap.size w wr ∧ wr.ownsRow w.heap.size 54 4 o acc.length (acc.flatMap lcell)) (fun _ i _ => n - (intOf i).toNat)
  case atStart => exact ⟨0, [], Nat.zero_le _, rfl, Nat.le_refl _, rfl, by (repeat' (first | (with_reducible exact Below.refl _ _) | (with_reducible assumption) | (with_reducible refine below_drewN ?_ _) | (with_reducible refine Below.drew ?_) | (with_reducible refine Below.alloc ?_ ?_ _) | (with_reducible refine Below.setCell ?_ ?_ _) | (with_reducible refine via (by with_reducible assumption) ?_ ?_) | go_size)), by simpa using hown0⟩
  case round =>
    clear hown0 hb1 hb1s
    obtain ⟨k, acc, hk, rfl, hal, hac, hb, hx⟩ := hrel
    have HX := Lib.hid hx; clear hx
    have HAC := Lib.hid hac; clear hac
    have hbs := hb.size
    by_cases hlt : k < n
    · obtain ⟨b1, off, rfl, hbl, hc⟩ := (hr.below hb).loan (by rw [HN.out]; omega)
      obtain ⟨d, hd⟩ := get_ex l k (by rw [HN.out]; omega)
      obtain ⟨g0, g1, g2, g3⟩ := hc k d hd
      have hf1 := far (show b1 < wr.heap.size by omega)
      have HST := Lib.hid (filter_take_succ (ofB bo) hd)
      have p1 : (0 : Int) ≤ (k : Int) := by omega
      have p2 : (k : Int) < (n : Int) := by omega
      clear hd hc
      obtain ⟨q, hq⟩ : ∃ q, q = acc.length := ⟨_, rfl⟩
      rw [← hq] at HX hal
      have HQ := Lib.hid hq; clear hq
      cases h0 : (d.bo.toList == bo.toList)
      · have HS := Lib.hid (show acc = (l.take (k + 1)).filter (ofB bo) by rw [HST.out, if_neg (by unfold ofB; rw [h0]; simp), List.append_nil]; exact HAC.out)
        go_wp2_with fail
        (first | (refine ⟨?_, ?_⟩; rotate_left; (simp [intOf]; omega); (repeat apply Exists.intro); refine ⟨?_, rfl⟩; exact ⟨k + 1, acc, by omega, by go_num, by rw [← HQ.out]; omega, HS.out, by (repeat' (first | (with_reducible exact Below.refl _ _) | (with_reducible assumption) | (with_reducible refine below_drewN ?_ _) | (with_reducible refine Below.drew ?_) | (with_reducible refine Below.alloc ?_ ?_ _) | (with_reducible refine Below.setCell ?_ ?_ _) | (with_reducible refine via (by with_reducible assumption) ?_ ?_) | go_size)), HQ.out ▸ (HX.out.alloc _)⟩) | exact ⟨⟨k + 1, acc, by omega, by go_num, by rw [← HQ.out]; omega, HS.out, by (repeat' (first | (with_reducible exact Below.refl _ _) | (with_reducible assumption) | (with_reducible refine below_drewN ?_ _) | (with_reducible refine Below.drew ?_) | (with_reducible refine Below.alloc ?_ ?_ _) | (with_reducible refine Below.setCell ?_ ?_ _) | (with_reducible refine via (by with_reducible assumption) ?_ ?_) | go_size)), HQ.out ▸ (HX.out.alloc _)⟩, by simp [intOf]; omega⟩)
      · have HS := Lib.hid (show acc ++ [d] = (l.take (k + 1)).filter (ofB bo) by rw [HST.out, if_pos (by unfold ofB; exact h0), HAC.out])
        go_wp2_with (at_builtin; refine app_list (W := w) (news := lcell d) (z := .agg #[.string ByteArray.empty, .string ByteArray.empty, .int .i64 0, .int .i64 0]) (.tmp 23) (.tmp 25) rfl rfl Try.underlying25 hi0 hz0 hz1 hz2 rfl (by decide) (by decide) rfl ((HX.out.alloc _).alloc _) rfl rfl (news4 (by simp [go_sem]) (by simp [go_sem]) (by simp [go_sem]) (by simp [go_sem])) (lcell_one d) (by omega) (by (repeat' (first | (with_reducible exact Below.refl _ _) | (with_reducible assumption) | (with_reducible refine below_drewN ?_ _) | (with_reducible refine Below.drew ?_) | (with_reducible refine Below.alloc ?_ ?_ _) | (with_reducible refine Below.setCell ?_ ?_ _) | (with_reducible refine via (by with_reducible assumption) ?_ ?_) | go_size))) (Nat.le_refl _) ?_; intro v1 w1 hown1 hg1 hblk1 hb1)
        have HO := Lib.hid hown1; clear hown1 hg1 hblk1
        (first | (refine ⟨?_, ?_⟩; rotate_left; (simp [intOf]; omega); (repeat apply Exists.intro); refine ⟨?_, rfl⟩; exact ⟨k + 1, acc ++ [d], by omega, by go_num, by rw [List.length_append, ← HQ.out]; simp; omega, HS.out, hb1, by rw [List.length_append, ← HQ.out, List.flatMap_append]; simpa using HO.out⟩) | exact ⟨⟨k + 1, acc ++ [d], by omega, by go_num, by rw [List.length_append, ← HQ.out]; simp; omega, HS.out, hb1, by rw [List.length_append, ← HQ.out, List.flatMap_append]; simpa using HO.out⟩, by simp [intOf]; omega⟩)
    · have hkn : l.take k = l := List.take_of_length_le (by rw [HN.out]; omega)
      have HF := Lib.hid (show acc = l.filter (ofB bo) by rw [HAC.out, hkn]); clear hkn
      have hf := own_form HX.out
      obtain ⟨vA, vc, rfl, _⟩ := hf
      go_wp2_with fail
      refine bodyPost_ret (v := .tuple #[.slice vA acc.length vc, .int .i64 0]) (by simp only [results, Try.results33]; go_simp) rfl ⟨_, by rw [HR.out], by rw [HR.out, ← HF.out]; exact HX.out, hb⟩

set_option maxHeartbeats 2000000 in
theorem LoansOfS_c (A : Option Addr) (n c : Nat) (l : List LoanD) (bo : ByteArray) (w : World) (hn : l.length = n) (hm : n ≤ 1048576) (hcap : n ≤ c) (hr : Rd w w.heap.size 4 lcell A l) (ok : ∀ d ∈ l, okL d) (_ : bo.size ≤ 1048576) :
    Calls Try.prog 32 #[.slice A n c, .string bo] w fun e w' => ∃ v, e = .returned (.tuple #[v, .int .i64 (loansOfR l bo).2]) ∧ w'.ownsRow w.heap.size 54 4 v (loansOfR l bo).1.length ((loansOfR l bo).1.flatMap lcell) ∧ Below w.heap.size w w' := by
  obtain ⟨i0, hi0, hz0, hz1, hz2⟩ := info_parts info_loan
  have HN := Lib.hid hn; clear hn
  cases hv : validS l
  · have HR := Lib.hid (show loansOfR l bo = ([], 1) by unfold loansOfR; rw [hv]; rfl)
    go_enter Try.func32, Try.ntmps32
    go_wp2_with fail
    refine (retb (l23OkB_c A n c l _ HN.out hm hcap hr ok) hv).mono ?_
    rintro e w1 ⟨rfl, hb1⟩
    go_wp2_with fail
    refine bodyPost_ret (v := .tuple #[.slice none 0 0, .int .i64 1]) (by simp only [results, Try.results32]; go_simp) rfl ⟨.slice none 0 0, by rw [HR.out], no_loans (by rw [HR.out]), hb1⟩
  have HR := Lib.hid (show loansOfR l bo = (l.filter (ofB bo), 0) by unfold loansOfR; rw [hv, if_pos rfl])
  go_enter Try.func32, Try.ntmps32
  go_wp2_with fail
  refine (retb (l23OkB_c A n c l _ HN.out hm hcap hr ok) hv).mono ?_
  rintro e w1 ⟨rfl, hb1⟩
  have hb1s := hb1.size
  go_wp2_with fail
  have hown0 : (w1.alloc (.cells #[] 54)).ownsRow w.heap.size 54 4 (.slice (some ⟨w1.heap.size, 0, none⟩) 0 0) 0 [] := World.ownsRow_made w1 #[] 0 hb1s (by simp [maxLen]) (by simp)
  clear hv
  go_loopw [6, 7] (fun o i wr => ∃ k : Nat, ∃ acc : List LoanD, k ≤ n ∧ i = .int .i64 k ∧ acc.length ≤ k ∧ acc = (l.take k).filter (ofB bo) ∧ Below w.heap.size w wr ∧ wr.ownsRow w.heap.size 54 4 o acc.length (acc.flatMap lcell)) (fun _ i _ => n - (intOf i).toNat)
  case atStart => exact ⟨0, [], Nat.zero_le _, rfl, Nat.le_refl _, rfl, by (repeat' (first | (with_reducible exact Below.refl _ _) | (with_reducible assumption) | (with_reducible refine below_drewN ?_ _) | (with_reducible refine Below.drew ?_) | (with_reducible refine Below.alloc ?_ ?_ _) | (with_reducible refine Below.setCell ?_ ?_ _) | (with_reducible refine via (by with_reducible assumption) ?_ ?_) | go_size)), by simpa using hown0⟩
  case round =>
    clear hown0 hb1 hb1s
    obtain ⟨k, acc, hk, rfl, hal, hac, hb, hx⟩ := hrel
    have HX := Lib.hid hx; clear hx
    have HAC := Lib.hid hac; clear hac
    have hbs := hb.size
    by_cases hlt : k < n
    · obtain ⟨b1, off, rfl, hbl, hc⟩ := (hr.below hb).loan (by rw [HN.out]; omega)
      obtain ⟨d, hd⟩ := get_ex l k (by rw [HN.out]; omega)
      obtain ⟨g0, g1, g2, g3⟩ := hc k d hd
      have hf1 := far (show b1 < wr.heap.size by omega)
      have HST := Lib.hid (filter_take_succ (ofB bo) hd)
      have p1 : (0 : Int) ≤ (k : Int) := by omega
      have p2 : (k : Int) < (n : Int) := by omega
      clear hd hc
      obtain ⟨q, hq⟩ : ∃ q, q = acc.length := ⟨_, rfl⟩
      rw [← hq] at HX hal
      have HQ := Lib.hid hq; clear hq
      cases h0 : (d.bo.toList == bo.toList)
      · have HS := Lib.hid (show acc = (l.take (k + 1)).filter (ofB bo) by rw [HST.out, if_neg (by unfold ofB; rw [h0]; simp), List.append_nil]; exact HAC.out)
        go_wp2_with fail
        (first | (refine ⟨?_, ?_⟩; rotate_left; (simp [intOf]; omega); (repeat apply Exists.intro); refine ⟨?_, rfl⟩; exact ⟨k + 1, acc, by omega, by go_num, by rw [← HQ.out]; omega, HS.out, by (repeat' (first | (with_reducible exact Below.refl _ _) | (with_reducible assumption) | (with_reducible refine below_drewN ?_ _) | (with_reducible refine Below.drew ?_) | (with_reducible refine Below.alloc ?_ ?_ _) | (with_reducible refine Below.setCell ?_ ?_ _) | (with_reducible refine via (by with_reducible assumption) ?_ ?_) | go_size)), HQ.out ▸ HX.out⟩) | exact ⟨⟨k + 1, acc, by omega, by go_num, by rw [← HQ.out]; omega, HS.out, by (repeat' (first | (with_reducible exact Below.refl _ _) | (with_reducible assumption) | (with_reducible refine below_drewN ?_ _) | (with_reducible refine Below.drew ?_) | (with_reducible refine Below.alloc ?_ ?_ _) | (with_reducible refine Below.setCell ?_ ?_ _) | (with_reducible refine via (by with_reducible assumption) ?_ ?_) | go_size)), HQ.out ▸ HX.out⟩, by simp [intOf]; omega⟩)
      · have HS := Lib.hid (show acc ++ [d] = (l.take (k + 1)).filter (ofB bo) by rw [HST.out, if_pos (by unfold ofB; exact h0), HAC.out])
        go_wp2_with (at_builtin; refine app_list (W := w) (news := lcell d) (z := .agg #[.string ByteArray.empty, .string ByteArray.empty, .int .i64 0, .int .i64 0]) (.tmp 25) (.tmp 30) rfl rfl Try.underlying25 hi0 hz0 hz1 hz2 rfl (by decide) (by decide) rfl (HX.out.alloc _) rfl rfl (news4 (by simp [go_sem]) (by simp [go_sem]) (by simp [go_sem]) (by simp [go_sem])) (lcell_one d) (by omega) (by (repeat' (first | (with_reducible exact Below.refl _ _) | (with_reducible assumption) | (with_reducible refine below_drewN ?_ _) | (with_reducible refine Below.drew ?_) | (with_reducible refine Below.alloc ?_ ?_ _) | (with_reducible refine Below.setCell ?_ ?_ _) | (with_reducible refine via (by with_reducible assumption) ?_ ?_) | go_size))) (Nat.le_refl _) ?_; intro v1 w1 hown1 hg1 hblk1 hb1)
        have HO := Lib.hid hown1; clear hown1 hg1 hblk1
        (first | (refine ⟨?_, ?_⟩; rotate_left; (simp [intOf]; omega); (repeat apply Exists.intro); refine ⟨?_, rfl⟩; exact ⟨k + 1, acc ++ [d], by omega, by go_num, by rw [List.length_append, ← HQ.out]; simp; omega, HS.out, hb1, by rw [List.length_append, ← HQ.out, List.flatMap_append]; simpa using HO.out⟩) | exact ⟨⟨k + 1, acc ++ [d], by omega, by go_num, by rw [List.length_append, ← HQ.out]; simp; omega, HS.out, hb1, by rw [List.length_append, ← HQ.out, List.flatMap_append]; simpa using HO.out⟩, by simp [intOf]; omega⟩)
    · have hkn : l.take k = l := List.take_of_length_le (by rw [HN.out]; omega)
      have HF := Lib.hid (show acc = l.filter (ofB bo) by rw [HAC.out, hkn]); clear hkn
      have hf := own_form HX.out
      obtain ⟨vA, vc, rfl, _⟩ := hf
      go_wp2_with fail
      refine bodyPost_ret (v := .tuple #[.slice vA acc.length vc, .int .i64 0]) (by simp only [results, Try.results32]; go_simp) rfl ⟨_, by rw [HR.out], by rw [HR.out, ← HF.out]; exact HX.out, hb⟩

end Go.Proofs.Ytkapoanmbcopoaa
