/- Contracts: a loan removed, both sides. -/
import Derived.Test.YtkapoanmbcopoaaLoans8
set_option linter.unusedVariables false
set_option linter.unusedSimpArgs false
namespace Go.Proofs.Ytkapoanmbcopoaa
open Go.RowKit

def cancelR (l : List LoanD) (ex : ByteArray) (day : Int) : List LoanD × Int := if validS l = true then (if findM l ex day < 0 then ([], 3) else (l.take (findM l ex day).toNat ++ l.drop ((findM l ex day).toNat + 1), 0)) else ([], 1)
theorem cancelR_len (l : List LoanD) (ex : ByteArray) (day : Int) : (cancelR l ex day).1.length ≤ l.length := by
  unfold cancelR
  split
  · split
    · simp
    · simp only [List.length_append, List.length_take, List.length_drop]
      omega
  · simp

/-- list[k+1:]: where it lies -/
theorem tail_at (b1 off n c k : Nat) (hk : k < n) (hcap : n ≤ c) (hm : n ≤ 1048576) : ∃ off2 : Nat, (∀ W : World, Sem.run Try.prog (Instr.slice 25 (.slice (some ⟨b1, off, none⟩) n c) (some (.int .i64 ((k : Int) + 1))) none none) W = .ok (.slice (some ⟨b1, off2, none⟩) (n - (k + 1)) (c - (k + 1))) W) ∧
    ∀ (W : World) (l : List LoanD), l.length = n → (∀ j u, (l.flatMap lcell)[j]? = some u → W.cell? ⟨b1, off + j, none⟩ = some u) → ∀ j u, ((l.drop (k + 1)).flatMap lcell)[j]? = some u → W.cell? ⟨b1, off2 + j, none⟩ = some u := by
  have e2 : ((k : Int) + 1).toNat = k + 1 := by omega
  have e3 : (0 : Int) ≤ (k : Int) + 1 := by omega
  have e4 : (k : Int) + 1 ≤ (n : Int) := by omega
  by_cases h : c = k + 1
  · refine ⟨off, fun W => by simp [go_sem, e2, e3, e4, h], fun W l hl hc j u hj => ?_⟩
    rw [List.drop_eq_nil_of_le (by omega)] at hj
    simp at hj
  · refine ⟨off + (k + 1) * 4, fun W => by simp [go_sem, e2, e3, e4, h], fun W l hl hc j u hj => ?_⟩
    rw [Nat.add_assoc]
    exact hc _ u (flat_drop_at lcell_len (by omega) hj)

set_option maxRecDepth 100000 in
set_option maxHeartbeats 2000000 in
theorem CancelLoanI_c (A : Option Addr) (n c : Nat) (l : List LoanD) (ex : ByteArray) (day : Int) (w : World) (hn : l.length = n) (hm : n ≤ 1048576) (hcap : n ≤ c) (hr : Rd w w.heap.size 4 lcell A l) (ok : ∀ d ∈ l, okL d) (_ : ex.size ≤ 1048576) :
    Calls Try.prog 37 #[.slice A n c, .string ex, .int .i64 day] w fun e w' => ∃ v, e = .returned (.tuple #[v, .int .i64 (cancelR l ex day).2]) ∧ w'.ownsRow w.heap.size 54 4 v (cancelR l ex day).1.length ((cancelR l ex day).1.flatMap lcell) ∧ Below w.heap.size w w' := by
  obtain ⟨i0, hi0, hz0, hz1, hz2⟩ := info_parts info_loan
  have HN := Lib.hid hn; clear hn
  have hfb := findM_bd l ex day
  cases hv : validS l
  · have HR := Lib.hid (show cancelR l ex day = ([], 1) by unfold cancelR; rw [hv]; rfl)
    go_enter Try.func37, Try.ntmps37
    go_wp2_with fail
    refine (retb (ValidLoansI_c A n c l _ HN.out hm hcap hr ok) hv).mono ?_
    rintro e w1 ⟨rfl, hb1⟩
    go_wp2_with fail
    refine bodyPost_ret (v := .tuple #[.slice none 0 0, .int .i64 1]) (by simp only [results, Try.results37]; go_simp) rfl ⟨.slice none 0 0, by rw [HR.out], no_loans (by rw [HR.out]), hb1⟩
  by_cases hf : findM l ex day < 0
  · have HR := Lib.hid (show cancelR l ex day = ([], 3) by unfold cancelR; rw [hv, if_pos rfl, if_pos hf])
    go_enter Try.func37, Try.ntmps37
    go_wp2_with fail
    refine (retb (ValidLoansI_c A n c l _ HN.out hm hcap hr ok) hv).mono ?_
    rintro e w1 ⟨rfl, hb1⟩
    have hzb := hb1.size
    go_wp2_with fail
    refine (loanAt_c A n c l ex day _ HN.out hm ((hr.below hb1).mono hzb)).mono ?_
    rintro e w2 ⟨rfl, hb2⟩
    go_wp2_with fail
    refine bodyPost_ret (v := .tuple #[.slice none 0 0, .int .i64 3]) (by simp only [results, Try.results37]; go_simp) rfl ⟨.slice none 0 0, by rw [HR.out], no_loans (by rw [HR.out]), by (repeat' (first | (with_reducible exact Below.refl _ _) | (with_reducible assumption) | (with_reducible refine below_drewN ?_ _) | (with_reducible refine Below.drew ?_) | (with_reducible refine Below.alloc ?_ ?_ _) | (with_reducible refine Below.setCell ?_ ?_ _) | (with_reducible refine via (by with_reducible assumption) ?_ ?_) | go_size))⟩
  obtain ⟨k, hk⟩ : ∃ k : Nat, findM l ex day = (k : Int) := ⟨(findM l ex day).toNat, by omega⟩
  have HR := Lib.hid (show cancelR l ex day = (l.take k ++ l.drop (k + 1), 0) by unfold cancelR; rw [hv, if_pos rfl, if_neg hf, hk, Int.toNat_natCast])
  have hkn : k < n := by rw [← HN.out]; omega
  have HK := Lib.hid hk; clear hk hf hfb
  go_enter Try.func37, Try.ntmps37
  go_wp2_with fail
  refine (retb (ValidLoansI_c A n c l _ HN.out hm hcap hr ok) hv).mono ?_
  rintro e w1 ⟨rfl, hb1⟩
  clear hv
  have hzb := hb1.size
  go_wp2_with fail
  have hr2 := (hr.below hb1).mono hzb
  refine (loanAt_c A n c l ex day _ HN.out hm hr2).mono ?_
  rw [HK.out]
  rintro e W ⟨rfl, hb2⟩
  have hbW : Below w.heap.size w W := hb1.trans (hb2.mono hzb)
  have hzW := hbW.size
  obtain ⟨b1, off, rfl, hbl, hc⟩ := (hr.below hbW).flat lcell_len (by rw [HN.out]; omega)
  have HC := Lib.hid hc; clear hc
  have hblW : b1 < W.heap.size := by omega
  have p1 : (0 : Int) ≤ (k : Int) := by omega
  have p2 : (k : Int) < (n : Int) := by omega
  have p3 : k ≤ c := by omega
  have p4 : k + 1 ≤ n := by omega
  have e1 : IntKind.i64.wrap ((k : Int) + 1) = (k : Int) + 1 := IntWalk.i64_in _ (by omega)
  have e2 : ((k : Int) + 1).toNat = k + 1 := by omega
  have e3 : (0 : Int) ≤ (k : Int) + 1 := by omega
  have hl1 : ((l.take k).flatMap lcell).length = k * 4 := by rw [flat_len lcell 4 lcell_len, List.length_take, HN.out]; omega
  have hl2 : ((l.drop (k + 1)).flatMap lcell).length = (n - (k + 1)) * 4 := by rw [flat_len lcell 4 lcell_len, List.length_drop, HN.out]
  have HL1 := Lib.hid hl1; clear hl1
  have HL2 := Lib.hid hl2; clear hl2
  obtain ⟨off2, hsl, hd⟩ := tail_at b1 off n c k hkn hcap hm
  have HD := Lib.hid hd; clear hd
  go_wp2_with fail
  have hown0 : (W.alloc (.cells #[] 54)).ownsRow W.heap.size 54 4 (.slice (some ⟨W.heap.size, 0, none⟩) 0 0) 0 [] := World.ownsRow_made W #[] 0 (Nat.le_refl _) (by simp [maxLen]) (by simp)
  go_region_held3 (fun _ => True) (trivial) (first | ((refine appm_step (W := W) (news := (l.take k).flatMap lcell) (z := .agg #[.string ByteArray.empty, .string ByteArray.empty, .int .i64 0, .int .i64 0]) (.tmp 18) (.tmp 21) (by rfl) (by rfl) Try.underlying25 hi0 hz0 hz1 hz2 rfl (by decide) (by decide) (by rfl) hown0.drew (by rfl) HL1.out (fun j u hj => (Below.cell (B := W.heap.size) (w := W) (by (repeat' (first | (with_reducible exact Below.refl _ _) | (with_reducible assumption) | (with_reducible refine below_drewN ?_ _) | (with_reducible refine Below.drew ?_) | (with_reducible refine Below.alloc ?_ ?_ _) | (with_reducible refine Below.setCell ?_ ?_ _) | (with_reducible refine via (by with_reducible assumption) ?_ ?_) | go_size))) hblW).trans (HC.out j u (flat_take_at hj))) (flat_one lcell_one _) (by omega) (by (repeat' (first | (with_reducible exact Below.refl _ _) | (with_reducible assumption) | (with_reducible refine below_drewN ?_ _) | (with_reducible refine Below.drew ?_) | (with_reducible refine Below.alloc ?_ ?_ _) | (with_reducible refine Below.setCell ?_ ?_ _) | (with_reducible refine via (by with_reducible assumption) ?_ ?_) | go_size))) (Nat.le_refl _) ?_; intro v1 w1 hown1 hg1 hblk1 hb1)) | ((refine appm_step (W := W) (news := (l.drop (k + 1)).flatMap lcell) (z := .agg #[.string ByteArray.empty, .string ByteArray.empty, .int .i64 0, .int .i64 0]) (.tmp 22) (.tmp 26) (by rfl) (by rfl) Try.underlying25 hi0 hz0 hz1 hz2 rfl (by decide) (by decide) (by rfl) hown1 (by rfl) HL2.out (fun j u hj => (Below.cell (B := W.heap.size) (w := W) (by (repeat' (first | (with_reducible exact Below.refl _ _) | (with_reducible assumption) | (with_reducible refine below_drewN ?_ _) | (with_reducible refine Below.drew ?_) | (with_reducible refine Below.alloc ?_ ?_ _) | (with_reducible refine Below.setCell ?_ ?_ _) | (with_reducible refine via (by with_reducible assumption) ?_ ?_) | go_size))) hblW).trans (HD.out W l HN.out HC.out j u hj)) (flat_one lcell_one _) (by omega) (by (repeat' (first | (with_reducible exact Below.refl _ _) | (with_reducible assumption) | (with_reducible refine below_drewN ?_ _) | (with_reducible refine Below.drew ?_) | (with_reducible refine Below.alloc ?_ ?_ _) | (with_reducible refine Below.setCell ?_ ?_ _) | (with_reducible refine via (by with_reducible assumption) ?_ ?_) | go_size))) (Nat.le_refl _) ?_; intro v2 w2 hown2 hg2 hblk2 hb2)))
  have hlen : (l.take k ++ l.drop (k + 1)).length = 0 + k + (n - (k + 1)) := by rw [List.length_append, List.length_take, List.length_drop, HN.out]; omega
  have HO := Lib.hid (show w2.ownsRow w.heap.size 54 4 v2 (l.take k ++ l.drop (k + 1)).length ((l.take k ++ l.drop (k + 1)).flatMap lcell) by rw [hlen, List.flatMap_append]; exact Go.Joins.ownsRow_le (by simpa using hown2) hzW)
  clear hown1 hown2 hg1 hg2 hblk1 hblk2 hlen hsl
  have hf := own_form HO.out
  obtain ⟨vA, vc, rfl, _⟩ := hf
  go_wp2_with fail
  refine bodyPost_ret (v := .tuple #[.slice vA (l.take k ++ l.drop (k + 1)).length vc, .int .i64 0]) (by simp only [results, Try.results37]; go_simp) rfl ⟨_, by rw [HR.out], by rw [HR.out]; exact HO.out, by (repeat' (first | (with_reducible exact Below.refl _ _) | (with_reducible assumption) | (with_reducible refine below_drewN ?_ _) | (with_reducible refine Below.drew ?_) | (with_reducible refine Below.alloc ?_ ?_ _) | (with_reducible refine Below.setCell ?_ ?_ _) | (with_reducible refine via (by with_reducible assumption) ?_ ?_) | go_size))⟩

set_option maxRecDepth 100000 in
set_option maxHeartbeats 2000000 in
theorem CancelLoanS_c (A : Option Addr) (n c : Nat) (l : List LoanD) (ex : ByteArray) (day : Int) (w : World) (hn : l.length = n) (hm : n ≤ 1048576) (hcap : n ≤ c) (hr : Rd w w.heap.size 4 lcell A l) (ok : ∀ d ∈ l, okL d) (_ : ex.size ≤ 1048576) :
    Calls Try.prog 36 #[.slice A n c, .string ex, .int .i64 day] w fun e w' => ∃ v, e = .returned (.tuple #[v, .int .i64 (cancelR l ex day).2]) ∧ w'.ownsRow w.heap.size 54 4 v (cancelR l ex day).1.length ((cancelR l ex day).1.flatMap lcell) ∧ Below w.heap.size w w' := by
  obtain ⟨i0, hi0, hz0, hz1, hz2⟩ := info_parts info_loan
  have HN := Lib.hid hn; clear hn
  have hfb := findM_bd l ex day
  by_cases hs : (askR l ex day).2 = 0
  · obtain ⟨k, hk, hkn, hR⟩ : ∃ k : Nat, askR l ex day = ((k : Int), 0) ∧ k < n ∧ cancelR l ex day = (l.take k ++ l.drop (k + 1), 0) := by
      unfold askR at hs ⊢
      unfold cancelR
      cases hv : validS l
      · rw [hv] at hs; simp at hs
      · rw [hv] at hs
        simp only [if_true] at hs ⊢
        by_cases hf : findM l ex day < 0
        · rw [if_pos hf] at hs; simp at hs
        · refine ⟨(findM l ex day).toNat, ?_, ?_, ?_⟩
          · rw [if_neg hf]; congr 1; omega
          · rw [← HN.out]; omega
          · rw [if_neg hf]
    have HR := Lib.hid hR; clear hR
    have HK := Lib.hid hk; clear hk hfb hs
    go_enter Try.func36, Try.ntmps36
    go_wp2_with fail
    refine (l23Ask_c A n c l ex day _ HN.out hm hcap hr ok).mono ?_
    rw [HK.out]
    rintro e W ⟨rfl, hbW⟩
    have hzW := hbW.size
    obtain ⟨b1, off, rfl, hbl, hc⟩ := (hr.below hbW).flat lcell_len (by rw [HN.out]; omega)
    have HC := Lib.hid hc; clear hc
    have hblW : b1 < W.heap.size := by omega
    have p1 : (0 : Int) ≤ (k : Int) := by omega
    have p2 : (k : Int) < (n : Int) := by omega
    have p3 : k ≤ c := by omega
    have p4 : k + 1 ≤ n := by omega
    have hl1 : ((l.take k).flatMap lcell).length = k * 4 := by rw [flat_len lcell 4 lcell_len, List.length_take, HN.out]; omega
    have hl2 : ((l.drop (k + 1)).flatMap lcell).length = (n - (k + 1)) * 4 := by rw [flat_len lcell 4 lcell_len, List.length_drop, HN.out]
    have HL1 := Lib.hid hl1; clear hl1
    have HL2 := Lib.hid hl2; clear hl2
    obtain ⟨off2, hsl, hd⟩ := tail_at b1 off n c k hkn hcap hm
    have HD := Lib.hid hd; clear hd
    go_wp2_with (first | (at_builtin; refine appm_list (W := W) (news := (l.take k).flatMap lcell) (z := .agg #[.string ByteArray.empty, .string ByteArray.empty, .int .i64 0, .int .i64 0]) (.tmp 21) (.tmp 24) (by rfl) (by rfl) Try.underlying25 hi0 hz0 hz1 hz2 rfl (by decide) (by decide) (by rfl) (World.ownsRow_made W #[] 0 (Nat.le_refl _) (by simp [maxLen]) (by simp)) (by rfl) HL1.out (fun j u hj => (Below.cell (B := W.heap.size) (w := W) (by (repeat' (first | (with_reducible exact Below.refl _ _) | (with_reducible assumption) | (with_reducible refine below_drewN ?_ _) | (with_reducible refine Below.drew ?_) | (with_reducible refine Below.alloc ?_ ?_ _) | (with_reducible refine Below.setCell ?_ ?_ _) | (with_reducible refine via (by with_reducible assumption) ?_ ?_) | go_size))) hblW).trans (HC.out j u (flat_take_at hj))) (flat_one lcell_one _) (by omega) (by (repeat' (first | (with_reducible exact Below.refl _ _) | (with_reducible assumption) | (with_reducible refine below_drewN ?_ _) | (with_reducible refine Below.drew ?_) | (with_reducible refine Below.alloc ?_ ?_ _) | (with_reducible refine Below.setCell ?_ ?_ _) | (with_reducible refine via (by with_reducible assumption) ?_ ?_) | go_size))) (Nat.le_refl _) ?_; intro v1 w1 hown1 hg1 hblk1 hb1) | (at_builtin; refine appm_list (W := W) (news := (l.drop (k + 1)).flatMap lcell) (z := .agg #[.string ByteArray.empty, .string ByteArray.empty, .int .i64 0, .int .i64 0]) (.tmp 26) (.tmp 30) (by rfl) (by rfl) Try.underlying25 hi0 hz0 hz1 hz2 rfl (by decide) (by decide) (by rfl) hown1 (by rfl) HL2.out (fun j u hj => (Below.cell (B := W.heap.size) (w := W) (by (repeat' (first | (with_reducible exact Below.refl _ _) | (with_reducible assumption) | (with_reducible refine below_drewN ?_ _) | (with_reducible refine Below.drew ?_) | (with_reducible refine Below.alloc ?_ ?_ _) | (with_reducible refine Below.setCell ?_ ?_ _) | (with_reducible refine via (by with_reducible assumption) ?_ ?_) | go_size))) hblW).trans (HD.out W l HN.out HC.out j u hj)) (flat_one lcell_one _) (by omega) (by (repeat' (first | (with_reducible exact Below.refl _ _) | (with_reducible assumption) | (with_reducible refine below_drewN ?_ _) | (with_reducible refine Below.drew ?_) | (with_reducible refine Below.alloc ?_ ?_ _) | (with_reducible refine Below.setCell ?_ ?_ _) | (with_reducible refine via (by with_reducible assumption) ?_ ?_) | go_size))) (Nat.le_refl _) ?_; intro v2 w2 hown2 hg2 hblk2 hb2))
    have hlen : (l.take k ++ l.drop (k + 1)).length = 0 + k + (n - (k + 1)) := by rw [List.length_append, List.length_take, List.length_drop, HN.out]; omega
    have HO := Lib.hid (show w2.ownsRow w.heap.size 54 4 v2 (l.take k ++ l.drop (k + 1)).length ((l.take k ++ l.drop (k + 1)).flatMap lcell) by rw [hlen, List.flatMap_append]; exact Go.Joins.ownsRow_le (by simpa using hown2) hzW)
    clear hown1 hown2 hg1 hg2 hblk1 hblk2 hlen hsl
    have hf := own_form HO.out
    obtain ⟨vA, vc, rfl, _⟩ := hf
    go_wp2_with fail
    refine bodyPost_ret (v := .tuple #[.slice vA (l.take k ++ l.drop (k + 1)).length vc, .int .i64 0]) (by simp only [results, Try.results36]; go_simp) rfl ⟨_, by rw [HR.out], by rw [HR.out]; exact HO.out, by (repeat' (first | (with_reducible exact Below.refl _ _) | (with_reducible assumption) | (with_reducible refine below_drewN ?_ _) | (with_reducible refine Below.drew ?_) | (with_reducible refine Below.alloc ?_ ?_ _) | (with_reducible refine Below.setCell ?_ ?_ _) | (with_reducible refine via (by with_reducible assumption) ?_ ?_) | go_size))⟩
  · obtain ⟨q, hq, hR, hq0⟩ : ∃ q : Int, askR l ex day = (0, q) ∧ cancelR l ex day = ([], q) ∧ ¬ q = 0 := by
      unfold askR at hs ⊢
      unfold cancelR
      cases hv : validS l
      · exact ⟨1, by simp, by simp, by decide⟩
      · rw [hv] at hs
        simp only [if_true] at hs ⊢
        by_cases hf : findM l ex day < 0
        · exact ⟨3, by rw [if_pos hf], by rw [if_pos hf], by decide⟩
        · rw [if_neg hf] at hs; simp at hs
    have HR := Lib.hid hR; clear hR
    have HK := Lib.hid hq; clear hq hfb hs
    have q1 : (q == 0) = false := by simpa using hq0
    have q2 : (q != 0) = true := by simpa using hq0
    go_enter Try.func36, Try.ntmps36
    go_wp2_with fail
    refine (l23Ask_c A n c l ex day _ HN.out hm hcap hr ok).mono ?_
    rw [HK.out]
    rintro e w1 ⟨rfl, hb1⟩
    go_wp2_with fail
    refine bodyPost_ret (v := .tuple #[.slice none 0 0, .int .i64 q]) (by simp only [results, Try.results36]; go_simp) rfl ⟨.slice none 0 0, by rw [HR.out], no_loans (by rw [HR.out]), hb1⟩

end Go.Proofs.Ytkapoanmbcopoaa
