/- Contracts: a text cut at the first place of a byte (impl), and split at every place of it (spec). -/
import Derived.Test.YtaebofpgdonnbaaDoorRDec
import Derived.Test.YtaebofpgdonnbaaDoorHush
import Derived.Deep.DeepCutAuto
set_option linter.unusedVariables false
set_option linter.unusedSimpArgs false
namespace Go.Proofs.YtaebofpgdonnbaaDoor
open Go.RowKit

theorem ext_one (s : ByteArray) (k : Nat) (h : k < s.size) : (s.extract k (k + 1)).toList = [s[k]] := by
  have h' : k < s.data.toList.length := by simpa using h
  rw [ByteArray.toList_eq, ByteArray.data_extract, Array.toList_extract, List.extract_eq_take_drop, List.drop_eq_getElem_cons h', show k + 1 - k = 1 by omega]
  simp only [List.take_succ_cons, List.take_zero]
  rfl
theorem one_toList (b : UInt8) : (⟨#[b]⟩ : ByteArray).toList = [b] := by rw [ByteArray.toList_eq]
theorem ext_is {s : ByteArray} {k : Nat} {b : UInt8} (h : k < s.size) : (s.extract k (k + 1)).toList = (⟨#[b]⟩ : ByteArray).toList ↔ byteAt s k = (b.toNat : Int) := by
  rw [ext_one s k h, one_toList, ← byteAt_eq s k h]
  constructor
  · intro e
    injection e with e
    rw [e]
  · intro e
    have : s[k].toNat = b.toNat := by omega
    rw [UInt8.toNat_inj.1 this]
theorem one_size (b : UInt8) : (⟨#[b]⟩ : ByteArray).size = 1 := rfl

set_option maxHeartbeats 1000000 in
theorem cut_no (s : ByteArray) (b : UInt8) (w : World) (hs : s.size ≤ 1048576) (h : ∀ j, j < s.size → ¬ byteAt s j = (b.toNat : Int)) :
    Calls Tryd.prog 100 #[.string s, .string ⟨#[b]⟩] w fun e w' => e = .returned (.tuple #[.string s, .string ByteArray.empty, .bool false]) ∧ Below w.heap.size w w' := by
  have H := Lib.hid h; clear h
  obtain ⟨S, hS⟩ : ∃ S, (⟨#[b]⟩ : ByteArray) = S := ⟨_, rfl⟩
  have HL := Lib.hid (show ∀ k, k < s.size → ¬ (s.extract k (k + 1)).toList = S.toList from fun k hk hc => H.out k hk (by rw [← hS] at hc; exact (ext_is hk).1 hc))
  have h1 : S.size = 1 := by rw [← hS]; rfl
  rw [hS]
  clear hS
  go_enter Tryd.func100, Tryd.ntmps100
  go_wp2_with fail
  go_loop [7] (fun i => ∃ k : Nat, k ≤ s.size ∧ i = .int .i64 k) (fun i => s.size - (intOf i).toNat)
  case atStart => exact ⟨0, Nat.zero_le _, rfl⟩
  case round =>
    obtain ⟨k, hk, rfl⟩ := hrel
    have e1 : IntKind.i64.wrap ((k : Int) + 1) = (k : Int) + 1 := IntWalk.i64_in _ (by omega)
    by_cases hlt : k < s.size
    · have q9 := HL.out k hlt
      have q7 : ((s.extract k (k + 1)).toList == S.toList) = false := by rw [beq_eq_false_iff_ne]; exact q9
      go_wp2_with fail
      (first | (refine ⟨⟨(by first | trivial | rfl), ?_⟩, ?_⟩; rotate_left; (first | (simp [intOf]; done) | (simp [intOf]; omega)); (repeat apply Exists.intro); refine ⟨?_, rfl⟩; exact ⟨k + 1, by omega, by go_num⟩) | exact ⟨⟨k + 1, by omega, by go_num⟩, by first | (simp [intOf]; done) | (simp [intOf]; omega)⟩)
    · go_wp2_with fail
      refine bodyPost_ret (v := .tuple #[.string s, .string ByteArray.empty, .bool false]) (by simp only [results, Tryd.results100]; go_simp; try rfl) rfl ⟨rfl, Below.refl _ _⟩

set_option maxHeartbeats 1000000 in
theorem cut_at (s : ByteArray) (b : UInt8) (m : Nat) (w : World) (hs : s.size ≤ 1048576) (hm : m < s.size) (hb : byteAt s m = (b.toNat : Int)) (h : ∀ j, j < m → ¬ byteAt s j = (b.toNat : Int)) :
    Calls Tryd.prog 100 #[.string s, .string ⟨#[b]⟩] w fun e w' => e = .returned (.tuple #[.string (s.extract 0 m), .string (s.extract (m + 1) s.size), .bool true]) ∧ Below w.heap.size w w' := by
  have H := Lib.hid h; clear h
  obtain ⟨S, hS⟩ : ∃ S, (⟨#[b]⟩ : ByteArray) = S := ⟨_, rfl⟩
  have HL := Lib.hid (show ∀ k, k < m → ¬ (s.extract k (k + 1)).toList = S.toList from fun k hk hc => H.out k hk (by rw [← hS] at hc; exact (ext_is (by omega)).1 hc))
  have HM := Lib.hid (show (s.extract m (m + 1)).toList = S.toList by rw [← hS]; exact (ext_is hm).2 hb)
  have h1 : S.size = 1 := by rw [← hS]; rfl
  rw [hS]
  clear hS hb
  go_enter Tryd.func100, Tryd.ntmps100
  go_wp2_with fail
  go_loop [7] (fun i => ∃ k : Nat, k ≤ m ∧ i = .int .i64 k) (fun i => s.size - (intOf i).toNat)
  case atStart => exact ⟨0, Nat.zero_le _, rfl⟩
  case round =>
    obtain ⟨k, hk, rfl⟩ := hrel
    have e1 : IntKind.i64.wrap ((k : Int) + 1) = (k : Int) + 1 := IntWalk.i64_in _ (by omega)
    by_cases hlt : k < m
    · have q9 := HL.out k hlt
      have q7 : ((s.extract k (k + 1)).toList == S.toList) = false := by rw [beq_eq_false_iff_ne]; exact q9
      go_wp2_with fail
      (first | (refine ⟨⟨(by first | trivial | rfl), ?_⟩, ?_⟩; rotate_left; (first | (simp [intOf]; done) | (simp [intOf]; omega)); (repeat apply Exists.intro); refine ⟨?_, rfl⟩; exact ⟨k + 1, by omega, by go_num⟩) | exact ⟨⟨k + 1, by omega, by go_num⟩, by first | (simp [intOf]; done) | (simp [intOf]; omega)⟩)
    · obtain rfl : k = m := by omega
      have q9 := HM.out
      have q7 : ((s.extract k (k + 1)).toList == S.toList) = true := by rw [beq_iff_eq]; exact q9
      go_upto_region 5 with fail
      (refine wp_region_quiet_below (by kernel_rfl) (by kernel_rfl) ?_; (repeat (go_big_quiet_step (first | fail))); refine wpQuiet_nil ?_; refine qg_end ?_; intro wq hbq)
      go_wp2_with fail
      refine bodyPost_ret (v := .tuple #[.string (s.extract 0 k), .string (s.extract (k + 1) s.size), .bool true]) (by simp only [results, Tryd.results100]; go_simp; try rfl) rfl ⟨rfl, ?_⟩
      (repeat' (first | (with_reducible exact Below.refl _ _) | (with_reducible assumption) | (with_reducible refine below_drewN ?_ _) | (with_reducible refine Below.drew ?_) | (with_reducible refine Below.alloc ?_ ?_ _) | (with_reducible refine Below.setCell ?_ ?_ _) | (with_reducible refine via (by with_reducible assumption) ?_ ?_) | go_size))

/-- a text split at every place of a byte: what lies behind so many bytes -/
def spl (s : ByteArray) (c : Int) : Nat → List ByteArray × Nat
  | 0 => ([], 0)
  | k + 1 => if byteAt s k = c then ((spl s c k).1 ++ [s.extract (spl s c k).2 k], k + 1) else spl s c k
def splL (s : ByteArray) (c : Int) : List ByteArray := (spl s c s.size).1 ++ [s.extract (spl s c s.size).2 s.size]
theorem spl_bd (s : ByteArray) (c : Int) : ∀ k, (spl s c k).1.length ≤ k ∧ (spl s c k).2 ≤ k
  | 0 => ⟨Nat.le_refl _, Nat.le_refl _⟩
  | k + 1 => by
    have ih := spl_bd s c k
    simp only [spl]
    split
    · simp; omega
    · omega
theorem info_str : (Tryd.prog.info? 9).map (fun i => (i.zero, i.size, i.bytes)) = some (some (.string ByteArray.empty), 1, 16) := by kernel_rfl

set_option maxHeartbeats 2000000 in
theorem l01Split_c (s : ByteArray) (c : Int) (w : World) (hs : s.size ≤ 1048576) :
    Calls Tryd.prog 65 #[.string s, .int .u8 c] w fun e w' => ∃ v, e = .returned v ∧ w'.ownsRow w.heap.size 9 1 v (splL s c).length ((splL s c).map Value.string) ∧ Below w.heap.size w w' := by
  obtain ⟨i0, hi0, hy0, hy1, hy2⟩ := info_parts info_str
  have hown0 : (w.alloc (.cells #[] 9)).ownsRow w.heap.size 9 1 (.slice (some ⟨w.heap.size, 0, none⟩) 0 0) 0 [] := World.ownsRow_made w #[] 0 (Nat.le_refl _) (by simp [maxLen]) (by simp)
  go_enter Tryd.func65, Tryd.ntmps65
  go_wp2_with fail
  go_loopw [5, 6, 7] (fun o f i wr => ∃ (k fr : Nat) (acc : List ByteArray), k ≤ s.size ∧ i = .int .i64 k ∧ f = .int .i64 fr ∧ fr ≤ k ∧ acc.length ≤ k ∧ spl s c k = (acc, fr) ∧ Below w.heap.size w wr ∧ wr.ownsRow w.heap.size 9 1 o acc.length (acc.map Value.string)) (fun _ _ i _ => s.size - (intOf i).toNat)
  case atStart => exact ⟨0, 0, [], Nat.zero_le _, rfl, rfl, Nat.le_refl _, Nat.le_refl _, rfl, by (repeat' (first | (with_reducible exact Below.refl _ _) | (with_reducible assumption) | (with_reducible refine below_drewN ?_ _) | (with_reducible refine Below.drew ?_) | (with_reducible refine Below.alloc ?_ ?_ _) | (with_reducible refine Below.setCell ?_ ?_ _) | (with_reducible refine via (by with_reducible assumption) ?_ ?_) | go_size)), by simpa using hown0⟩
  case round =>
    clear hown0
    obtain ⟨k, fr, acc, hk, rfl, rfl, hfr, hal, hsp, hb, hx⟩ := hrel
    have HX := Lib.hid hx; clear hx
    have HSP := Lib.hid hsp; clear hsp
    have hbs := hb.size
    obtain ⟨q, hq⟩ : ∃ q, q = acc.length := ⟨_, rfl⟩
    rw [← hq] at HX hal
    have HQ := Lib.hid hq; clear hq
    by_cases hlt : k < s.size
    · have hc := byteAt_eq s k hlt
      by_cases he : byteAt s k = c
      · have HS := Lib.hid (show spl s c (k + 1) = (acc ++ [s.extract fr k], k + 1) by simp only [spl]; rw [if_pos he, HSP.out])
        have q1 : (byteAt s k == c) = true := by rw [beq_iff_eq]; exact he
        have HE := Lib.hid he; clear he
        go_wp2_with (at_builtin; refine app_list (W := w) (z := .string ByteArray.empty) (.tmp 20) (.tmp 25) rfl rfl Tryd.underlying22 hi0 hy0 hy1 hy2 rfl (by decide) (by decide) rfl (HX.out.alloc _) rfl rfl (news1 (z := .string (s.extract fr k)) (by simp [go_sem])) (by simp [Value.oneCell']) (by omega) (by (repeat' (first | (with_reducible exact Below.refl _ _) | (with_reducible assumption) | (with_reducible refine below_drewN ?_ _) | (with_reducible refine Below.drew ?_) | (with_reducible refine Below.alloc ?_ ?_ _) | (with_reducible refine Below.setCell ?_ ?_ _) | (with_reducible refine via (by with_reducible assumption) ?_ ?_) | go_size))) (Nat.le_refl _) ?_; intro v1 w1 hown1 hg1 hblk1 hb1)
        have HO := Lib.hid hown1; clear hown1 hg1 hblk1
        (first | (refine ⟨?_, ?_⟩; rotate_left; (first | (simp [intOf]; done) | (simp [intOf]; omega)); (repeat apply Exists.intro); refine ⟨?_, rfl⟩; exact ⟨k + 1, k + 1, acc ++ [s.extract fr k], by omega, by go_num, by go_num, Nat.le_refl _, by rw [List.length_append, ← HQ.out]; simp; omega, HS.out, hb1, by rw [List.length_append, ← HQ.out, List.map_append]; simpa using HO.out⟩) | exact ⟨⟨k + 1, k + 1, acc ++ [s.extract fr k], by omega, by go_num, by go_num, Nat.le_refl _, by rw [List.length_append, ← HQ.out]; simp; omega, HS.out, hb1, by rw [List.length_append, ← HQ.out, List.map_append]; simpa using HO.out⟩, by first | (simp [intOf]; done) | (simp [intOf]; omega)⟩)
      · have HS := Lib.hid (show spl s c (k + 1) = (acc, fr) by simp only [spl]; rw [if_neg he, HSP.out])
        have q1 : (byteAt s k == c) = false := by rw [beq_eq_false_iff_ne]; exact he
        clear he
        go_wp2_with fail
        (first | (refine ⟨?_, ?_⟩; rotate_left; (first | (simp [intOf]; done) | (simp [intOf]; omega)); (repeat apply Exists.intro); refine ⟨?_, rfl⟩; exact ⟨k + 1, fr, acc, by omega, by go_num, rfl, by omega, by rw [← HQ.out]; omega, HS.out, by (repeat' (first | (with_reducible exact Below.refl _ _) | (with_reducible assumption) | (with_reducible refine below_drewN ?_ _) | (with_reducible refine Below.drew ?_) | (with_reducible refine Below.alloc ?_ ?_ _) | (with_reducible refine Below.setCell ?_ ?_ _) | (with_reducible refine via (by with_reducible assumption) ?_ ?_) | go_size)), by rw [← HQ.out]; exact HX.out⟩) | exact ⟨⟨k + 1, fr, acc, by omega, by go_num, rfl, by omega, by rw [← HQ.out]; omega, HS.out, by (repeat' (first | (with_reducible exact Below.refl _ _) | (with_reducible assumption) | (with_reducible refine below_drewN ?_ _) | (with_reducible refine Below.drew ?_) | (with_reducible refine Below.alloc ?_ ?_ _) | (with_reducible refine Below.setCell ?_ ?_ _) | (with_reducible refine via (by with_reducible assumption) ?_ ?_) | go_size)), by rw [← HQ.out]; exact HX.out⟩, by first | (simp [intOf]; done) | (simp [intOf]; omega)⟩)
    · obtain rfl : k = s.size := by omega
      have HF := Lib.hid (show splL s c = acc ++ [s.extract fr s.size] by unfold splL; rw [HSP.out])
      go_wp2_with (at_builtin; refine app_list (W := w) (z := .string ByteArray.empty) (.tmp 29) (.tmp 33) rfl rfl Tryd.underlying22 hi0 hy0 hy1 hy2 rfl (by decide) (by decide) rfl (HX.out.alloc _) rfl rfl (news1 (z := .string (s.extract fr s.size)) (by simp [go_sem])) (by simp [Value.oneCell']) (by omega) (by (repeat' (first | (with_reducible exact Below.refl _ _) | (with_reducible assumption) | (with_reducible refine below_drewN ?_ _) | (with_reducible refine Below.drew ?_) | (with_reducible refine Below.alloc ?_ ?_ _) | (with_reducible refine Below.setCell ?_ ?_ _) | (with_reducible refine via (by with_reducible assumption) ?_ ?_) | go_size))) (Nat.le_refl _) ?_; intro v1 w1 hown1 hg1 hblk1 hb1)
      go_ret
      exact ⟨_, rfl, by rw [HF.out, List.length_append, ← HQ.out, List.map_append]; simpa using hown1, hb1⟩

end Go.Proofs.YtaebofpgdonnbaaDoor
