/- Contracts: the text of a fraction, both sides. -/
import Derived.Test.YtphckllloiogjaaDoorFracDoor
import Derived.Test.YtphckllloiogjaaDoorDec
import Derived.Test.YtphckllloiogjaaDoorHush
import Derived.Deep.DeepCutAuto
set_option linter.unusedVariables false
set_option linter.unusedSimpArgs false
namespace Go.Proofs.YtphckllloiogjaaDoor
open Go.RowKit

def ftxt (p : Int × Int) : ByteArray := if p.2 = 1 then dec p.1 else dec p.1 ++ ⟨#[47]⟩ ++ dec p.2
def ftx (p : Int × Int) : ByteArray := if plainB p.1 p.2 then ftxt p else ⟨#[]⟩

theorem ftx_one {a b : Int} (hp : plainB a b = true) (hb : b = 1) : ftx (a, b) = dec a := by
  show (if plainB a b = true then (if b = 1 then dec a else _) else _) = _
  rw [if_pos hp, if_pos hb]
theorem ftx_two {a b : Int} (hp : plainB a b = true) (hb : ¬ b = 1) : ftx (a, b) = dec a ++ ⟨#[47]⟩ ++ dec b := by
  show (if plainB a b = true then (if b = 1 then _ else dec a ++ ⟨#[47]⟩ ++ dec b) else _) = _
  rw [if_pos hp, if_neg hb]
theorem two_small2 (a b : Int) (ha : -9223372036854775808 ≤ a ∧ a ≤ 9223372036854775807) (hb : -9223372036854775808 ≤ b ∧ b ≤ 9223372036854775807) :
    ¬ 9223372036854775807 < (dec a).size + 1 ∧ ¬ 9223372036854775807 < (dec a).size + 1 + (dec b).size ∧ ¬ 9223372036854775807 < (dec a ++ ⟨#[47]⟩).size + (dec b).size := by
  have h1 := dec_size a ha
  have h2 := dec_size b hb
  rw [ByteArray.size_append]
  have h3 : (⟨#[47]⟩ : ByteArray).size = 1 := rfl
  omega
theorem two_small (a b : Int) (ha : -9223372036854775808 ≤ a ∧ a ≤ 9223372036854775807) (hb : -9223372036854775808 ≤ b ∧ b ≤ 9223372036854775807) :
    ¬ 9223372036854775807 < (dec a).size + (⟨#[47]⟩ : ByteArray).size ∧ ¬ 9223372036854775807 < (dec a ++ ⟨#[47]⟩).size + (dec b).size := by
  have h1 := dec_size a ha
  have h2 := dec_size b hb
  rw [ByteArray.size_append]
  have h3 : (⟨#[47]⟩ : ByteArray).size = 1 := rfl
  omega

set_option maxHeartbeats 1000000 in
theorem FractionTextI_c (a b : Int) (w : World) (h1 : -9223372036854775808 ≤ a ∧ a ≤ 9223372036854775807) (h2 : -9223372036854775808 ≤ b ∧ b ≤ 9223372036854775807) (ht : Tab w) :
    Calls Tryd.prog 7 #[fr (a, b)] w fun e w' => e = .returned (.string (ftx (a, b))) ∧ Below w.heap.size w w' := by
  have HT := Lib.hid ht; clear ht
  obtain ⟨s1, s2⟩ := two_small a b h1 h2
  have r1 := Lib.hid (show ∀ (_ : plainB a b = true) (_ : b = 1), ftx (a, b) = dec a from fun h g => ftx_one h g)
  have r2 := Lib.hid (show ∀ (_ : plainB a b = true) (_ : ¬ b = 1), ftx (a, b) = dec a ++ ⟨#[47]⟩ ++ dec b from fun h g => ftx_two h g)
  have r3 := Lib.hid (show ∀ (_ : b = 1), ftxt (a, b) = dec a from fun g => if_pos g)
  have r4 := Lib.hid (show ∀ (_ : ¬ b = 1), ftxt (a, b) = dec a ++ ⟨#[47]⟩ ++ dec b from fun g => if_neg g)
  have r5 := Lib.hid (show plainB a b = false → ftx (a, b) = ⟨#[]⟩ from fun h => if_neg (by rw [h]; simp))
  have ca := Lib.hid (show ∀ W : World, Tab W → Calls Tryd.prog 14 #[.int .i64 a] W fun e w' => e = .returned (.string (dec a)) ∧ Below W.heap.size W w' from fun W hT => Decimal_c a W h1 hT)
  have cb := Lib.hid (show ∀ W : World, Tab W → Calls Tryd.prog 14 #[.int .i64 b] W fun e w' => e = .returned (.string (dec b)) ∧ Below W.heap.size W w' from fun W hT => Decimal_c b W h2 hT)
  obtain ⟨s3, s4, s5⟩ := two_small2 a b h1 h2
  generalize dec a = DA at *
  generalize dec b = DB at *
  obtain ⟨S, hS⟩ : ∃ S, ftx (a, b) = S := ⟨_, rfl⟩
  rw [hS]
  have HS := Lib.hid hS; clear hS
  simp only [fr]
  cases hp : plainB a b
  · have HR := Lib.hid (show S = ⟨#[]⟩ by rw [← HS.out]; exact r5.out hp)
    go_enter Tryd.func7, Tryd.ntmps7
    go_wp2_with fail
    refine (isPlainFraction_c (a, b) _ (by simpa using h2.2)).mono ?_
    rintro e w1 ⟨rfl, hb1⟩
    obtain ⟨hc1, hf1⟩ := bcell hb1; have hz1 := hb1.size; (try simp only [World.size_alloc, size_drewN, World.size_setCell, World.size_drew] at hz1 hc1 hf1); have hl1_0 := far (show w.heap.size < w1.heap.size by omega)
    have hbw : Below w.heap.size w w1 := by (repeat' (first | (with_reducible exact Below.refl _ _) | (with_reducible assumption) | (with_reducible refine below_drewN ?_ _) | (with_reducible refine Below.drew ?_) | (with_reducible refine Below.alloc ?_ ?_ _) | (with_reducible refine Below.setCell ?_ ?_ _) | (with_reducible refine via (by with_reducible assumption) ?_ ?_) | go_size))
    go_wp2_with fail
    go_ret
    refine ⟨by rw [HR.out]; rfl, ?_⟩
    (repeat' (first | (with_reducible exact Below.refl _ _) | (with_reducible assumption) | (with_reducible refine below_drewN ?_ _) | (with_reducible refine Below.drew ?_) | (with_reducible refine Below.alloc ?_ ?_ _) | (with_reducible refine Below.setCell ?_ ?_ _) | (with_reducible refine via (by with_reducible assumption) ?_ ?_) | go_size))
  by_cases hb : b = 1
  · have HR := Lib.hid (show S = DA by rw [← HS.out]; exact r1.out hp hb)
    clear r1 r2 r3 r4 r5 HS cb
    subst hb
    go_enter Tryd.func7, Tryd.ntmps7
    go_wp2_with fail
    refine (isPlainFraction_c (a, 1) _ (by simp)).mono ?_
    rintro e w1 ⟨rfl, hb1⟩
    obtain ⟨hc1, hf1⟩ := bcell hb1; have hz1 := hb1.size; (try simp only [World.size_alloc, size_drewN, World.size_setCell, World.size_drew] at hz1 hc1 hf1); have hl1_0 := far (show w.heap.size < w1.heap.size by omega)
    have hbw : Below w.heap.size w w1 := by (repeat' (first | (with_reducible exact Below.refl _ _) | (with_reducible assumption) | (with_reducible refine below_drewN ?_ _) | (with_reducible refine Below.drew ?_) | (with_reducible refine Below.alloc ?_ ?_ _) | (with_reducible refine Below.setCell ?_ ?_ _) | (with_reducible refine via (by with_reducible assumption) ?_ ?_) | go_size))
    go_wp2_with fail
    refine (ca.out w1 (HT.out.below hbw)).mono ?_
    rintro e w2 ⟨rfl, hb2⟩
    go_wp2_with fail
    go_ret
    refine ⟨by rw [HR.out]; rfl, ?_⟩
    (repeat' (first | (with_reducible exact Below.refl _ _) | (with_reducible assumption) | (with_reducible refine below_drewN ?_ _) | (with_reducible refine Below.drew ?_) | (with_reducible refine Below.alloc ?_ ?_ _) | (with_reducible refine Below.setCell ?_ ?_ _) | (with_reducible refine via (by with_reducible assumption) ?_ ?_) | go_size))
  · have HR := Lib.hid (show S = DA ++ ⟨#[47]⟩ ++ DB by rw [← HS.out]; exact r2.out hp hb)
    go_enter Tryd.func7, Tryd.ntmps7
    go_wp2_with fail
    refine (isPlainFraction_c (a, b) _ (by simpa using h2.2)).mono ?_
    rintro e w1 ⟨rfl, hb1⟩
    obtain ⟨hc1, hf1⟩ := bcell hb1; have hz1 := hb1.size; (try simp only [World.size_alloc, size_drewN, World.size_setCell, World.size_drew] at hz1 hc1 hf1); have hl1_0 := far (show w.heap.size < w1.heap.size by omega)
    have hbw : Below w.heap.size w w1 := by (repeat' (first | (with_reducible exact Below.refl _ _) | (with_reducible assumption) | (with_reducible refine below_drewN ?_ _) | (with_reducible refine Below.drew ?_) | (with_reducible refine Below.alloc ?_ ?_ _) | (with_reducible refine Below.setCell ?_ ?_ _) | (with_reducible refine via (by with_reducible assumption) ?_ ?_) | go_size))
    go_upto_region 5 with fail
    (refine wp_region_quiet_below (by kernel_rfl) (by kernel_rfl) ?_; (repeat (go_big_quiet_step (first | ((go_at_call_of 14 (Value.int .i64 a); exact rg_of (fun w' hb => ca.out w' (HT.out.below (hbw.trans (hb.mono hbw.size)))))) | ((go_at_call_of 14 (Value.int .i64 b); exact rg_of (fun w' hb => cb.out w' (HT.out.below (hbw.trans (hb.mono hbw.size))))))))); refine wpQuiet_nil ?_; refine qg_end ?_; intro wq hbq)
    go_wp2_with fail
    go_ret
    refine ⟨by rw [HR.out]; rfl, ?_⟩
    (repeat' (first | (with_reducible exact Below.refl _ _) | (with_reducible assumption) | (with_reducible refine below_drewN ?_ _) | (with_reducible refine Below.drew ?_) | (with_reducible refine Below.alloc ?_ ?_ _) | (with_reducible refine Below.setCell ?_ ?_ _) | (with_reducible refine via (by with_reducible assumption) ?_ ?_) | go_size))

set_option maxHeartbeats 1000000 in
theorem l19Text_c (a b : Int) (w : World) (h1 : -9223372036854775808 ≤ a ∧ a ≤ 9223372036854775807) (h2 : -9223372036854775808 ≤ b ∧ b ≤ 9223372036854775807) :
    Calls Tryd.prog 12 #[fr (a, b)] w fun e w' => e = .returned (.string (ftxt (a, b))) ∧ Below w.heap.size w w' := by
  obtain ⟨s1, s2⟩ := two_small a b h1 h2
  have r1 := Lib.hid (show ∀ (_ : plainB a b = true) (_ : b = 1), ftx (a, b) = dec a from fun h g => ftx_one h g)
  have r2 := Lib.hid (show ∀ (_ : plainB a b = true) (_ : ¬ b = 1), ftx (a, b) = dec a ++ ⟨#[47]⟩ ++ dec b from fun h g => ftx_two h g)
  have r3 := Lib.hid (show ∀ (_ : b = 1), ftxt (a, b) = dec a from fun g => if_pos g)
  have r4 := Lib.hid (show ∀ (_ : ¬ b = 1), ftxt (a, b) = dec a ++ ⟨#[47]⟩ ++ dec b from fun g => if_neg g)
  have r5 := Lib.hid (show plainB a b = false → ftx (a, b) = ⟨#[]⟩ from fun h => if_neg (by rw [h]; simp))
  have ca := Lib.hid (show ∀ W : World, Calls Tryd.prog 23 #[.int .i64 a] W fun e w' => e = .returned (.string (dec a)) ∧ Below W.heap.size W w' from fun W => l01Dec_c a W h1)
  have cb := Lib.hid (show ∀ W : World, Calls Tryd.prog 23 #[.int .i64 b] W fun e w' => e = .returned (.string (dec b)) ∧ Below W.heap.size W w' from fun W => l01Dec_c b W h2)
  obtain ⟨s3, s4, s5⟩ := two_small2 a b h1 h2
  generalize dec a = DA at *
  generalize dec b = DB at *
  obtain ⟨S, hS⟩ : ∃ S, ftxt (a, b) = S := ⟨_, rfl⟩
  rw [hS]
  have HS := Lib.hid hS; clear hS
  simp only [fr]
  by_cases hb : b = 1
  · have HR := Lib.hid (show S = DA by rw [← HS.out]; exact r3.out hb)
    clear r1 r2 r3 r4 r5 HS cb
    subst hb
    go_enter Tryd.func12, Tryd.ntmps12
    go_wp2_with fail
    refine (ca.out _).mono ?_
    rintro e w2 ⟨rfl, hb2⟩
    go_wp2_with fail
    go_ret
    refine ⟨by rw [HR.out]; rfl, ?_⟩
    (repeat' (first | (with_reducible exact Below.refl _ _) | (with_reducible assumption) | (with_reducible refine below_drewN ?_ _) | (with_reducible refine Below.drew ?_) | (with_reducible refine Below.alloc ?_ ?_ _) | (with_reducible refine Below.setCell ?_ ?_ _) | (with_reducible refine via (by with_reducible assumption) ?_ ?_) | go_size))
  · have HR := Lib.hid (show S = DA ++ ⟨#[47]⟩ ++ DB by rw [← HS.out]; exact r4.out hb)
    go_enter Tryd.func12, Tryd.ntmps12
    go_upto_region 3 with fail
    refine gen_world fun W hW => ?_
    have hbW : Below w.heap.size w W := by rw [hW.out]; (repeat' (first | (with_reducible exact Below.refl _ _) | (with_reducible assumption) | (with_reducible refine below_drewN ?_ _) | (with_reducible refine Below.drew ?_) | (with_reducible refine Below.alloc ?_ ?_ _) | (with_reducible refine Below.setCell ?_ ?_ _) | (with_reducible refine via (by with_reducible assumption) ?_ ?_) | go_size))
    have c0 : W.cell? ⟨w.heap.size, 0, none⟩ = some (.int .i64 a) := by rw [hW.out]; simp [go_sem]
    have c1 : W.cell? ⟨w.heap.size, 1, none⟩ = some (.int .i64 b) := by rw [hW.out]; simp [go_sem]
    have hfW := far (show w.heap.size < W.heap.size by rw [hW.out]; simp [go_sem])
    clear hW
    (refine wp_region_quiet_below (by kernel_rfl) (by kernel_rfl) ?_; (repeat (go_big_quiet_step (first | ((go_at_call_of 23 (Value.int .i64 a); exact rg_of (fun w' hb => ca.out w'))) | ((go_at_call_of 23 (Value.int .i64 b); exact rg_of (fun w' hb => cb.out w')))))); refine wpQuiet_nil ?_; refine qg_end ?_; intro wq hbq)
    go_wp2_with fail
    go_ret
    refine ⟨by rw [HR.out]; rfl, ?_⟩
    (repeat' (first | (with_reducible exact Below.refl _ _) | (with_reducible assumption) | (with_reducible refine below_drewN ?_ _) | (with_reducible refine Below.drew ?_) | (with_reducible refine Below.alloc ?_ ?_ _) | (with_reducible refine Below.setCell ?_ ?_ _) | (with_reducible refine via (by with_reducible assumption) ?_ ?_) | go_size))

set_option maxHeartbeats 1000000 in
theorem FractionTextS_c (a b : Int) (w : World) (h1 : -9223372036854775808 ≤ a ∧ a ≤ 9223372036854775807) (h2 : -9223372036854775808 ≤ b ∧ b ≤ 9223372036854775807) :
    Calls Tryd.prog 5 #[fr (a, b)] w fun e w' => e = .returned (.string (ftx (a, b))) ∧ Below w.heap.size w w' := by
  have r5 := Lib.hid (show plainB a b = false → ftx (a, b) = ⟨#[]⟩ from fun h => if_neg (by rw [h]; simp))
  have r6 := Lib.hid (show plainB a b = true → ftx (a, b) = ftxt (a, b) from fun h => if_pos h)
  have ca := Lib.hid (l19Text_c a b · h1 h2)
  generalize ftxt (a, b) = T at *
  obtain ⟨S, hS⟩ : ∃ S, ftx (a, b) = S := ⟨_, rfl⟩
  rw [hS] at r5 r6 ⊢
  clear hS
  simp only [fr]
  cases hp : plainB a b
  · have HR := Lib.hid (r5.out hp)
    go_enter Tryd.func5, Tryd.ntmps5
    go_wp2_with fail
    refine (l19Ok_c (a, b) _ (by simpa using h2.2)).mono ?_
    rintro e w1 ⟨rfl, hb1⟩
    obtain ⟨hc1, hf1⟩ := bcell hb1; have hz1 := hb1.size; (try simp only [World.size_alloc, size_drewN, World.size_setCell, World.size_drew] at hz1 hc1 hf1); have hl1_0 := far (show w.heap.size < w1.heap.size by omega)
    go_wp2_with fail
    go_ret
    refine ⟨by rw [HR.out]; rfl, ?_⟩
    (repeat' (first | (with_reducible exact Below.refl _ _) | (with_reducible assumption) | (with_reducible refine below_drewN ?_ _) | (with_reducible refine Below.drew ?_) | (with_reducible refine Below.alloc ?_ ?_ _) | (with_reducible refine Below.setCell ?_ ?_ _) | (with_reducible refine via (by with_reducible assumption) ?_ ?_) | go_size))
  · have HR := Lib.hid (r6.out hp)
    go_enter Tryd.func5, Tryd.ntmps5
    go_wp2_with fail
    refine (l19Ok_c (a, b) _ (by simpa using h2.2)).mono ?_
    rintro e w1 ⟨rfl, hb1⟩
    obtain ⟨hc1, hf1⟩ := bcell hb1; have hz1 := hb1.size; (try simp only [World.size_alloc, size_drewN, World.size_setCell, World.size_drew] at hz1 hc1 hf1); have hl1_0 := far (show w.heap.size < w1.heap.size by omega)
    go_wp2_with fail
    refine (ca.out w1).mono ?_
    rintro e w2 ⟨rfl, hb2⟩
    go_wp2_with fail
    go_ret
    refine ⟨by rw [HR.out]; rfl, ?_⟩
    (repeat' (first | (with_reducible exact Below.refl _ _) | (with_reducible assumption) | (with_reducible refine below_drewN ?_ _) | (with_reducible refine Below.drew ?_) | (with_reducible refine Below.alloc ?_ ?_ _) | (with_reducible refine Below.setCell ?_ ?_ _) | (with_reducible refine via (by with_reducible assumption) ?_ ?_) | go_size))

end Go.Proofs.YtphckllloiogjaaDoor
