/- The walk of FnExactReadJobs. -/
import Derived.Test.YtaebofpgdonnbaaDoorReadJ3
import Derived.Test.YtaebofpgdonnbaaDoorMarkJobs
import Derived.Test.YtaebofpgdonnbaaDoorLawCalls
set_option linter.unusedVariables false
set_option linter.unusedSimpArgs false
namespace Go.Proofs.YtaebofpgdonnbaaDoor
open Go.RowKit

theorem JOwnS.below {w w' : World} {lo hi B : Nat} {v : Value} {n : Nat} {l : List JobD} (h : JOwnS w lo hi v n l) (hb : Below B w w') (hB : hi ≤ B) : JOwnS w' lo hi v n l := by
  obtain ⟨xs, V, h⟩ := h
  exact ⟨xs, V, h.below hb hB⟩
theorem JOwnS.outer {w w' : World} {lo hi lo2 hi2 : Nat} {v : Value} {n : Nat} {l : List JobD} (h : JOwnS w lo hi v n l) (ho : Outer lo2 hi2 w w') (hB : hi ≤ lo2) : JOwnS w' lo hi v n l := by
  obtain ⟨xs, V, h⟩ := h
  exact ⟨xs, V, h.keep ho.size fun g _ hg => ho.block g (Nat.lt_of_lt_of_le hg h.le) (.inl (by omega))⟩
theorem JOwnS.rd {w : World} {lo hi : Nat} {A : Option Addr} {n c : Nat} {l : List JobD} (h : JOwnS w lo hi (.slice A n c) n l) : JRd w w.heap.size A l := by
  obtain ⟨xs, V, h⟩ := h
  exact h.rd
theorem JOwnS.form {w : World} {lo hi : Nat} {v : Value} {n : Nat} {l : List JobD} (h : JOwnS w lo hi v n l) : ∃ A c, v = .slice A n c := by
  obtain ⟨xs, V, h⟩ := h
  obtain ⟨A, c, e, _⟩ := own_form h.own
  exact ⟨A, c, e⟩
theorem readJS_ok (s : ByteArray) : ∀ d ∈ (readJS s).1, okJD d := by
  have key : ∀ l : List JobD, validS l = true → ∀ d ∈ l, okJD d := fun l hv d hd => by
    obtain ⟨i, hi⟩ := List.getElem?_of_mem hd
    have hil := (List.getElem?_eq_some_iff.1 hi).1
    have h1 := name_size (valid_name hv hil)
    have h2 := ((valid_all hv).2 i hil).2.2.2.2.2
    rw [getJ_eq hi] at h1 h2
    have := (valid_all hv).1
    exact ⟨by unfold maxLen; omega, by unfold maxLen; omega⟩
  have nokey : ∀ d ∈ ([] : List JobD), okJD d := fun d hd => by cases hd
  unfold readJS
  split
  · split
    · split
      · rename_i hv
        exact key _ hv
      · exact nokey
    · exact nokey
  · exact nokey

set_option maxHeartbeats 4000000 in
theorem fnExactReadJobs_walk (w : World) (ht : Tab w) (a0 : ByteArray) (wf0 : a0.size ≤ maxLen) :
    Calls Tryd.prog 9 #[.string a0] w fun e w' => e = .returned (.bool true) ∧ Below w.heap.size w w' := by
  have HT := Lib.hid ht; clear ht
  have hx0' := wf0; unfold maxLen at hx0'
  by_cases hm0 : a0.size ≤ 1048576
  rotate_left
  · have hp0 : (1048576 : Int) < ((a0.size : Nat) : Int) := by omega
    go_enter Tryd.func9, Tryd.ntmps9
    go_wp2_with fail
    go_ret
    exact ⟨rfl, Below.refl _ _⟩
  have hp0 : ¬ (1048576 : Int) < ((a0.size : Nat) : Int) := by omega
  go_enter Tryd.func9, Tryd.ntmps9
  have b0 : Below w.heap.size w w := Below.refl _ _
  have z0 : w.heap.size ≤ w.heap.size := Nat.le_refl _
  have hRl : (readJS a0).1.length ≤ 30 := readJS_len a0
  have HRN := Lib.hid (readJS_needs a0)
  have HRO := Lib.hid (readJS_ok a0)
  go_wp2_with fail
  refine (ReadJobsS_c a0 w hm0).mono ?_
  rintro e w1 ⟨RSv, rfl, hq1, hb1⟩
  obtain ⟨RSA, RSc, rfl⟩ := hq1.form
  have z1 := hb1.size
  have b1 : Below w.heap.size w w1 := b0.trans (hb1.mono b0.size)
  have y1 := b1.size
  have RS := Lib.hid hq1; clear hq1
  go_wp2_with fail
  refine (ReadJobsI_c a0 w1 hm0 (HT.out.below b1)).mono ?_
  rintro e w2 ⟨RIv, rfl, hq2, hb2⟩
  obtain ⟨RIA, RIc, rfl⟩ := hq2.form
  have z2 := hb2.size
  have b2 : Below w.heap.size w w2 := b1.trans (hb2.mono b1.size)
  have y2 := b2.size
  have RS_2 := Lib.hid (RS.out.below hb2 (Nat.le_refl _)); clear RS
  have RI := Lib.hid hq2; clear hq2
  generalize hR : readJS a0 = R at *
  have HR := Lib.hid hR; clear hR
  go_wp2_with fail
  refine (eqJobS_c _ _ R.1.length _ _ R.1 w2 rfl (by unfold maxLen; omega) RI.out.rd RS_2.out.rd HRO.out).mono ?_
  rintro e w3 ⟨rfl, hb3⟩
  have z3 := hb3.size
  have b3 : Below w.heap.size w w3 := b2.trans (hb3.mono b2.size)
  have y3 := b3.size
  have RS_3 := Lib.hid (RS_2.out.below hb3 (by omega)); clear RS_2
  have RI_3 := Lib.hid (RI.out.below hb3 (by omega)); clear RI
  have HK : Hid (∀ (i : Nat) (d : JobD), R.1[i]? = some d → d.needs.length ≤ 1048576) := Lib.hid fun i d hd => by have := HRN.out i d hd; omega
  go_wp2_with fail
  refine (markJobS2_c w1.heap.size w2.heap.size _ R.1.length _ R.1 1 w3 (by omega) (by omega) HK.out RI_3.out).mono ?_
  rintro e w4 ⟨rfl, hm4, ho4⟩
  have z4 := ho4.size
  have b4 : Below w.heap.size w w4 := Outer.below b3 ho4 (by omega) (by omega)
  have y4 := b4.size
  have RS_4 := Lib.hid (RS_3.out.outer ho4 (Nat.le_refl _)); clear RS_3
  clear RI_3
  have RM := Lib.hid hm4; clear hm4
  generalize hQ : qJ R.1 1 R.1.length = Q at *
  have HQ := Lib.hid hQ; clear hQ
  have hqb := qJ_bd R.1 1 1048576 HK.out R.1.length (Nat.le_refl _)
  rw [HQ.out] at hqb
  have hq0 : ¬ Q < 0 := by omega
  clear hqb
  go_wp2_with fail
  refine (heldJobS2_c _ R.1.length _ R.1 1 w4 (by omega) (by omega) HK.out rfl RM.out.rd).mono ?_
  rw [HQ.out]
  rintro e w5 ⟨rfl, hb5⟩
  have z5 := hb5.size
  have b5 : Below w.heap.size w w5 := b4.trans (hb5.mono b4.size)
  have y5 := b5.size
  have RS_5 := Lib.hid (RS_4.out.below hb5 (by omega)); clear RS_4
  have RM_5 := Lib.hid (RM.out.below hb5 (by omega)); clear RM
  go_wp2_with fail
  refine (ReadJobsI_c a0 w5 hm0 (HT.out.below b5)).mono ?_
  rw [HR.out]
  rintro e w6 ⟨RJv, rfl, hq6, hb6⟩
  obtain ⟨RJA, RJc, rfl⟩ := hq6.form
  have z6 := hb6.size
  have b6 : Below w.heap.size w w6 := b5.trans (hb6.mono b5.size)
  have y6 := b6.size
  have RS_6 := Lib.hid (RS_5.out.below hb6 (by omega)); clear RS_5
  have RM_6 := Lib.hid (RM_5.out.below hb6 (by omega)); clear RM_5
  have RJ := Lib.hid hq6; clear hq6
  go_wp2_with fail
  refine (eqJobS_c _ _ R.1.length _ _ R.1 w6 rfl (by unfold maxLen; omega) RJ.out.rd RS_6.out.rd HRO.out).mono ?_
  rintro e w7 ⟨rfl, hb7⟩
  have z7 := hb7.size
  have b7 : Below w.heap.size w w7 := b6.trans (hb7.mono b6.size)
  have y7 := b7.size
  have RM_7 := Lib.hid (RM_6.out.below hb7 (by omega)); clear RM_6
  clear RS_6 RJ
  go_wp2_with fail
  refine (heldJobS2_c _ R.1.length _ R.1 1 w7 (by omega) (by omega) HK.out rfl RM_7.out.rd).mono ?_
  rw [HQ.out]
  rintro e w8 ⟨rfl, hb8⟩
  have z8 := hb8.size
  have b8 : Below w.heap.size w w8 := b7.trans (hb8.mono b7.size)
  have y8 := b8.size
  go_wp2_with fail
  go_ret
  exact ⟨rfl, b8⟩

end Go.Proofs.YtaebofpgdonnbaaDoor
