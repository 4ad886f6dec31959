/- The walk of FnExactReadPieces. -/
import Derived.Test.YtaebofpgdonnbaaDoorReadP3
import Derived.Test.YtaebofpgdonnbaaDoorMarkPiece
import Derived.Test.YtaebofpgdonnbaaDoorLawCalls
set_option linter.unusedVariables false
set_option linter.unusedSimpArgs false
namespace Go.Proofs.YtaebofpgdonnbaaDoor
open Go.RowKit

set_option maxHeartbeats 4000000 in
theorem fnExactReadPieces_walk (w : World) (ht : Tab w) (a0 : ByteArray) (wf0 : a0.size ≤ maxLen) :
    Calls Tryd.prog 7 #[.string a0] w fun e w' => e = .returned (.bool true) ∧ Below w.heap.size w w' := by
  have HT := Lib.hid ht; clear ht
  have hx0' := wf0; unfold maxLen at hx0'
  by_cases hm0 : a0.size ≤ 1048576
  rotate_left
  · have hp0 : (1048576 : Int) < ((a0.size : Nat) : Int) := by omega
    go_enter Tryd.func7, Tryd.ntmps7
    go_wp2_with fail
    go_ret
    exact ⟨rfl, Below.refl _ _⟩
  have hp0 : ¬ (1048576 : Int) < ((a0.size : Nat) : Int) := by omega
  go_enter Tryd.func7, Tryd.ntmps7
  have b0 : Below w.heap.size w w := Below.refl _ _
  have z0 : w.heap.size ≤ w.heap.size := Nat.le_refl _
  have hRl : (readPS a0).1.length ≤ 1048576 := readPS_len a0
  go_wp2_with fail
  refine (ReadPiecesS_c a0 w hm0).mono ?_
  rintro e w1 ⟨RSv, rfl, hq1, hb1⟩
  have RSk := hq1.lt
  obtain ⟨RSA, RSc, rfl, _⟩ := own_form hq1
  replace RSk := Lib.hid RSk
  have z1 := hb1.size
  have b1 : Below w.heap.size w w1 := b0.trans (hb1.mono b0.size)
  have y1 := b1.size
  have RS := Lib.hid hq1; clear hq1
  go_wp2_with fail
  refine (ReadPiecesI_c a0 w1 hm0 (HT.out.below b1)).mono ?_
  rintro e w2 ⟨RIv, rfl, hq2, hb2⟩
  have RIk := hq2.lt
  obtain ⟨RIA, RIc, rfl, _⟩ := own_form hq2
  replace RIk := Lib.hid RIk
  have z2 := hb2.size
  have b2 : Below w.heap.size w w2 := b1.trans (hb2.mono b1.size)
  have y2 := b2.size
  have RS_2 := Lib.hid (own_call RS.out hb2); clear RS
  have RI := Lib.hid hq2; clear hq2
  generalize hR : readPS a0 = R at *
  have HR := Lib.hid hR; clear hR
  go_wp2_with fail
  refine (eqPieceS_c _ _ R.1.length _ _ R.1 w2.heap.size w2 rfl (by unfold maxLen; omega) (Nat.le_refl _) (Rd.of_own pcell_len (by decide) (n := R.1.length) RI.out) (Rd.of_own pcell_len (by decide) (n := R.1.length) RS_2.out)).mono ?_
  rintro e w3 ⟨rfl, hb3⟩
  have z3 := hb3.size
  have b3 : Below w.heap.size w w3 := b2.trans (hb3.mono b2.size)
  have y3 := b3.size
  have RS_3 := Lib.hid (own_call RS_2.out hb3); clear RS_2
  have RI_3 := Lib.hid (own_call RI.out hb3); clear RI
  go_wp2_with fail
  refine (markPieceS_c _ R.1.length _ 1 _ _ w3 (by omega) (by omega) RI_3.out).mono ?_
  rintro e w4 ⟨rfl, hm4, hg4⟩
  have z4 := hg4.size
  have b4 : Below w.heap.size w w4 := below_of_grown b3 hg4 b3.size (fun q hq => by have h1 := RIk.out q hq; omega)
  have y4 := b4.size
  have RS_4 := Lib.hid (own_ne RS_3.out hg4 (fun q hq hc => by have h1 := RSk.out q hq; have h2 := RIk.out q hc.symm; omega)); clear RS_3
  clear RI_3
  have RM := Lib.hid hm4; clear hm4
  go_wp2_with fail
  refine (heldPieceS_c _ R.1.length _ 1 w4 (by omega) (by omega) (Rd.of_own pcell_len (by decide) (n := R.1.length) RM.out)).mono ?_
  rintro e w5 ⟨rfl, hb5⟩
  have z5 := hb5.size
  have b5 : Below w.heap.size w w5 := b4.trans (hb5.mono b4.size)
  have y5 := b5.size
  have RS_5 := Lib.hid (own_call RS_4.out hb5); clear RS_4
  have RM_5 := Lib.hid (own_call RM.out hb5); clear RM
  go_wp2_with fail
  refine (ReadPiecesI_c a0 w5 hm0 (HT.out.below b5)).mono ?_
  rw [HR.out]
  rintro e w6 ⟨RJv, rfl, hq6, hb6⟩
  have RJk := hq6.lt
  obtain ⟨RJA, RJc, rfl, _⟩ := own_form hq6
  replace RJk := Lib.hid RJk
  have z6 := hb6.size
  have b6 : Below w.heap.size w w6 := b5.trans (hb6.mono b5.size)
  have y6 := b6.size
  have RS_6 := Lib.hid (own_call RS_5.out hb6); clear RS_5
  have RM_6 := Lib.hid (own_call RM_5.out hb6); clear RM_5
  have RJ := Lib.hid hq6; clear hq6
  go_wp2_with fail
  refine (eqPieceS_c _ _ R.1.length _ _ R.1 w6.heap.size w6 rfl (by unfold maxLen; omega) (Nat.le_refl _) (Rd.of_own pcell_len (by decide) (n := R.1.length) RJ.out) (Rd.of_own pcell_len (by decide) (n := R.1.length) RS_6.out)).mono ?_
  rintro e w7 ⟨rfl, hb7⟩
  have z7 := hb7.size
  have b7 : Below w.heap.size w w7 := b6.trans (hb7.mono b6.size)
  have y7 := b7.size
  have RS_7 := Lib.hid (own_call RS_6.out hb7); clear RS_6
  have RM_7 := Lib.hid (own_call RM_6.out hb7); clear RM_6
  have RJ_7 := Lib.hid (own_call RJ.out hb7); clear RJ
  go_wp2_with fail
  refine (heldPieceS_c _ R.1.length _ 1 w7 (by omega) (by omega) (Rd.of_own pcell_len (by decide) (n := R.1.length) RM_7.out)).mono ?_
  rintro e w8 ⟨rfl, hb8⟩
  have z8 := hb8.size
  have b8 : Below w.heap.size w w8 := b7.trans (hb8.mono b7.size)
  have y8 := b8.size
  have RS_8 := Lib.hid (own_call RS_7.out hb8); clear RS_7
  have RM_8 := Lib.hid (own_call RM_7.out hb8); clear RM_7
  have RJ_8 := Lib.hid (own_call RJ_7.out hb8); clear RJ_7
  go_wp2_with fail
  go_ret
  exact ⟨rfl, b8⟩

end Go.Proofs.YtaebofpgdonnbaaDoor
