/- Contracts: ReadPieces, both sides, in one form. -/
import Derived.Test.YtaebofpgdonnbaaDoorReadP2
set_option linter.unusedVariables false
set_option linter.unusedSimpArgs false
namespace Go.Proofs.YtaebofpgdonnbaaDoor
open Go.RowKit
theorem ReadPiecesI_c (s : ByteArray) (w : World) (hs : s.size ≤ 1048576) (ht : Tab w) :
    Calls Tryd.prog 32 #[.string s] w fun e w' => ∃ v, e = .returned (.tuple #[v, .bool (readPS s).2]) ∧ w'.ownsRow w.heap.size 79 4 v (readPS s).1.length ((readPS s).1.flatMap pcell) ∧ Below w.heap.size w w' := by
  rw [← read_eq]
  exact ReadPiecesI0_c s w hs ht
theorem readPS_len (s : ByteArray) : (readPS s).1.length ≤ 1048576 := by
  unfold readPS
  split
  · split
    · split
      · rename_i hv
        exact Nat.le_trans (valid_all hv).2.1 (by decide)
      · exact Nat.zero_le _
    · exact Nat.zero_le _
  · exact Nat.zero_le _
end Go.Proofs.YtaebofpgdonnbaaDoor
