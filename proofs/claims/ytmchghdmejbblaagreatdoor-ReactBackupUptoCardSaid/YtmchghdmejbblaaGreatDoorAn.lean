/- canopylaw26.begins yields true. -/
import Derived.Test.YtmchghdmejbblaaGreatDoorAm
set_option linter.unusedSimpArgs false
set_option linter.unusedVariables false
namespace Go.Proofs.YtmchghdmejbblaaGreatDoor
open Go Go.Ab Go.RowKit
theorem begins26_run : isTrue ((ev tb gf extA 3000).call 40 [] o0) = true := by kernel_rfl
theorem begins26 (w : World) : Calls Tryz.prog 40 #[] w fun e w' => e = .returned (.bool true) ∧ Below w.heap.size w w' :=
  closed_calls Tryz.func40 rfl (by kernel_rfl) begins26_run w
end Go.Proofs.YtmchghdmejbblaaGreatDoor
