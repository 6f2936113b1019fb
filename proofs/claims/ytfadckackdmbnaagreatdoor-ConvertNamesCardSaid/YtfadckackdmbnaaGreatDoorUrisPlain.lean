/-
  What convert.Up makes of a picture that is told by where it is. Plain.
-/
import Derived.Test.YtfadckackdmbnaaGreatDoorTurned
namespace Go.Proofs.YtfadckackdmbnaaGreatDoor
open Go.RowKit
set_option linter.unusedVariables false
set_option linter.unusedSimpArgs false
theorem ann_one : oneX annFN = (annFN, true) ∧ oneX annN = (annN, true) := by
  constructor <;> kernel_rfl
end Go.Proofs.YtfadckackdmbnaaGreatDoor
