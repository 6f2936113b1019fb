/-
  ERRORS as values: an Errno, and an At at a place. Plain lemmas.
-/
import Derived.Test.YtkhnghcecnghmaaDoorBase
namespace Go.Proofs.YtkhnghcecnghmaaDoor
open Go.RowKit
set_option linter.unusedVariables false
set_option linter.unusedSimpArgs false

/-- an error that is an Errno -/
@[go_sem] def eno (n : Int) : Value := .iface 45 (.int .i64 n)

end Go.Proofs.YtkhnghcecnghmaaDoor
