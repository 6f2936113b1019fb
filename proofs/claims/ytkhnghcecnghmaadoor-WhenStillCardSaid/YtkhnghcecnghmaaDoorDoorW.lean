/-
  A world in which the variables that rows list hold what their rows say. Plain lemmas.
-/
import Derived.Test.YtkhnghcecnghmaaDoorRows
import Derived.ChangeSame
import Derived.ChangeVars
import Derived.JoinedOf
import Derived.RowKit
import Derived.RowKitTokens
import Derived.LaidLaws
import Derived.LaidHandle
import Derived.Stop.Joined
import Derived.Lib.LaidU8
namespace Go.Proofs.YtkhnghcecnghmaaDoor
open Go.ChangeShapes Go.WideShapes Go.RowKit
set_option linter.unusedVariables false

def putCells (h : Array Obj) (g : Nat) (cs : Array Value) : Array Obj := h.modify g fun
  | .cells _ t frozen => .cells cs t frozen
  | o => o
/-- a world that meets the conditions: the settled one, the listed variables' cells laid -/
noncomputable def heldWorld (os : Os) : World :=
  let w0 := World.holding Tryd.prog os ⟨#[], #[], []⟩
  let h0 := w0.heap
  let h0 := putCells h0 1 (Lib.firstTab.map fun z => Value.int .u8 z).toArray
  let h0 := putCells h0 2 ((List.range 16).flatMap fun i => [Value.int .u8 (Lib.accLo i), Value.int .u8 (Lib.accHi i)]).toArray
  { w0 with heap := h0 }

end Go.Proofs.YtkhnghcecnghmaaDoor
