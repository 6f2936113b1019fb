/-
  Texts merged into one: DoorW, DoorU, DoorV.
-/
import Derived.Test.YtedlgpccmlcijaaGreatDoorRows
import Derived.ChangeSame
import Derived.ChangeVars
import Derived.JoinedOf
import Derived.RowKit
import Derived.RowKitTokens
import Derived.LaidLaws
import Derived.LaidHandle
import Derived.Stop.Joined
import Derived.Lib.LaidU8
import Derived.Test.YtedlgpccmlcijaaGreatDoorWhenDate
import Derived.Test.YtedlgpccmlcijaaGreatDoorMTell
namespace Go.Proofs.YtedlgpccmlcijaaGreatDoor
open Go.ChangeShapes Go.WideShapes Go.RowKit
set_option linter.unusedVariables false

def putCells (h : Array Obj) (g : Nat) (cs : Array Value) : Array Obj := h.modify g fun
  | .cells _ t frozen => .cells cs t frozen
  | o => o
/-- a world that meets the conditions: the settled one, the listed variables' cells laid -/
noncomputable def heldWorld (os : Os) : World :=
  let w0 := World.holding Tryz.prog os ⟨#[], #[], []⟩
  let h0 := w0.heap
  let h0 := putCells h0 0 #[.iface 170 (.agg #[typeHandle Tryz.prog 30])]
  let h0 := putCells h0 2 (Lib.firstTab.map fun z => Value.int .u8 z).toArray
  let h0 := putCells h0 3 ((List.range 16).flatMap fun i => [Value.int .u8 (Lib.accLo i), Value.int .u8 (Lib.accHi i)]).toArray
  { w0 with heap := h0 }

end Go.Proofs.YtedlgpccmlcijaaGreatDoor

namespace Go.Proofs.YtedlgpccmlcijaaGreatDoor
open Go.RowKit
set_option linter.unusedVariables false

theorem hasM_of {w : World} (h : w.ShapedOpen Tryz.prog) : HasM w := Tryz.laysM144.s1_3 w h
theorem hasU_of {w : World} {l : List (String × DataW Unit)} (hL : laidMet Tryz.prog l w) (h1 : ("unicode/utf8.first", Lib.firstData) ∈ l) (h2 : ("unicode/utf8.acceptRanges", Lib.acceptData) ∈ l) : HasU w :=
  utf8Tabs_of_reads Tryz.lays260 ⟨by kernel_rfl, by kernel_rfl, by kernel_rfl, by kernel_rfl, by kernel_rfl, by kernel_rfl, by kernel_rfl⟩ (Lib.laidMet.reads hL h1) (Lib.laidMet.reads hL h2)

end Go.Proofs.YtedlgpccmlcijaaGreatDoor

namespace Go.Proofs.YtedlgpccmlcijaaGreatDoor
open Go.ChangeShapes Go.WideShapes Go.RowKit
set_option linter.unusedVariables false

theorem doorV_et : Tryz.prog.globalNamed "errors.errorType" = some 0 := by kernel_rfl
theorem doorV_rt : (Tryz.prog.cutTypes.find? (·.1 == "internal/reflectlite.rtype")).map (·.2) = some 170 := by kernel_rfl
theorem doorV_one : ((List.range 260).filter fun t => Tryz.prog.rowNamed t [101, 114, 114, 111, 114]) = [30] := by kernel_rfl
theorem doorV_size : Tryz.prog.types.size = 260 := by kernel_rfl
theorem laidE_of_handles {W : World} (h : handlesMet Tryz.prog [("errors.errorType", Rows.laid_errors_errorType)] W) : LaidE W := by
  obtain ⟨name, u, ty, e1, e2, e3, e4, e5⟩ := h _ (List.mem_singleton.2 rfl)
  have en : name = [101, 114, 114, 111, 114] := (Option.some.inj e1).symm
  subst en
  obtain rfl := Option.some.inj (doorV_rt.symm.trans e2)
  have hm : ty ∈ (List.range 260).filter fun t => Tryz.prog.rowNamed t [101, 114, 114, 111, 114] := List.mem_filter.2 ⟨List.mem_range.2 (by rw [← doorV_size]; exact e3), e4⟩
  rw [doorV_one] at hm
  obtain rfl := List.mem_singleton.1 hm
  have hh : typeHandle Tryz.prog 30 = .pointer (some (hA 30)) := by kernel_rfl
  rw [hh] at e5
  unfold LaidE
  simpa using World.var?_cell doorV_et e5 0
set_option maxRecDepth 100000 in
set_option maxHeartbeats 1000000 in
/-- the two kinds of a mixed list -/
theorem mixed_parts {W : World} (h : laidMetH Tryz.prog [("unicode/utf8.acceptRanges", Rows.laid_unicode_utf8_acceptRanges), ("errors.errorType", Rows.laid_errors_errorType), ("unicode/utf8.first", Rows.laid_unicode_utf8_first)] W) : HasU W ∧ LaidE W := by
  have h' : laidMet Tryz.prog [("unicode/utf8.acceptRanges", Rows.laid_unicode_utf8_acceptRanges), ("unicode/utf8.first", Rows.laid_unicode_utf8_first)] W ∧ handlesMet Tryz.prog [("errors.errorType", Rows.laid_errors_errorType)] W := h
  exact ⟨hasU_of h'.1 (.tail _ (.head _)) (.head _), laidE_of_handles h'.2⟩

end Go.Proofs.YtedlgpccmlcijaaGreatDoor
