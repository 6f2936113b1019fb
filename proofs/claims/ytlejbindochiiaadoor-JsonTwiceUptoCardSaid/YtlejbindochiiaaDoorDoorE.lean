/-
  What the handle errors.errorType on a row's list gives: LaidE. Plain.
-/
import Derived.Test.YtlejbindochiiaaDoorDoorW
import Derived.Test.YtlejbindochiiaaDoorTell
namespace Go.Proofs.YtlejbindochiiaaDoor
open Go.ChangeShapes Go.WideShapes Go.RowKit
set_option linter.unusedVariables false

theorem doorV_et : Tryd.prog.globalNamed "errors.errorType" = some 0 := by kernel_rfl
theorem doorV_rt : (Tryd.prog.cutTypes.find? (·.1 == "internal/reflectlite.rtype")).map (·.2) = some 91 := by kernel_rfl
theorem doorV_one : ((List.range 134).filter fun t => Tryd.prog.rowNamed t [101, 114, 114, 111, 114]) = [29] := by kernel_rfl
theorem doorV_size : Tryd.prog.types.size = 134 := by kernel_rfl
theorem laidE_of_handles {W : World} (h : handlesMet Tryd.prog [("errors.errorType", Rows.laid_errors_errorType)] W) : LaidE W := by
  obtain ⟨name, u, ty, e1, e2, e3, e4, e5⟩ := h _ (List.mem_singleton.2 rfl)
  have en : name = [101, 114, 114, 111, 114] := (Option.some.inj e1).symm
  subst en
  obtain rfl := Option.some.inj (doorV_rt.symm.trans e2)
  have hm : ty ∈ (List.range 134).filter fun t => Tryd.prog.rowNamed t [101, 114, 114, 111, 114] := List.mem_filter.2 ⟨List.mem_range.2 (by rw [← doorV_size]; exact e3), e4⟩
  rw [doorV_one] at hm
  obtain rfl := List.mem_singleton.1 hm
  have hh : typeHandle Tryd.prog 29 = .pointer (some (hA 29)) := by kernel_rfl
  rw [hh] at e5
  unfold LaidE
  simpa using World.var?_cell doorV_et e5 0

end Go.Proofs.YtlejbindochiiaaDoor
