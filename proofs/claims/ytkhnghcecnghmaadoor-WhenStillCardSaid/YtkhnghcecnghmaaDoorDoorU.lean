/-
  What a row's list of the tables of unicode/utf8, and the shape of the world, give: HasM, HasU.
-/
import Derived.Test.YtkhnghcecnghmaaDoorWhenDate
import Derived.Test.YtkhnghcecnghmaaDoorDoorW
namespace Go.Proofs.YtkhnghcecnghmaaDoor
open Go.RowKit
set_option linter.unusedVariables false

theorem hasM_of {w : World} (h : w.ShapedOpen Tryd.prog) : HasM w := Tryd.laysM144.s1_3 w h
theorem hasU_of {w : World} {l : List (String × DataW Unit)} (hL : laidMet Tryd.prog l w) (h1 : ("unicode/utf8.first", Lib.firstData) ∈ l) (h2 : ("unicode/utf8.acceptRanges", Lib.acceptData) ∈ l) : HasU w :=
  utf8Tabs_of_reads Tryd.lays260 ⟨by kernel_rfl, by kernel_rfl, by kernel_rfl, by kernel_rfl, by kernel_rfl, by kernel_rfl, by kernel_rfl⟩ (Lib.laidMet.reads hL h1) (Lib.laidMet.reads hL h2)

end Go.Proofs.YtkhnghcecnghmaaDoor
