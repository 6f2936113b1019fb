/-
  DERIVED. GIVEN WITH THE SEED: THE CARDS: each row of YtedlgpccmlcijaaGreatDoorRows.lean that lists a variable, with what it lists TIED to the program's text (the seventh form; the later family's looks); each row that meets fmt, with fmt's text TOLD by the authors' own Lean function (tested against real Go, not proved from fmt's source: count such statements apart). THE CARD IS WHAT COUNTS. Prove the row's statement (the work); the ties are given (YtedlgpccmlcijaaGreatDoorTie.lean); close each card by the builder's one call (the guide's Derived/Test/ToyasCard.lean, 'card_holds'). Laid BY PROGRAM, IN A SANDBOX (cutbox-door.mjs). By AI agents, Wed Nov 11 2026. No macro, syntax, notation, axiom, sorry.
-/
import Derived.Test.YtedlgpccmlcijaaGreatDoorRows
import GoSem.ClaimSeven
namespace Go.Proofs.YtedlgpccmlcijaaGreatDoor
namespace Rows

/-- THE TIED CARD OF 'visitingcardkeep.ValueBack'. -/
def valueBackCard : Claim7 := { stood := { row := valueBackRow, standIns := [], harness := (true, "eed6eae0bf6a4246b254b3ebd9be81d37915d858bbde79e6eeb0444b953988dd"), looks := true }, kinds := [], alts := [], laidByText := true, laidKinds := [.data, .handle, .pinned], laidTests := true, laidLooks := .later }
def ValueBackCardSaid : Prop := Claim7.holds Tryz.pinned (.plain (OpenSpec.ofChange valueBackSpec)) valueBackCard

/-- THE TIED CARD OF 'visitingcardkeep.ValueStill'. -/
def valueStillCard : Claim7 := { stood := { row := valueStillRow, standIns := [], harness := (true, "eed6eae0bf6a4246b254b3ebd9be81d37915d858bbde79e6eeb0444b953988dd"), looks := true }, kinds := [], alts := [], laidByText := true, laidKinds := [.data, .handle, .pinned], laidTests := true, laidLooks := .later }
def ValueStillCardSaid : Prop := Claim7.holds Tryz.pinned (.plain (OpenSpec.ofChange valueStillSpec)) valueStillCard

/-- THE TIED CARD OF 'visitingcardkeep.ValueOther'. -/
def valueOtherCard : Claim7 := { stood := { row := valueOtherRow, standIns := [], harness := (true, "eed6eae0bf6a4246b254b3ebd9be81d37915d858bbde79e6eeb0444b953988dd"), looks := true }, kinds := [], alts := [], laidByText := true, laidKinds := [.data, .handle, .pinned], laidTests := true, laidLooks := .later }
def ValueOtherCardSaid : Prop := Claim7.holds Tryz.pinned (.plain (OpenSpec.ofChange valueOtherSpec)) valueOtherCard

/-- THE TIED CARD OF 'visitingcardkeep.ValueTypes'. -/
def valueTypesCard : Claim7 := { stood := { row := valueTypesRow, standIns := [], harness := (true, "eed6eae0bf6a4246b254b3ebd9be81d37915d858bbde79e6eeb0444b953988dd"), looks := true }, kinds := [], alts := [], laidByText := true, laidKinds := [.data, .handle, .pinned], laidTests := true, laidLooks := .later }
def ValueTypesCardSaid : Prop := Claim7.holds Tryz.pinned (.plain (OpenSpec.ofChange valueTypesSpec)) valueTypesCard

/-- THE TIED CARD OF 'visitingcardkeep.ValueList'. -/
def valueListCard : Claim7 := { stood := { row := valueListRow, standIns := [], harness := (true, "eed6eae0bf6a4246b254b3ebd9be81d37915d858bbde79e6eeb0444b953988dd"), looks := true }, kinds := [], alts := [], laidByText := true, laidKinds := [.data, .handle, .pinned], laidTests := true, laidLooks := .later }
def ValueListCardSaid : Prop := Claim7.holds Tryz.pinned (.plain (OpenSpec.ofChange valueListSpec)) valueListCard

/-- THE SECOND FORM's CARD OF 'visitingcardkeep.ValueBack'. -/
def valueBackUptoCard : Claim7 := { stood := { row := valueBackUptoRow, standIns := [], harness := (true, "eed6eae0bf6a4246b254b3ebd9be81d37915d858bbde79e6eeb0444b953988dd"), looks := true }, kinds := [], alts := [], laidByText := true, laidKinds := [.data, .handle, .pinned], laidTests := true, laidLooks := .later }
def ValueBackUptoCardSaid : Prop := Claim7.holds Tryz.pinned (.plain (OpenSpec.upto valueBackSpec)) valueBackUptoCard

/-- THE SECOND FORM's CARD OF 'visitingcardkeep.ValueStill'. -/
def valueStillUptoCard : Claim7 := { stood := { row := valueStillUptoRow, standIns := [], harness := (true, "eed6eae0bf6a4246b254b3ebd9be81d37915d858bbde79e6eeb0444b953988dd"), looks := true }, kinds := [], alts := [], laidByText := true, laidKinds := [.data, .handle, .pinned], laidTests := true, laidLooks := .later }
def ValueStillUptoCardSaid : Prop := Claim7.holds Tryz.pinned (.plain (OpenSpec.upto valueStillSpec)) valueStillUptoCard

/-- THE SECOND FORM's CARD OF 'visitingcardkeep.ValueOther'. -/
def valueOtherUptoCard : Claim7 := { stood := { row := valueOtherUptoRow, standIns := [], harness := (true, "eed6eae0bf6a4246b254b3ebd9be81d37915d858bbde79e6eeb0444b953988dd"), looks := true }, kinds := [], alts := [], laidByText := true, laidKinds := [.data, .handle, .pinned], laidTests := true, laidLooks := .later }
def ValueOtherUptoCardSaid : Prop := Claim7.holds Tryz.pinned (.plain (OpenSpec.upto valueOtherSpec)) valueOtherUptoCard

/-- THE SECOND FORM's CARD OF 'visitingcardkeep.ValueTypes'. -/
def valueTypesUptoCard : Claim7 := { stood := { row := valueTypesUptoRow, standIns := [], harness := (true, "eed6eae0bf6a4246b254b3ebd9be81d37915d858bbde79e6eeb0444b953988dd"), looks := true }, kinds := [], alts := [], laidByText := true, laidKinds := [.data, .handle, .pinned], laidTests := true, laidLooks := .later }
def ValueTypesUptoCardSaid : Prop := Claim7.holds Tryz.pinned (.plain (OpenSpec.upto valueTypesSpec)) valueTypesUptoCard

/-- THE SECOND FORM's CARD OF 'visitingcardkeep.ValueList'. -/
def valueListUptoCard : Claim7 := { stood := { row := valueListUptoRow, standIns := [], harness := (true, "eed6eae0bf6a4246b254b3ebd9be81d37915d858bbde79e6eeb0444b953988dd"), looks := true }, kinds := [], alts := [], laidByText := true, laidKinds := [.data, .handle, .pinned], laidTests := true, laidLooks := .later }
def ValueListUptoCardSaid : Prop := Claim7.holds Tryz.pinned (.plain (OpenSpec.upto valueListSpec)) valueListUptoCard
end Rows
end Go.Proofs.YtedlgpccmlcijaaGreatDoor
