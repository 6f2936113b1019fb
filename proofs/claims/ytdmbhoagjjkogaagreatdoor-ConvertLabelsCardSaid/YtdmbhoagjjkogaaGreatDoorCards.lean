/-
  DERIVED. GIVEN WITH THE SEED: THE CARDS: each row of YtdmbhoagjjkogaaGreatDoorRows.lean that lists a variable, with what it lists TIED to the program's text (the seventh form; the later family's looks); each row that meets fmt, with fmt's text TOLD by the authors' own Lean function (tested against real Go, not proved from fmt's source: count such statements apart). THE CARD IS WHAT COUNTS. Prove the row's statement (the work); the ties are given (YtdmbhoagjjkogaaGreatDoorTie.lean); close each card by the builder's one call (the guide's Derived/Test/ToyasCard.lean, 'card_holds'). Laid BY PROGRAM, IN A SANDBOX (cutbox-door.mjs). By AI agents, Wed Nov 11 2026. No macro, syntax, notation, axiom, sorry.
-/
import Derived.Test.YtdmbhoagjjkogaaGreatDoorRows
import GoSem.ClaimSeven
namespace Go.Proofs.YtdmbhoagjjkogaaGreatDoor
namespace Rows

/-- THE TIED CARD OF 'visitingcardkeep.ConvertLabels'. -/
def convertLabelsCard : Claim7 := { stood := { row := convertLabelsRow, standIns := [], harness := (true, "978bcb36f1fb2f7938b86b0a3650b5c06a41f5b6c529f2b21f87b8b91a366801"), looks := true }, kinds := [], alts := [], laidByText := true, laidKinds := [.data, .data, .data, .data, .handle, .sentinel, .sentinel, .listed, .data, .pinned], laidTests := true, laidLooks := .later }
def ConvertLabelsCardSaid : Prop := Claim7.holds Tryz.pinned (.plain (OpenSpec.ofChange convertLabelsSpec)) convertLabelsCard

/-- THE TIED CARD OF 'visitingcardkeep.ConvertPrefs'. -/
def convertPrefsCard : Claim7 := { stood := { row := convertPrefsRow, standIns := [], harness := (true, "978bcb36f1fb2f7938b86b0a3650b5c06a41f5b6c529f2b21f87b8b91a366801"), looks := true }, kinds := [], alts := [], laidByText := true, laidKinds := [.data, .data, .data, .data, .handle, .sentinel, .sentinel, .listed, .data, .pinned], laidTests := true, laidLooks := .later }
def ConvertPrefsCardSaid : Prop := Claim7.holds Tryz.pinned (.plain (OpenSpec.ofChange convertPrefsSpec)) convertPrefsCard

/-- THE TIED CARD OF 'visitingcardkeep.ConvertKeeps'. -/
def convertKeepsCard : Claim7 := { stood := { row := convertKeepsRow, standIns := [], harness := (true, "978bcb36f1fb2f7938b86b0a3650b5c06a41f5b6c529f2b21f87b8b91a366801"), looks := true }, kinds := [], alts := [], laidByText := true, laidKinds := [.data, .data, .data, .data, .handle, .sentinel, .sentinel, .listed, .data, .pinned], laidTests := true, laidLooks := .later }
def ConvertKeepsCardSaid : Prop := Claim7.holds Tryz.pinned (.plain (OpenSpec.ofChange convertKeepsSpec)) convertKeepsCard

/-- THE TIED CARD OF 'visitingcardkeep.ConvertRight'. -/
def convertRightCard : Claim7 := { stood := { row := convertRightRow, standIns := [], harness := (true, "978bcb36f1fb2f7938b86b0a3650b5c06a41f5b6c529f2b21f87b8b91a366801"), looks := true }, kinds := [], alts := [], laidByText := true, laidKinds := [.data, .data, .data, .data, .handle, .sentinel, .sentinel, .listed, .data, .pinned], laidTests := true, laidLooks := .later }
def ConvertRightCardSaid : Prop := Claim7.holds Tryz.pinned (.plain (OpenSpec.ofChange convertRightSpec)) convertRightCard

/-- THE SECOND FORM's CARD OF 'visitingcardkeep.ConvertLabels'. -/
def convertLabelsUptoCard : Claim7 := { stood := { row := convertLabelsUptoRow, standIns := [], harness := (true, "978bcb36f1fb2f7938b86b0a3650b5c06a41f5b6c529f2b21f87b8b91a366801"), looks := true }, kinds := [], alts := [], laidByText := true, laidKinds := [.data, .data, .data, .data, .handle, .sentinel, .sentinel, .listed, .data, .pinned], laidTests := true, laidLooks := .later }
def ConvertLabelsUptoCardSaid : Prop := Claim7.holds Tryz.pinned (.plain (OpenSpec.upto convertLabelsSpec)) convertLabelsUptoCard

/-- THE SECOND FORM's CARD OF 'visitingcardkeep.ConvertPrefs'. -/
def convertPrefsUptoCard : Claim7 := { stood := { row := convertPrefsUptoRow, standIns := [], harness := (true, "978bcb36f1fb2f7938b86b0a3650b5c06a41f5b6c529f2b21f87b8b91a366801"), looks := true }, kinds := [], alts := [], laidByText := true, laidKinds := [.data, .data, .data, .data, .handle, .sentinel, .sentinel, .listed, .data, .pinned], laidTests := true, laidLooks := .later }
def ConvertPrefsUptoCardSaid : Prop := Claim7.holds Tryz.pinned (.plain (OpenSpec.upto convertPrefsSpec)) convertPrefsUptoCard

/-- THE SECOND FORM's CARD OF 'visitingcardkeep.ConvertKeeps'. -/
def convertKeepsUptoCard : Claim7 := { stood := { row := convertKeepsUptoRow, standIns := [], harness := (true, "978bcb36f1fb2f7938b86b0a3650b5c06a41f5b6c529f2b21f87b8b91a366801"), looks := true }, kinds := [], alts := [], laidByText := true, laidKinds := [.data, .data, .data, .data, .handle, .sentinel, .sentinel, .listed, .data, .pinned], laidTests := true, laidLooks := .later }
def ConvertKeepsUptoCardSaid : Prop := Claim7.holds Tryz.pinned (.plain (OpenSpec.upto convertKeepsSpec)) convertKeepsUptoCard

/-- THE SECOND FORM's CARD OF 'visitingcardkeep.ConvertRight'. -/
def convertRightUptoCard : Claim7 := { stood := { row := convertRightUptoRow, standIns := [], harness := (true, "978bcb36f1fb2f7938b86b0a3650b5c06a41f5b6c529f2b21f87b8b91a366801"), looks := true }, kinds := [], alts := [], laidByText := true, laidKinds := [.data, .data, .data, .data, .handle, .sentinel, .sentinel, .listed, .data, .pinned], laidTests := true, laidLooks := .later }
def ConvertRightUptoCardSaid : Prop := Claim7.holds Tryz.pinned (.plain (OpenSpec.upto convertRightSpec)) convertRightUptoCard
end Rows
end Go.Proofs.YtdmbhoagjjkogaaGreatDoor
