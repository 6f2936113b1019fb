/-
  DERIVED. GIVEN WITH THE SEED: THE CARDS: each row of YtfadckackdmbnaaGreatDoorRows.lean that lists a variable, with what it lists TIED to the program's text (the seventh form; the later family's looks); each row that meets fmt, with fmt's text TOLD by the authors' own Lean function (tested against real Go, not proved from fmt's source: count such statements apart). THE CARD IS WHAT COUNTS. Prove the row's statement (the work); the ties are given (YtfadckackdmbnaaGreatDoorTie.lean); close each card by the builder's one call (the guide's Derived/Test/ToyasCard.lean, 'card_holds'). Laid BY PROGRAM, IN A SANDBOX (cutbox-door.mjs). By AI agents, Wed Nov 11 2026. No macro, syntax, notation, axiom, sorry.
-/
import Derived.Test.YtfadckackdmbnaaGreatDoorRows
import GoSem.ClaimSeven
namespace Go.Proofs.YtfadckackdmbnaaGreatDoor
namespace Rows

/-- THE TIED CARD OF 'visitingcardkeep.ConvertNames'. -/
def convertNamesCard : Claim7 := { stood := { row := convertNamesRow, standIns := [], harness := (true, "6697f4238e5655e920ae12689f362e9b00aaf6b4ff9cdeae1d72a982cefde034"), looks := true }, kinds := [], alts := [], laidByText := true, laidKinds := [.data, .data, .data, .data, .handle, .sentinel, .sentinel, .listed, .data, .pinned], laidTests := true, laidLooks := .later }
def ConvertNamesCardSaid : Prop := Claim7.holds Tryz.pinned (.plain (OpenSpec.ofChange convertNamesSpec)) convertNamesCard

/-- THE TIED CARD OF 'visitingcardkeep.ConvertPrefs'. -/
def convertPrefsCard : Claim7 := { stood := { row := convertPrefsRow, standIns := [], harness := (true, "6697f4238e5655e920ae12689f362e9b00aaf6b4ff9cdeae1d72a982cefde034"), looks := true }, kinds := [], alts := [], laidByText := true, laidKinds := [.data, .data, .data, .data, .handle, .sentinel, .sentinel, .listed, .data, .pinned], laidTests := true, laidLooks := .later }
def ConvertPrefsCardSaid : Prop := Claim7.holds Tryz.pinned (.plain (OpenSpec.ofChange convertPrefsSpec)) convertPrefsCard

/-- THE TIED CARD OF 'visitingcardkeep.ConvertLabels'. -/
def convertLabelsCard : Claim7 := { stood := { row := convertLabelsRow, standIns := [], harness := (true, "6697f4238e5655e920ae12689f362e9b00aaf6b4ff9cdeae1d72a982cefde034"), looks := true }, kinds := [], alts := [], laidByText := true, laidKinds := [.data, .data, .data, .data, .handle, .sentinel, .sentinel, .listed, .data, .pinned], laidTests := true, laidLooks := .later }
def ConvertLabelsCardSaid : Prop := Claim7.holds Tryz.pinned (.plain (OpenSpec.ofChange convertLabelsSpec)) convertLabelsCard

/-- THE TIED CARD OF 'visitingcardkeep.ConvertPlaces'. -/
def convertPlacesCard : Claim7 := { stood := { row := convertPlacesRow, standIns := [], harness := (true, "6697f4238e5655e920ae12689f362e9b00aaf6b4ff9cdeae1d72a982cefde034"), looks := true }, kinds := [], alts := [], laidByText := true, laidKinds := [.data, .data, .data, .data, .handle, .sentinel, .sentinel, .listed, .data, .pinned], laidTests := true, laidLooks := .later }
def ConvertPlacesCardSaid : Prop := Claim7.holds Tryz.pinned (.plain (OpenSpec.ofChange convertPlacesSpec)) convertPlacesCard

/-- THE TIED CARD OF 'visitingcardkeep.ConvertUris'. -/
def convertUrisCard : Claim7 := { stood := { row := convertUrisRow, standIns := [], harness := (true, "6697f4238e5655e920ae12689f362e9b00aaf6b4ff9cdeae1d72a982cefde034"), looks := true }, kinds := [], alts := [], laidByText := true, laidKinds := [.data, .data, .data, .data, .handle, .sentinel, .sentinel, .listed, .data, .pinned], laidTests := true, laidLooks := .later }
def ConvertUrisCardSaid : Prop := Claim7.holds Tryz.pinned (.plain (OpenSpec.ofChange convertUrisSpec)) convertUrisCard

/-- THE TIED CARD OF 'visitingcardkeep.ConvertZones'. -/
def convertZonesCard : Claim7 := { stood := { row := convertZonesRow, standIns := [], harness := (true, "6697f4238e5655e920ae12689f362e9b00aaf6b4ff9cdeae1d72a982cefde034"), looks := true }, kinds := [], alts := [], laidByText := true, laidKinds := [.data, .data, .data, .data, .handle, .sentinel, .sentinel, .listed, .data, .pinned], laidTests := true, laidLooks := .later }
def ConvertZonesCardSaid : Prop := Claim7.holds Tryz.pinned (.plain (OpenSpec.ofChange convertZonesSpec)) convertZonesCard

/-- THE TIED CARD OF 'visitingcardkeep.ConvertKeeps'. -/
def convertKeepsCard : Claim7 := { stood := { row := convertKeepsRow, standIns := [], harness := (true, "6697f4238e5655e920ae12689f362e9b00aaf6b4ff9cdeae1d72a982cefde034"), looks := true }, kinds := [], alts := [], laidByText := true, laidKinds := [.data, .data, .data, .data, .handle, .sentinel, .sentinel, .listed, .data, .pinned], laidTests := true, laidLooks := .later }
def ConvertKeepsCardSaid : Prop := Claim7.holds Tryz.pinned (.plain (OpenSpec.ofChange convertKeepsSpec)) convertKeepsCard

/-- THE TIED CARD OF 'visitingcardkeep.ConvertIds'. -/
def convertIdsCard : Claim7 := { stood := { row := convertIdsRow, standIns := [], harness := (true, "6697f4238e5655e920ae12689f362e9b00aaf6b4ff9cdeae1d72a982cefde034"), looks := true }, kinds := [], alts := [], laidByText := true, laidKinds := [.data, .data, .data, .data, .handle, .sentinel, .sentinel, .listed, .data, .pinned], laidTests := true, laidLooks := .later }
def ConvertIdsCardSaid : Prop := Claim7.holds Tryz.pinned (.plain (OpenSpec.ofChange convertIdsSpec)) convertIdsCard

/-- THE TIED CARD OF 'visitingcardkeep.ConvertBytes'. -/
def convertBytesCard : Claim7 := { stood := { row := convertBytesRow, standIns := [], harness := (true, "6697f4238e5655e920ae12689f362e9b00aaf6b4ff9cdeae1d72a982cefde034"), looks := true }, kinds := [], alts := [], laidByText := true, laidKinds := [.data, .data, .data, .data, .handle, .sentinel, .sentinel, .listed, .data, .pinned], laidTests := true, laidLooks := .later }
def ConvertBytesCardSaid : Prop := Claim7.holds Tryz.pinned (.plain (OpenSpec.ofChange convertBytesSpec)) convertBytesCard

/-- THE TIED CARD OF 'visitingcardkeep.ConvertRight'. -/
def convertRightCard : Claim7 := { stood := { row := convertRightRow, standIns := [], harness := (true, "6697f4238e5655e920ae12689f362e9b00aaf6b4ff9cdeae1d72a982cefde034"), looks := true }, kinds := [], alts := [], laidByText := true, laidKinds := [.data, .data, .data, .data, .handle, .sentinel, .sentinel, .listed, .data, .pinned], laidTests := true, laidLooks := .later }
def ConvertRightCardSaid : Prop := Claim7.holds Tryz.pinned (.plain (OpenSpec.ofChange convertRightSpec)) convertRightCard

/-- THE SECOND FORM's CARD OF 'visitingcardkeep.ConvertNames'. -/
def convertNamesUptoCard : Claim7 := { stood := { row := convertNamesUptoRow, standIns := [], harness := (true, "6697f4238e5655e920ae12689f362e9b00aaf6b4ff9cdeae1d72a982cefde034"), looks := true }, kinds := [], alts := [], laidByText := true, laidKinds := [.data, .data, .data, .data, .handle, .sentinel, .sentinel, .listed, .data, .pinned], laidTests := true, laidLooks := .later }
def ConvertNamesUptoCardSaid : Prop := Claim7.holds Tryz.pinned (.plain (OpenSpec.upto convertNamesSpec)) convertNamesUptoCard

/-- THE SECOND FORM's CARD OF 'visitingcardkeep.ConvertPrefs'. -/
def convertPrefsUptoCard : Claim7 := { stood := { row := convertPrefsUptoRow, standIns := [], harness := (true, "6697f4238e5655e920ae12689f362e9b00aaf6b4ff9cdeae1d72a982cefde034"), looks := true }, kinds := [], alts := [], laidByText := true, laidKinds := [.data, .data, .data, .data, .handle, .sentinel, .sentinel, .listed, .data, .pinned], laidTests := true, laidLooks := .later }
def ConvertPrefsUptoCardSaid : Prop := Claim7.holds Tryz.pinned (.plain (OpenSpec.upto convertPrefsSpec)) convertPrefsUptoCard

/-- THE SECOND FORM's CARD OF 'visitingcardkeep.ConvertLabels'. -/
def convertLabelsUptoCard : Claim7 := { stood := { row := convertLabelsUptoRow, standIns := [], harness := (true, "6697f4238e5655e920ae12689f362e9b00aaf6b4ff9cdeae1d72a982cefde034"), looks := true }, kinds := [], alts := [], laidByText := true, laidKinds := [.data, .data, .data, .data, .handle, .sentinel, .sentinel, .listed, .data, .pinned], laidTests := true, laidLooks := .later }
def ConvertLabelsUptoCardSaid : Prop := Claim7.holds Tryz.pinned (.plain (OpenSpec.upto convertLabelsSpec)) convertLabelsUptoCard

/-- THE SECOND FORM's CARD OF 'visitingcardkeep.ConvertPlaces'. -/
def convertPlacesUptoCard : Claim7 := { stood := { row := convertPlacesUptoRow, standIns := [], harness := (true, "6697f4238e5655e920ae12689f362e9b00aaf6b4ff9cdeae1d72a982cefde034"), looks := true }, kinds := [], alts := [], laidByText := true, laidKinds := [.data, .data, .data, .data, .handle, .sentinel, .sentinel, .listed, .data, .pinned], laidTests := true, laidLooks := .later }
def ConvertPlacesUptoCardSaid : Prop := Claim7.holds Tryz.pinned (.plain (OpenSpec.upto convertPlacesSpec)) convertPlacesUptoCard

/-- THE SECOND FORM's CARD OF 'visitingcardkeep.ConvertUris'. -/
def convertUrisUptoCard : Claim7 := { stood := { row := convertUrisUptoRow, standIns := [], harness := (true, "6697f4238e5655e920ae12689f362e9b00aaf6b4ff9cdeae1d72a982cefde034"), looks := true }, kinds := [], alts := [], laidByText := true, laidKinds := [.data, .data, .data, .data, .handle, .sentinel, .sentinel, .listed, .data, .pinned], laidTests := true, laidLooks := .later }
def ConvertUrisUptoCardSaid : Prop := Claim7.holds Tryz.pinned (.plain (OpenSpec.upto convertUrisSpec)) convertUrisUptoCard

/-- THE SECOND FORM's CARD OF 'visitingcardkeep.ConvertZones'. -/
def convertZonesUptoCard : Claim7 := { stood := { row := convertZonesUptoRow, standIns := [], harness := (true, "6697f4238e5655e920ae12689f362e9b00aaf6b4ff9cdeae1d72a982cefde034"), looks := true }, kinds := [], alts := [], laidByText := true, laidKinds := [.data, .data, .data, .data, .handle, .sentinel, .sentinel, .listed, .data, .pinned], laidTests := true, laidLooks := .later }
def ConvertZonesUptoCardSaid : Prop := Claim7.holds Tryz.pinned (.plain (OpenSpec.upto convertZonesSpec)) convertZonesUptoCard

/-- THE SECOND FORM's CARD OF 'visitingcardkeep.ConvertKeeps'. -/
def convertKeepsUptoCard : Claim7 := { stood := { row := convertKeepsUptoRow, standIns := [], harness := (true, "6697f4238e5655e920ae12689f362e9b00aaf6b4ff9cdeae1d72a982cefde034"), looks := true }, kinds := [], alts := [], laidByText := true, laidKinds := [.data, .data, .data, .data, .handle, .sentinel, .sentinel, .listed, .data, .pinned], laidTests := true, laidLooks := .later }
def ConvertKeepsUptoCardSaid : Prop := Claim7.holds Tryz.pinned (.plain (OpenSpec.upto convertKeepsSpec)) convertKeepsUptoCard

/-- THE SECOND FORM's CARD OF 'visitingcardkeep.ConvertIds'. -/
def convertIdsUptoCard : Claim7 := { stood := { row := convertIdsUptoRow, standIns := [], harness := (true, "6697f4238e5655e920ae12689f362e9b00aaf6b4ff9cdeae1d72a982cefde034"), looks := true }, kinds := [], alts := [], laidByText := true, laidKinds := [.data, .data, .data, .data, .handle, .sentinel, .sentinel, .listed, .data, .pinned], laidTests := true, laidLooks := .later }
def ConvertIdsUptoCardSaid : Prop := Claim7.holds Tryz.pinned (.plain (OpenSpec.upto convertIdsSpec)) convertIdsUptoCard

/-- THE SECOND FORM's CARD OF 'visitingcardkeep.ConvertBytes'. -/
def convertBytesUptoCard : Claim7 := { stood := { row := convertBytesUptoRow, standIns := [], harness := (true, "6697f4238e5655e920ae12689f362e9b00aaf6b4ff9cdeae1d72a982cefde034"), looks := true }, kinds := [], alts := [], laidByText := true, laidKinds := [.data, .data, .data, .data, .handle, .sentinel, .sentinel, .listed, .data, .pinned], laidTests := true, laidLooks := .later }
def ConvertBytesUptoCardSaid : Prop := Claim7.holds Tryz.pinned (.plain (OpenSpec.upto convertBytesSpec)) convertBytesUptoCard

/-- THE SECOND FORM's CARD OF 'visitingcardkeep.ConvertRight'. -/
def convertRightUptoCard : Claim7 := { stood := { row := convertRightUptoRow, standIns := [], harness := (true, "6697f4238e5655e920ae12689f362e9b00aaf6b4ff9cdeae1d72a982cefde034"), looks := true }, kinds := [], alts := [], laidByText := true, laidKinds := [.data, .data, .data, .data, .handle, .sentinel, .sentinel, .listed, .data, .pinned], laidTests := true, laidLooks := .later }
def ConvertRightUptoCardSaid : Prop := Claim7.holds Tryz.pinned (.plain (OpenSpec.upto convertRightSpec)) convertRightUptoCard
end Rows
end Go.Proofs.YtfadckackdmbnaaGreatDoor
