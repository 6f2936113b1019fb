/-
  DERIVED. GIVEN WITH THE SEED: THE CARDS: each row of YtmffejnigppbpaaGreatDoorRows.lean that lists a variable, with what it lists TIED to the program's text (the seventh form; the later family's looks); each row that meets fmt, with fmt's text TOLD by the authors' own Lean function (tested against real Go, not proved from fmt's source: count such statements apart). THE CARD IS WHAT COUNTS. Prove the row's statement (the work); the ties are given (YtmffejnigppbpaaGreatDoorTie.lean); close each card by the builder's one call (the guide's Derived/Test/ToyasCard.lean, 'card_holds'). Laid BY PROGRAM, IN A SANDBOX (cutbox-door.mjs). By AI agents, Wed Nov 11 2026. No macro, syntax, notation, axiom, sorry.
-/
import Derived.Test.YtmffejnigppbpaaGreatDoorRows
import GoSem.ClaimSeven
namespace Go.Proofs.YtmffejnigppbpaaGreatDoor
namespace Rows

/-- THE TIED CARD OF 'visitingcardkeep.ConvertPrefs'. -/
def convertPrefsCard : Claim7 := { stood := { row := convertPrefsRow, standIns := [], harness := (true, "64953995f858ffc2c027c5df45446d4eefd04536117153606063e3d6fba997e5"), looks := true }, kinds := [], alts := [], laidByText := true, laidKinds := [.data, .data, .data, .data, .handle, .sentinel, .sentinel, .listed, .data, .pinned], laidTests := true, laidLooks := .later }
def ConvertPrefsCardSaid : Prop := Claim7.holds Tryz.pinned (.plain (OpenSpec.ofChange convertPrefsSpec)) convertPrefsCard

/-- THE TIED CARD OF 'visitingcardkeep.ConvertKeeps'. -/
def convertKeepsCard : Claim7 := { stood := { row := convertKeepsRow, standIns := [], harness := (true, "64953995f858ffc2c027c5df45446d4eefd04536117153606063e3d6fba997e5"), looks := true }, kinds := [], alts := [], laidByText := true, laidKinds := [.data, .data, .data, .data, .handle, .sentinel, .sentinel, .listed, .data, .pinned], laidTests := true, laidLooks := .later }
def ConvertKeepsCardSaid : Prop := Claim7.holds Tryz.pinned (.plain (OpenSpec.ofChange convertKeepsSpec)) convertKeepsCard

/-- THE TIED CARD OF 'visitingcardkeep.CardTwice'. -/
def cardTwiceCard : Claim7 := { stood := { row := cardTwiceRow, standIns := [], harness := (true, "64953995f858ffc2c027c5df45446d4eefd04536117153606063e3d6fba997e5"), looks := true }, kinds := [], alts := [], laidByText := true, laidKinds := [.data, .data, .data, .data, .handle, .sentinel, .sentinel, .listed, .data, .pinned], laidTests := true, laidLooks := .later }
def CardTwiceCardSaid : Prop := Claim7.holds Tryz.pinned (.plain (OpenSpec.ofChange cardTwiceSpec)) cardTwiceCard

/-- THE TIED CARD OF 'visitingcardkeep.CardGroups'. -/
def cardGroupsCard : Claim7 := { stood := { row := cardGroupsRow, standIns := [], harness := (true, "64953995f858ffc2c027c5df45446d4eefd04536117153606063e3d6fba997e5"), looks := true }, kinds := [], alts := [], laidByText := true, laidKinds := [.data, .data, .data, .data, .handle, .sentinel, .sentinel, .listed, .data, .pinned], laidTests := true, laidLooks := .later }
def CardGroupsCardSaid : Prop := Claim7.holds Tryz.pinned (.plain (OpenSpec.ofChange cardGroupsSpec)) cardGroupsCard

/-- THE TIED CARD OF 'visitingcardkeep.CardParams'. -/
def cardParamsCard : Claim7 := { stood := { row := cardParamsRow, standIns := [], harness := (true, "64953995f858ffc2c027c5df45446d4eefd04536117153606063e3d6fba997e5"), looks := true }, kinds := [], alts := [], laidByText := true, laidKinds := [.data, .data, .data, .data, .handle, .sentinel, .sentinel, .listed, .data, .pinned], laidTests := true, laidLooks := .later }
def CardParamsCardSaid : Prop := Claim7.holds Tryz.pinned (.plain (OpenSpec.ofChange cardParamsSpec)) cardParamsCard

/-- THE TIED CARD OF 'visitingcardkeep.CardTurned'. -/
def cardTurnedCard : Claim7 := { stood := { row := cardTurnedRow, standIns := [], harness := (true, "64953995f858ffc2c027c5df45446d4eefd04536117153606063e3d6fba997e5"), looks := true }, kinds := [], alts := [], laidByText := true, laidKinds := [.data, .data, .data, .data, .handle, .sentinel, .sentinel, .listed, .data, .pinned], laidTests := true, laidLooks := .later }
def CardTurnedCardSaid : Prop := Claim7.holds Tryz.pinned (.plain (OpenSpec.ofChange cardTurnedSpec)) cardTurnedCard

/-- THE TIED CARD OF 'visitingcardkeep.CardLess'. -/
def cardLessCard : Claim7 := { stood := { row := cardLessRow, standIns := [], harness := (true, "64953995f858ffc2c027c5df45446d4eefd04536117153606063e3d6fba997e5"), looks := true }, kinds := [], alts := [], laidByText := true, laidKinds := [.data, .data, .data, .data, .handle, .sentinel, .sentinel, .listed, .data, .pinned], laidTests := true, laidLooks := .later }
def CardLessCardSaid : Prop := Claim7.holds Tryz.pinned (.plain (OpenSpec.ofChange cardLessSpec)) cardLessCard

/-- THE TIED CARD OF 'visitingcardkeep.CardMore'. -/
def cardMoreCard : Claim7 := { stood := { row := cardMoreRow, standIns := [], harness := (true, "64953995f858ffc2c027c5df45446d4eefd04536117153606063e3d6fba997e5"), looks := true }, kinds := [], alts := [], laidByText := true, laidKinds := [.data, .data, .data, .data, .handle, .sentinel, .sentinel, .listed, .data, .pinned], laidTests := true, laidLooks := .later }
def CardMoreCardSaid : Prop := Claim7.holds Tryz.pinned (.plain (OpenSpec.ofChange cardMoreSpec)) cardMoreCard

/-- THE TIED CARD OF 'visitingcardkeep.CardWide'. -/
def cardWideCard : Claim7 := { stood := { row := cardWideRow, standIns := [], harness := (true, "64953995f858ffc2c027c5df45446d4eefd04536117153606063e3d6fba997e5"), looks := true }, kinds := [], alts := [], laidByText := true, laidKinds := [.data, .data, .data, .data, .handle, .sentinel, .sentinel, .listed, .data, .pinned], laidTests := true, laidLooks := .later }
def CardWideCardSaid : Prop := Claim7.holds Tryz.pinned (.plain (OpenSpec.ofChange cardWideSpec)) cardWideCard

/-- THE SECOND FORM's CARD OF 'visitingcardkeep.ConvertPrefs'. -/
def convertPrefsUptoCard : Claim7 := { stood := { row := convertPrefsUptoRow, standIns := [], harness := (true, "64953995f858ffc2c027c5df45446d4eefd04536117153606063e3d6fba997e5"), looks := true }, kinds := [], alts := [], laidByText := true, laidKinds := [.data, .data, .data, .data, .handle, .sentinel, .sentinel, .listed, .data, .pinned], laidTests := true, laidLooks := .later }
def ConvertPrefsUptoCardSaid : Prop := Claim7.holds Tryz.pinned (.plain (OpenSpec.upto convertPrefsSpec)) convertPrefsUptoCard

/-- THE SECOND FORM's CARD OF 'visitingcardkeep.ConvertKeeps'. -/
def convertKeepsUptoCard : Claim7 := { stood := { row := convertKeepsUptoRow, standIns := [], harness := (true, "64953995f858ffc2c027c5df45446d4eefd04536117153606063e3d6fba997e5"), looks := true }, kinds := [], alts := [], laidByText := true, laidKinds := [.data, .data, .data, .data, .handle, .sentinel, .sentinel, .listed, .data, .pinned], laidTests := true, laidLooks := .later }
def ConvertKeepsUptoCardSaid : Prop := Claim7.holds Tryz.pinned (.plain (OpenSpec.upto convertKeepsSpec)) convertKeepsUptoCard

/-- THE SECOND FORM's CARD OF 'visitingcardkeep.CardTwice'. -/
def cardTwiceUptoCard : Claim7 := { stood := { row := cardTwiceUptoRow, standIns := [], harness := (true, "64953995f858ffc2c027c5df45446d4eefd04536117153606063e3d6fba997e5"), looks := true }, kinds := [], alts := [], laidByText := true, laidKinds := [.data, .data, .data, .data, .handle, .sentinel, .sentinel, .listed, .data, .pinned], laidTests := true, laidLooks := .later }
def CardTwiceUptoCardSaid : Prop := Claim7.holds Tryz.pinned (.plain (OpenSpec.upto cardTwiceSpec)) cardTwiceUptoCard

/-- THE SECOND FORM's CARD OF 'visitingcardkeep.CardGroups'. -/
def cardGroupsUptoCard : Claim7 := { stood := { row := cardGroupsUptoRow, standIns := [], harness := (true, "64953995f858ffc2c027c5df45446d4eefd04536117153606063e3d6fba997e5"), looks := true }, kinds := [], alts := [], laidByText := true, laidKinds := [.data, .data, .data, .data, .handle, .sentinel, .sentinel, .listed, .data, .pinned], laidTests := true, laidLooks := .later }
def CardGroupsUptoCardSaid : Prop := Claim7.holds Tryz.pinned (.plain (OpenSpec.upto cardGroupsSpec)) cardGroupsUptoCard

/-- THE SECOND FORM's CARD OF 'visitingcardkeep.CardParams'. -/
def cardParamsUptoCard : Claim7 := { stood := { row := cardParamsUptoRow, standIns := [], harness := (true, "64953995f858ffc2c027c5df45446d4eefd04536117153606063e3d6fba997e5"), looks := true }, kinds := [], alts := [], laidByText := true, laidKinds := [.data, .data, .data, .data, .handle, .sentinel, .sentinel, .listed, .data, .pinned], laidTests := true, laidLooks := .later }
def CardParamsUptoCardSaid : Prop := Claim7.holds Tryz.pinned (.plain (OpenSpec.upto cardParamsSpec)) cardParamsUptoCard

/-- THE SECOND FORM's CARD OF 'visitingcardkeep.CardTurned'. -/
def cardTurnedUptoCard : Claim7 := { stood := { row := cardTurnedUptoRow, standIns := [], harness := (true, "64953995f858ffc2c027c5df45446d4eefd04536117153606063e3d6fba997e5"), looks := true }, kinds := [], alts := [], laidByText := true, laidKinds := [.data, .data, .data, .data, .handle, .sentinel, .sentinel, .listed, .data, .pinned], laidTests := true, laidLooks := .later }
def CardTurnedUptoCardSaid : Prop := Claim7.holds Tryz.pinned (.plain (OpenSpec.upto cardTurnedSpec)) cardTurnedUptoCard

/-- THE SECOND FORM's CARD OF 'visitingcardkeep.CardLess'. -/
def cardLessUptoCard : Claim7 := { stood := { row := cardLessUptoRow, standIns := [], harness := (true, "64953995f858ffc2c027c5df45446d4eefd04536117153606063e3d6fba997e5"), looks := true }, kinds := [], alts := [], laidByText := true, laidKinds := [.data, .data, .data, .data, .handle, .sentinel, .sentinel, .listed, .data, .pinned], laidTests := true, laidLooks := .later }
def CardLessUptoCardSaid : Prop := Claim7.holds Tryz.pinned (.plain (OpenSpec.upto cardLessSpec)) cardLessUptoCard

/-- THE SECOND FORM's CARD OF 'visitingcardkeep.CardMore'. -/
def cardMoreUptoCard : Claim7 := { stood := { row := cardMoreUptoRow, standIns := [], harness := (true, "64953995f858ffc2c027c5df45446d4eefd04536117153606063e3d6fba997e5"), looks := true }, kinds := [], alts := [], laidByText := true, laidKinds := [.data, .data, .data, .data, .handle, .sentinel, .sentinel, .listed, .data, .pinned], laidTests := true, laidLooks := .later }
def CardMoreUptoCardSaid : Prop := Claim7.holds Tryz.pinned (.plain (OpenSpec.upto cardMoreSpec)) cardMoreUptoCard

/-- THE SECOND FORM's CARD OF 'visitingcardkeep.CardWide'. -/
def cardWideUptoCard : Claim7 := { stood := { row := cardWideUptoRow, standIns := [], harness := (true, "64953995f858ffc2c027c5df45446d4eefd04536117153606063e3d6fba997e5"), looks := true }, kinds := [], alts := [], laidByText := true, laidKinds := [.data, .data, .data, .data, .handle, .sentinel, .sentinel, .listed, .data, .pinned], laidTests := true, laidLooks := .later }
def CardWideUptoCardSaid : Prop := Claim7.holds Tryz.pinned (.plain (OpenSpec.upto cardWideSpec)) cardWideUptoCard
end Rows
end Go.Proofs.YtmffejnigppbpaaGreatDoor
