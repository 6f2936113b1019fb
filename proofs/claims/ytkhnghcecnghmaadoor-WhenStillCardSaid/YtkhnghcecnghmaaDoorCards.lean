/-
  DERIVED. GIVEN WITH THE SEED: THE CARDS: each row of YtkhnghcecnghmaaDoorRows.lean that lists a variable, with what it lists TIED to the program's text (the seventh form; the later family's looks); each row that meets fmt, with fmt's text TOLD by the authors' own Lean function (tested against real Go, not proved from fmt's source: count such statements apart). THE CARD IS WHAT COUNTS. Prove the row's statement (the work); the ties are given (YtkhnghcecnghmaaDoorTie.lean); close each card by the builder's one call (the guide's Derived/Test/ToyasCard.lean, 'card_holds'). Laid BY PROGRAM, IN A SANDBOX (cutbox-door.mjs). By AI agents, Wed Nov 11 2026. No macro, syntax, notation, axiom, sorry.
-/
import Derived.Test.YtkhnghcecnghmaaDoorRows
import GoSem.ClaimSeven
namespace Go.Proofs.YtkhnghcecnghmaaDoor
namespace Rows

/-- THE TIED CARD OF 'visitingcardkeep.WhenBack'. -/
def whenBackCard : Claim7 := { stood := { row := whenBackRow, standIns := [], harness := (true, "433c21f18f654714c144c335ded2d0264cba2b5c2fe046e879ac24006a9ad0f5"), looks := false }, kinds := [], alts := [], laidByText := true, laidKinds := [.data, .pinned], laidTests := true, laidLooks := .later }
def WhenBackCardSaid : Prop := Claim7.holds Tryd.pinned (.plain (OpenSpec.ofChange whenBackSpec)) whenBackCard

/-- THE TIED CARD OF 'visitingcardkeep.WhenStill'. -/
def whenStillCard : Claim7 := { stood := { row := whenStillRow, standIns := [], harness := (true, "433c21f18f654714c144c335ded2d0264cba2b5c2fe046e879ac24006a9ad0f5"), looks := false }, kinds := [], alts := [], laidByText := true, laidKinds := [.data, .pinned], laidTests := true, laidLooks := .later }
def WhenStillCardSaid : Prop := Claim7.holds Tryd.pinned (.plain (OpenSpec.ofChange whenStillSpec)) whenStillCard

/-- THE TIED CARD OF 'visitingcardkeep.WhenDays'. -/
def whenDaysCard : Claim7 := { stood := { row := whenDaysRow, standIns := [], harness := (true, "433c21f18f654714c144c335ded2d0264cba2b5c2fe046e879ac24006a9ad0f5"), looks := false }, kinds := [], alts := [], laidByText := true, laidKinds := [.data, .pinned], laidTests := true, laidLooks := .later }
def WhenDaysCardSaid : Prop := Claim7.holds Tryd.pinned (.plain (OpenSpec.ofChange whenDaysSpec)) whenDaysCard

/-- THE TIED CARD OF 'visitingcardkeep.WhenOrder'. -/
def whenOrderCard : Claim7 := { stood := { row := whenOrderRow, standIns := [], harness := (true, "433c21f18f654714c144c335ded2d0264cba2b5c2fe046e879ac24006a9ad0f5"), looks := false }, kinds := [], alts := [], laidByText := true, laidKinds := [.data, .pinned], laidTests := true, laidLooks := .later }
def WhenOrderCardSaid : Prop := Claim7.holds Tryd.pinned (.plain (OpenSpec.ofChange whenOrderSpec)) whenOrderCard

/-- THE TIED CARD OF 'visitingcardkeep.WhenShort'. -/
def whenShortCard : Claim7 := { stood := { row := whenShortRow, standIns := [], harness := (true, "433c21f18f654714c144c335ded2d0264cba2b5c2fe046e879ac24006a9ad0f5"), looks := false }, kinds := [], alts := [], laidByText := true, laidKinds := [.data, .pinned], laidTests := true, laidLooks := .later }
def WhenShortCardSaid : Prop := Claim7.holds Tryd.pinned (.plain (OpenSpec.ofChange whenShortSpec)) whenShortCard

/-- THE TIED CARD OF 'visitingcardkeep.WhenParts'. -/
def whenPartsCard : Claim7 := { stood := { row := whenPartsRow, standIns := [], harness := (true, "433c21f18f654714c144c335ded2d0264cba2b5c2fe046e879ac24006a9ad0f5"), looks := false }, kinds := [], alts := [], laidByText := true, laidKinds := [.data, .pinned], laidTests := true, laidLooks := .later }
def WhenPartsCardSaid : Prop := Claim7.holds Tryd.pinned (.plain (OpenSpec.ofChange whenPartsSpec)) whenPartsCard

/-- THE SECOND FORM's CARD OF 'visitingcardkeep.WhenBack'. -/
def whenBackUptoCard : Claim7 := { stood := { row := whenBackUptoRow, standIns := [], harness := (true, "433c21f18f654714c144c335ded2d0264cba2b5c2fe046e879ac24006a9ad0f5"), looks := false }, kinds := [], alts := [], laidByText := true, laidKinds := [.data, .pinned], laidTests := true, laidLooks := .later }
def WhenBackUptoCardSaid : Prop := Claim7.holds Tryd.pinned (.plain (OpenSpec.upto whenBackSpec)) whenBackUptoCard

/-- THE SECOND FORM's CARD OF 'visitingcardkeep.WhenStill'. -/
def whenStillUptoCard : Claim7 := { stood := { row := whenStillUptoRow, standIns := [], harness := (true, "433c21f18f654714c144c335ded2d0264cba2b5c2fe046e879ac24006a9ad0f5"), looks := false }, kinds := [], alts := [], laidByText := true, laidKinds := [.data, .pinned], laidTests := true, laidLooks := .later }
def WhenStillUptoCardSaid : Prop := Claim7.holds Tryd.pinned (.plain (OpenSpec.upto whenStillSpec)) whenStillUptoCard

/-- THE SECOND FORM's CARD OF 'visitingcardkeep.WhenDays'. -/
def whenDaysUptoCard : Claim7 := { stood := { row := whenDaysUptoRow, standIns := [], harness := (true, "433c21f18f654714c144c335ded2d0264cba2b5c2fe046e879ac24006a9ad0f5"), looks := false }, kinds := [], alts := [], laidByText := true, laidKinds := [.data, .pinned], laidTests := true, laidLooks := .later }
def WhenDaysUptoCardSaid : Prop := Claim7.holds Tryd.pinned (.plain (OpenSpec.upto whenDaysSpec)) whenDaysUptoCard

/-- THE SECOND FORM's CARD OF 'visitingcardkeep.WhenOrder'. -/
def whenOrderUptoCard : Claim7 := { stood := { row := whenOrderUptoRow, standIns := [], harness := (true, "433c21f18f654714c144c335ded2d0264cba2b5c2fe046e879ac24006a9ad0f5"), looks := false }, kinds := [], alts := [], laidByText := true, laidKinds := [.data, .pinned], laidTests := true, laidLooks := .later }
def WhenOrderUptoCardSaid : Prop := Claim7.holds Tryd.pinned (.plain (OpenSpec.upto whenOrderSpec)) whenOrderUptoCard

/-- THE SECOND FORM's CARD OF 'visitingcardkeep.WhenShort'. -/
def whenShortUptoCard : Claim7 := { stood := { row := whenShortUptoRow, standIns := [], harness := (true, "433c21f18f654714c144c335ded2d0264cba2b5c2fe046e879ac24006a9ad0f5"), looks := false }, kinds := [], alts := [], laidByText := true, laidKinds := [.data, .pinned], laidTests := true, laidLooks := .later }
def WhenShortUptoCardSaid : Prop := Claim7.holds Tryd.pinned (.plain (OpenSpec.upto whenShortSpec)) whenShortUptoCard

/-- THE SECOND FORM's CARD OF 'visitingcardkeep.WhenParts'. -/
def whenPartsUptoCard : Claim7 := { stood := { row := whenPartsUptoRow, standIns := [], harness := (true, "433c21f18f654714c144c335ded2d0264cba2b5c2fe046e879ac24006a9ad0f5"), looks := false }, kinds := [], alts := [], laidByText := true, laidKinds := [.data, .pinned], laidTests := true, laidLooks := .later }
def WhenPartsUptoCardSaid : Prop := Claim7.holds Tryd.pinned (.plain (OpenSpec.upto whenPartsSpec)) whenPartsUptoCard
end Rows
end Go.Proofs.YtkhnghcecnghmaaDoor
