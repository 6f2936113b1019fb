/-
  DERIVED. GIVEN WITH THE SEED: THE CARDS: each row of YtniidkkldoijcaaDoorRows.lean that lists a variable, with what it lists TIED to the program's text (the seventh form; the later family's looks); each row that meets fmt, with fmt's text TOLD by the authors' own Lean function (tested against real Go, not proved from fmt's source: count such statements apart). THE CARD IS WHAT COUNTS. Prove the row's statement (the work); the ties are given (YtniidkkldoijcaaDoorTie.lean); close each card by the builder's one call (the guide's Derived/Test/ToyasCard.lean, 'card_holds'). Laid BY PROGRAM, IN A SANDBOX (cutbox-door.mjs). By AI agents, Wed Nov 11 2026. No macro, syntax, notation, axiom, sorry.
-/
import Derived.Test.YtniidkkldoijcaaDoorRows
import GoSem.ClaimSeven
namespace Go.Proofs.YtniidkkldoijcaaDoor
namespace Rows

/-- THE TIED CARD OF 'visitingcardkeep.PickMore'. -/
def pickMoreCard : Claim7 := { stood := { row := pickMoreRow, standIns := [], harness := (true, "d20872ae267b7a3737d9d9134f2ade4023c5f20b096c176263f778bdaeffd463"), looks := true }, kinds := [], alts := [], laidByText := true, laidKinds := [.data, .data, .data, .sentinel, .sentinel], laidTests := true, laidLooks := .later }
def PickMoreCardSaid : Prop := Claim7.holds Tryd.pinned (.plain (OpenSpec.ofChange pickMoreSpec)) pickMoreCard

/-- THE TIED CARD OF 'visitingcardkeep.PickGroups'. -/
def pickGroupsCard : Claim7 := { stood := { row := pickGroupsRow, standIns := [], harness := (true, "d20872ae267b7a3737d9d9134f2ade4023c5f20b096c176263f778bdaeffd463"), looks := true }, kinds := [], alts := [], laidByText := true, laidKinds := [.data, .data, .data, .sentinel, .sentinel], laidTests := true, laidLooks := .later }
def PickGroupsCardSaid : Prop := Claim7.holds Tryd.pinned (.plain (OpenSpec.ofChange pickGroupsSpec)) pickGroupsCard

/-- THE TIED CARD OF 'visitingcardkeep.PickTyped'. -/
def pickTypedCard : Claim7 := { stood := { row := pickTypedRow, standIns := [], harness := (true, "d20872ae267b7a3737d9d9134f2ade4023c5f20b096c176263f778bdaeffd463"), looks := true }, kinds := [], alts := [], laidByText := true, laidKinds := [.data, .data, .data, .sentinel, .sentinel], laidTests := true, laidLooks := .later }
def PickTypedCardSaid : Prop := Claim7.holds Tryd.pinned (.plain (OpenSpec.ofChange pickTypedSpec)) pickTypedCard

/-- THE TIED CARD OF 'visitingcardkeep.PickFirst'. -/
def pickFirstCard : Claim7 := { stood := { row := pickFirstRow, standIns := [], harness := (true, "d20872ae267b7a3737d9d9134f2ade4023c5f20b096c176263f778bdaeffd463"), looks := true }, kinds := [], alts := [], laidByText := true, laidKinds := [.data, .data, .data, .sentinel, .sentinel], laidTests := true, laidLooks := .later }
def PickFirstCardSaid : Prop := Claim7.holds Tryd.pinned (.plain (OpenSpec.ofChange pickFirstSpec)) pickFirstCard

/-- THE TIED CARD OF 'visitingcardkeep.PickAll'. -/
def pickAllCard : Claim7 := { stood := { row := pickAllRow, standIns := [], harness := (true, "d20872ae267b7a3737d9d9134f2ade4023c5f20b096c176263f778bdaeffd463"), looks := true }, kinds := [], alts := [], laidByText := true, laidKinds := [.data, .data, .data, .sentinel, .sentinel], laidTests := true, laidLooks := .later }
def PickAllCardSaid : Prop := Claim7.holds Tryd.pinned (.plain (OpenSpec.ofChange pickAllSpec)) pickAllCard

/-- THE SECOND FORM's CARD OF 'visitingcardkeep.PickMore'. -/
def pickMoreUptoCard : Claim7 := { stood := { row := pickMoreUptoRow, standIns := [], harness := (true, "d20872ae267b7a3737d9d9134f2ade4023c5f20b096c176263f778bdaeffd463"), looks := true }, kinds := [], alts := [], laidByText := true, laidKinds := [.data, .data, .data, .sentinel, .sentinel], laidTests := true, laidLooks := .later }
def PickMoreUptoCardSaid : Prop := Claim7.holds Tryd.pinned (.plain (OpenSpec.upto pickMoreSpec)) pickMoreUptoCard

/-- THE SECOND FORM's CARD OF 'visitingcardkeep.PickGroups'. -/
def pickGroupsUptoCard : Claim7 := { stood := { row := pickGroupsUptoRow, standIns := [], harness := (true, "d20872ae267b7a3737d9d9134f2ade4023c5f20b096c176263f778bdaeffd463"), looks := true }, kinds := [], alts := [], laidByText := true, laidKinds := [.data, .data, .data, .sentinel, .sentinel], laidTests := true, laidLooks := .later }
def PickGroupsUptoCardSaid : Prop := Claim7.holds Tryd.pinned (.plain (OpenSpec.upto pickGroupsSpec)) pickGroupsUptoCard

/-- THE SECOND FORM's CARD OF 'visitingcardkeep.PickTyped'. -/
def pickTypedUptoCard : Claim7 := { stood := { row := pickTypedUptoRow, standIns := [], harness := (true, "d20872ae267b7a3737d9d9134f2ade4023c5f20b096c176263f778bdaeffd463"), looks := true }, kinds := [], alts := [], laidByText := true, laidKinds := [.data, .data, .data, .sentinel, .sentinel], laidTests := true, laidLooks := .later }
def PickTypedUptoCardSaid : Prop := Claim7.holds Tryd.pinned (.plain (OpenSpec.upto pickTypedSpec)) pickTypedUptoCard

/-- THE SECOND FORM's CARD OF 'visitingcardkeep.PickFirst'. -/
def pickFirstUptoCard : Claim7 := { stood := { row := pickFirstUptoRow, standIns := [], harness := (true, "d20872ae267b7a3737d9d9134f2ade4023c5f20b096c176263f778bdaeffd463"), looks := true }, kinds := [], alts := [], laidByText := true, laidKinds := [.data, .data, .data, .sentinel, .sentinel], laidTests := true, laidLooks := .later }
def PickFirstUptoCardSaid : Prop := Claim7.holds Tryd.pinned (.plain (OpenSpec.upto pickFirstSpec)) pickFirstUptoCard

/-- THE SECOND FORM's CARD OF 'visitingcardkeep.PickAll'. -/
def pickAllUptoCard : Claim7 := { stood := { row := pickAllUptoRow, standIns := [], harness := (true, "d20872ae267b7a3737d9d9134f2ade4023c5f20b096c176263f778bdaeffd463"), looks := true }, kinds := [], alts := [], laidByText := true, laidKinds := [.data, .data, .data, .sentinel, .sentinel], laidTests := true, laidLooks := .later }
def PickAllUptoCardSaid : Prop := Claim7.holds Tryd.pinned (.plain (OpenSpec.upto pickAllSpec)) pickAllUptoCard
end Rows
end Go.Proofs.YtniidkkldoijcaaDoor
