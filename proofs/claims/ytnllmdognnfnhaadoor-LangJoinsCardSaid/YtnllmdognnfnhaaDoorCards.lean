/-
  DERIVED. GIVEN WITH THE SEED: THE CARDS: each row of YtnllmdognnfnhaaDoorRows.lean that lists a variable, with what it lists TIED to the program's text (the seventh form; the later family's looks); each row that meets fmt, with fmt's text TOLD by the authors' own Lean function (tested against real Go, not proved from fmt's source: count such statements apart). THE CARD IS WHAT COUNTS. Prove the row's statement (the work); the ties are given (YtnllmdognnfnhaaDoorTie.lean); close each card by the builder's one call (the guide's Derived/Test/ToyasCard.lean, 'card_holds'). Laid BY PROGRAM, IN A SANDBOX (cutbox-door.mjs). By AI agents, Wed Nov 11 2026. No macro, syntax, notation, axiom, sorry.
-/
import Derived.Test.YtnllmdognnfnhaaDoorRows
import GoSem.ClaimSeven
namespace Go.Proofs.YtnllmdognnfnhaaDoor
namespace Rows

/-- THE TIED CARD OF 'visitingcardkeep.ZoneShort'. -/
def zoneShortCard : Claim7 := { stood := { row := zoneShortRow, standIns := [], harness := (true, "4af38db3e02b4665ca01e7db78bac131ebde3799fa886ed586dc455915dff46c"), looks := true }, kinds := [], alts := [], laidByText := true, laidKinds := [.handle], laidTests := true, laidLooks := .later }
def ZoneShortCardSaid : Prop := Claim7.holds Tryd.pinned (.plain (OpenSpec.ofChange zoneShortSpec)) zoneShortCard

/-- THE TIED CARD OF 'visitingcardkeep.UtfBack'. -/
def utfBackCard : Claim7 := { stood := { row := utfBackRow, standIns := [], harness := (true, "4af38db3e02b4665ca01e7db78bac131ebde3799fa886ed586dc455915dff46c"), looks := true }, kinds := [], alts := [], laidByText := true, laidKinds := [.handle], laidTests := true, laidLooks := .later }
def UtfBackCardSaid : Prop := Claim7.holds Tryd.pinned (.plain (OpenSpec.ofChange utfBackSpec)) utfBackCard

/-- THE TIED CARD OF 'visitingcardkeep.B64Back'. -/
def b64BackCard : Claim7 := { stood := { row := b64BackRow, standIns := [], harness := (true, "4af38db3e02b4665ca01e7db78bac131ebde3799fa886ed586dc455915dff46c"), looks := true }, kinds := [], alts := [], laidByText := true, laidKinds := [.handle], laidTests := true, laidLooks := .later }
def B64BackCardSaid : Prop := Claim7.holds Tryd.pinned (.plain (OpenSpec.ofChange b64BackSpec)) b64BackCard

/-- THE TIED CARD OF 'visitingcardkeep.B64Joins'. -/
def b64JoinsCard : Claim7 := { stood := { row := b64JoinsRow, standIns := [], harness := (true, "4af38db3e02b4665ca01e7db78bac131ebde3799fa886ed586dc455915dff46c"), looks := true }, kinds := [], alts := [], laidByText := true, laidKinds := [.handle], laidTests := true, laidLooks := .later }
def B64JoinsCardSaid : Prop := Claim7.holds Tryd.pinned (.plain (OpenSpec.ofChange b64JoinsSpec)) b64JoinsCard

/-- THE TIED CARD OF 'visitingcardkeep.B64Cut'. -/
def b64CutCard : Claim7 := { stood := { row := b64CutRow, standIns := [], harness := (true, "4af38db3e02b4665ca01e7db78bac131ebde3799fa886ed586dc455915dff46c"), looks := true }, kinds := [], alts := [], laidByText := true, laidKinds := [.handle], laidTests := true, laidLooks := .later }
def B64CutCardSaid : Prop := Claim7.holds Tryd.pinned (.plain (OpenSpec.ofChange b64CutSpec)) b64CutCard

/-- THE TIED CARD OF 'visitingcardkeep.FoldWidth'. -/
def foldWidthCard : Claim7 := { stood := { row := foldWidthRow, standIns := [], harness := (true, "4af38db3e02b4665ca01e7db78bac131ebde3799fa886ed586dc455915dff46c"), looks := true }, kinds := [], alts := [], laidByText := true, laidKinds := [.data, .pinned], laidTests := true, laidLooks := .later }
def FoldWidthCardSaid : Prop := Claim7.holds Tryd.pinned (.plain (OpenSpec.ofChange foldWidthSpec)) foldWidthCard

/-- THE TIED CARD OF 'visitingcardkeep.FoldTabs'. -/
def foldTabsCard : Claim7 := { stood := { row := foldTabsRow, standIns := [], harness := (true, "4af38db3e02b4665ca01e7db78bac131ebde3799fa886ed586dc455915dff46c"), looks := true }, kinds := [], alts := [], laidByText := true, laidKinds := [.data, .pinned], laidTests := true, laidLooks := .later }
def FoldTabsCardSaid : Prop := Claim7.holds Tryd.pinned (.plain (OpenSpec.ofChange foldTabsSpec)) foldTabsCard

/-- THE TIED CARD OF 'visitingcardkeep.LangForm'. -/
def langFormCard : Claim7 := { stood := { row := langFormRow, standIns := [], harness := (true, "4af38db3e02b4665ca01e7db78bac131ebde3799fa886ed586dc455915dff46c"), looks := true }, kinds := [], alts := [], laidByText := true, laidKinds := [.data, .pinned], laidTests := true, laidLooks := .later }
def LangFormCardSaid : Prop := Claim7.holds Tryd.pinned (.plain (OpenSpec.ofChange langFormSpec)) langFormCard

/-- THE TIED CARD OF 'visitingcardkeep.LangJoins'. -/
def langJoinsCard : Claim7 := { stood := { row := langJoinsRow, standIns := [], harness := (true, "4af38db3e02b4665ca01e7db78bac131ebde3799fa886ed586dc455915dff46c"), looks := true }, kinds := [], alts := [], laidByText := true, laidKinds := [.data, .pinned], laidTests := true, laidLooks := .later }
def LangJoinsCardSaid : Prop := Claim7.holds Tryd.pinned (.plain (OpenSpec.ofChange langJoinsSpec)) langJoinsCard

/-- THE SECOND FORM's CARD OF 'visitingcardkeep.ZoneShort'. -/
def zoneShortUptoCard : Claim7 := { stood := { row := zoneShortUptoRow, standIns := [], harness := (true, "4af38db3e02b4665ca01e7db78bac131ebde3799fa886ed586dc455915dff46c"), looks := true }, kinds := [], alts := [], laidByText := true, laidKinds := [.handle], laidTests := true, laidLooks := .later }
def ZoneShortUptoCardSaid : Prop := Claim7.holds Tryd.pinned (.plain (OpenSpec.upto zoneShortSpec)) zoneShortUptoCard

/-- THE SECOND FORM's CARD OF 'visitingcardkeep.UtfBack'. -/
def utfBackUptoCard : Claim7 := { stood := { row := utfBackUptoRow, standIns := [], harness := (true, "4af38db3e02b4665ca01e7db78bac131ebde3799fa886ed586dc455915dff46c"), looks := true }, kinds := [], alts := [], laidByText := true, laidKinds := [.handle], laidTests := true, laidLooks := .later }
def UtfBackUptoCardSaid : Prop := Claim7.holds Tryd.pinned (.plain (OpenSpec.upto utfBackSpec)) utfBackUptoCard

/-- THE SECOND FORM's CARD OF 'visitingcardkeep.B64Back'. -/
def b64BackUptoCard : Claim7 := { stood := { row := b64BackUptoRow, standIns := [], harness := (true, "4af38db3e02b4665ca01e7db78bac131ebde3799fa886ed586dc455915dff46c"), looks := true }, kinds := [], alts := [], laidByText := true, laidKinds := [.handle], laidTests := true, laidLooks := .later }
def B64BackUptoCardSaid : Prop := Claim7.holds Tryd.pinned (.plain (OpenSpec.upto b64BackSpec)) b64BackUptoCard

/-- THE SECOND FORM's CARD OF 'visitingcardkeep.B64Joins'. -/
def b64JoinsUptoCard : Claim7 := { stood := { row := b64JoinsUptoRow, standIns := [], harness := (true, "4af38db3e02b4665ca01e7db78bac131ebde3799fa886ed586dc455915dff46c"), looks := true }, kinds := [], alts := [], laidByText := true, laidKinds := [.handle], laidTests := true, laidLooks := .later }
def B64JoinsUptoCardSaid : Prop := Claim7.holds Tryd.pinned (.plain (OpenSpec.upto b64JoinsSpec)) b64JoinsUptoCard

/-- THE SECOND FORM's CARD OF 'visitingcardkeep.B64Cut'. -/
def b64CutUptoCard : Claim7 := { stood := { row := b64CutUptoRow, standIns := [], harness := (true, "4af38db3e02b4665ca01e7db78bac131ebde3799fa886ed586dc455915dff46c"), looks := true }, kinds := [], alts := [], laidByText := true, laidKinds := [.handle], laidTests := true, laidLooks := .later }
def B64CutUptoCardSaid : Prop := Claim7.holds Tryd.pinned (.plain (OpenSpec.upto b64CutSpec)) b64CutUptoCard

/-- THE SECOND FORM's CARD OF 'visitingcardkeep.FoldWidth'. -/
def foldWidthUptoCard : Claim7 := { stood := { row := foldWidthUptoRow, standIns := [], harness := (true, "4af38db3e02b4665ca01e7db78bac131ebde3799fa886ed586dc455915dff46c"), looks := true }, kinds := [], alts := [], laidByText := true, laidKinds := [.data, .pinned], laidTests := true, laidLooks := .later }
def FoldWidthUptoCardSaid : Prop := Claim7.holds Tryd.pinned (.plain (OpenSpec.upto foldWidthSpec)) foldWidthUptoCard

/-- THE SECOND FORM's CARD OF 'visitingcardkeep.FoldTabs'. -/
def foldTabsUptoCard : Claim7 := { stood := { row := foldTabsUptoRow, standIns := [], harness := (true, "4af38db3e02b4665ca01e7db78bac131ebde3799fa886ed586dc455915dff46c"), looks := true }, kinds := [], alts := [], laidByText := true, laidKinds := [.data, .pinned], laidTests := true, laidLooks := .later }
def FoldTabsUptoCardSaid : Prop := Claim7.holds Tryd.pinned (.plain (OpenSpec.upto foldTabsSpec)) foldTabsUptoCard

/-- THE SECOND FORM's CARD OF 'visitingcardkeep.LangForm'. -/
def langFormUptoCard : Claim7 := { stood := { row := langFormUptoRow, standIns := [], harness := (true, "4af38db3e02b4665ca01e7db78bac131ebde3799fa886ed586dc455915dff46c"), looks := true }, kinds := [], alts := [], laidByText := true, laidKinds := [.data, .pinned], laidTests := true, laidLooks := .later }
def LangFormUptoCardSaid : Prop := Claim7.holds Tryd.pinned (.plain (OpenSpec.upto langFormSpec)) langFormUptoCard

/-- THE SECOND FORM's CARD OF 'visitingcardkeep.LangJoins'. -/
def langJoinsUptoCard : Claim7 := { stood := { row := langJoinsUptoRow, standIns := [], harness := (true, "4af38db3e02b4665ca01e7db78bac131ebde3799fa886ed586dc455915dff46c"), looks := true }, kinds := [], alts := [], laidByText := true, laidKinds := [.data, .pinned], laidTests := true, laidLooks := .later }
def LangJoinsUptoCardSaid : Prop := Claim7.holds Tryd.pinned (.plain (OpenSpec.upto langJoinsSpec)) langJoinsUptoCard
end Rows
end Go.Proofs.YtnllmdognnfnhaaDoor
