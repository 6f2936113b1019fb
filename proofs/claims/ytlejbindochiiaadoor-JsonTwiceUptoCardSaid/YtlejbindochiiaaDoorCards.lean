/-
  DERIVED. GIVEN WITH THE SEED: THE CARDS: each row of YtlejbindochiiaaDoorRows.lean that lists a variable, with what it lists TIED to the program's text (the seventh form; the later family's looks); each row that meets fmt, with fmt's text TOLD by the authors' own Lean function (tested against real Go, not proved from fmt's source: count such statements apart). THE CARD IS WHAT COUNTS. Prove the row's statement (the work); the ties are given (YtlejbindochiiaaDoorTie.lean); close each card by the builder's one call (the guide's Derived/Test/ToyasCard.lean, 'card_holds'). Laid BY PROGRAM, IN A SANDBOX (cutbox-door.mjs). By AI agents, Wed Nov 11 2026. No macro, syntax, notation, axiom, sorry.
-/
import Derived.Test.YtlejbindochiiaaDoorRows
import GoSem.ClaimSeven
namespace Go.Proofs.YtlejbindochiiaaDoor
namespace Rows

/-- THE TIED CARD OF 'visitingcardkeep.JsonCut'. -/
def jsonCutCard : Claim7 := { stood := { row := jsonCutRow, standIns := [], harness := (true, "f569a97ff79550c26ee9e311ae51463c9f6122eff7446de77100ddb00c5050d4"), looks := true }, kinds := [], alts := [], laidByText := true, laidKinds := [.handle], laidTests := true, laidLooks := .later }
def JsonCutCardSaid : Prop := Claim7.holds Tryd.pinned (.plain (OpenSpec.ofChange jsonCutSpec)) jsonCutCard

/-- THE TIED CARD OF 'visitingcardkeep.JsonTwice'. -/
def jsonTwiceCard : Claim7 := { stood := { row := jsonTwiceRow, standIns := [], harness := (true, "f569a97ff79550c26ee9e311ae51463c9f6122eff7446de77100ddb00c5050d4"), looks := true }, kinds := [], alts := [], laidByText := true, laidKinds := [.handle], laidTests := true, laidLooks := .later }
def JsonTwiceCardSaid : Prop := Claim7.holds Tryd.pinned (.plain (OpenSpec.ofChange jsonTwiceSpec)) jsonTwiceCard

/-- THE TIED CARD OF 'visitingcardkeep.JsonWraps'. -/
def jsonWrapsCard : Claim7 := { stood := { row := jsonWrapsRow, standIns := [], harness := (true, "f569a97ff79550c26ee9e311ae51463c9f6122eff7446de77100ddb00c5050d4"), looks := true }, kinds := [], alts := [], laidByText := true, laidKinds := [.handle], laidTests := true, laidLooks := .later }
def JsonWrapsCardSaid : Prop := Claim7.holds Tryd.pinned (.plain (OpenSpec.ofChange jsonWrapsSpec)) jsonWrapsCard

/-- THE SECOND FORM's CARD OF 'visitingcardkeep.JsonCut'. -/
def jsonCutUptoCard : Claim7 := { stood := { row := jsonCutUptoRow, standIns := [], harness := (true, "f569a97ff79550c26ee9e311ae51463c9f6122eff7446de77100ddb00c5050d4"), looks := true }, kinds := [], alts := [], laidByText := true, laidKinds := [.handle], laidTests := true, laidLooks := .later }
def JsonCutUptoCardSaid : Prop := Claim7.holds Tryd.pinned (.plain (OpenSpec.upto jsonCutSpec)) jsonCutUptoCard

/-- THE SECOND FORM's CARD OF 'visitingcardkeep.JsonTwice'. -/
def jsonTwiceUptoCard : Claim7 := { stood := { row := jsonTwiceUptoRow, standIns := [], harness := (true, "f569a97ff79550c26ee9e311ae51463c9f6122eff7446de77100ddb00c5050d4"), looks := true }, kinds := [], alts := [], laidByText := true, laidKinds := [.handle], laidTests := true, laidLooks := .later }
def JsonTwiceUptoCardSaid : Prop := Claim7.holds Tryd.pinned (.plain (OpenSpec.upto jsonTwiceSpec)) jsonTwiceUptoCard

/-- THE SECOND FORM's CARD OF 'visitingcardkeep.JsonWraps'. -/
def jsonWrapsUptoCard : Claim7 := { stood := { row := jsonWrapsUptoRow, standIns := [], harness := (true, "f569a97ff79550c26ee9e311ae51463c9f6122eff7446de77100ddb00c5050d4"), looks := true }, kinds := [], alts := [], laidByText := true, laidKinds := [.handle], laidTests := true, laidLooks := .later }
def JsonWrapsUptoCardSaid : Prop := Claim7.holds Tryd.pinned (.plain (OpenSpec.upto jsonWrapsSpec)) jsonWrapsUptoCard
end Rows
end Go.Proofs.YtlejbindochiiaaDoor
