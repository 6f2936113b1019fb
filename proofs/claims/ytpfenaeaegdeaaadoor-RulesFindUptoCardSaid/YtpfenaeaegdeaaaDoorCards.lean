/-
  DERIVED. GIVEN WITH THE SEED: THE CARDS: each row of YtpfenaeaegdeaaaDoorRows.lean that lists a variable, with what it lists TIED to the program's text (the seventh form; the later family's looks); each row that meets fmt, with fmt's text TOLD by the authors' own Lean function (tested against real Go, not proved from fmt's source: count such statements apart). THE CARD IS WHAT COUNTS. Prove the row's statement (the work); the ties are given (YtpfenaeaegdeaaaDoorTie.lean); close each card by the builder's one call (the guide's Derived/Test/ToyasCard.lean, 'card_holds'). Laid BY PROGRAM, IN A SANDBOX (cutbox-door.mjs). By AI agents, Wed Nov 11 2026. No macro, syntax, notation, axiom, sorry.
-/
import Derived.Test.YtpfenaeaegdeaaaDoorRows
import GoSem.ClaimSeven
namespace Go.Proofs.YtpfenaeaegdeaaaDoor
namespace Rows

/-- THE TIED CARD OF 'visitingcardkeep.RulesKinds'. -/
def rulesKindsCard : Claim7 := { stood := { row := rulesKindsRow, standIns := [], harness := (true, "0d5e6dc7f6e771670566b9e0d31750812d7e8119066828151dfb97e05a86f2c5"), looks := true }, kinds := [], alts := [], laidByText := true, laidKinds := [.data, .data, .data, .data, .sentinel, .sentinel, .listed, .data, .pinned], laidTests := true, laidLooks := .later }
def RulesKindsCardSaid : Prop := Claim7.holds Tryd.pinned (.plain (OpenSpec.ofChange rulesKindsSpec)) rulesKindsCard

/-- THE TIED CARD OF 'visitingcardkeep.RulesFind'. -/
def rulesFindCard : Claim7 := { stood := { row := rulesFindRow, standIns := [], harness := (true, "0d5e6dc7f6e771670566b9e0d31750812d7e8119066828151dfb97e05a86f2c5"), looks := true }, kinds := [], alts := [], laidByText := true, laidKinds := [.data, .data, .data, .data, .sentinel, .sentinel, .listed, .data, .pinned], laidTests := true, laidLooks := .later }
def RulesFindCardSaid : Prop := Claim7.holds Tryd.pinned (.plain (OpenSpec.ofChange rulesFindSpec)) rulesFindCard

/-- THE TIED CARD OF 'visitingcardkeep.RulesNames'. -/
def rulesNamesCard : Claim7 := { stood := { row := rulesNamesRow, standIns := [], harness := (true, "0d5e6dc7f6e771670566b9e0d31750812d7e8119066828151dfb97e05a86f2c5"), looks := true }, kinds := [], alts := [], laidByText := true, laidKinds := [.data, .data, .data, .data, .sentinel, .sentinel, .listed, .data, .pinned], laidTests := true, laidLooks := .later }
def RulesNamesCardSaid : Prop := Claim7.holds Tryd.pinned (.plain (OpenSpec.ofChange rulesNamesSpec)) rulesNamesCard

/-- THE TIED CARD OF 'visitingcardkeep.RulesFit'. -/
def rulesFitCard : Claim7 := { stood := { row := rulesFitRow, standIns := [], harness := (true, "0d5e6dc7f6e771670566b9e0d31750812d7e8119066828151dfb97e05a86f2c5"), looks := true }, kinds := [], alts := [], laidByText := true, laidKinds := [.data, .data, .data, .data, .sentinel, .sentinel, .listed, .data, .pinned], laidTests := true, laidLooks := .later }
def RulesFitCardSaid : Prop := Claim7.holds Tryd.pinned (.plain (OpenSpec.ofChange rulesFitSpec)) rulesFitCard

/-- THE TIED CARD OF 'visitingcardkeep.RulesCases'. -/
def rulesCasesCard : Claim7 := { stood := { row := rulesCasesRow, standIns := [], harness := (true, "0d5e6dc7f6e771670566b9e0d31750812d7e8119066828151dfb97e05a86f2c5"), looks := true }, kinds := [], alts := [], laidByText := true, laidKinds := [.data, .data, .data, .data, .handle, .sentinel, .sentinel, .listed, .data, .pinned], laidTests := true, laidLooks := .later }
def RulesCasesCardSaid : Prop := Claim7.holds Tryd.pinned (.plain (OpenSpec.ofChange rulesCasesSpec)) rulesCasesCard

/-- THE SECOND FORM's CARD OF 'visitingcardkeep.RulesKinds'. -/
def rulesKindsUptoCard : Claim7 := { stood := { row := rulesKindsUptoRow, standIns := [], harness := (true, "0d5e6dc7f6e771670566b9e0d31750812d7e8119066828151dfb97e05a86f2c5"), looks := true }, kinds := [], alts := [], laidByText := true, laidKinds := [.data, .data, .data, .data, .sentinel, .sentinel, .listed, .data, .pinned], laidTests := true, laidLooks := .later }
def RulesKindsUptoCardSaid : Prop := Claim7.holds Tryd.pinned (.plain (OpenSpec.upto rulesKindsSpec)) rulesKindsUptoCard

/-- THE SECOND FORM's CARD OF 'visitingcardkeep.RulesFind'. -/
def rulesFindUptoCard : Claim7 := { stood := { row := rulesFindUptoRow, standIns := [], harness := (true, "0d5e6dc7f6e771670566b9e0d31750812d7e8119066828151dfb97e05a86f2c5"), looks := true }, kinds := [], alts := [], laidByText := true, laidKinds := [.data, .data, .data, .data, .sentinel, .sentinel, .listed, .data, .pinned], laidTests := true, laidLooks := .later }
def RulesFindUptoCardSaid : Prop := Claim7.holds Tryd.pinned (.plain (OpenSpec.upto rulesFindSpec)) rulesFindUptoCard

/-- THE SECOND FORM's CARD OF 'visitingcardkeep.RulesNames'. -/
def rulesNamesUptoCard : Claim7 := { stood := { row := rulesNamesUptoRow, standIns := [], harness := (true, "0d5e6dc7f6e771670566b9e0d31750812d7e8119066828151dfb97e05a86f2c5"), looks := true }, kinds := [], alts := [], laidByText := true, laidKinds := [.data, .data, .data, .data, .sentinel, .sentinel, .listed, .data, .pinned], laidTests := true, laidLooks := .later }
def RulesNamesUptoCardSaid : Prop := Claim7.holds Tryd.pinned (.plain (OpenSpec.upto rulesNamesSpec)) rulesNamesUptoCard

/-- THE SECOND FORM's CARD OF 'visitingcardkeep.RulesFit'. -/
def rulesFitUptoCard : Claim7 := { stood := { row := rulesFitUptoRow, standIns := [], harness := (true, "0d5e6dc7f6e771670566b9e0d31750812d7e8119066828151dfb97e05a86f2c5"), looks := true }, kinds := [], alts := [], laidByText := true, laidKinds := [.data, .data, .data, .data, .sentinel, .sentinel, .listed, .data, .pinned], laidTests := true, laidLooks := .later }
def RulesFitUptoCardSaid : Prop := Claim7.holds Tryd.pinned (.plain (OpenSpec.upto rulesFitSpec)) rulesFitUptoCard

/-- THE SECOND FORM's CARD OF 'visitingcardkeep.RulesCases'. -/
def rulesCasesUptoCard : Claim7 := { stood := { row := rulesCasesUptoRow, standIns := [], harness := (true, "0d5e6dc7f6e771670566b9e0d31750812d7e8119066828151dfb97e05a86f2c5"), looks := true }, kinds := [], alts := [], laidByText := true, laidKinds := [.data, .data, .data, .data, .handle, .sentinel, .sentinel, .listed, .data, .pinned], laidTests := true, laidLooks := .later }
def RulesCasesUptoCardSaid : Prop := Claim7.holds Tryd.pinned (.plain (OpenSpec.upto rulesCasesSpec)) rulesCasesUptoCard
end Rows
end Go.Proofs.YtpfenaeaegdeaaaDoor
