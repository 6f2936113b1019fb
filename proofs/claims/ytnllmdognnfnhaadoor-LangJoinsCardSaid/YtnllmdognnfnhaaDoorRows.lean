/-
  NARROWER THAN 'FOR EVERY INPUT', by the rows' own cells (each row's printed sentence says how): ZoneShort: laid · UtfBack: laid · B64Back: laid · B64Joins: laid · B64Cut: laid · FoldWidth: laid · FoldTabs: laid · LangForm: laid · LangJoins: laid.
  DERIVED. THE GIVEN ROWS OF THIS SEAT. 9 by the template 'for every input the law returns true; each argument reads behind the call as it read before'; 0 by the template 'total and deterministic' (their statements: YtnllmdognnfnhaaDoorTotals.lean).
  GIVEN WITH THE SEED: the statements are not yours to turn. If you find one false, say at which input.
  Laid BY PROGRAM, IN A SANDBOX (cutbox-rows.mjs): the forced cells as the released guide's own fill.sh prints them over the translation 9af696fe07d2f79c… (all of the seat's roots in one cut). By AI agents, Wed Nov 11 2026. No macro, syntax, notation, axiom, sorry.
-/
import Derived.Test.YtnllmdognnfnhaaDoorChecked
import GoSem.PinnedTables
import GoSem.Claim
import GoSem.ClaimJoined
import GoSem.ClaimMapViews
import Derived.JoinedTies
import Derived.KernelRfl
namespace Go.Proofs.YtnllmdognnfnhaaDoor
/- THE CELL 'sum', in the pinned program and in every row, IS THE sha256 OF THE DUMP (.gsa) THAT YtnllmdognnfnhaaDoorProg.lean LOADS. Nothing in Lean hashes anything: it is a label: what it is worth is what the hold of that sum in a sandbox is worth. -/
noncomputable def Tryd.pinned : Pinned := { name := "ytnllmdognnfnhaadoor", sum := "9af696fe07d2f79c891e4d6e5a45787b82d99783322fb68e680a997577e05070", checked := Tryd.checked }
namespace Rows
def none {H : Type} : Left H := { results := [], args := [] }

/- WHAT THE LISTED PACKAGE-LEVEL VARIABLES READ AS WHEN THE CALL BEGINS. Each datum BY PROGRAM (the guide's laid-datum.mjs) off the statement by which the dump's own 'gosem.cut.vars' lays the variable. In a bare row this is a premise. The card (YtnllmdognnfnhaaDoorCards.lean) ties it to the program's text. -/
def laid_errors_errorType {H : Type} : DataW H := .iface "internal/reflectlite.rtype" (.agg [.ptr (.lit (.string [101, 114, 114, 111, 114]))])
def laid_unicode_utf8_acceptRanges {H : Type} : DataW H := .agg [.agg [.lit (.int .u8 128), .lit (.int .u8 191)], .agg [.lit (.int .u8 160), .lit (.int .u8 191)], .agg [.lit (.int .u8 128), .lit (.int .u8 159)], .agg [.lit (.int .u8 144), .lit (.int .u8 191)], .agg [.lit (.int .u8 128), .lit (.int .u8 143)], .agg [.lit (.int .u8 0), .lit (.int .u8 0)], .agg [.lit (.int .u8 0), .lit (.int .u8 0)], .agg [.lit (.int .u8 0), .lit (.int .u8 0)], .agg [.lit (.int .u8 0), .lit (.int .u8 0)], .agg [.lit (.int .u8 0), .lit (.int .u8 0)], .agg [.lit (.int .u8 0), .lit (.int .u8 0)], .agg [.lit (.int .u8 0), .lit (.int .u8 0)], .agg [.lit (.int .u8 0), .lit (.int .u8 0)], .agg [.lit (.int .u8 0), .lit (.int .u8 0)], .agg [.lit (.int .u8 0), .lit (.int .u8 0)], .agg [.lit (.int .u8 0), .lit (.int .u8 0)]]
/-- One of Go's own tables, pinned by name: the form's constant. -/
def laid_unicode_utf8_first : DataW Unit := Go.Pinned.utf8First

/-- 'visitingcardkeep.ZoneShort': WHATEVER THE INPUT: true; the input reads as it did. -/
def zoneShortSpec : ChangeSpec := { name := "zoneShort", fn := fun _ => fun
  | [d1, d2] => { results := [.lit (.bool true)], args := [d1, d2] }
  | _ => none }
def zoneShortRow : OpenClaim := { program := "ytnllmdognnfnhaadoor", sum := "9af696fe07d2f79c891e4d6e5a45787b82d99783322fb68e680a997577e05070", func := "visitingcard/visitingcardkeep.ZoneShort", spec := "zoneShort", inPlace := ["internal/reflectlite.ValueOf", "(internal/reflectlite.Value).Type", "(internal/reflectlite.Value).IsNil", "internal/reflectlite.TypeOf", "(internal/reflectlite.Value).Elem", "(internal/reflectlite.Value).Set"], unfollowed := true, recurses := true, named := ["errors.errorType"], apart := false, laid := [("errors.errorType", laid_errors_errorType)] }
def ZoneShortSaid : Prop := zoneShortRow.holds Tryd.pinned (OpenSpec.ofChange zoneShortSpec)

/-- ITS FALSE NEIGHBOUR: 'it returns false'. Refute it at one input. -/
def zoneShortWrong : ChangeSpec := { name := "zoneShort", fn := fun _ => fun
  | [d1, d2] => { results := [.lit (.bool false)], args := [d1, d2] }
  | _ => none }
def ZoneShortWrongFalsely : Prop := zoneShortRow.holds Tryd.pinned (OpenSpec.ofChange zoneShortWrong)

/-- 'visitingcardkeep.UtfBack': WHATEVER THE INPUT: true; the input reads as it did. -/
def utfBackSpec : ChangeSpec := { name := "utfBack", fn := fun _ => fun
  | [d1, d2] => { results := [.lit (.bool true)], args := [d1, d2] }
  | _ => none }
def utfBackRow : OpenClaim := { program := "ytnllmdognnfnhaadoor", sum := "9af696fe07d2f79c891e4d6e5a45787b82d99783322fb68e680a997577e05070", func := "visitingcard/visitingcardkeep.UtfBack", spec := "utfBack", inPlace := ["internal/reflectlite.ValueOf", "(internal/reflectlite.Value).Type", "(internal/reflectlite.Value).IsNil", "internal/reflectlite.TypeOf", "(internal/reflectlite.Value).Elem", "(internal/reflectlite.Value).Set"], unfollowed := true, recurses := true, named := ["errors.errorType"], apart := false, laid := [("errors.errorType", laid_errors_errorType)] }
def UtfBackSaid : Prop := utfBackRow.holds Tryd.pinned (OpenSpec.ofChange utfBackSpec)

/-- ITS FALSE NEIGHBOUR: 'it returns false'. Refute it at one input. -/
def utfBackWrong : ChangeSpec := { name := "utfBack", fn := fun _ => fun
  | [d1, d2] => { results := [.lit (.bool false)], args := [d1, d2] }
  | _ => none }
def UtfBackWrongFalsely : Prop := utfBackRow.holds Tryd.pinned (OpenSpec.ofChange utfBackWrong)

/-- 'visitingcardkeep.B64Back': WHATEVER THE INPUT: true; the input reads as it did. -/
def b64BackSpec : ChangeSpec := { name := "b64Back", fn := fun _ => fun
  | [d1, d2] => { results := [.lit (.bool true)], args := [d1, d2] }
  | _ => none }
def b64BackRow : OpenClaim := { program := "ytnllmdognnfnhaadoor", sum := "9af696fe07d2f79c891e4d6e5a45787b82d99783322fb68e680a997577e05070", func := "visitingcard/visitingcardkeep.B64Back", spec := "b64Back", inPlace := ["internal/bytealg.IndexByteString", "internal/reflectlite.ValueOf", "(internal/reflectlite.Value).Type", "(internal/reflectlite.Value).IsNil", "internal/reflectlite.TypeOf", "(internal/reflectlite.Value).Elem", "(internal/reflectlite.Value).Set", "internal/abi.NoEscape"], unfollowed := true, recurses := true, named := ["errors.errorType"], apart := false, laid := [("errors.errorType", laid_errors_errorType)] }
def B64BackSaid : Prop := b64BackRow.holds Tryd.pinned (OpenSpec.ofChange b64BackSpec)

/-- ITS FALSE NEIGHBOUR: 'it returns false'. Refute it at one input. -/
def b64BackWrong : ChangeSpec := { name := "b64Back", fn := fun _ => fun
  | [d1, d2] => { results := [.lit (.bool false)], args := [d1, d2] }
  | _ => none }
def B64BackWrongFalsely : Prop := b64BackRow.holds Tryd.pinned (OpenSpec.ofChange b64BackWrong)

/-- 'visitingcardkeep.B64Joins': WHATEVER THE INPUT: true; the input reads as it did. -/
def b64JoinsSpec : ChangeSpec := { name := "b64Joins", fn := fun _ => fun
  | [d1, d2] => { results := [.lit (.bool true)], args := [d1, d2] }
  | _ => none }
def b64JoinsRow : OpenClaim := { program := "ytnllmdognnfnhaadoor", sum := "9af696fe07d2f79c891e4d6e5a45787b82d99783322fb68e680a997577e05070", func := "visitingcard/visitingcardkeep.B64Joins", spec := "b64Joins", inPlace := ["internal/bytealg.IndexByteString", "internal/reflectlite.ValueOf", "(internal/reflectlite.Value).Type", "(internal/reflectlite.Value).IsNil", "internal/reflectlite.TypeOf", "(internal/reflectlite.Value).Elem", "(internal/reflectlite.Value).Set", "internal/abi.NoEscape"], unfollowed := true, recurses := true, named := ["errors.errorType"], apart := false, laid := [("errors.errorType", laid_errors_errorType)] }
def B64JoinsSaid : Prop := b64JoinsRow.holds Tryd.pinned (OpenSpec.ofChange b64JoinsSpec)

/-- ITS FALSE NEIGHBOUR: 'it returns false'. Refute it at one input. -/
def b64JoinsWrong : ChangeSpec := { name := "b64Joins", fn := fun _ => fun
  | [d1, d2] => { results := [.lit (.bool false)], args := [d1, d2] }
  | _ => none }
def B64JoinsWrongFalsely : Prop := b64JoinsRow.holds Tryd.pinned (OpenSpec.ofChange b64JoinsWrong)

/-- 'visitingcardkeep.B64Cut': WHATEVER THE INPUT: true; the input reads as it did. -/
def b64CutSpec : ChangeSpec := { name := "b64Cut", fn := fun _ => fun
  | [d1, d2] => { results := [.lit (.bool true)], args := [d1, d2] }
  | _ => none }
def b64CutRow : OpenClaim := { program := "ytnllmdognnfnhaadoor", sum := "9af696fe07d2f79c891e4d6e5a45787b82d99783322fb68e680a997577e05070", func := "visitingcard/visitingcardkeep.B64Cut", spec := "b64Cut", inPlace := ["internal/bytealg.IndexByteString", "internal/reflectlite.ValueOf", "(internal/reflectlite.Value).Type", "(internal/reflectlite.Value).IsNil", "internal/reflectlite.TypeOf", "(internal/reflectlite.Value).Elem", "(internal/reflectlite.Value).Set", "internal/abi.NoEscape"], unfollowed := true, recurses := true, named := ["errors.errorType"], apart := false, laid := [("errors.errorType", laid_errors_errorType)] }
def B64CutSaid : Prop := b64CutRow.holds Tryd.pinned (OpenSpec.ofChange b64CutSpec)

/-- ITS FALSE NEIGHBOUR: 'it returns false'. Refute it at one input. -/
def b64CutWrong : ChangeSpec := { name := "b64Cut", fn := fun _ => fun
  | [d1, d2] => { results := [.lit (.bool false)], args := [d1, d2] }
  | _ => none }
def B64CutWrongFalsely : Prop := b64CutRow.holds Tryd.pinned (OpenSpec.ofChange b64CutWrong)

/-- 'visitingcardkeep.FoldWidth': WHATEVER THE INPUT: true; the input reads as it did. -/
def foldWidthSpec : ChangeSpec := { name := "foldWidth", fn := fun _ => fun
  | [d1, d2] => { results := [.lit (.bool true)], args := [d1, d2] }
  | _ => none }
def foldWidthRow : OpenClaim := { program := "ytnllmdognnfnhaadoor", sum := "9af696fe07d2f79c891e4d6e5a45787b82d99783322fb68e680a997577e05070", func := "visitingcard/visitingcardkeep.FoldWidth", spec := "foldWidth", inPlace := ["internal/bytealg.IndexByteString", "internal/bytealg.IndexString", "internal/abi.NoEscape", "internal/bytealg.CountString"], named := ["unicode/utf8.first", "unicode/utf8.acceptRanges", "internal/bytealg.MaxLen"], apart := false, laid := [("unicode/utf8.acceptRanges", laid_unicode_utf8_acceptRanges), ("unicode/utf8.first", laid_unicode_utf8_first)] }
def FoldWidthSaid : Prop := foldWidthRow.holds Tryd.pinned (OpenSpec.ofChange foldWidthSpec)

/-- ITS FALSE NEIGHBOUR: 'it returns false'. Refute it at one input. -/
def foldWidthWrong : ChangeSpec := { name := "foldWidth", fn := fun _ => fun
  | [d1, d2] => { results := [.lit (.bool false)], args := [d1, d2] }
  | _ => none }
def FoldWidthWrongFalsely : Prop := foldWidthRow.holds Tryd.pinned (OpenSpec.ofChange foldWidthWrong)

/-- 'visitingcardkeep.FoldTabs': WHATEVER THE INPUT: true; the input reads as it did. -/
def foldTabsSpec : ChangeSpec := { name := "foldTabs", fn := fun _ => fun
  | [d1, d2] => { results := [.lit (.bool true)], args := [d1, d2] }
  | _ => none }
def foldTabsRow : OpenClaim := { program := "ytnllmdognnfnhaadoor", sum := "9af696fe07d2f79c891e4d6e5a45787b82d99783322fb68e680a997577e05070", func := "visitingcard/visitingcardkeep.FoldTabs", spec := "foldTabs", inPlace := ["internal/bytealg.IndexByteString", "internal/bytealg.IndexString", "internal/abi.NoEscape", "internal/bytealg.CountString", "internal/bytealg.MakeNoZero"], named := ["internal/bytealg.MaxLen", "unicode/utf8.first", "unicode/utf8.acceptRanges"], apart := false, laid := [("unicode/utf8.acceptRanges", laid_unicode_utf8_acceptRanges), ("unicode/utf8.first", laid_unicode_utf8_first)] }
def FoldTabsSaid : Prop := foldTabsRow.holds Tryd.pinned (OpenSpec.ofChange foldTabsSpec)

/-- ITS FALSE NEIGHBOUR: 'it returns false'. Refute it at one input. -/
def foldTabsWrong : ChangeSpec := { name := "foldTabs", fn := fun _ => fun
  | [d1, d2] => { results := [.lit (.bool false)], args := [d1, d2] }
  | _ => none }
def FoldTabsWrongFalsely : Prop := foldTabsRow.holds Tryd.pinned (OpenSpec.ofChange foldTabsWrong)

/-- 'visitingcardkeep.LangForm': WHATEVER THE INPUT: true; the input reads as it did. -/
def langFormSpec : ChangeSpec := { name := "langForm", fn := fun _ => fun
  | [d] => { results := [.lit (.bool true)], args := [d] }
  | _ => none }
def langFormRow : OpenClaim := { program := "ytnllmdognnfnhaadoor", sum := "9af696fe07d2f79c891e4d6e5a45787b82d99783322fb68e680a997577e05070", func := "visitingcard/visitingcardkeep.LangForm", spec := "langForm", inPlace := ["internal/bytealg.CountString", "internal/bytealg.IndexByteString", "internal/bytealg.IndexString", "internal/abi.NoEscape", "internal/bytealg.MakeNoZero"], named := ["unicode/utf8.first", "unicode/utf8.acceptRanges", "internal/bytealg.MaxLen"], apart := false, laid := [("unicode/utf8.acceptRanges", laid_unicode_utf8_acceptRanges), ("unicode/utf8.first", laid_unicode_utf8_first)] }
def LangFormSaid : Prop := langFormRow.holds Tryd.pinned (OpenSpec.ofChange langFormSpec)

/-- ITS FALSE NEIGHBOUR: 'it returns false'. Refute it at one input. -/
def langFormWrong : ChangeSpec := { name := "langForm", fn := fun _ => fun
  | [d] => { results := [.lit (.bool false)], args := [d] }
  | _ => none }
def LangFormWrongFalsely : Prop := langFormRow.holds Tryd.pinned (OpenSpec.ofChange langFormWrong)

/-- 'visitingcardkeep.LangJoins': WHATEVER THE INPUT: true; the input reads as it did. -/
def langJoinsSpec : ChangeSpec := { name := "langJoins", fn := fun _ => fun
  | [d1, d2] => { results := [.lit (.bool true)], args := [d1, d2] }
  | _ => none }
def langJoinsRow : OpenClaim := { program := "ytnllmdognnfnhaadoor", sum := "9af696fe07d2f79c891e4d6e5a45787b82d99783322fb68e680a997577e05070", func := "visitingcard/visitingcardkeep.LangJoins", spec := "langJoins", inPlace := ["internal/bytealg.CountString", "internal/bytealg.IndexByteString", "internal/bytealg.IndexString", "internal/abi.NoEscape", "internal/bytealg.MakeNoZero"], named := ["unicode/utf8.first", "unicode/utf8.acceptRanges", "internal/bytealg.MaxLen"], apart := false, laid := [("unicode/utf8.acceptRanges", laid_unicode_utf8_acceptRanges), ("unicode/utf8.first", laid_unicode_utf8_first)] }
def LangJoinsSaid : Prop := langJoinsRow.holds Tryd.pinned (OpenSpec.ofChange langJoinsSpec)

/-- ITS FALSE NEIGHBOUR: 'it returns false'. Refute it at one input. -/
def langJoinsWrong : ChangeSpec := { name := "langJoins", fn := fun _ => fun
  | [d1, d2] => { results := [.lit (.bool false)], args := [d1, d2] }
  | _ => none }
def LangJoinsWrongFalsely : Prop := langJoinsRow.holds Tryd.pinned (OpenSpec.ofChange langJoinsWrong)

/- THE SECOND FORM. 'bulk': how many values and letters a reading holds, each counted each time it is reached (what is shared counts as often as it is met; a slice's spare places count too). A statement '..UptoSaid' is the law's where the arguments, and the package variables that the reading takes, are together of bulk at most 1048576: NARROWER than '..Said'. Prove '..Said' where nothing that the law and all that it calls make is longer than what came in: it says more and counts as full. Else prove '..UptoSaid'. A law counts once. -/
mutual
def uptoBulk {H : Type} : DataW H → Nat
  | .lit (.string bytes) => bytes.length + 1
  | .lit _ => 1
  | .nil => 1
  | .ptr d => uptoBulk d + 1
  | .slice elems spare => uptoBulkAll elems + uptoBulkAll spare + 1
  | .agg parts => uptoBulkAll parts + 1
  | .iface _ d => uptoBulk d + 1
  | .map entries => uptoBulkEntries entries + 1
  | .held _ => 1
def uptoBulkAll {H : Type} : List (DataW H) → Nat
  | [] => 0
  | d :: r => uptoBulk d + uptoBulkAll r
def uptoBulkEntries {H : Type} : List (Lit × DataW H) → Nat
  | [] => 0
  | x :: r => uptoBulkEntry x + uptoBulkEntries r
def uptoBulkEntry {H : Type} : Lit × DataW H → Nat
  | (.string bytes, d) => bytes.length + uptoBulk d + 1
  | (_, d) => uptoBulk d + 1
 end
def uptoSmall : (H : Type) → List (DataW H) → Bool := fun _ ds => decide (uptoBulkAll ds ≤ 1048576)
def OpenSpec.upto (s : _root_.Go.ChangeSpec) : _root_.Go.OpenSpec := { _root_.Go.OpenSpec.ofChange s with cond := some uptoSmall }

/-- 'visitingcardkeep.ZoneShort', WHERE WHAT IT READS IS OF BULK AT MOST 1048576: true; the input reads as it did. -/
def zoneShortUptoRow : OpenClaim := { program := "ytnllmdognnfnhaadoor", sum := "9af696fe07d2f79c891e4d6e5a45787b82d99783322fb68e680a997577e05070", func := "visitingcard/visitingcardkeep.ZoneShort", spec := "zoneShort", inPlace := ["internal/reflectlite.ValueOf", "(internal/reflectlite.Value).Type", "(internal/reflectlite.Value).IsNil", "internal/reflectlite.TypeOf", "(internal/reflectlite.Value).Elem", "(internal/reflectlite.Value).Set"], unfollowed := true, recurses := true, named := ["errors.errorType"], apart := false, laid := [("errors.errorType", laid_errors_errorType)], narrowed := true }
def ZoneShortUptoSaid : Prop := zoneShortUptoRow.holds Tryd.pinned (OpenSpec.upto zoneShortSpec)

/-- 'visitingcardkeep.UtfBack', WHERE WHAT IT READS IS OF BULK AT MOST 1048576: true; the input reads as it did. -/
def utfBackUptoRow : OpenClaim := { program := "ytnllmdognnfnhaadoor", sum := "9af696fe07d2f79c891e4d6e5a45787b82d99783322fb68e680a997577e05070", func := "visitingcard/visitingcardkeep.UtfBack", spec := "utfBack", inPlace := ["internal/reflectlite.ValueOf", "(internal/reflectlite.Value).Type", "(internal/reflectlite.Value).IsNil", "internal/reflectlite.TypeOf", "(internal/reflectlite.Value).Elem", "(internal/reflectlite.Value).Set"], unfollowed := true, recurses := true, named := ["errors.errorType"], apart := false, laid := [("errors.errorType", laid_errors_errorType)], narrowed := true }
def UtfBackUptoSaid : Prop := utfBackUptoRow.holds Tryd.pinned (OpenSpec.upto utfBackSpec)

/-- 'visitingcardkeep.B64Back', WHERE WHAT IT READS IS OF BULK AT MOST 1048576: true; the input reads as it did. -/
def b64BackUptoRow : OpenClaim := { program := "ytnllmdognnfnhaadoor", sum := "9af696fe07d2f79c891e4d6e5a45787b82d99783322fb68e680a997577e05070", func := "visitingcard/visitingcardkeep.B64Back", spec := "b64Back", inPlace := ["internal/bytealg.IndexByteString", "internal/reflectlite.ValueOf", "(internal/reflectlite.Value).Type", "(internal/reflectlite.Value).IsNil", "internal/reflectlite.TypeOf", "(internal/reflectlite.Value).Elem", "(internal/reflectlite.Value).Set", "internal/abi.NoEscape"], unfollowed := true, recurses := true, named := ["errors.errorType"], apart := false, laid := [("errors.errorType", laid_errors_errorType)], narrowed := true }
def B64BackUptoSaid : Prop := b64BackUptoRow.holds Tryd.pinned (OpenSpec.upto b64BackSpec)

/-- 'visitingcardkeep.B64Joins', WHERE WHAT IT READS IS OF BULK AT MOST 1048576: true; the input reads as it did. -/
def b64JoinsUptoRow : OpenClaim := { program := "ytnllmdognnfnhaadoor", sum := "9af696fe07d2f79c891e4d6e5a45787b82d99783322fb68e680a997577e05070", func := "visitingcard/visitingcardkeep.B64Joins", spec := "b64Joins", inPlace := ["internal/bytealg.IndexByteString", "internal/reflectlite.ValueOf", "(internal/reflectlite.Value).Type", "(internal/reflectlite.Value).IsNil", "internal/reflectlite.TypeOf", "(internal/reflectlite.Value).Elem", "(internal/reflectlite.Value).Set", "internal/abi.NoEscape"], unfollowed := true, recurses := true, named := ["errors.errorType"], apart := false, laid := [("errors.errorType", laid_errors_errorType)], narrowed := true }
def B64JoinsUptoSaid : Prop := b64JoinsUptoRow.holds Tryd.pinned (OpenSpec.upto b64JoinsSpec)

/-- 'visitingcardkeep.B64Cut', WHERE WHAT IT READS IS OF BULK AT MOST 1048576: true; the input reads as it did. -/
def b64CutUptoRow : OpenClaim := { program := "ytnllmdognnfnhaadoor", sum := "9af696fe07d2f79c891e4d6e5a45787b82d99783322fb68e680a997577e05070", func := "visitingcard/visitingcardkeep.B64Cut", spec := "b64Cut", inPlace := ["internal/bytealg.IndexByteString", "internal/reflectlite.ValueOf", "(internal/reflectlite.Value).Type", "(internal/reflectlite.Value).IsNil", "internal/reflectlite.TypeOf", "(internal/reflectlite.Value).Elem", "(internal/reflectlite.Value).Set", "internal/abi.NoEscape"], unfollowed := true, recurses := true, named := ["errors.errorType"], apart := false, laid := [("errors.errorType", laid_errors_errorType)], narrowed := true }
def B64CutUptoSaid : Prop := b64CutUptoRow.holds Tryd.pinned (OpenSpec.upto b64CutSpec)

/-- 'visitingcardkeep.FoldWidth', WHERE WHAT IT READS IS OF BULK AT MOST 1048576: true; the input reads as it did. -/
def foldWidthUptoRow : OpenClaim := { program := "ytnllmdognnfnhaadoor", sum := "9af696fe07d2f79c891e4d6e5a45787b82d99783322fb68e680a997577e05070", func := "visitingcard/visitingcardkeep.FoldWidth", spec := "foldWidth", inPlace := ["internal/bytealg.IndexByteString", "internal/bytealg.IndexString", "internal/abi.NoEscape", "internal/bytealg.CountString"], named := ["unicode/utf8.first", "unicode/utf8.acceptRanges", "internal/bytealg.MaxLen"], apart := false, laid := [("unicode/utf8.acceptRanges", laid_unicode_utf8_acceptRanges), ("unicode/utf8.first", laid_unicode_utf8_first)], narrowed := true }
def FoldWidthUptoSaid : Prop := foldWidthUptoRow.holds Tryd.pinned (OpenSpec.upto foldWidthSpec)

/-- 'visitingcardkeep.FoldTabs', WHERE WHAT IT READS IS OF BULK AT MOST 1048576: true; the input reads as it did. -/
def foldTabsUptoRow : OpenClaim := { program := "ytnllmdognnfnhaadoor", sum := "9af696fe07d2f79c891e4d6e5a45787b82d99783322fb68e680a997577e05070", func := "visitingcard/visitingcardkeep.FoldTabs", spec := "foldTabs", inPlace := ["internal/bytealg.IndexByteString", "internal/bytealg.IndexString", "internal/abi.NoEscape", "internal/bytealg.CountString", "internal/bytealg.MakeNoZero"], named := ["internal/bytealg.MaxLen", "unicode/utf8.first", "unicode/utf8.acceptRanges"], apart := false, laid := [("unicode/utf8.acceptRanges", laid_unicode_utf8_acceptRanges), ("unicode/utf8.first", laid_unicode_utf8_first)], narrowed := true }
def FoldTabsUptoSaid : Prop := foldTabsUptoRow.holds Tryd.pinned (OpenSpec.upto foldTabsSpec)

/-- 'visitingcardkeep.LangForm', WHERE WHAT IT READS IS OF BULK AT MOST 1048576: true; the input reads as it did. -/
def langFormUptoRow : OpenClaim := { program := "ytnllmdognnfnhaadoor", sum := "9af696fe07d2f79c891e4d6e5a45787b82d99783322fb68e680a997577e05070", func := "visitingcard/visitingcardkeep.LangForm", spec := "langForm", inPlace := ["internal/bytealg.CountString", "internal/bytealg.IndexByteString", "internal/bytealg.IndexString", "internal/abi.NoEscape", "internal/bytealg.MakeNoZero"], named := ["unicode/utf8.first", "unicode/utf8.acceptRanges", "internal/bytealg.MaxLen"], apart := false, laid := [("unicode/utf8.acceptRanges", laid_unicode_utf8_acceptRanges), ("unicode/utf8.first", laid_unicode_utf8_first)], narrowed := true }
def LangFormUptoSaid : Prop := langFormUptoRow.holds Tryd.pinned (OpenSpec.upto langFormSpec)

/-- 'visitingcardkeep.LangJoins', WHERE WHAT IT READS IS OF BULK AT MOST 1048576: true; the input reads as it did. -/
def langJoinsUptoRow : OpenClaim := { program := "ytnllmdognnfnhaadoor", sum := "9af696fe07d2f79c891e4d6e5a45787b82d99783322fb68e680a997577e05070", func := "visitingcard/visitingcardkeep.LangJoins", spec := "langJoins", inPlace := ["internal/bytealg.CountString", "internal/bytealg.IndexByteString", "internal/bytealg.IndexString", "internal/abi.NoEscape", "internal/bytealg.MakeNoZero"], named := ["unicode/utf8.first", "unicode/utf8.acceptRanges", "internal/bytealg.MaxLen"], apart := false, laid := [("unicode/utf8.acceptRanges", laid_unicode_utf8_acceptRanges), ("unicode/utf8.first", laid_unicode_utf8_first)], narrowed := true }
def LangJoinsUptoSaid : Prop := langJoinsUptoRow.holds Tryd.pinned (OpenSpec.upto langJoinsSpec)

end Rows
end Go.Proofs.YtnllmdognnfnhaaDoor
