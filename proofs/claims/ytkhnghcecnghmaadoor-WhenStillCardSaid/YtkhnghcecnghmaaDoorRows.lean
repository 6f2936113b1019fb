/-
  NARROWER THAN 'FOR EVERY INPUT', by the rows' own cells (each row's printed sentence says how): WhenBack: laid · WhenStill: laid · WhenDays: laid · WhenOrder: laid · WhenShort: laid · WhenParts: laid.
  DERIVED. THE GIVEN ROWS OF THIS SEAT. 6 by the template 'for every input the law returns true; each argument reads behind the call as it read before'; 0 by the template 'total and deterministic' (their statements: YtkhnghcecnghmaaDoorTotals.lean).
  GIVEN WITH THE SEED: the statements are not yours to turn. If you find one false, say at which input.
  Laid BY PROGRAM, IN A SANDBOX (cutbox-rows.mjs): the forced cells as the released guide's own fill.sh prints them over the translation e35c9e801d67f446… (all of the seat's roots in one cut). By AI agents, Wed Nov 11 2026. No macro, syntax, notation, axiom, sorry.
-/
import Derived.Test.YtkhnghcecnghmaaDoorChecked
import GoSem.PinnedTables
import GoSem.Claim
import GoSem.ClaimJoined
import GoSem.ClaimMapViews
import Derived.JoinedTies
import Derived.KernelRfl
namespace Go.Proofs.YtkhnghcecnghmaaDoor
/- THE CELL 'sum', in the pinned program and in every row, IS THE sha256 OF THE DUMP (.gsa) THAT YtkhnghcecnghmaaDoorProg.lean LOADS. Nothing in Lean hashes anything: it is a label: what it is worth is what the hold of that sum in a sandbox is worth. -/
noncomputable def Tryd.pinned : Pinned := { name := "ytkhnghcecnghmaadoor", sum := "e35c9e801d67f446b1a51ff4069ee74a4773c53e772fc7319cbbae2d600ae477", checked := Tryd.checked }
namespace Rows
def none {H : Type} : Left H := { results := [], args := [] }

/- WHAT THE LISTED PACKAGE-LEVEL VARIABLES READ AS WHEN THE CALL BEGINS. Each datum BY PROGRAM (the guide's laid-datum.mjs) off the statement by which the dump's own 'gosem.cut.vars' lays the variable. In a bare row this is a premise. The card (YtkhnghcecnghmaaDoorCards.lean) ties it to the program's text. -/
def laid_unicode_utf8_acceptRanges {H : Type} : DataW H := .agg [.agg [.lit (.int .u8 128), .lit (.int .u8 191)], .agg [.lit (.int .u8 160), .lit (.int .u8 191)], .agg [.lit (.int .u8 128), .lit (.int .u8 159)], .agg [.lit (.int .u8 144), .lit (.int .u8 191)], .agg [.lit (.int .u8 128), .lit (.int .u8 143)], .agg [.lit (.int .u8 0), .lit (.int .u8 0)], .agg [.lit (.int .u8 0), .lit (.int .u8 0)], .agg [.lit (.int .u8 0), .lit (.int .u8 0)], .agg [.lit (.int .u8 0), .lit (.int .u8 0)], .agg [.lit (.int .u8 0), .lit (.int .u8 0)], .agg [.lit (.int .u8 0), .lit (.int .u8 0)], .agg [.lit (.int .u8 0), .lit (.int .u8 0)], .agg [.lit (.int .u8 0), .lit (.int .u8 0)], .agg [.lit (.int .u8 0), .lit (.int .u8 0)], .agg [.lit (.int .u8 0), .lit (.int .u8 0)], .agg [.lit (.int .u8 0), .lit (.int .u8 0)]]
/-- One of Go's own tables, pinned by name: the form's constant. -/
def laid_unicode_utf8_first : DataW Unit := Go.Pinned.utf8First

/-- 'visitingcardkeep.WhenBack': WHATEVER THE INPUT: true; the input reads as it did. -/
def whenBackSpec : ChangeSpec := { name := "whenBack", fn := fun _ => fun
  | [d] => { results := [.lit (.bool true)], args := [d] }
  | _ => none }
def whenBackRow : OpenClaim := { program := "ytkhnghcecnghmaadoor", sum := "e35c9e801d67f446b1a51ff4069ee74a4773c53e772fc7319cbbae2d600ae477", func := "visitingcard/visitingcardkeep.WhenBack", spec := "whenBack", inPlace := ["internal/bytealg.IndexByteString", "internal/bytealg.IndexString", "internal/abi.NoEscape", "internal/bytealg.MakeNoZero"], unfollowed := true, recurses := true, named := ["internal/bytealg.MaxLen", "unicode/utf8.first", "unicode/utf8.acceptRanges"], apart := false, laid := [("unicode/utf8.acceptRanges", laid_unicode_utf8_acceptRanges), ("unicode/utf8.first", laid_unicode_utf8_first)] }
def WhenBackSaid : Prop := whenBackRow.holds Tryd.pinned (OpenSpec.ofChange whenBackSpec)

/-- ITS FALSE NEIGHBOUR: 'it returns false'. Refute it at one input. -/
def whenBackWrong : ChangeSpec := { name := "whenBack", fn := fun _ => fun
  | [d] => { results := [.lit (.bool false)], args := [d] }
  | _ => none }
def WhenBackWrongFalsely : Prop := whenBackRow.holds Tryd.pinned (OpenSpec.ofChange whenBackWrong)

/-- 'visitingcardkeep.WhenStill': WHATEVER THE INPUT: true; the input reads as it did. -/
def whenStillSpec : ChangeSpec := { name := "whenStill", fn := fun _ => fun
  | [d] => { results := [.lit (.bool true)], args := [d] }
  | _ => none }
def whenStillRow : OpenClaim := { program := "ytkhnghcecnghmaadoor", sum := "e35c9e801d67f446b1a51ff4069ee74a4773c53e772fc7319cbbae2d600ae477", func := "visitingcard/visitingcardkeep.WhenStill", spec := "whenStill", inPlace := ["internal/bytealg.IndexByteString", "internal/bytealg.IndexString", "internal/abi.NoEscape", "internal/bytealg.MakeNoZero"], unfollowed := true, recurses := true, named := ["internal/bytealg.MaxLen", "unicode/utf8.first", "unicode/utf8.acceptRanges"], apart := false, laid := [("unicode/utf8.acceptRanges", laid_unicode_utf8_acceptRanges), ("unicode/utf8.first", laid_unicode_utf8_first)] }
def WhenStillSaid : Prop := whenStillRow.holds Tryd.pinned (OpenSpec.ofChange whenStillSpec)

/-- ITS FALSE NEIGHBOUR: 'it returns false'. Refute it at one input. -/
def whenStillWrong : ChangeSpec := { name := "whenStill", fn := fun _ => fun
  | [d] => { results := [.lit (.bool false)], args := [d] }
  | _ => none }
def WhenStillWrongFalsely : Prop := whenStillRow.holds Tryd.pinned (OpenSpec.ofChange whenStillWrong)

/-- 'visitingcardkeep.WhenDays': WHATEVER THE INPUT: true; the input reads as it did. -/
def whenDaysSpec : ChangeSpec := { name := "whenDays", fn := fun _ => fun
  | [d] => { results := [.lit (.bool true)], args := [d] }
  | _ => none }
def whenDaysRow : OpenClaim := { program := "ytkhnghcecnghmaadoor", sum := "e35c9e801d67f446b1a51ff4069ee74a4773c53e772fc7319cbbae2d600ae477", func := "visitingcard/visitingcardkeep.WhenDays", spec := "whenDays", inPlace := ["internal/bytealg.IndexByteString", "internal/bytealg.IndexString", "internal/abi.NoEscape", "internal/bytealg.MakeNoZero"], unfollowed := true, recurses := true, named := ["internal/bytealg.MaxLen", "unicode/utf8.first", "unicode/utf8.acceptRanges"], apart := false, laid := [("unicode/utf8.acceptRanges", laid_unicode_utf8_acceptRanges), ("unicode/utf8.first", laid_unicode_utf8_first)] }
def WhenDaysSaid : Prop := whenDaysRow.holds Tryd.pinned (OpenSpec.ofChange whenDaysSpec)

/-- ITS FALSE NEIGHBOUR: 'it returns false'. Refute it at one input. -/
def whenDaysWrong : ChangeSpec := { name := "whenDays", fn := fun _ => fun
  | [d] => { results := [.lit (.bool false)], args := [d] }
  | _ => none }
def WhenDaysWrongFalsely : Prop := whenDaysRow.holds Tryd.pinned (OpenSpec.ofChange whenDaysWrong)

/-- 'visitingcardkeep.WhenOrder': WHATEVER THE INPUT: true; the input reads as it did. -/
def whenOrderSpec : ChangeSpec := { name := "whenOrder", fn := fun _ => fun
  | [d1, d2, d3, d4] => { results := [.lit (.bool true)], args := [d1, d2, d3, d4] }
  | _ => none }
def whenOrderRow : OpenClaim := { program := "ytkhnghcecnghmaadoor", sum := "e35c9e801d67f446b1a51ff4069ee74a4773c53e772fc7319cbbae2d600ae477", func := "visitingcard/visitingcardkeep.WhenOrder", spec := "whenOrder", inPlace := ["internal/bytealg.IndexByteString", "internal/bytealg.IndexString", "internal/abi.NoEscape", "internal/bytealg.MakeNoZero"], unfollowed := true, recurses := true, named := ["internal/bytealg.MaxLen", "unicode/utf8.first", "unicode/utf8.acceptRanges"], apart := false, laid := [("unicode/utf8.acceptRanges", laid_unicode_utf8_acceptRanges), ("unicode/utf8.first", laid_unicode_utf8_first)] }
def WhenOrderSaid : Prop := whenOrderRow.holds Tryd.pinned (OpenSpec.ofChange whenOrderSpec)

/-- ITS FALSE NEIGHBOUR: 'it returns false'. Refute it at one input. -/
def whenOrderWrong : ChangeSpec := { name := "whenOrder", fn := fun _ => fun
  | [d1, d2, d3, d4] => { results := [.lit (.bool false)], args := [d1, d2, d3, d4] }
  | _ => none }
def WhenOrderWrongFalsely : Prop := whenOrderRow.holds Tryd.pinned (OpenSpec.ofChange whenOrderWrong)

/-- 'visitingcardkeep.WhenShort': WHATEVER THE INPUT: true; the input reads as it did. -/
def whenShortSpec : ChangeSpec := { name := "whenShort", fn := fun _ => fun
  | [d1, d2] => { results := [.lit (.bool true)], args := [d1, d2] }
  | _ => none }
def whenShortRow : OpenClaim := { program := "ytkhnghcecnghmaadoor", sum := "e35c9e801d67f446b1a51ff4069ee74a4773c53e772fc7319cbbae2d600ae477", func := "visitingcard/visitingcardkeep.WhenShort", spec := "whenShort", inPlace := ["internal/bytealg.IndexByteString", "internal/bytealg.IndexString", "internal/abi.NoEscape", "internal/bytealg.MakeNoZero"], unfollowed := true, recurses := true, named := ["internal/bytealg.MaxLen", "unicode/utf8.first", "unicode/utf8.acceptRanges"], apart := false, laid := [("unicode/utf8.acceptRanges", laid_unicode_utf8_acceptRanges), ("unicode/utf8.first", laid_unicode_utf8_first)] }
def WhenShortSaid : Prop := whenShortRow.holds Tryd.pinned (OpenSpec.ofChange whenShortSpec)

/-- ITS FALSE NEIGHBOUR: 'it returns false'. Refute it at one input. -/
def whenShortWrong : ChangeSpec := { name := "whenShort", fn := fun _ => fun
  | [d1, d2] => { results := [.lit (.bool false)], args := [d1, d2] }
  | _ => none }
def WhenShortWrongFalsely : Prop := whenShortRow.holds Tryd.pinned (OpenSpec.ofChange whenShortWrong)

/-- 'visitingcardkeep.WhenParts': WHATEVER THE INPUT: true; the input reads as it did. -/
def whenPartsSpec : ChangeSpec := { name := "whenParts", fn := fun _ => fun
  | [d1, d2] => { results := [.lit (.bool true)], args := [d1, d2] }
  | _ => none }
def whenPartsRow : OpenClaim := { program := "ytkhnghcecnghmaadoor", sum := "e35c9e801d67f446b1a51ff4069ee74a4773c53e772fc7319cbbae2d600ae477", func := "visitingcard/visitingcardkeep.WhenParts", spec := "whenParts", inPlace := ["internal/bytealg.IndexByteString", "internal/bytealg.IndexString", "internal/abi.NoEscape", "internal/bytealg.MakeNoZero"], unfollowed := true, recurses := true, named := ["internal/bytealg.MaxLen", "unicode/utf8.first", "unicode/utf8.acceptRanges"], apart := false, laid := [("unicode/utf8.acceptRanges", laid_unicode_utf8_acceptRanges), ("unicode/utf8.first", laid_unicode_utf8_first)] }
def WhenPartsSaid : Prop := whenPartsRow.holds Tryd.pinned (OpenSpec.ofChange whenPartsSpec)

/-- ITS FALSE NEIGHBOUR: 'it returns false'. Refute it at one input. -/
def whenPartsWrong : ChangeSpec := { name := "whenParts", fn := fun _ => fun
  | [d1, d2] => { results := [.lit (.bool false)], args := [d1, d2] }
  | _ => none }
def WhenPartsWrongFalsely : Prop := whenPartsRow.holds Tryd.pinned (OpenSpec.ofChange whenPartsWrong)

/- THE SECOND FORM. 'bulk': how many values and letters a reading holds, each counted each time it is reached (what is shared counts as often as it is met; a slice's spare places count too). A statement '..UptoSaid' is the law's where the arguments, and the package variables that the reading takes, are together of bulk at most 1048576: NARROWER than '..Said'. Prove '..Said' where nothing that the law and all that it calls make is longer than what came in: it says more and counts as full. Else prove '..UptoSaid'. A law counts once. -/
mutual
def uptoBulk {H : Type} : DataW H → Nat
  | .lit (.string bytes) => bytes.length + 1
  | .lit _ => 1
  | .nil => 1
  | .ptr d => uptoBulk d + 1
  | .slice elems spare => uptoBulkAll elems + uptoBulkAll spare + 1
  | .agg parts => uptoBulkAll parts + 1
  | .iface _ d => uptoBulk d + 1
  | .map entries => uptoBulkEntries entries + 1
  | .held _ => 1
def uptoBulkAll {H : Type} : List (DataW H) → Nat
  | [] => 0
  | d :: r => uptoBulk d + uptoBulkAll r
def uptoBulkEntries {H : Type} : List (Lit × DataW H) → Nat
  | [] => 0
  | x :: r => uptoBulkEntry x + uptoBulkEntries r
def uptoBulkEntry {H : Type} : Lit × DataW H → Nat
  | (.string bytes, d) => bytes.length + uptoBulk d + 1
  | (_, d) => uptoBulk d + 1
 end
def uptoSmall : (H : Type) → List (DataW H) → Bool := fun _ ds => decide (uptoBulkAll ds ≤ 1048576)
def OpenSpec.upto (s : _root_.Go.ChangeSpec) : _root_.Go.OpenSpec := { _root_.Go.OpenSpec.ofChange s with cond := some uptoSmall }

/-- 'visitingcardkeep.WhenBack', WHERE WHAT IT READS IS OF BULK AT MOST 1048576: true; the input reads as it did. -/
def whenBackUptoRow : OpenClaim := { program := "ytkhnghcecnghmaadoor", sum := "e35c9e801d67f446b1a51ff4069ee74a4773c53e772fc7319cbbae2d600ae477", func := "visitingcard/visitingcardkeep.WhenBack", spec := "whenBack", inPlace := ["internal/bytealg.IndexByteString", "internal/bytealg.IndexString", "internal/abi.NoEscape", "internal/bytealg.MakeNoZero"], unfollowed := true, recurses := true, named := ["internal/bytealg.MaxLen", "unicode/utf8.first", "unicode/utf8.acceptRanges"], apart := false, laid := [("unicode/utf8.acceptRanges", laid_unicode_utf8_acceptRanges), ("unicode/utf8.first", laid_unicode_utf8_first)], narrowed := true }
def WhenBackUptoSaid : Prop := whenBackUptoRow.holds Tryd.pinned (OpenSpec.upto whenBackSpec)

/-- 'visitingcardkeep.WhenStill', WHERE WHAT IT READS IS OF BULK AT MOST 1048576: true; the input reads as it did. -/
def whenStillUptoRow : OpenClaim := { program := "ytkhnghcecnghmaadoor", sum := "e35c9e801d67f446b1a51ff4069ee74a4773c53e772fc7319cbbae2d600ae477", func := "visitingcard/visitingcardkeep.WhenStill", spec := "whenStill", inPlace := ["internal/bytealg.IndexByteString", "internal/bytealg.IndexString", "internal/abi.NoEscape", "internal/bytealg.MakeNoZero"], unfollowed := true, recurses := true, named := ["internal/bytealg.MaxLen", "unicode/utf8.first", "unicode/utf8.acceptRanges"], apart := false, laid := [("unicode/utf8.acceptRanges", laid_unicode_utf8_acceptRanges), ("unicode/utf8.first", laid_unicode_utf8_first)], narrowed := true }
def WhenStillUptoSaid : Prop := whenStillUptoRow.holds Tryd.pinned (OpenSpec.upto whenStillSpec)

/-- 'visitingcardkeep.WhenDays', WHERE WHAT IT READS IS OF BULK AT MOST 1048576: true; the input reads as it did. -/
def whenDaysUptoRow : OpenClaim := { program := "ytkhnghcecnghmaadoor", sum := "e35c9e801d67f446b1a51ff4069ee74a4773c53e772fc7319cbbae2d600ae477", func := "visitingcard/visitingcardkeep.WhenDays", spec := "whenDays", inPlace := ["internal/bytealg.IndexByteString", "internal/bytealg.IndexString", "internal/abi.NoEscape", "internal/bytealg.MakeNoZero"], unfollowed := true, recurses := true, named := ["internal/bytealg.MaxLen", "unicode/utf8.first", "unicode/utf8.acceptRanges"], apart := false, laid := [("unicode/utf8.acceptRanges", laid_unicode_utf8_acceptRanges), ("unicode/utf8.first", laid_unicode_utf8_first)], narrowed := true }
def WhenDaysUptoSaid : Prop := whenDaysUptoRow.holds Tryd.pinned (OpenSpec.upto whenDaysSpec)

/-- 'visitingcardkeep.WhenOrder', WHERE WHAT IT READS IS OF BULK AT MOST 1048576: true; the input reads as it did. -/
def whenOrderUptoRow : OpenClaim := { program := "ytkhnghcecnghmaadoor", sum := "e35c9e801d67f446b1a51ff4069ee74a4773c53e772fc7319cbbae2d600ae477", func := "visitingcard/visitingcardkeep.WhenOrder", spec := "whenOrder", inPlace := ["internal/bytealg.IndexByteString", "internal/bytealg.IndexString", "internal/abi.NoEscape", "internal/bytealg.MakeNoZero"], unfollowed := true, recurses := true, named := ["internal/bytealg.MaxLen", "unicode/utf8.first", "unicode/utf8.acceptRanges"], apart := false, laid := [("unicode/utf8.acceptRanges", laid_unicode_utf8_acceptRanges), ("unicode/utf8.first", laid_unicode_utf8_first)], narrowed := true }
def WhenOrderUptoSaid : Prop := whenOrderUptoRow.holds Tryd.pinned (OpenSpec.upto whenOrderSpec)

/-- 'visitingcardkeep.WhenShort', WHERE WHAT IT READS IS OF BULK AT MOST 1048576: true; the input reads as it did. -/
def whenShortUptoRow : OpenClaim := { program := "ytkhnghcecnghmaadoor", sum := "e35c9e801d67f446b1a51ff4069ee74a4773c53e772fc7319cbbae2d600ae477", func := "visitingcard/visitingcardkeep.WhenShort", spec := "whenShort", inPlace := ["internal/bytealg.IndexByteString", "internal/bytealg.IndexString", "internal/abi.NoEscape", "internal/bytealg.MakeNoZero"], unfollowed := true, recurses := true, named := ["internal/bytealg.MaxLen", "unicode/utf8.first", "unicode/utf8.acceptRanges"], apart := false, laid := [("unicode/utf8.acceptRanges", laid_unicode_utf8_acceptRanges), ("unicode/utf8.first", laid_unicode_utf8_first)], narrowed := true }
def WhenShortUptoSaid : Prop := whenShortUptoRow.holds Tryd.pinned (OpenSpec.upto whenShortSpec)

/-- 'visitingcardkeep.WhenParts', WHERE WHAT IT READS IS OF BULK AT MOST 1048576: true; the input reads as it did. -/
def whenPartsUptoRow : OpenClaim := { program := "ytkhnghcecnghmaadoor", sum := "e35c9e801d67f446b1a51ff4069ee74a4773c53e772fc7319cbbae2d600ae477", func := "visitingcard/visitingcardkeep.WhenParts", spec := "whenParts", inPlace := ["internal/bytealg.IndexByteString", "internal/bytealg.IndexString", "internal/abi.NoEscape", "internal/bytealg.MakeNoZero"], unfollowed := true, recurses := true, named := ["internal/bytealg.MaxLen", "unicode/utf8.first", "unicode/utf8.acceptRanges"], apart := false, laid := [("unicode/utf8.acceptRanges", laid_unicode_utf8_acceptRanges), ("unicode/utf8.first", laid_unicode_utf8_first)], narrowed := true }
def WhenPartsUptoSaid : Prop := whenPartsUptoRow.holds Tryd.pinned (OpenSpec.upto whenPartsSpec)

end Rows
end Go.Proofs.YtkhnghcecnghmaaDoor
