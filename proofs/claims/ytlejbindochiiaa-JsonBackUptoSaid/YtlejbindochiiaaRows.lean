/-
  NARROWER THAN 'FOR EVERY INPUT', by the rows' own cells (each row's printed sentence says how): JsonBack: loops.
  DERIVED. THE GIVEN ROWS OF THIS SEAT. 4 by the template 'for every input the law returns true; each argument reads behind the call as it read before'; 0 by the template 'total and deterministic' (their statements: YtlejbindochiiaaTotals.lean).
  GIVEN WITH THE SEED: the statements are not yours to turn. If you find one false, say at which input.
  Laid BY PROGRAM, IN A SANDBOX (cutbox-rows.mjs): the forced cells as the released guide's own fill.sh prints them over the translation 446f4232e389197e… (all of the seat's roots in one cut). By AI agents, Wed Nov 11 2026. No macro, syntax, notation, axiom, sorry.
-/
import Derived.Test.YtlejbindochiiaaChecked
import GoSem.Claim
import GoSem.ClaimJoined
import GoSem.ClaimMapViews
import Derived.JoinedTies
import Derived.KernelRfl
namespace Go.Proofs.Ytlejbindochiiaa
/- THE CELL 'sum', in the pinned program and in every row, IS THE sha256 OF THE DUMP (.gsa) THAT YtlejbindochiiaaProg.lean LOADS. Nothing in Lean hashes anything: it is a label: what it is worth is what the hold of that sum in a sandbox is worth. -/
noncomputable def Try.pinned : Pinned := { name := "ytlejbindochiiaa", sum := "446f4232e389197e810f0827457bea058a57573c2e68a084a31c312cf1c4aada", checked := Try.checked }
namespace Rows
def none {H : Type} : Left H := { results := [], args := [] }

/-- 'visitingcardkeep.JsonBack': WHATEVER THE INPUT: true; the input reads as it did. -/
def jsonBackSpec : ChangeSpec := { name := "jsonBack", fn := fun _ => fun
  | [d] => { results := [.lit (.bool true)], args := [d] }
  | _ => none }
def jsonBackRow : OpenClaim := { program := "ytlejbindochiiaa", sum := "446f4232e389197e810f0827457bea058a57573c2e68a084a31c312cf1c4aada", func := "visitingcard/visitingcardkeep.JsonBack", spec := "jsonBack", inPlace := ["internal/bytealg.IndexByteString", "internal/abi.NoEscape"], unfollowed := true, recurses := true, loops := true, apart := false }
def JsonBackSaid : Prop := jsonBackRow.holds Try.pinned (OpenSpec.ofChange jsonBackSpec)

/-- ITS FALSE NEIGHBOUR: 'it returns false'. Refute it at one input. -/
def jsonBackWrong : ChangeSpec := { name := "jsonBack", fn := fun _ => fun
  | [d] => { results := [.lit (.bool false)], args := [d] }
  | _ => none }
def JsonBackWrongFalsely : Prop := jsonBackRow.holds Try.pinned (OpenSpec.ofChange jsonBackWrong)

/-- 'visitingcardkeep.JsonStill': WHATEVER THE INPUT: true; the input reads as it did. -/
def jsonStillSpec : ChangeSpec := { name := "jsonStill", fn := fun _ => fun
  | [d] => { results := [.lit (.bool true)], args := [d] }
  | _ => none }
def jsonStillRow : OpenClaim := { program := "ytlejbindochiiaa", sum := "446f4232e389197e810f0827457bea058a57573c2e68a084a31c312cf1c4aada", func := "visitingcard/visitingcardkeep.JsonStill", spec := "jsonStill", inPlace := ["internal/bytealg.IndexByteString", "internal/abi.NoEscape"], unfollowed := true, recurses := true, apart := false }
def JsonStillSaid : Prop := jsonStillRow.holds Try.pinned (OpenSpec.ofChange jsonStillSpec)

/-- ITS FALSE NEIGHBOUR: 'it returns false'. Refute it at one input. -/
def jsonStillWrong : ChangeSpec := { name := "jsonStill", fn := fun _ => fun
  | [d] => { results := [.lit (.bool false)], args := [d] }
  | _ => none }
def JsonStillWrongFalsely : Prop := jsonStillRow.holds Try.pinned (OpenSpec.ofChange jsonStillWrong)

/-- 'visitingcardkeep.JsonPoints': WHATEVER THE INPUT: true; the input reads as it did. -/
def jsonPointsSpec : ChangeSpec := { name := "jsonPoints", fn := fun _ => fun
  | [d] => { results := [.lit (.bool true)], args := [d] }
  | _ => none }
def jsonPointsRow : OpenClaim := { program := "ytlejbindochiiaa", sum := "446f4232e389197e810f0827457bea058a57573c2e68a084a31c312cf1c4aada", func := "visitingcard/visitingcardkeep.JsonPoints", spec := "jsonPoints", inPlace := ["internal/bytealg.IndexByteString", "internal/abi.NoEscape"], unfollowed := true, recurses := true, apart := false }
def JsonPointsSaid : Prop := jsonPointsRow.holds Try.pinned (OpenSpec.ofChange jsonPointsSpec)

/-- ITS FALSE NEIGHBOUR: 'it returns false'. Refute it at one input. -/
def jsonPointsWrong : ChangeSpec := { name := "jsonPoints", fn := fun _ => fun
  | [d] => { results := [.lit (.bool false)], args := [d] }
  | _ => none }
def JsonPointsWrongFalsely : Prop := jsonPointsRow.holds Try.pinned (OpenSpec.ofChange jsonPointsWrong)

/-- 'visitingcardkeep.JsonBlanks': WHATEVER THE INPUT: true; the input reads as it did. -/
def jsonBlanksSpec : ChangeSpec := { name := "jsonBlanks", fn := fun _ => fun
  | [d1, d2, d3] => { results := [.lit (.bool true)], args := [d1, d2, d3] }
  | _ => none }
def jsonBlanksRow : OpenClaim := { program := "ytlejbindochiiaa", sum := "446f4232e389197e810f0827457bea058a57573c2e68a084a31c312cf1c4aada", func := "visitingcard/visitingcardkeep.JsonBlanks", spec := "jsonBlanks", inPlace := ["internal/bytealg.IndexByteString", "internal/abi.NoEscape", "internal/bytealg.MakeNoZero"], unfollowed := true, recurses := true, apart := false }
def JsonBlanksSaid : Prop := jsonBlanksRow.holds Try.pinned (OpenSpec.ofChange jsonBlanksSpec)

/-- ITS FALSE NEIGHBOUR: 'it returns false'. Refute it at one input. -/
def jsonBlanksWrong : ChangeSpec := { name := "jsonBlanks", fn := fun _ => fun
  | [d1, d2, d3] => { results := [.lit (.bool false)], args := [d1, d2, d3] }
  | _ => none }
def JsonBlanksWrongFalsely : Prop := jsonBlanksRow.holds Try.pinned (OpenSpec.ofChange jsonBlanksWrong)

/- THE SECOND FORM. 'bulk': how many values and letters a reading holds, each counted each time it is reached (what is shared counts as often as it is met; a slice's spare places count too). A statement '..UptoSaid' is the law's where the arguments, and the package variables that the reading takes, are together of bulk at most 1048576: NARROWER than '..Said'. Prove '..Said' where nothing that the law and all that it calls make is longer than what came in: it says more and counts as full. Else prove '..UptoSaid'. A law counts once. -/
mutual
def uptoBulk {H : Type} : DataW H → Nat
  | .lit (.string bytes) => bytes.length + 1
  | .lit _ => 1
  | .nil => 1
  | .ptr d => uptoBulk d + 1
  | .slice elems spare => uptoBulkAll elems + uptoBulkAll spare + 1
  | .agg parts => uptoBulkAll parts + 1
  | .iface _ d => uptoBulk d + 1
  | .map entries => uptoBulkEntries entries + 1
  | .held _ => 1
def uptoBulkAll {H : Type} : List (DataW H) → Nat
  | [] => 0
  | d :: r => uptoBulk d + uptoBulkAll r
def uptoBulkEntries {H : Type} : List (Lit × DataW H) → Nat
  | [] => 0
  | x :: r => uptoBulkEntry x + uptoBulkEntries r
def uptoBulkEntry {H : Type} : Lit × DataW H → Nat
  | (.string bytes, d) => bytes.length + uptoBulk d + 1
  | (_, d) => uptoBulk d + 1
 end
def uptoSmall : (H : Type) → List (DataW H) → Bool := fun _ ds => decide (uptoBulkAll ds ≤ 1048576)
def OpenSpec.upto (s : _root_.Go.ChangeSpec) : _root_.Go.OpenSpec := { _root_.Go.OpenSpec.ofChange s with cond := some uptoSmall }

/-- 'visitingcardkeep.JsonBack', WHERE WHAT IT READS IS OF BULK AT MOST 1048576: true; the input reads as it did. -/
def jsonBackUptoRow : OpenClaim := { program := "ytlejbindochiiaa", sum := "446f4232e389197e810f0827457bea058a57573c2e68a084a31c312cf1c4aada", func := "visitingcard/visitingcardkeep.JsonBack", spec := "jsonBack", inPlace := ["internal/bytealg.IndexByteString", "internal/abi.NoEscape"], unfollowed := true, recurses := true, loops := true, apart := false, narrowed := true }
def JsonBackUptoSaid : Prop := jsonBackUptoRow.holds Try.pinned (OpenSpec.upto jsonBackSpec)

/-- 'visitingcardkeep.JsonStill', WHERE WHAT IT READS IS OF BULK AT MOST 1048576: true; the input reads as it did. -/
def jsonStillUptoRow : OpenClaim := { program := "ytlejbindochiiaa", sum := "446f4232e389197e810f0827457bea058a57573c2e68a084a31c312cf1c4aada", func := "visitingcard/visitingcardkeep.JsonStill", spec := "jsonStill", inPlace := ["internal/bytealg.IndexByteString", "internal/abi.NoEscape"], unfollowed := true, recurses := true, apart := false, narrowed := true }
def JsonStillUptoSaid : Prop := jsonStillUptoRow.holds Try.pinned (OpenSpec.upto jsonStillSpec)

/-- 'visitingcardkeep.JsonPoints', WHERE WHAT IT READS IS OF BULK AT MOST 1048576: true; the input reads as it did. -/
def jsonPointsUptoRow : OpenClaim := { program := "ytlejbindochiiaa", sum := "446f4232e389197e810f0827457bea058a57573c2e68a084a31c312cf1c4aada", func := "visitingcard/visitingcardkeep.JsonPoints", spec := "jsonPoints", inPlace := ["internal/bytealg.IndexByteString", "internal/abi.NoEscape"], unfollowed := true, recurses := true, apart := false, narrowed := true }
def JsonPointsUptoSaid : Prop := jsonPointsUptoRow.holds Try.pinned (OpenSpec.upto jsonPointsSpec)

/-- 'visitingcardkeep.JsonBlanks', WHERE WHAT IT READS IS OF BULK AT MOST 1048576: true; the input reads as it did. -/
def jsonBlanksUptoRow : OpenClaim := { program := "ytlejbindochiiaa", sum := "446f4232e389197e810f0827457bea058a57573c2e68a084a31c312cf1c4aada", func := "visitingcard/visitingcardkeep.JsonBlanks", spec := "jsonBlanks", inPlace := ["internal/bytealg.IndexByteString", "internal/abi.NoEscape", "internal/bytealg.MakeNoZero"], unfollowed := true, recurses := true, apart := false, narrowed := true }
def JsonBlanksUptoSaid : Prop := jsonBlanksUptoRow.holds Try.pinned (OpenSpec.upto jsonBlanksSpec)

end Rows
end Go.Proofs.Ytlejbindochiiaa
