/-
  No cell of these rows narrows 'for every input' (looked for: loops, veiled, ifaces, maps, wideKeys, modest, calm, conditions, laid).
  DERIVED. THE GIVEN ROWS OF THIS SEAT. 16 by the template 'for every input the law returns true; each argument reads behind the call as it read before'; 0 by the template 'total and deterministic' (their statements: YtnllmdognnfnhaaTotals.lean).
  GIVEN WITH THE SEED: the statements are not yours to turn. If you find one false, say at which input.
  Laid BY PROGRAM, IN A SANDBOX (cutbox-rows.mjs): the forced cells as the released guide's own fill.sh prints them over the translation 8bd9825ab6261b0d… (all of the seat's roots in one cut). By AI agents, Wed Nov 11 2026. No macro, syntax, notation, axiom, sorry.
-/
import Derived.Test.YtnllmdognnfnhaaChecked
import GoSem.Claim
import GoSem.ClaimJoined
import GoSem.ClaimMapViews
import Derived.JoinedTies
import Derived.KernelRfl
namespace Go.Proofs.Ytnllmdognnfnhaa
/- THE CELL 'sum', in the pinned program and in every row, IS THE sha256 OF THE DUMP (.gsa) THAT YtnllmdognnfnhaaProg.lean LOADS. Nothing in Lean hashes anything: it is a label: what it is worth is what the hold of that sum in a sandbox is worth. -/
noncomputable def Try.pinned : Pinned := { name := "ytnllmdognnfnhaa", sum := "8bd9825ab6261b0dbd51bfca7502d398f434923725ae6dee8a8f7d6839cdae42", checked := Try.checked }
namespace Rows
def none {H : Type} : Left H := { results := [], args := [] }

/-- 'visitingcardkeep.NameCases': WHATEVER THE INPUT: true; the input reads as it did. -/
def nameCasesSpec : ChangeSpec := { name := "nameCases", fn := fun _ => fun
  | [d1, d2] => { results := [.lit (.bool true)], args := [d1, d2] }
  | _ => none }
def nameCasesRow : OpenClaim := { program := "ytnllmdognnfnhaa", sum := "8bd9825ab6261b0dbd51bfca7502d398f434923725ae6dee8a8f7d6839cdae42", func := "visitingcard/visitingcardkeep.NameCases", spec := "nameCases", apart := false }
def NameCasesSaid : Prop := nameCasesRow.holds Try.pinned (OpenSpec.ofChange nameCasesSpec)

/-- ITS FALSE NEIGHBOUR: 'it returns false'. Refute it at one input. -/
def nameCasesWrong : ChangeSpec := { name := "nameCases", fn := fun _ => fun
  | [d1, d2] => { results := [.lit (.bool false)], args := [d1, d2] }
  | _ => none }
def NameCasesWrongFalsely : Prop := nameCasesRow.holds Try.pinned (OpenSpec.ofChange nameCasesWrong)

/-- 'visitingcardkeep.NameJoins': WHATEVER THE INPUT: true; the input reads as it did. -/
def nameJoinsSpec : ChangeSpec := { name := "nameJoins", fn := fun _ => fun
  | [d1, d2] => { results := [.lit (.bool true)], args := [d1, d2] }
  | _ => none }
def nameJoinsRow : OpenClaim := { program := "ytnllmdognnfnhaa", sum := "8bd9825ab6261b0dbd51bfca7502d398f434923725ae6dee8a8f7d6839cdae42", func := "visitingcard/visitingcardkeep.NameJoins", spec := "nameJoins", apart := false }
def NameJoinsSaid : Prop := nameJoinsRow.holds Try.pinned (OpenSpec.ofChange nameJoinsSpec)

/-- ITS FALSE NEIGHBOUR: 'it returns false'. Refute it at one input. -/
def nameJoinsWrong : ChangeSpec := { name := "nameJoins", fn := fun _ => fun
  | [d1, d2] => { results := [.lit (.bool false)], args := [d1, d2] }
  | _ => none }
def NameJoinsWrongFalsely : Prop := nameJoinsRow.holds Try.pinned (OpenSpec.ofChange nameJoinsWrong)

/-- 'visitingcardkeep.ZoneBack': WHATEVER THE INPUT: true; the input reads as it did. -/
def zoneBackSpec : ChangeSpec := { name := "zoneBack", fn := fun _ => fun
  | [d1, d2] => { results := [.lit (.bool true)], args := [d1, d2] }
  | _ => none }
def zoneBackRow : OpenClaim := { program := "ytnllmdognnfnhaa", sum := "8bd9825ab6261b0dbd51bfca7502d398f434923725ae6dee8a8f7d6839cdae42", func := "visitingcard/visitingcardkeep.ZoneBack", spec := "zoneBack", apart := false }
def ZoneBackSaid : Prop := zoneBackRow.holds Try.pinned (OpenSpec.ofChange zoneBackSpec)

/-- ITS FALSE NEIGHBOUR: 'it returns false'. Refute it at one input. -/
def zoneBackWrong : ChangeSpec := { name := "zoneBack", fn := fun _ => fun
  | [d1, d2] => { results := [.lit (.bool false)], args := [d1, d2] }
  | _ => none }
def ZoneBackWrongFalsely : Prop := zoneBackRow.holds Try.pinned (OpenSpec.ofChange zoneBackWrong)

/-- 'visitingcardkeep.ZoneTurned': WHATEVER THE INPUT: true; the input reads as it did. -/
def zoneTurnedSpec : ChangeSpec := { name := "zoneTurned", fn := fun _ => fun
  | [d] => { results := [.lit (.bool true)], args := [d] }
  | _ => none }
def zoneTurnedRow : OpenClaim := { program := "ytnllmdognnfnhaa", sum := "8bd9825ab6261b0dbd51bfca7502d398f434923725ae6dee8a8f7d6839cdae42", func := "visitingcard/visitingcardkeep.ZoneTurned", spec := "zoneTurned", apart := false }
def ZoneTurnedSaid : Prop := zoneTurnedRow.holds Try.pinned (OpenSpec.ofChange zoneTurnedSpec)

/-- ITS FALSE NEIGHBOUR: 'it returns false'. Refute it at one input. -/
def zoneTurnedWrong : ChangeSpec := { name := "zoneTurned", fn := fun _ => fun
  | [d] => { results := [.lit (.bool false)], args := [d] }
  | _ => none }
def ZoneTurnedWrongFalsely : Prop := zoneTurnedRow.holds Try.pinned (OpenSpec.ofChange zoneTurnedWrong)

/-- 'visitingcardkeep.UtfOnly': WHATEVER THE INPUT: true; the input reads as it did. -/
def utfOnlySpec : ChangeSpec := { name := "utfOnly", fn := fun _ => fun
  | [d] => { results := [.lit (.bool true)], args := [d] }
  | _ => none }
def utfOnlyRow : OpenClaim := { program := "ytnllmdognnfnhaa", sum := "8bd9825ab6261b0dbd51bfca7502d398f434923725ae6dee8a8f7d6839cdae42", func := "visitingcard/visitingcardkeep.UtfOnly", spec := "utfOnly", apart := false }
def UtfOnlySaid : Prop := utfOnlyRow.holds Try.pinned (OpenSpec.ofChange utfOnlySpec)

/-- ITS FALSE NEIGHBOUR: 'it returns false'. Refute it at one input. -/
def utfOnlyWrong : ChangeSpec := { name := "utfOnly", fn := fun _ => fun
  | [d] => { results := [.lit (.bool false)], args := [d] }
  | _ => none }
def UtfOnlyWrongFalsely : Prop := utfOnlyRow.holds Try.pinned (OpenSpec.ofChange utfOnlyWrong)

/-- 'visitingcardkeep.UtfOrder': WHATEVER THE INPUT: true; the input reads as it did. -/
def utfOrderSpec : ChangeSpec := { name := "utfOrder", fn := fun _ => fun
  | [d1, d2] => { results := [.lit (.bool true)], args := [d1, d2] }
  | _ => none }
def utfOrderRow : OpenClaim := { program := "ytnllmdognnfnhaa", sum := "8bd9825ab6261b0dbd51bfca7502d398f434923725ae6dee8a8f7d6839cdae42", func := "visitingcard/visitingcardkeep.UtfOrder", spec := "utfOrder", apart := false }
def UtfOrderSaid : Prop := utfOrderRow.holds Try.pinned (OpenSpec.ofChange utfOrderSpec)

/-- ITS FALSE NEIGHBOUR: 'it returns false'. Refute it at one input. -/
def utfOrderWrong : ChangeSpec := { name := "utfOrder", fn := fun _ => fun
  | [d1, d2] => { results := [.lit (.bool false)], args := [d1, d2] }
  | _ => none }
def UtfOrderWrongFalsely : Prop := utfOrderRow.holds Try.pinned (OpenSpec.ofChange utfOrderWrong)

/-- 'visitingcardkeep.UtfLong': WHATEVER THE INPUT: true; the input reads as it did. -/
def utfLongSpec : ChangeSpec := { name := "utfLong", fn := fun _ => fun
  | [d] => { results := [.lit (.bool true)], args := [d] }
  | _ => none }
def utfLongRow : OpenClaim := { program := "ytnllmdognnfnhaa", sum := "8bd9825ab6261b0dbd51bfca7502d398f434923725ae6dee8a8f7d6839cdae42", func := "visitingcard/visitingcardkeep.UtfLong", spec := "utfLong", apart := false }
def UtfLongSaid : Prop := utfLongRow.holds Try.pinned (OpenSpec.ofChange utfLongSpec)

/-- ITS FALSE NEIGHBOUR: 'it returns false'. Refute it at one input. -/
def utfLongWrong : ChangeSpec := { name := "utfLong", fn := fun _ => fun
  | [d] => { results := [.lit (.bool false)], args := [d] }
  | _ => none }
def UtfLongWrongFalsely : Prop := utfLongRow.holds Try.pinned (OpenSpec.ofChange utfLongWrong)

/-- 'visitingcardkeep.UtfCutFits': WHATEVER THE INPUT: true; the input reads as it did. -/
def utfCutFitsSpec : ChangeSpec := { name := "utfCutFits", fn := fun _ => fun
  | [d1, d2] => { results := [.lit (.bool true)], args := [d1, d2] }
  | _ => none }
def utfCutFitsRow : OpenClaim := { program := "ytnllmdognnfnhaa", sum := "8bd9825ab6261b0dbd51bfca7502d398f434923725ae6dee8a8f7d6839cdae42", func := "visitingcard/visitingcardkeep.UtfCutFits", spec := "utfCutFits", apart := false }
def UtfCutFitsSaid : Prop := utfCutFitsRow.holds Try.pinned (OpenSpec.ofChange utfCutFitsSpec)

/-- ITS FALSE NEIGHBOUR: 'it returns false'. Refute it at one input. -/
def utfCutFitsWrong : ChangeSpec := { name := "utfCutFits", fn := fun _ => fun
  | [d1, d2] => { results := [.lit (.bool false)], args := [d1, d2] }
  | _ => none }
def UtfCutFitsWrongFalsely : Prop := utfCutFitsRow.holds Try.pinned (OpenSpec.ofChange utfCutFitsWrong)

/-- 'visitingcardkeep.UtfJoins': WHATEVER THE INPUT: true; the input reads as it did. -/
def utfJoinsSpec : ChangeSpec := { name := "utfJoins", fn := fun _ => fun
  | [d1, d2] => { results := [.lit (.bool true)], args := [d1, d2] }
  | _ => none }
def utfJoinsRow : OpenClaim := { program := "ytnllmdognnfnhaa", sum := "8bd9825ab6261b0dbd51bfca7502d398f434923725ae6dee8a8f7d6839cdae42", func := "visitingcard/visitingcardkeep.UtfJoins", spec := "utfJoins", apart := false }
def UtfJoinsSaid : Prop := utfJoinsRow.holds Try.pinned (OpenSpec.ofChange utfJoinsSpec)

/-- ITS FALSE NEIGHBOUR: 'it returns false'. Refute it at one input. -/
def utfJoinsWrong : ChangeSpec := { name := "utfJoins", fn := fun _ => fun
  | [d1, d2] => { results := [.lit (.bool false)], args := [d1, d2] }
  | _ => none }
def UtfJoinsWrongFalsely : Prop := utfJoinsRow.holds Try.pinned (OpenSpec.ofChange utfJoinsWrong)

/-- 'visitingcardkeep.UriMore': WHATEVER THE INPUT: true; the input reads as it did. -/
def uriMoreSpec : ChangeSpec := { name := "uriMore", fn := fun _ => fun
  | [d1, d2] => { results := [.lit (.bool true)], args := [d1, d2] }
  | _ => none }
def uriMoreRow : OpenClaim := { program := "ytnllmdognnfnhaa", sum := "8bd9825ab6261b0dbd51bfca7502d398f434923725ae6dee8a8f7d6839cdae42", func := "visitingcard/visitingcardkeep.UriMore", spec := "uriMore", inPlace := ["internal/bytealg.IndexByteString", "internal/bytealg.IndexString"], named := ["internal/bytealg.MaxLen"], apart := false }
def UriMoreSaid : Prop := uriMoreRow.holds Try.pinned (OpenSpec.ofChange uriMoreSpec)

/-- ITS FALSE NEIGHBOUR: 'it returns false'. Refute it at one input. -/
def uriMoreWrong : ChangeSpec := { name := "uriMore", fn := fun _ => fun
  | [d1, d2] => { results := [.lit (.bool false)], args := [d1, d2] }
  | _ => none }
def UriMoreWrongFalsely : Prop := uriMoreRow.holds Try.pinned (OpenSpec.ofChange uriMoreWrong)

/-- 'visitingcardkeep.UriBack': WHATEVER THE INPUT: true; the input reads as it did. -/
def uriBackSpec : ChangeSpec := { name := "uriBack", fn := fun _ => fun
  | [d1, d2] => { results := [.lit (.bool true)], args := [d1, d2] }
  | _ => none }
def uriBackRow : OpenClaim := { program := "ytnllmdognnfnhaa", sum := "8bd9825ab6261b0dbd51bfca7502d398f434923725ae6dee8a8f7d6839cdae42", func := "visitingcard/visitingcardkeep.UriBack", spec := "uriBack", inPlace := ["internal/bytealg.IndexByteString", "internal/bytealg.IndexString", "internal/abi.NoEscape"], named := ["internal/bytealg.MaxLen"], apart := false }
def UriBackSaid : Prop := uriBackRow.holds Try.pinned (OpenSpec.ofChange uriBackSpec)

/-- ITS FALSE NEIGHBOUR: 'it returns false'. Refute it at one input. -/
def uriBackWrong : ChangeSpec := { name := "uriBack", fn := fun _ => fun
  | [d1, d2] => { results := [.lit (.bool false)], args := [d1, d2] }
  | _ => none }
def UriBackWrongFalsely : Prop := uriBackRow.holds Try.pinned (OpenSpec.ofChange uriBackWrong)

/-- 'visitingcardkeep.UriOnly': WHATEVER THE INPUT: true; the input reads as it did. -/
def uriOnlySpec : ChangeSpec := { name := "uriOnly", fn := fun _ => fun
  | [d] => { results := [.lit (.bool true)], args := [d] }
  | _ => none }
def uriOnlyRow : OpenClaim := { program := "ytnllmdognnfnhaa", sum := "8bd9825ab6261b0dbd51bfca7502d398f434923725ae6dee8a8f7d6839cdae42", func := "visitingcard/visitingcardkeep.UriOnly", spec := "uriOnly", inPlace := ["internal/bytealg.IndexByteString", "internal/bytealg.IndexString", "internal/abi.NoEscape"], named := ["internal/bytealg.MaxLen"], apart := false }
def UriOnlySaid : Prop := uriOnlyRow.holds Try.pinned (OpenSpec.ofChange uriOnlySpec)

/-- ITS FALSE NEIGHBOUR: 'it returns false'. Refute it at one input. -/
def uriOnlyWrong : ChangeSpec := { name := "uriOnly", fn := fun _ => fun
  | [d] => { results := [.lit (.bool false)], args := [d] }
  | _ => none }
def UriOnlyWrongFalsely : Prop := uriOnlyRow.holds Try.pinned (OpenSpec.ofChange uriOnlyWrong)

/-- 'visitingcardkeep.FoldBack': WHATEVER THE INPUT: true; the input reads as it did. -/
def foldBackSpec : ChangeSpec := { name := "foldBack", fn := fun _ => fun
  | [d1, d2, d3] => { results := [.lit (.bool true)], args := [d1, d2, d3] }
  | _ => none }
def foldBackRow : OpenClaim := { program := "ytnllmdognnfnhaa", sum := "8bd9825ab6261b0dbd51bfca7502d398f434923725ae6dee8a8f7d6839cdae42", func := "visitingcard/visitingcardkeep.FoldBack", spec := "foldBack", inPlace := ["internal/bytealg.IndexByteString", "internal/bytealg.IndexString", "internal/abi.NoEscape"], named := ["internal/bytealg.MaxLen"], apart := false }
def FoldBackSaid : Prop := foldBackRow.holds Try.pinned (OpenSpec.ofChange foldBackSpec)

/-- ITS FALSE NEIGHBOUR: 'it returns false'. Refute it at one input. -/
def foldBackWrong : ChangeSpec := { name := "foldBack", fn := fun _ => fun
  | [d1, d2, d3] => { results := [.lit (.bool false)], args := [d1, d2, d3] }
  | _ => none }
def FoldBackWrongFalsely : Prop := foldBackRow.holds Try.pinned (OpenSpec.ofChange foldBackWrong)

/-- 'visitingcardkeep.FoldPlaces': WHATEVER THE INPUT: true; the input reads as it did. -/
def foldPlacesSpec : ChangeSpec := { name := "foldPlaces", fn := fun _ => fun
  | [d] => { results := [.lit (.bool true)], args := [d] }
  | _ => none }
def foldPlacesRow : OpenClaim := { program := "ytnllmdognnfnhaa", sum := "8bd9825ab6261b0dbd51bfca7502d398f434923725ae6dee8a8f7d6839cdae42", func := "visitingcard/visitingcardkeep.FoldPlaces", spec := "foldPlaces", inPlace := ["internal/bytealg.IndexByteString", "internal/bytealg.IndexString", "internal/abi.NoEscape"], named := ["internal/bytealg.MaxLen"], apart := false }
def FoldPlacesSaid : Prop := foldPlacesRow.holds Try.pinned (OpenSpec.ofChange foldPlacesSpec)

/-- ITS FALSE NEIGHBOUR: 'it returns false'. Refute it at one input. -/
def foldPlacesWrong : ChangeSpec := { name := "foldPlaces", fn := fun _ => fun
  | [d] => { results := [.lit (.bool false)], args := [d] }
  | _ => none }
def FoldPlacesWrongFalsely : Prop := foldPlacesRow.holds Try.pinned (OpenSpec.ofChange foldPlacesWrong)

/-- 'visitingcardkeep.FoldJoins': WHATEVER THE INPUT: true; the input reads as it did. -/
def foldJoinsSpec : ChangeSpec := { name := "foldJoins", fn := fun _ => fun
  | [d1, d2] => { results := [.lit (.bool true)], args := [d1, d2] }
  | _ => none }
def foldJoinsRow : OpenClaim := { program := "ytnllmdognnfnhaa", sum := "8bd9825ab6261b0dbd51bfca7502d398f434923725ae6dee8a8f7d6839cdae42", func := "visitingcard/visitingcardkeep.FoldJoins", spec := "foldJoins", inPlace := ["internal/bytealg.IndexByteString", "internal/bytealg.IndexString", "internal/abi.NoEscape"], named := ["internal/bytealg.MaxLen"], apart := false }
def FoldJoinsSaid : Prop := foldJoinsRow.holds Try.pinned (OpenSpec.ofChange foldJoinsSpec)

/-- ITS FALSE NEIGHBOUR: 'it returns false'. Refute it at one input. -/
def foldJoinsWrong : ChangeSpec := { name := "foldJoins", fn := fun _ => fun
  | [d1, d2] => { results := [.lit (.bool false)], args := [d1, d2] }
  | _ => none }
def FoldJoinsWrongFalsely : Prop := foldJoinsRow.holds Try.pinned (OpenSpec.ofChange foldJoinsWrong)

/-- 'visitingcardkeep.FoldFewer': WHATEVER THE INPUT: true; the input reads as it did. -/
def foldFewerSpec : ChangeSpec := { name := "foldFewer", fn := fun _ => fun
  | [d1, d2, d3] => { results := [.lit (.bool true)], args := [d1, d2, d3] }
  | _ => none }
def foldFewerRow : OpenClaim := { program := "ytnllmdognnfnhaa", sum := "8bd9825ab6261b0dbd51bfca7502d398f434923725ae6dee8a8f7d6839cdae42", func := "visitingcard/visitingcardkeep.FoldFewer", spec := "foldFewer", inPlace := ["internal/bytealg.IndexByteString", "internal/bytealg.IndexString", "internal/abi.NoEscape", "internal/bytealg.CountString"], named := ["internal/bytealg.MaxLen"], apart := false }
def FoldFewerSaid : Prop := foldFewerRow.holds Try.pinned (OpenSpec.ofChange foldFewerSpec)

/-- ITS FALSE NEIGHBOUR: 'it returns false'. Refute it at one input. -/
def foldFewerWrong : ChangeSpec := { name := "foldFewer", fn := fun _ => fun
  | [d1, d2, d3] => { results := [.lit (.bool false)], args := [d1, d2, d3] }
  | _ => none }
def FoldFewerWrongFalsely : Prop := foldFewerRow.holds Try.pinned (OpenSpec.ofChange foldFewerWrong)

/- THE SECOND FORM. 'bulk': how many values and letters a reading holds, each counted each time it is reached (what is shared counts as often as it is met; a slice's spare places count too). A statement '..UptoSaid' is the law's where the arguments, and the package variables that the reading takes, are together of bulk at most 1048576: NARROWER than '..Said'. Prove '..Said' where nothing that the law and all that it calls make is longer than what came in: it says more and counts as full. Else prove '..UptoSaid'. A law counts once. -/
mutual
def uptoBulk {H : Type} : DataW H → Nat
  | .lit (.string bytes) => bytes.length + 1
  | .lit _ => 1
  | .nil => 1
  | .ptr d => uptoBulk d + 1
  | .slice elems spare => uptoBulkAll elems + uptoBulkAll spare + 1
  | .agg parts => uptoBulkAll parts + 1
  | .iface _ d => uptoBulk d + 1
  | .map entries => uptoBulkEntries entries + 1
  | .held _ => 1
def uptoBulkAll {H : Type} : List (DataW H) → Nat
  | [] => 0
  | d :: r => uptoBulk d + uptoBulkAll r
def uptoBulkEntries {H : Type} : List (Lit × DataW H) → Nat
  | [] => 0
  | x :: r => uptoBulkEntry x + uptoBulkEntries r
def uptoBulkEntry {H : Type} : Lit × DataW H → Nat
  | (.string bytes, d) => bytes.length + uptoBulk d + 1
  | (_, d) => uptoBulk d + 1
 end
def uptoSmall : (H : Type) → List (DataW H) → Bool := fun _ ds => decide (uptoBulkAll ds ≤ 1048576)
def OpenSpec.upto (s : _root_.Go.ChangeSpec) : _root_.Go.OpenSpec := { _root_.Go.OpenSpec.ofChange s with cond := some uptoSmall }

/-- 'visitingcardkeep.NameCases', WHERE WHAT IT READS IS OF BULK AT MOST 1048576: true; the input reads as it did. -/
def nameCasesUptoRow : OpenClaim := { program := "ytnllmdognnfnhaa", sum := "8bd9825ab6261b0dbd51bfca7502d398f434923725ae6dee8a8f7d6839cdae42", func := "visitingcard/visitingcardkeep.NameCases", spec := "nameCases", apart := false, narrowed := true }
def NameCasesUptoSaid : Prop := nameCasesUptoRow.holds Try.pinned (OpenSpec.upto nameCasesSpec)

/-- 'visitingcardkeep.NameJoins', WHERE WHAT IT READS IS OF BULK AT MOST 1048576: true; the input reads as it did. -/
def nameJoinsUptoRow : OpenClaim := { program := "ytnllmdognnfnhaa", sum := "8bd9825ab6261b0dbd51bfca7502d398f434923725ae6dee8a8f7d6839cdae42", func := "visitingcard/visitingcardkeep.NameJoins", spec := "nameJoins", apart := false, narrowed := true }
def NameJoinsUptoSaid : Prop := nameJoinsUptoRow.holds Try.pinned (OpenSpec.upto nameJoinsSpec)

/-- 'visitingcardkeep.ZoneBack', WHERE WHAT IT READS IS OF BULK AT MOST 1048576: true; the input reads as it did. -/
def zoneBackUptoRow : OpenClaim := { program := "ytnllmdognnfnhaa", sum := "8bd9825ab6261b0dbd51bfca7502d398f434923725ae6dee8a8f7d6839cdae42", func := "visitingcard/visitingcardkeep.ZoneBack", spec := "zoneBack", apart := false, narrowed := true }
def ZoneBackUptoSaid : Prop := zoneBackUptoRow.holds Try.pinned (OpenSpec.upto zoneBackSpec)

/-- 'visitingcardkeep.ZoneTurned', WHERE WHAT IT READS IS OF BULK AT MOST 1048576: true; the input reads as it did. -/
def zoneTurnedUptoRow : OpenClaim := { program := "ytnllmdognnfnhaa", sum := "8bd9825ab6261b0dbd51bfca7502d398f434923725ae6dee8a8f7d6839cdae42", func := "visitingcard/visitingcardkeep.ZoneTurned", spec := "zoneTurned", apart := false, narrowed := true }
def ZoneTurnedUptoSaid : Prop := zoneTurnedUptoRow.holds Try.pinned (OpenSpec.upto zoneTurnedSpec)

/-- 'visitingcardkeep.UtfOnly', WHERE WHAT IT READS IS OF BULK AT MOST 1048576: true; the input reads as it did. -/
def utfOnlyUptoRow : OpenClaim := { program := "ytnllmdognnfnhaa", sum := "8bd9825ab6261b0dbd51bfca7502d398f434923725ae6dee8a8f7d6839cdae42", func := "visitingcard/visitingcardkeep.UtfOnly", spec := "utfOnly", apart := false, narrowed := true }
def UtfOnlyUptoSaid : Prop := utfOnlyUptoRow.holds Try.pinned (OpenSpec.upto utfOnlySpec)

/-- 'visitingcardkeep.UtfOrder', WHERE WHAT IT READS IS OF BULK AT MOST 1048576: true; the input reads as it did. -/
def utfOrderUptoRow : OpenClaim := { program := "ytnllmdognnfnhaa", sum := "8bd9825ab6261b0dbd51bfca7502d398f434923725ae6dee8a8f7d6839cdae42", func := "visitingcard/visitingcardkeep.UtfOrder", spec := "utfOrder", apart := false, narrowed := true }
def UtfOrderUptoSaid : Prop := utfOrderUptoRow.holds Try.pinned (OpenSpec.upto utfOrderSpec)

/-- 'visitingcardkeep.UtfLong', WHERE WHAT IT READS IS OF BULK AT MOST 1048576: true; the input reads as it did. -/
def utfLongUptoRow : OpenClaim := { program := "ytnllmdognnfnhaa", sum := "8bd9825ab6261b0dbd51bfca7502d398f434923725ae6dee8a8f7d6839cdae42", func := "visitingcard/visitingcardkeep.UtfLong", spec := "utfLong", apart := false, narrowed := true }
def UtfLongUptoSaid : Prop := utfLongUptoRow.holds Try.pinned (OpenSpec.upto utfLongSpec)

/-- 'visitingcardkeep.UtfCutFits', WHERE WHAT IT READS IS OF BULK AT MOST 1048576: true; the input reads as it did. -/
def utfCutFitsUptoRow : OpenClaim := { program := "ytnllmdognnfnhaa", sum := "8bd9825ab6261b0dbd51bfca7502d398f434923725ae6dee8a8f7d6839cdae42", func := "visitingcard/visitingcardkeep.UtfCutFits", spec := "utfCutFits", apart := false, narrowed := true }
def UtfCutFitsUptoSaid : Prop := utfCutFitsUptoRow.holds Try.pinned (OpenSpec.upto utfCutFitsSpec)

/-- 'visitingcardkeep.UtfJoins', WHERE WHAT IT READS IS OF BULK AT MOST 1048576: true; the input reads as it did. -/
def utfJoinsUptoRow : OpenClaim := { program := "ytnllmdognnfnhaa", sum := "8bd9825ab6261b0dbd51bfca7502d398f434923725ae6dee8a8f7d6839cdae42", func := "visitingcard/visitingcardkeep.UtfJoins", spec := "utfJoins", apart := false, narrowed := true }
def UtfJoinsUptoSaid : Prop := utfJoinsUptoRow.holds Try.pinned (OpenSpec.upto utfJoinsSpec)

/-- 'visitingcardkeep.UriMore', WHERE WHAT IT READS IS OF BULK AT MOST 1048576: true; the input reads as it did. -/
def uriMoreUptoRow : OpenClaim := { program := "ytnllmdognnfnhaa", sum := "8bd9825ab6261b0dbd51bfca7502d398f434923725ae6dee8a8f7d6839cdae42", func := "visitingcard/visitingcardkeep.UriMore", spec := "uriMore", inPlace := ["internal/bytealg.IndexByteString", "internal/bytealg.IndexString"], named := ["internal/bytealg.MaxLen"], apart := false, narrowed := true }
def UriMoreUptoSaid : Prop := uriMoreUptoRow.holds Try.pinned (OpenSpec.upto uriMoreSpec)

/-- 'visitingcardkeep.UriBack', WHERE WHAT IT READS IS OF BULK AT MOST 1048576: true; the input reads as it did. -/
def uriBackUptoRow : OpenClaim := { program := "ytnllmdognnfnhaa", sum := "8bd9825ab6261b0dbd51bfca7502d398f434923725ae6dee8a8f7d6839cdae42", func := "visitingcard/visitingcardkeep.UriBack", spec := "uriBack", inPlace := ["internal/bytealg.IndexByteString", "internal/bytealg.IndexString", "internal/abi.NoEscape"], named := ["internal/bytealg.MaxLen"], apart := false, narrowed := true }
def UriBackUptoSaid : Prop := uriBackUptoRow.holds Try.pinned (OpenSpec.upto uriBackSpec)

/-- 'visitingcardkeep.UriOnly', WHERE WHAT IT READS IS OF BULK AT MOST 1048576: true; the input reads as it did. -/
def uriOnlyUptoRow : OpenClaim := { program := "ytnllmdognnfnhaa", sum := "8bd9825ab6261b0dbd51bfca7502d398f434923725ae6dee8a8f7d6839cdae42", func := "visitingcard/visitingcardkeep.UriOnly", spec := "uriOnly", inPlace := ["internal/bytealg.IndexByteString", "internal/bytealg.IndexString", "internal/abi.NoEscape"], named := ["internal/bytealg.MaxLen"], apart := false, narrowed := true }
def UriOnlyUptoSaid : Prop := uriOnlyUptoRow.holds Try.pinned (OpenSpec.upto uriOnlySpec)

/-- 'visitingcardkeep.FoldBack', WHERE WHAT IT READS IS OF BULK AT MOST 1048576: true; the input reads as it did. -/
def foldBackUptoRow : OpenClaim := { program := "ytnllmdognnfnhaa", sum := "8bd9825ab6261b0dbd51bfca7502d398f434923725ae6dee8a8f7d6839cdae42", func := "visitingcard/visitingcardkeep.FoldBack", spec := "foldBack", inPlace := ["internal/bytealg.IndexByteString", "internal/bytealg.IndexString", "internal/abi.NoEscape"], named := ["internal/bytealg.MaxLen"], apart := false, narrowed := true }
def FoldBackUptoSaid : Prop := foldBackUptoRow.holds Try.pinned (OpenSpec.upto foldBackSpec)

/-- 'visitingcardkeep.FoldPlaces', WHERE WHAT IT READS IS OF BULK AT MOST 1048576: true; the input reads as it did. -/
def foldPlacesUptoRow : OpenClaim := { program := "ytnllmdognnfnhaa", sum := "8bd9825ab6261b0dbd51bfca7502d398f434923725ae6dee8a8f7d6839cdae42", func := "visitingcard/visitingcardkeep.FoldPlaces", spec := "foldPlaces", inPlace := ["internal/bytealg.IndexByteString", "internal/bytealg.IndexString", "internal/abi.NoEscape"], named := ["internal/bytealg.MaxLen"], apart := false, narrowed := true }
def FoldPlacesUptoSaid : Prop := foldPlacesUptoRow.holds Try.pinned (OpenSpec.upto foldPlacesSpec)

/-- 'visitingcardkeep.FoldJoins', WHERE WHAT IT READS IS OF BULK AT MOST 1048576: true; the input reads as it did. -/
def foldJoinsUptoRow : OpenClaim := { program := "ytnllmdognnfnhaa", sum := "8bd9825ab6261b0dbd51bfca7502d398f434923725ae6dee8a8f7d6839cdae42", func := "visitingcard/visitingcardkeep.FoldJoins", spec := "foldJoins", inPlace := ["internal/bytealg.IndexByteString", "internal/bytealg.IndexString", "internal/abi.NoEscape"], named := ["internal/bytealg.MaxLen"], apart := false, narrowed := true }
def FoldJoinsUptoSaid : Prop := foldJoinsUptoRow.holds Try.pinned (OpenSpec.upto foldJoinsSpec)

/-- 'visitingcardkeep.FoldFewer', WHERE WHAT IT READS IS OF BULK AT MOST 1048576: true; the input reads as it did. -/
def foldFewerUptoRow : OpenClaim := { program := "ytnllmdognnfnhaa", sum := "8bd9825ab6261b0dbd51bfca7502d398f434923725ae6dee8a8f7d6839cdae42", func := "visitingcard/visitingcardkeep.FoldFewer", spec := "foldFewer", inPlace := ["internal/bytealg.IndexByteString", "internal/bytealg.IndexString", "internal/abi.NoEscape", "internal/bytealg.CountString"], named := ["internal/bytealg.MaxLen"], apart := false, narrowed := true }
def FoldFewerUptoSaid : Prop := foldFewerUptoRow.holds Try.pinned (OpenSpec.upto foldFewerSpec)

end Rows
end Go.Proofs.Ytnllmdognnfnhaa
