/-
  Parts of merged texts.
-/
import Derived.Test.YtfadckackdmbnaaGreatDoorMB55
import Derived.Test.YtfadckackdmbnaaGreatDoorMA53
import Derived.Test.YtfadckackdmbnaaGreatDoorMA46
import Derived.Test.YtfadckackdmbnaaGreatDoorMTell
namespace Go.Proofs.YtfadckackdmbnaaGreatDoor
open Go.RowKit
set_option linter.unusedVariables false
set_option linter.unusedSimpArgs false
end Go.Proofs.YtfadckackdmbnaaGreatDoor

namespace Go.Proofs.YtfadckackdmbnaaGreatDoor
open Go.RowKit
set_option linter.unusedVariables false
set_option linter.unusedSimpArgs false
theorem ann_more {v : Int} {y : It} (hv : v = 3 ∨ v = 4) (ho : oneB v y = true) (hm : mostN v [annFN.n, annN.n, y.n] = true) (hl : leastN v [annFN.n, annN.n, y.n] = true) : rightC v (annXs ++ [y]) = true := by
  refine rightC_iff.2 ⟨hv, (by show (3 : Nat) ≤ 60; omega), fun x hx => ?_, hm, hl⟩
  simp only [annXs, List.mem_append, List.mem_cons, List.mem_nil_iff, or_false] at hx
  rcases hx with (rfl | rfl) | rfl
  · rcases hv with rfl | rfl <;> decide +kernel
  · rcases hv with rfl | rfl <;> decide +kernel
  · exact ho
theorem ann_up {x y : It} (h3 : rightC 3 (annXs ++ [x]) = true) (hn : sameL x.n nLABEL = false) (ho : oneX x = (y, true)) (h4 : rightC 4 (annXs ++ [y]) = true) : upX (annXs ++ [x]) = some (annXs ++ [y]) := by
  have hl : labelsX (annXs ++ [x]) = annXs ++ [x] := labels_none fun z hz => by
    simp only [annXs, List.mem_append, List.mem_cons, List.mem_nil_iff, or_false] at hz
    rcases hz with (rfl | rfl) | rfl
    · decide +kernel
    · decide +kernel
    · exact hn
  have hm : (annXs ++ [x]).map (fun x => (oneX x).1) = annXs ++ [y] := by
    show [(oneX annFN).1, (oneX annN).1, (oneX x).1] = _
    rw [ann_one.1, ann_one.2, ho]; rfl
  have ha : (annXs ++ [x]).all (fun x => (oneX x).2) = true := by
    show ((oneX annFN).2 && ((oneX annN).2 && ((oneX x).2 && true))) = true
    rw [ann_one.1, ann_one.2, ho]; rfl
  unfold upX
  rw [if_pos h3, hl, if_pos ha, hm, if_pos h4]
end Go.Proofs.YtfadckackdmbnaaGreatDoor

namespace Go.Proofs.YtfadckackdmbnaaGreatDoor
open Go.RowKit
set_option linter.unusedVariables false
set_option linter.unusedSimpArgs false
end Go.Proofs.YtfadckackdmbnaaGreatDoor

namespace Go.Proofs.YtfadckackdmbnaaGreatDoor
open Go.RowKit
set_option linter.unusedVariables false
set_option linter.unusedSimpArgs false
end Go.Proofs.YtfadckackdmbnaaGreatDoor

namespace Go.Proofs.YtfadckackdmbnaaGreatDoor
open Go.RowKit
set_option linter.unusedVariables false
set_option linter.unusedSimpArgs false
end Go.Proofs.YtfadckackdmbnaaGreatDoor

