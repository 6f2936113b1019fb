/-
  Sums over the first k elements of a list. Plain.
-/
import Derived.Test.YtpfenaeaegdeaaaDoorBase
namespace Go.Proofs.YtpfenaeaegdeaaaDoor

/-- a sum over the first k -/
def sumTo {α : Type} (f : α → Nat) (l : List α) (k : Nat) : Nat := ((l.take k).map f).sum
theorem sumTo_zero {α : Type} (f : α → Nat) (l : List α) : sumTo f l 0 = 0 := by simp [sumTo]
theorem sumTo_snoc {α : Type} (f : α → Nat) (l : List α) (k : Nat) (h : k < l.length) : sumTo f l (k + 1) = sumTo f l k + f l[k] := by
  unfold sumTo
  rw [List.take_succ_eq_append_getElem h, List.map_append, List.sum_append]
  simp
theorem sumTo_all {α : Type} (f : α → Nat) (l : List α) (k : Nat) (h : l.length ≤ k) : sumTo f l k = (l.map f).sum := by
  unfold sumTo; rw [List.take_of_length_le h]
theorem sumTo_le {α : Type} (f : α → Nat) (l : List α) (k : Nat) : sumTo f l k ≤ (l.map f).sum := by
  unfold sumTo
  conv => rhs; rw [← List.take_append_drop k l, List.map_append, List.sum_append]
  omega

end Go.Proofs.YtpfenaeaegdeaaaDoor
