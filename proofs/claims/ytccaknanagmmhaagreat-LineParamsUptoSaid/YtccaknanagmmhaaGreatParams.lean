/-
  Parameters in memory; CONTRACT of rules.Find.
-/
import Derived.Test.YtccaknanagmmhaaGreatMErr
import Derived.Test.YtccaknanagmmhaaGreatSplit
namespace Go.Proofs.YtccaknanagmmhaaGreat
open Go.RowKit
set_option linter.unusedVariables false
set_option linter.unusedSimpArgs false

/-- a parameter: its name, its values -/
abbrev Pm := List UInt8 × List (List UInt8)
/-- the slice value holds these parameters -/
def IsParams (w : World) (v : Value) (ps : List Pm) : Prop :=
  ∃ a cap, v = .slice a ps.length cap ∧ ps.length ≤ cap ∧ (ps ≠ [] → ∃ b off, a = some ⟨b, off, none⟩ ∧ b < w.heap.size ∧
    ∀ (i : Nat) (p : Pm), ps[i]? = some p → ∃ sv, w.cell? ⟨b, off + i * 2, none⟩ = some (.string (S p.1)) ∧ w.cell? ⟨b, off + i * 2 + 1, none⟩ = some sv ∧ IsStrs w sv p.2)
theorem IsParams.grow {w w' : World} {v : Value} {ps : List Pm} (h : IsParams w v ps) (g : G w w') : IsParams w' v ps := by
  obtain ⟨a, cap, e, hc, h⟩ := h
  refine ⟨a, cap, e, hc, fun h0 => ?_⟩
  obtain ⟨b, off, e2, hb, h⟩ := h h0
  refine ⟨b, off, e2, Nat.lt_of_lt_of_le hb g.size, fun i p hp => ?_⟩
  obtain ⟨sv, h1, h2, h3⟩ := h i p hp
  exact ⟨sv, by rw [g.cell hb]; exact h1, by rw [g.cell hb]; exact h2, h3.grow g⟩
/-- the first parameter of a name -/
def findL (ps : List Pm) (s : List UInt8) : Option Nat := ps.findIdx? fun p => sameL p.1 s
def findV (o : Option Nat) : Int := match o with | none => -1 | some k => (k : Int)
def sumPm (ps : List Pm) : Nat := (ps.map fun p => p.1.length + 1).sum
theorem find_at {ps : List Pm} {s : List UInt8} {k : Nat} (h : k < ps.length) (hp : sameL (ps[k]).1 s = true) (hn : ∀ j (h : j < k), sameL (ps[j]'(by omega)).1 s = false) : findL ps s = some k := by
  unfold findL
  rw [List.findIdx?_eq_some_iff_getElem]
  exact ⟨h, hp, fun j hj => by simp [hn j hj]⟩
theorem find_none {ps : List Pm} {s : List UInt8} (hn : ∀ j (h : j < ps.length), sameL (ps[j]).1 s = false) : findL ps s = none := by
  unfold findL
  rw [List.findIdx?_eq_none_iff]
  intro p hp
  obtain ⟨j, hj, rfl⟩ := List.mem_iff_getElem.1 hp
  exact hn j hj
end Go.Proofs.YtccaknanagmmhaaGreat
