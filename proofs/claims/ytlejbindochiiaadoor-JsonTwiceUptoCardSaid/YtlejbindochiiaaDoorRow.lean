/-
  Slices as rows of cells: n elements of k cells each. Plain.
-/
import Derived.Test.YtlejbindochiiaaDoorBase
namespace Go.Proofs.YtlejbindochiiaaDoor
open Go.RowKit
set_option linter.unusedVariables false
set_option linter.unusedSimpArgs false

/-- the slice value holds n elements of k cells each: these cells -/
def IsRow (k : Nat) (w : World) (v : Value) (n : Nat) (cs : List Value) : Prop :=
  cs.length = n * k ∧ (∀ u ∈ cs, u.oneCell' = true) ∧
  ((n = 0 ∧ (v = .slice none 0 0 ∨ ∃ a c, v = .slice (some a) 0 c)) ∨ ∃ b off cap, v = .slice (some ⟨b, off, none⟩) n cap ∧ b < w.heap.size ∧ 0 < n ∧ ∀ j (h : j < cs.length), w.cell? ⟨b, off + j, none⟩ = some cs[j])
theorem IsRow.grow {k : Nat} {w w' : World} {v : Value} {n : Nat} {cs : List Value} (h : IsRow k w v n cs) (g : G w w') : IsRow k w' v n cs := by
  obtain ⟨h1, h1c, h2⟩ := h
  refine ⟨h1, h1c, ?_⟩
  rcases h2 with h2 | ⟨b, off, cap, e, hb, h0, hc⟩
  · exact .inl h2
  · exact .inr ⟨b, off, cap, e, Nat.lt_of_lt_of_le hb g.size, h0, fun j hj => by rw [g.cell hb]; exact hc j hj⟩
theorem IsRow.len {k : Nat} {w : World} {v : Value} {n : Nat} {cs : List Value} (h : IsRow k w v n cs) : ∃ a c, v = .slice a n c := by
  rcases h.2.2 with ⟨rfl, e | ⟨a, c, e⟩⟩ | ⟨b, off, cap, e, _⟩
  · exact ⟨_, _, e⟩
  · exact ⟨_, _, e⟩
  · exact ⟨_, _, e⟩

end Go.Proofs.YtlejbindochiiaaDoor
