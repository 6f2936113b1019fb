/-
  Rows that a call owns: a literal, and its form. Plain.
-/
import Derived.Test.YtfadckackdmbnaaGreatDoorMA46
namespace Go.Proofs.YtfadckackdmbnaaGreatDoor
open Go.RowKit
set_option linter.unusedVariables false
set_option linter.unusedSimpArgs false
theorem own_at {w : World} {g n k base : Nat} {cs : Array Value} {e : TypeId} (h : w.heap[g]? = some (.cells cs e (0, 0))) (hb : base ≤ g) (hm : n ≤ maxLen) (hs : cs.size = n * k) : w.ownsRow base e k (.slice (some ⟨g, 0, none⟩) n n) n cs.toList :=
  ⟨by simp [hs], .inr ⟨g, n, cs, rfl, hb, h, Nat.le_refl _, hm, hs, by rw [← hs, ← Array.length_toList]; exact List.take_length⟩⟩
theorem own_form {w : World} {base : Nat} {t : TypeId} {k n : Nat} {v : Value} {cs : List Value} (h : w.ownsRow base t k v n cs) : ∃ a c, v = .slice a n c := by
  rcases h.2 with ⟨e, h0⟩ | ⟨g, cap, cur, e, _⟩
  · exact ⟨none, 0, by rw [e, h0]⟩
  · exact ⟨_, _, e⟩
end Go.Proofs.YtfadckackdmbnaaGreatDoor
