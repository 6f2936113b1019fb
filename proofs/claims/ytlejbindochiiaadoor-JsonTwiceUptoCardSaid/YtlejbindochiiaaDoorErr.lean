/-
  ERRORS as values: an Errno, and an At at a place. Plain lemmas.
-/
import Derived.Test.YtlejbindochiiaaDoorBase
namespace Go.Proofs.YtlejbindochiiaaDoor
open Go.RowKit
set_option linter.unusedVariables false
set_option linter.unusedSimpArgs false

/-- an error that is an Errno -/
@[go_sem] def eno (n : Int) : Value := .iface 36 (.int .i64 n)
/-- an error that is an At, told by its cells -/
def IsAt (w : World) (v : Value) (code place : Int) : Prop := ∃ b, v = .iface 50 (.pointer (some ⟨b, 0, none⟩)) ∧ w.cell? ⟨b, 0, none⟩ = some (.int .i64 code) ∧ w.cell? ⟨b, 1, none⟩ = some (.int .i64 place) ∧ b < w.heap.size
theorem IsAt.grow {w w' : World} {v : Value} {code place : Int} (h : IsAt w v code place) (g : G w w') : IsAt w' v code place := by
  obtain ⟨b, h1, h2, h3, h4⟩ := h
  exact ⟨b, h1, by rw [g.cell h4]; exact h2, by rw [g.cell h4]; exact h3, Nat.lt_of_lt_of_le h4 g.size⟩

theorem IsAt.new (w : World) (t : TypeId) (code place : Int) : IsAt (w.alloc (.cells #[.int .i64 code, .int .i64 place] t)) (.iface 50 (.pointer (some ⟨w.heap.size, 0, none⟩))) code place :=
  ⟨w.heap.size, rfl, by rw [World.cell?_alloc_new]; rfl, by rw [World.cell?_alloc_new]; rfl, by simp⟩
theorem IsAt.newAt (w : World) (t : TypeId) (code place : Int) (n : Nat) (h : n = w.heap.size) : IsAt (w.alloc (.cells #[.int .i64 code, .int .i64 place] t)) (.iface 50 (.pointer (some ⟨n, 0, none⟩))) code place := by
  subst h; exact IsAt.new w t code place

end Go.Proofs.YtlejbindochiiaaDoor
