/-
  The bounds of internal/bytealg in memory; strings.Cut at any texts.
-/
import Derived.Test.YtniidkkldoijcaaDoorShelf
import Derived.Test.YtniidkkldoijcaaDoorBase
namespace Go.Proofs.YtniidkkldoijcaaDoor
open Go.RowKit
set_option linter.unusedVariables false
set_option linter.unusedSimpArgs false

/-- the bounds of internal/bytealg are laid -/
def HasM (w : World) : Prop := ∃ m, w.cell? ⟨2, 0, none⟩ = some (.int .i64 m)
theorem HasM.grow {w w' : World} (h : HasM w) (g : G w w') : HasM w' := by
  obtain ⟨m, h⟩ := h
  exact ⟨m, by rw [g.cell (p := ⟨2, 0, none⟩) (World.block_lt_of_cell? w _ h)]; exact h⟩
theorem stringsCut_any (s sep : List UInt8) (w : World) (hm : HasM w) (hs : s.length ≤ 1000000) : Gives 71 #[.string (S s), .string (S sep)] w (.tuple #[.string (S (Lib.cut s sep).1), .string (S (Lib.cut s sep).2.1), .bool (Lib.cut s sep).2.2]) := by
  obtain ⟨m, hm⟩ := hm
  refine (Tryd.strings_Cut (S s) (S sep) m w (by simp; omega) hm).mono ?_
  rintro e w' ⟨rfl, q, rfl⟩
  exact ⟨rfl, (G.refl w).drewN q⟩

end Go.Proofs.YtniidkkldoijcaaDoor
