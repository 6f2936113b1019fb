/-
  Texts and slices stay where they are. Plain.
-/
import Derived.Test.YtlejbindochiiaaDoorIsStrs
namespace Go.Proofs.YtlejbindochiiaaDoor
open Go.RowKit
set_option linter.unusedVariables false
set_option linter.unusedSimpArgs false

/-- the values that stay: texts, and slices that are not nil -/
def stays : Value → Bool
  | .string _ => true
  | .slice (some _) _ _ => true
  | _ => false
/-- texts and slices stay where they are -/
def Kp (w w' : World) : Prop := w.heap.size ≤ w'.heap.size ∧ ∀ p v, w.cell? p = some v → stays v = true → w'.cell? p = some v
theorem Kp.refl (w : World) : Kp w w := ⟨Nat.le_refl _, fun _ _ h _ => h⟩
theorem Kp.trans {a b c : World} (h : Kp a b) (k : Kp b c) : Kp a c := ⟨Nat.le_trans h.1 k.1, fun p v h1 h2 => k.2 p v (h.2 p v h1 h2) h2⟩
theorem Kp.set {w : World} {q : Addr} {old v : Value} (h : w.cell? q = some old) (hk : stays old = false ∨ old = v) : Kp w (w.setCell q v) := by
  refine ⟨by simp, fun p u hp hu => ?_⟩
  by_cases e : p = q
  · subst e
    rw [h] at hp
    obtain rfl := Option.some.inj hp
    rcases hk with hk | hk
    · rw [hk] at hu; cases hu
    · rw [World.cell?_setCell_same _ _ _ h, hk]
  · rw [World.cell?_setCell_other _ _ _ _ (by exact Ne.symm e)]; exact hp
theorem IsStrs.kept {w w' : World} {v : Value} {l : List (List UInt8)} (h : IsStrs w v l) (k : Kp w w') : IsStrs w' v l := by
  obtain ⟨⟨h1, h2, h3⟩, hc⟩ := h
  refine ⟨⟨h1, h2, ?_⟩, hc⟩
  rcases h3 with h3 | ⟨b, off, cap, e, hb, h0, hcell⟩
  · exact .inl h3
  · refine .inr ⟨b, off, cap, e, Nat.lt_of_lt_of_le hb k.1, h0, fun j hj => k.2 _ _ (hcell j hj) ?_⟩
    simp [stays]

end Go.Proofs.YtlejbindochiiaaDoor
