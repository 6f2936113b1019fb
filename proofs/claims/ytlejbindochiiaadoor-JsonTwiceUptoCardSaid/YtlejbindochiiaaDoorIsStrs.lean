/-
  Slices of strings.
-/
import Derived.Test.YtlejbindochiiaaDoorRow
import Derived.Test.YtlejbindochiiaaDoorStrs
namespace Go.Proofs.YtlejbindochiiaaDoor
open Go.RowKit
set_option linter.unusedVariables false
set_option linter.unusedSimpArgs false

/-- no more elements than there is room for -/
def capOk : Value → Prop
  | .slice _ n c => n ≤ c
  | _ => True
/-- the slice value holds these texts -/
def IsStrs (w : World) (v : Value) (ls : List (List UInt8)) : Prop := IsRow 1 w v ls.length (ls.map fun l => .string (S l)) ∧ capOk v
theorem IsStrs.grow {w w' : World} {v : Value} {ls : List (List UInt8)} (h : IsStrs w v ls) (g : G w w') : IsStrs w' v ls := ⟨IsRow.grow h.1 g, h.2⟩
theorem IsStrs.len {w : World} {v : Value} {ls : List (List UInt8)} (h : IsStrs w v ls) : ∃ a c, v = .slice a ls.length c ∧ ls.length ≤ c := by
  obtain ⟨a, c, e⟩ := IsRow.len h.1
  exact ⟨a, c, e, by have := h.2; rw [e] at this; exact this⟩
theorem IsStrs.at_ {w : World} {v : Value} {ls : List (List UInt8)} (h : IsStrs w v ls) (h0 : ls ≠ []) : ∃ b off cap, v = .slice (some ⟨b, off, none⟩) ls.length cap ∧ ls.length ≤ cap ∧ b < w.heap.size ∧ ∀ (i : Nat) (l : List UInt8), ls[i]? = some l → w.cell? ⟨b, off + i, none⟩ = some (.string (S l)) := by
  obtain ⟨⟨h1, h2, h3⟩, hk⟩ := h
  rcases h3 with ⟨h3, _⟩ | ⟨b, off, cap, e, hb, hn, hc⟩
  · exact absurd (List.eq_nil_of_length_eq_zero h3) h0
  · refine ⟨b, off, cap, e, by rw [e] at hk; exact hk, hb, fun i l hl => ?_⟩
    have hi : i < ls.length := by
      rcases Nat.lt_or_ge i ls.length with h | h
      · exact h
      · rw [List.getElem?_eq_none h] at hl; cases hl
    rw [hc i (by simpa using hi)]
    rw [List.getElem?_eq_getElem hi] at hl
    injection hl with hl
    simp [hl]

end Go.Proofs.YtlejbindochiiaaDoor
