/-
  Slices of slices of strings; how much they have. Plain.
-/
import Derived.Test.YtniidkkldoijcaaDoorMBase
namespace Go.Proofs.YtniidkkldoijcaaDoor
open Go.RowKit
set_option linter.unusedVariables false
set_option linter.unusedSimpArgs false

/-- the bytes of a list, and one for each -/
def sumL (ls : List (List UInt8)) : Nat := (ls.map fun l => l.length + 1).sum
theorem sumL_cons (l : List UInt8) (ls : List (List UInt8)) : sumL (l :: ls) = l.length + 1 + sumL ls := by simp [sumL]
theorem sumL_append (a b : List (List UInt8)) : sumL (a ++ b) = sumL a + sumL b := by simp [sumL]
theorem sumL_len (ls : List (List UInt8)) : ls.length ≤ sumL ls := by
  induction ls with
  | nil => simp
  | cons a ls ih => rw [sumL_cons]; simp; omega
theorem sumL_mem {ls : List (List UInt8)} {l : List UInt8} (h : l ∈ ls) : l.length + 1 ≤ sumL ls := by
  induction ls with
  | nil => cases h
  | cons a ls ih =>
    rw [sumL_cons]
    rcases List.mem_cons.1 h with rfl | h
    · omega
    · have := ih h; omega
/-! ## lists of lists -/
/-- the slice value holds these lists -/
def IsLists (w : World) (v : Value) (ls : List (List (List UInt8))) : Prop :=
  ∃ cells, IsRow 1 w v ls.length cells ∧ capOk v ∧ ∀ (i : Nat) (l : List (List UInt8)), ls[i]? = some l → ∃ sv, cells[i]? = some sv ∧ IsStrs w sv l
theorem IsLists.grow {w w' : World} {v : Value} {ls : List (List (List UInt8))} (h : IsLists w v ls) (g : G w w') : IsLists w' v ls := by
  obtain ⟨cells, h1, h2, h3⟩ := h
  refine ⟨cells, h1.grow g, h2, fun i l hl => ?_⟩
  obtain ⟨sv, h4, h5⟩ := h3 i l hl
  exact ⟨sv, h4, h5.grow g⟩
theorem IsLists.len {w : World} {v : Value} {ls : List (List (List UInt8))} (h : IsLists w v ls) : ∃ a c, v = .slice a ls.length c ∧ ls.length ≤ c := by
  obtain ⟨cells, h1, h2, h3⟩ := h
  obtain ⟨a, c, e⟩ := IsRow.len h1
  exact ⟨a, c, e, by rw [e] at h2; exact h2⟩
theorem IsLists.at_ {w : World} {v : Value} {ls : List (List (List UInt8))} (h : IsLists w v ls) (h0 : ls ≠ []) : ∃ b off cap, v = .slice (some ⟨b, off, none⟩) ls.length cap ∧ ls.length ≤ cap ∧ b < w.heap.size ∧ ∀ (i : Nat) (l : List (List UInt8)), ls[i]? = some l → ∃ sv, w.cell? ⟨b, off + i, none⟩ = some sv ∧ IsStrs w sv l := by
  obtain ⟨cells, ⟨h1, h2, h3⟩, hk, hc⟩ := h
  rcases h3 with ⟨h3, _⟩ | ⟨b, off, cap, e, hb, hn, hcell⟩
  · exact absurd (List.eq_nil_of_length_eq_zero h3) h0
  · refine ⟨b, off, cap, e, by rw [e] at hk; exact hk, hb, fun i l hl => ?_⟩
    obtain ⟨sv, h4, h5⟩ := hc i l hl
    have hi : i < cells.length := by
      rcases Nat.lt_or_ge i cells.length with h | h
      · exact h
      · rw [List.getElem?_eq_none h] at h4; cases h4
    refine ⟨sv, ?_, h5⟩
    rw [hcell i hi]
    rw [List.getElem?_eq_getElem hi] at h4
    exact h4
def sumP (ls : List (List (List UInt8))) : Nat := (ls.map fun l => sumL l + 1).sum
theorem sumP_cons (l : List (List UInt8)) (ls : List (List (List UInt8))) : sumP (l :: ls) = sumL l + 1 + sumP ls := by simp [sumP]
theorem sumP_len (ls : List (List (List UInt8))) : ls.length ≤ sumP ls := by
  induction ls with
  | nil => simp
  | cons a ls ih => rw [sumP_cons]; simp; omega
theorem sumP_mem {ls : List (List (List UInt8))} {l : List (List UInt8)} (h : l ∈ ls) : sumL l + 1 ≤ sumP ls := by
  induction ls with
  | nil => cases h
  | cons a ls ih =>
    rw [sumP_cons]
    rcases List.mem_cons.1 h with rfl | h
    · omega
    · have := ih h; omega

end Go.Proofs.YtniidkkldoijcaaDoor
