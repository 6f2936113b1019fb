/-
  Slices of ints, wherever they begin; a slice of ints of the call's own. Plain.
-/
import Derived.Test.YtniidkkldoijcaaDoorMMem
import Derived.OwnWalk
namespace Go.Proofs.YtniidkkldoijcaaDoor
open Go.RowKit
set_option linter.unusedVariables false
set_option linter.unusedSimpArgs false

theorem info_intN : (Tryd.prog.info? 3).map (fun i => (i.zero, i.size, i.bytes)) = some (some (.int .i64 0), 1, 8) := by kernel_rfl
/-- the slice value holds these ints -/
def IsNums (w : World) (v : Value) (xs : List Int) : Prop :=
  ∃ a cap, v = .slice a xs.length cap ∧ xs.length ≤ cap ∧ (xs ≠ [] → ∃ b off, a = some ⟨b, off, none⟩ ∧ b < w.heap.size ∧ ∀ (i : Nat) (x : Int), xs[i]? = some x → w.cell? ⟨b, off + i, none⟩ = some (.int .i64 x))
theorem IsNums.grow {w w' : World} {v : Value} {xs : List Int} (h : IsNums w v xs) (g : G w w') : IsNums w' v xs := by
  obtain ⟨a, cap, e, hc, h⟩ := h
  refine ⟨a, cap, e, hc, fun h0 => ?_⟩
  obtain ⟨b, off, e2, hb, h⟩ := h h0
  exact ⟨b, off, e2, Nat.lt_of_lt_of_le hb g.size, fun i x hx => by rw [g.cell hb]; exact h i x hx⟩
/-- a slice of the call's own -/
def OwnN (w : World) (base : Nat) (v : Value) (xs : List Int) : Prop := w.ownsRow base 3 1 v xs.length (xs.map (Value.int .i64))
theorem OwnN.nums {w : World} {base : Nat} {v : Value} {xs : List Int} (h : OwnN w base v xs) : IsNums w v xs := by
  have hh := h
  rcases h.2 with ⟨rfl, h0⟩ | ⟨g, cap, cur, rfl, hb, hg, hn, hm, hs, ht⟩
  · exact ⟨_, _, by rw [h0], by omega, fun h1 => absurd (List.eq_nil_of_length_eq_zero h0) h1⟩
  · refine ⟨_, _, rfl, hn, fun _ => ⟨g, 0, rfl, (Array.getElem?_eq_some_iff.1 hg).1, fun i x hx => ?_⟩⟩
    have := World.ownsRow.cells hh (g := g) rfl i (.int .i64 x) (by simp [hx])
    have e : (⟨g, 0, none⟩ : Addr).add i = ⟨g, 0 + i, none⟩ := by unfold Addr.add; split <;> simp_all
    rw [e] at this; exact this
theorem OwnN.grow {w w' : World} {base : Nat} {v : Value} {xs : List Int} (h : OwnN w base v xs) (g : G w w') : OwnN w' base v xs :=
  World.ownsRow.kept h (mv_of none g) (by cases hv : v.ownBlock <;> simp)
theorem OwnN.mono {w : World} {base base' : Nat} {v : Value} {xs : List Int} (h : OwnN w base v xs) (hb : base' ≤ base) : OwnN w base' v xs := by
  obtain ⟨h1, h2⟩ := h
  refine ⟨h1, ?_⟩
  rcases h2 with h2 | ⟨g, cap, cur, e, hb', r⟩
  · exact .inl h2
  · exact .inr ⟨g, cap, cur, e, Nat.le_trans hb hb', r⟩
theorem OwnN.form {w : World} {base : Nat} {v : Value} {xs : List Int} (h : OwnN w base v xs) : (v = .slice none 0 0 ∧ xs = []) ∨ ∃ g cap, v = .slice (some ⟨g, 0, none⟩) xs.length cap ∧ base ≤ g ∧ g < w.heap.size ∧ xs.length ≤ cap := by
  rcases h.2 with ⟨rfl, h0⟩ | ⟨g, cap, cur, rfl, hb, hg, hn, hm, hs, ht⟩
  · exact .inl ⟨rfl, List.eq_nil_of_length_eq_zero h0⟩
  · exact .inr ⟨g, cap, rfl, hb, (Array.getElem?_eq_some_iff.1 hg).1, hn⟩

end Go.Proofs.YtniidkkldoijcaaDoor
