/-
  THE FACT chosen, plain: the cards, what is preferred; CONTRACT of slices.Equal at ints.
-/
import Derived.Test.YtniidkkldoijcaaDoorBest
import Derived.Test.YtniidkkldoijcaaDoorAnn
import Derived.Test.YtniidkkldoijcaaDoorShelf
namespace Go.Proofs.YtniidkkldoijcaaDoor
open Go.RowKit Stab
set_option linter.unusedVariables false
set_option linter.unusedSimpArgs false

def prefW : List UInt8 := [80, 82, 69, 70]
/-- the items that are added -/
def tel (p : List UInt8) : It := ⟨[], [84, 69, 76], if p = [] then [] else [(prefW, [p])], ⟨1, p, [], St0, 0⟩⟩
def telP : List (List UInt8) := [[], [55], [50]]
def tels : List It := telP.map tel
theorem sorted_unique {k : Int → Int} {l0 a b : List Int} (ha : Sorted k l0 a) (hb : Sorted k l0 b) : a = b := unique ha.2 hb.2 (ha.1.trans hb.1.symm)
theorem idx_tel : idxL (ofName [116, 101, 108]) (annXs ++ tels) = [2, 3, 4] := by decide
theorem idx_TEL : idxL (ofName [84, 69, 76]) (annXs ++ tels) = [2, 3, 4] := by decide
theorem idx_URL : idxL (ofName [85, 82, 76]) (annXs ++ tels) = [] := by decide
theorem key_tels : keyL (annXs ++ tels) 2 = 101 ∧ keyL (annXs ++ tels) 3 = 7 ∧ keyL (annXs ++ tels) 4 = 2 := by
  refine ⟨?_, ?_, ?_⟩ <;> kernel_rfl
theorem sorted_tels : Sorted (keyL (annXs ++ tels)) [2, 3, 4] [4, 3, 2] := by
  obtain ⟨h2, h3, h4⟩ := key_tels
  refine ⟨by decide, ?_⟩
  unfold Srt L
  simp [h2, h3, h4]
theorem fine_tels : Fine (annXs ++ tels) := by
  refine ⟨by decide, ?_⟩
  decide
/-- slices.Equal at ints -/
theorem equal_ints {u v : Value} {xs ys : List Int} {w : World} (hu : IsNums w u xs) (hv : IsNums w v ys) (hx : xs.length ≤ 9223372036854775807) (hy : ys.length ≤ 9223372036854775807) :
    Gives 15 #[u, v] w (.bool (decide (xs = ys))) := by
  obtain ⟨a, c, rfl, _, h1⟩ := hu
  obtain ⟨a', c', rfl, _, h2⟩ := hv
  by_cases hl : xs.length = ys.length
  · by_cases h0 : xs = []
    · subst h0
      obtain rfl : ys = [] := List.eq_nil_of_length_eq_zero hl.symm
      exact (Tryd.slices_Equal_int_empty a a' c 0 c' w (by omega)).mono (by rintro e w' ⟨rfl, rfl⟩; exact ⟨rfl, G.refl _⟩)
    · obtain ⟨b, o, rfl, _, c1⟩ := h1 h0
      obtain ⟨b', o', rfl, _, c2⟩ := h2 (by rintro rfl; simp at hl; exact h0 hl)
      refine (Tryd.slices_Equal_int b o xs.length c b' o' ys.length c' xs ys w (Nat.le_refl _) (Nat.le_refl _) hx hy (fun j hj => ?_) (fun j hj => ?_)).mono ?_
      · rw [c1 j _ (List.getElem?_eq_getElem hj)]; simp [hj]
      · rw [c2 j _ (List.getElem?_eq_getElem hj)]; simp [hj]
      · rintro e w' ⟨rfl, q, rfl⟩
        refine ⟨ret_bool ?_, (G.refl _).drewN _⟩
        rw [List.take_of_length_le (Nat.le_refl _), List.take_of_length_le (Nat.le_refl _)]
        by_cases h : xs = ys <;> simp [h]
  · refine (Tryd.slices_Equal_int_lens a a' xs.length c ys.length c' w hl).mono ?_
    rintro e w' ⟨rfl, rfl⟩
    exact ⟨ret_bool (by rw [decide_eq_false (by rintro rfl; exact hl rfl)]), G.refl _⟩

/-- slices.Contains at ints -/
theorem contains_ints {u : Value} {xs : List Int} {y : Int} {w : World} (hu : IsNums w u xs) (hx : xs.length ≤ 9223372036854775807) :
    Gives 14 #[u, .int .i64 y] w (.bool (decide (y ∈ xs))) := by
  obtain ⟨a, c, rfl, _, h1⟩ := hu
  by_cases h0 : xs = []
  · subst h0
    exact (Tryd.slices_Contains_int_empty a c y w).mono (by rintro e w' ⟨rfl, rfl⟩; exact ⟨ret_bool (by simp), G.refl _⟩)
  · obtain ⟨b, o, rfl, _, c1⟩ := h1 h0
    refine (Tryd.slices_Contains_int b o xs.length c xs y w (Nat.le_refl _) hx (fun j hj => ?_)).mono ?_
    · rw [c1 j _ (List.getElem?_eq_getElem hj)]; simp [hj]
    · rintro e w' ⟨rfl, rfl⟩
      refine ⟨ret_bool ?_, G.refl _⟩
      rw [List.take_of_length_le (Nat.le_refl _)]
      by_cases h : y ∈ xs <;> simp [h]

end Go.Proofs.YtniidkkldoijcaaDoor
