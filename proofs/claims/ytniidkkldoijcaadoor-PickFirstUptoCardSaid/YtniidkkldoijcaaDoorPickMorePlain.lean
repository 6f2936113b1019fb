/-
  Laws of which of many, plain.
-/
import Derived.Test.YtniidkkldoijcaaDoorChosenPlain
import Derived.Test.YtniidkkldoijcaaDoorBig
namespace Go.Proofs.YtniidkkldoijcaaDoor
open Go.RowKit Stab
set_option linter.unusedVariables false
set_option linter.unusedSimpArgs false

theorem ps_wide (ps : List Pm) : (ps.map fun p => p.1.length + (p.2.map fun s => s.length + 1).sum + 1).sum = wideN ps := by
  have h1 : ∀ l : List (List UInt8), (l.map fun s => s.length + 1).sum = l.length + (l.map List.length).sum := by
    intro l
    induction l with
    | nil => rfl
    | cons a l ih => simp only [List.map_cons, List.sum_cons, List.length_cons, ih]; omega
  unfold wideN
  induction ps with
  | nil => rfl
  | cons p ps ih =>
    simp only [List.map_cons, List.sum_cons, List.length_cons, h1] at ih ⊢
    rw [ih]
    unfold lensP
    omega
theorem big_small {x : It} (h : bigI x = false) : x.big ≤ 10000 := by
  unfold bigI bigW bigT at h
  simp only [Bool.or_eq_false_iff, decide_eq_false_iff_not] at h
  have := ps_wide x.ps
  unfold It.big
  rw [this]
  omega
theorem bigC_small {xs : List It} (h : bigC xs = false) : xs.length ≤ 40 ∧ ∀ x ∈ xs, bigI x = false := by
  unfold bigC at h
  simp only [Bool.or_eq_false_iff, decide_eq_false_iff_not, List.any_eq_false] at h
  exact ⟨by omega, fun x hx => by simpa using h.2 x hx⟩
theorem fine_small {xs : List It} (h : bigC xs = false) : Fine xs := by
  obtain ⟨h1, h2⟩ := bigC_small h
  exact ⟨by omega, fun x hx => by have := big_small (h2 x hx); omega⟩
theorem fine_plus {xs : List It} {x : It} (h : Fine xs) (h1 : bigC xs = false) (hx : bigC [x] = false) : Fine (xs ++ [x]) := by
  have h2 := (bigC_small h1).1
  have h3 := big_small ((bigC_small hx).2 x (by simp))
  refine ⟨by simp; omega, fun y hy => ?_⟩
  rcases List.mem_append.1 hy with hy | hy
  · exact h.2 y hy
  · rw [List.mem_singleton.1 hy]; omega
theorem idx_snoc (p : It → Bool) (xs : List It) (x : It) : idxL p (xs ++ [x]) = idxL p xs ++ if p x then [(xs.length : Int)] else [] := by
  unfold idxL
  rw [idx_append]
  simp only [idxFrom, Nat.zero_add]
theorem keyL_snoc (xs : List It) (x : It) (i : Int) (h : i.toNat < xs.length) : keyL (xs ++ [x]) i = keyL xs i := by
  unfold keyL
  rw [List.getElem?_append_left h]
theorem idx_lt {p : It → Bool} {xs : List It} {i : Int} (h : i ∈ idxL p xs) : 0 ≤ i ∧ i.toNat < xs.length := by
  obtain ⟨j, x, e, h1, _⟩ := (idx_mem p xs 0 i).1 h
  have := (List.getElem?_eq_some_iff.1 h1).1
  omega
theorem sorted_keys {k k' : Int → Int} {l0 l : List Int} (h : Sorted k l0 l) (he : ∀ i ∈ l0, k i = k' i) : Sorted k' l0 l := by
  refine ⟨h.1, List.Pairwise.imp_of_mem (fun {a b} ha hb hab => ?_) h.2⟩
  have ea := he a (h.1.mem_iff.1 ha)
  have eb := he b (h.1.mem_iff.1 hb)
  unfold L at hab ⊢
  rw [← ea, ← eb]
  exact hab
/-- another item changes nothing of those of a name -/
theorem more_other {xs : List It} {x : It} {s : List UInt8} {la lb : List Int} (hx : sameL x.n s = false) (ha : Sorted (keyL xs) (idxL (ofName s) xs) la) (hb : Sorted (keyL (xs ++ [x])) (idxL (ofName s) (xs ++ [x])) lb) : la = lb := by
  rw [idx_snoc, if_neg (by unfold ofName; rw [hx]; simp), List.append_nil] at hb
  exact sorted_unique ha (sorted_keys hb fun i hi => keyL_snoc xs x i (idx_lt hi).2)
theorem more_same {xs : List It} {x : It} {s : List UInt8} {la lb : List Int} (hx : sameL x.n s = true) (ha : Sorted (keyL xs) (idxL (ofName s) xs) la) (hb : Sorted (keyL (xs ++ [x])) (idxL (ofName s) (xs ++ [x])) lb) : lb.length = la.length + 1 ∧ (xs.length : Int) ∈ lb := by
  rw [idx_snoc, if_pos (show ofName s x = true from hx)] at hb
  have h1 := hb.1.length_eq
  have h2 := ha.1.length_eq
  rw [List.length_append] at h1
  refine ⟨by simp at h1; omega, hb.1.mem_iff.2 (by simp)⟩
theorem all_len {xs : List It} {s : List UInt8} {l : List Int} (h : Sorted (keyL xs) (idxL (ofName s) xs) l) : l.length ≤ xs.length := by
  rw [h.1.length_eq]
  exact idx_len _ xs 0

end Go.Proofs.YtniidkkldoijcaaDoor
