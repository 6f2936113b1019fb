/-
  What caret.Decode computes, and its laws. Plain.
-/
import Derived.Test.YtccaknanagmmhaaGreatMReplA
namespace Go.Proofs.YtccaknanagmmhaaGreat
set_option linter.unusedVariables false

/-- the byte that a caret and the byte behind it stand for -/
def mtL : List UInt8 → Option UInt8
  | c :: d :: _ => if c = 94 then (if d = 94 then some 94 else if d = 110 then some 10 else if d = 39 then some 34 else none) else none
  | _ => none
theorem mtL_nil : mtL [] = none := rfl
theorem mtL_no {c : UInt8} {r : List UInt8} (h : c ≠ 94) : mtL (c :: r) = none := by
  cases r with
  | nil => rfl
  | cons d r => simp only [mtL]; rw [if_neg h]
theorem mtL_len {l : List UInt8} {v : UInt8} (h : mtL l = some v) : 2 ≤ l.length := by
  match l, h with
  | c :: d :: r, _ => simp
/-- a text decoded (f: as many steps as it has bytes) -/
def decN : Nat → List UInt8 → List UInt8
  | 0, _ => []
  | f + 1, l => match l with
    | [] => []
    | c :: r => match mtL (c :: r) with
      | some v => v :: decN f (r.drop 1)
      | none => c :: decN f r
def decL (l : List UInt8) : List UInt8 := decN l.length l
theorem decN_more : ∀ (f g : Nat) (l : List UInt8), l.length ≤ f → l.length ≤ g → decN f l = decN g l
  | 0, 0, l, _, _ => rfl
  | 0, g + 1, l, h, _ => by have : l = [] := List.length_eq_zero_iff.1 (by omega); subst this; rfl
  | f + 1, 0, l, _, h => by have : l = [] := List.length_eq_zero_iff.1 (by omega); subst this; rfl
  | f + 1, g + 1, [], _, _ => rfl
  | f + 1, g + 1, c :: r, h, h' => by
    simp only [List.length_cons] at h h'
    simp only [decN]
    cases mtL (c :: r) with
    | none => simp only; rw [decN_more f g r (by omega) (by omega)]
    | some v => simp only; rw [decN_more f g (r.drop 1) (by simp; omega) (by simp; omega)]
theorem decL_nil : decL [] = [] := rfl
theorem decL_none {c : UInt8} {r : List UInt8} (h : mtL (c :: r) = none) : decL (c :: r) = c :: decL r := by
  unfold decL
  simp only [List.length_cons, decN, h]
theorem decL_some {c d : UInt8} {r : List UInt8} {v : UInt8} (h : mtL (c :: d :: r) = some v) : decL (c :: d :: r) = v :: decL r := by
  have e : decN (r.length + 1 + 1) (c :: d :: r) = v :: decN (r.length + 1) r := by
    rw [decN]
    simp only [h]
    rfl
  show decN (r.length + 1 + 1) (c :: d :: r) = v :: decN r.length r
  rw [e, decN_more (r.length + 1) r.length r (by omega) (Nat.le_refl _)]
theorem decL_enc1 (c : UInt8) (r : List UInt8) : decL (rep1 caretF c ++ r) = c :: decL r := by
  unfold rep1 caretF
  by_cases h1 : c = 94
  · subst h1; exact decL_some rfl
  · by_cases h2 : c = 10
    · subst h2; exact decL_some rfl
    · by_cases h3 : c = 34
      · subst h3; exact decL_some rfl
      · rw [if_neg h1, if_neg h2, if_neg h3]
        exact decL_none (mtL_no h1)
theorem decL_enc (s : List UInt8) : decL (encL s) = s := by
  unfold encL replL
  induction s with
  | nil => rfl
  | cons c s ih => rw [List.flatMap_cons, decL_enc1, ih]
/-- a step of the loop that writes: what is written, what is held back, what is to come -/
theorem dec_step_none (l : List UInt8) (i : Nat) (hi : i < l.length) (h : mtL (l.drop i) = none) : decL (l.drop i) = l[i] :: decL (l.drop (i + 1)) := by
  rw [List.drop_eq_getElem_cons hi] at h ⊢
  exact decL_none h
theorem dec_step_some (l : List UInt8) (i : Nat) (v : UInt8) (h : mtL (l.drop i) = some v) : i + 2 ≤ l.length ∧ decL (l.drop i) = v :: decL (l.drop (i + 2)) := by
  have hl := mtL_len h
  simp only [List.length_drop] at hl
  have h1 : i < l.length := by omega
  have h2 : i + 1 < l.length := by omega
  refine ⟨by omega, ?_⟩
  rw [List.drop_eq_getElem_cons h1, List.drop_eq_getElem_cons h2] at h ⊢
  exact decL_some h

end Go.Proofs.YtccaknanagmmhaaGreat
