/-
  What a Replacer of single bytes makes of a text; carets and escapes. Plain.
-/
import Derived.Test.YthbjabjchfmmoaaBase
namespace Go.Proofs.Ythbjabjchfmmoaa
open Go.RowKit
set_option linter.unusedVariables false
set_option linter.unusedSimpArgs false

/-- each byte that has a replacement is replaced -/
def rep1 (f : UInt8 → Option (List UInt8)) (c : UInt8) : List UInt8 := (f c).getD [c]
def replL (f : UInt8 → Option (List UInt8)) (s : List UInt8) : List UInt8 := s.flatMap (rep1 f)
theorem replL_append (f : UInt8 → Option (List UInt8)) (a b : List UInt8) : replL f (a ++ b) = replL f a ++ replL f b := by simp [replL]
theorem replL_cons (f : UInt8 → Option (List UInt8)) (c : UInt8) (t : List UInt8) : replL f (c :: t) = rep1 f c ++ replL f t := by simp [replL]

/-! ## carets -/
def caretF (c : UInt8) : Option (List UInt8) := if c = 94 then some [94, 94] else if c = 10 then some [94, 110] else if c = 34 then some [94, 39] else none
def encL (s : List UInt8) : List UInt8 := replL caretF s
def decC : List UInt8 → List UInt8
  | 94 :: 94 :: t => 94 :: decC t
  | 94 :: 110 :: t => 10 :: decC t
  | 94 :: 39 :: t => 34 :: decC t
  | c :: t => c :: decC t
  | [] => []
theorem dec_enc (s : List UInt8) : decC (encL s) = s := by
  induction s with
  | nil => rfl
  | cons c t ih =>
    show decC (rep1 caretF c ++ encL t) = _
    by_cases h1 : c = 94
    · subst h1; show 94 :: decC (encL t) = _; rw [ih]
    by_cases h2 : c = 10
    · subst h2; show 10 :: decC (encL t) = _; rw [ih]
    by_cases h3 : c = 34
    · subst h3; show 34 :: decC (encL t) = _; rw [ih]
    have e : rep1 caretF c = [c] := by unfold rep1 caretF; rw [if_neg h1, if_neg h2, if_neg h3]; rfl
    rw [e]
    show decC (c :: encL t) = _
    rw [decC.eq_4 _ _ (by intro u hu _; exact h1 hu) (by intro u hu _; exact h1 hu) (by intro u hu _; exact h1 hu), ih]
theorem enc_clean (s : List UInt8) : (34 : UInt8) ∉ encL s ∧ (10 : UInt8) ∉ encL s := by
  have h : ∀ c : UInt8, (34 : UInt8) ∉ rep1 caretF c ∧ (10 : UInt8) ∉ rep1 caretF c := fun c => of_decide_eq_true (byte_all (fun c => decide ((34 : UInt8) ∉ rep1 caretF c ∧ (10 : UInt8) ∉ rep1 caretF c)) (by decide +kernel) c)
  unfold encL replL
  constructor
  · intro hm; obtain ⟨c, _, hc⟩ := List.mem_flatMap.1 hm; exact (h c).1 hc
  · intro hm; obtain ⟨c, _, hc⟩ := List.mem_flatMap.1 hm; exact (h c).2 hc
theorem enc_len (s : List UInt8) : s.length ≤ (encL s).length ∧ (encL s).length ≤ 2 * s.length := by
  have h : ∀ c : UInt8, 1 ≤ (rep1 caretF c).length ∧ (rep1 caretF c).length ≤ 2 := fun c => of_decide_eq_true (byte_all (fun c => decide (1 ≤ (rep1 caretF c).length ∧ (rep1 caretF c).length ≤ 2)) (by decide +kernel) c)
  induction s with
  | nil => exact ⟨Nat.le_refl _, Nat.le_refl _⟩
  | cons c t ih =>
    have := h c
    show (c :: t).length ≤ (rep1 caretF c ++ encL t).length ∧ (rep1 caretF c ++ encL t).length ≤ _
    simp only [List.length_append, List.length_cons]
    omega

/-! ## escapes -/
def escF (c : UInt8) : Option (List UInt8) := if c = 92 then some [92, 92] else if c = 44 then some [92, 44] else if c = 59 then some [92, 59] else if c = 10 then some [92, 110] else none
def escL (s : List UInt8) : List UInt8 := replL escF s
/-- how many bytes need an escape -/
def needL (s : List UInt8) : Nat := (s.filter fun c => ([92, 44, 59, 10] : List UInt8).contains c).length
theorem esc_len (s : List UInt8) : (escL s).length = s.length + needL s := by
  have h : ∀ c : UInt8, (rep1 escF c).length = 1 + if ([92, 44, 59, 10] : List UInt8).contains c = true then 1 else 0 := fun c => of_decide_eq_true (byte_all (fun c => decide ((rep1 escF c).length = 1 + if ([92, 44, 59, 10] : List UInt8).contains c = true then 1 else 0)) (by decide +kernel) c)
  induction s with
  | nil => rfl
  | cons c t ih =>
    have e : (escL (c :: t)).length = (rep1 escF c).length + (escL t).length := by
      show (rep1 escF c ++ escL t).length = _
      rw [List.length_append]
    rw [e, h, ih]
    unfold needL
    rw [List.filter_cons]
    split <;> simp <;> omega
theorem esc_no10 (s : List UInt8) : (10 : UInt8) ∉ escL s := by
  have h : ∀ c : UInt8, (10 : UInt8) ∉ rep1 escF c := fun c => of_decide_eq_true (byte_all (fun c => decide ((10 : UInt8) ∉ rep1 escF c)) (by decide +kernel) c)
  intro hm; obtain ⟨c, _, hc⟩ := List.mem_flatMap.1 hm; exact h c hc

/-! ## pieces -/
inductive PiecesR where
  | good (texts : List (List UInt8)) (cuts : List UInt8)
  | bad (code : Int) (place : Nat)
/-- what stands behind a backslash -/
def unescB (c : UInt8) : Option UInt8 := if c = 92 ∨ c = 44 ∨ c = 59 then some c else if c = 110 ∨ c = 78 then some 10 else none
def piecesGo (at_ : List UInt8) : List UInt8 → Nat → List UInt8 → List (List UInt8) → List UInt8 → PiecesR
  | [], _, cur, texts, cuts => .good (texts ++ [cur]) cuts
  | [c], k, cur, texts, cuts => if c = 92 then .bad 7 (k + 1) else if at_.contains c = true then .good (texts ++ [cur] ++ [[]]) (cuts ++ [c]) else .good (texts ++ [cur ++ [c]]) cuts
  | c :: d :: t, k, cur, texts, cuts =>
    if c = 92 then
      match unescB d with
      | some x => piecesGo at_ t (k + 2) (cur ++ [x]) texts cuts
      | none => .bad 3 (k + 1)
    else if at_.contains c = true then piecesGo at_ (d :: t) (k + 1) [] (texts ++ [cur]) (cuts ++ [c])
    else piecesGo at_ (d :: t) (k + 1) (cur ++ [c]) texts cuts
theorem pieces_nil (a : List UInt8) (k : Nat) (cur : List UInt8) (ts : List (List UInt8)) (cs : List UInt8) : piecesGo a [] k cur ts cs = .good (ts ++ [cur]) cs := rfl
theorem pieces_end (a : List UInt8) (k : Nat) (cur : List UInt8) (ts : List (List UInt8)) (cs : List UInt8) : piecesGo a [92] k cur ts cs = .bad 7 (k + 1) := rfl
theorem pieces_esc {a : List UInt8} {d x : UInt8} {t : List UInt8} {k : Nat} {cur : List UInt8} {ts : List (List UInt8)} {cs : List UInt8} (h : unescB d = some x) : piecesGo a (92 :: d :: t) k cur ts cs = piecesGo a t (k + 2) (cur ++ [x]) ts cs := by
  show (if (92 : UInt8) = 92 then _ else _) = _
  rw [if_pos rfl, h]
theorem pieces_none {a : List UInt8} {d : UInt8} {t : List UInt8} {k : Nat} {cur : List UInt8} {ts : List (List UInt8)} {cs : List UInt8} (h : unescB d = none) : piecesGo a (92 :: d :: t) k cur ts cs = .bad 3 (k + 1) := by
  show (if (92 : UInt8) = 92 then _ else _) = _
  rw [if_pos rfl, h]
theorem pieces_cut {a : List UInt8} {c : UInt8} {t : List UInt8} {k : Nat} {cur : List UInt8} {ts : List (List UInt8)} {cs : List UInt8} (h1 : c ≠ 92) (h2 : a.contains c = true) : piecesGo a (c :: t) k cur ts cs = piecesGo a t (k + 1) [] (ts ++ [cur]) (cs ++ [c]) := by
  cases t with
  | nil => show (if c = 92 then _ else _) = _; rw [if_neg h1, if_pos h2]; rfl
  | cons d t => show (if c = 92 then _ else _) = _; rw [if_neg h1, if_pos h2]
theorem pieces_one {a : List UInt8} {c : UInt8} {t : List UInt8} {k : Nat} {cur : List UInt8} {ts : List (List UInt8)} {cs : List UInt8} (h1 : c ≠ 92) (h2 : a.contains c = false) : piecesGo a (c :: t) k cur ts cs = piecesGo a t (k + 1) (cur ++ [c]) ts cs := by
  cases t with
  | nil => show (if c = 92 then _ else _) = _; rw [if_neg h1, if_neg (by simpa using h2)]; rfl
  | cons d t => show (if c = 92 then _ else _) = _; rw [if_neg h1, if_neg (by simpa using h2)]
/-- a byte as it is escaped -/
theorem esc_cases (c : UInt8) : (∃ d, rep1 escF c = [92, d] ∧ unescB d = some c) ∨ (rep1 escF c = [c] ∧ c ≠ 92 ∧ c ≠ 44 ∧ c ≠ 59) := by
  by_cases h1 : c = 92
  · subst h1; exact .inl ⟨92, rfl, rfl⟩
  by_cases h2 : c = 44
  · subst h2; exact .inl ⟨44, rfl, rfl⟩
  by_cases h3 : c = 59
  · subst h3; exact .inl ⟨59, rfl, rfl⟩
  by_cases h4 : c = 10
  · subst h4; exact .inl ⟨110, rfl, rfl⟩
  · right
    refine ⟨?_, h1, h2, h3⟩
    unfold rep1 escF
    rw [if_neg h1, if_neg h2, if_neg h3, if_neg h4]; rfl
/-- what is escaped adds itself to the text that is read -/
theorem pieces_escL (a : List UInt8) (ha : ∀ c ∈ a, c = 44 ∨ c = 59) (s : List UInt8) : ∀ (r : List UInt8) (k : Nat) (cur : List UInt8) (ts : List (List UInt8)) (cs : List UInt8), piecesGo a (escL s ++ r) k cur ts cs = piecesGo a r (k + (escL s).length) (cur ++ s) ts cs := by
  induction s with
  | nil => intro r k cur ts cs; simp [escL, replL]
  | cons c t ih =>
    intro r k cur ts cs
    have e : escL (c :: t) = rep1 escF c ++ escL t := rfl
    rcases esc_cases c with ⟨d, h1, h2⟩ | ⟨h1, h2, h3, h4⟩
    · rw [e, h1]
      show piecesGo a (92 :: d :: (escL t ++ r)) k cur ts cs = _
      rw [pieces_esc h2, ih]
      simp; congr 1; omega
    · rw [e, h1]
      show piecesGo a (c :: (escL t ++ r)) k cur ts cs = _
      rw [pieces_one h2 (by
        cases hc : a.contains c with
        | false => rfl
        | true => rcases ha c (by simpa using hc) with h | h; exact absurd h h3; exact absurd h h4), ih]
      simp; congr 1; omega

end Go.Proofs.Ythbjabjchfmmoaa
