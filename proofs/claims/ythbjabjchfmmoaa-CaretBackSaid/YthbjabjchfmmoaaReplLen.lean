/-
  How long a text gets by replacements. Plain.
-/
import Derived.Test.YthbjabjchfmmoaaReplPlain
namespace Go.Proofs.Ythbjabjchfmmoaa
open Go.RowKit
set_option linter.unusedVariables false
set_option linter.unusedSimpArgs false

/-- the bytes that are replaced, each once -/
structure Keyed1 (f : UInt8 → Option (List UInt8)) (keys : List UInt8) : Prop where
  nodup : keys.Nodup
  iff : ∀ c, f c = none ↔ c ∉ keys
  pos : ∀ c l, f c = some l → 1 ≤ l.length
  small : ∀ c l, f c = some l → l.length ≤ 10
def grow1 (f : UInt8 → Option (List UInt8)) (c : UInt8) : Nat := (rep1 f c).length - 1
/-- how much the keys add, so many of them -/
def addK (f : UInt8 → Option (List UInt8)) (s : List UInt8) (keys : List UInt8) : Nat := (keys.map fun k => s.count k * grow1 f k).sum
theorem addK_cons (f : UInt8 → Option (List UInt8)) (c : UInt8) (t : List UInt8) (keys : List UInt8) (hn : keys.Nodup) : addK f (c :: t) keys = addK f t keys + if c ∈ keys then grow1 f c else 0 := by
  induction keys with
  | nil => simp [addK]
  | cons k ks ih =>
    obtain ⟨h1, h2⟩ := List.nodup_cons.1 hn
    have ih := ih h2
    have e : ∀ l, addK f l (k :: ks) = l.count k * grow1 f k + addK f l ks := fun l => by simp [addK]
    rw [e, e, ih, List.count_cons]
    by_cases hc : c = k
    · subst hc
      simp [h1, Nat.add_mul]; omega
    · have hck : (c == k) = false := beq_eq_false_iff_ne.2 hc
      simp [hc, hck]
      omega
theorem repl_len {f : UInt8 → Option (List UInt8)} {keys : List UInt8} (h : Keyed1 f keys) (s : List UInt8) : (replL f s).length = s.length + addK f s keys := by
  induction s with
  | nil =>
    have h0 : ∀ l : List UInt8, (l.map fun _ => 0).sum = 0 := fun l => by induction l with
      | nil => rfl
      | cons _ _ ih => simpa using ih
    simp [replL, addK, h0]
  | cons c t ih =>
    rw [replL_cons, List.length_append, ih, addK_cons f c t keys h.nodup]
    have hr : (rep1 f c).length = 1 + if c ∈ keys then grow1 f c else 0 := by
      unfold grow1
      by_cases hc : c ∈ keys
      · rw [if_pos hc]
        cases hf : f c with
        | none => exact absurd hc ((h.iff c).1 hf)
        | some l =>
          have := h.pos c l hf
          simp [rep1, hf]; omega
      · rw [if_neg hc]
        have := (h.iff c).2 hc
        simp [rep1, this]
    rw [hr]; simp; omega
/-- nothing is replaced -/
theorem repl_same {f : UInt8 → Option (List UInt8)} (s : List UInt8) (h : ∀ c ∈ s, f c = none) : replL f s = s := by
  induction s with
  | nil => rfl
  | cons c t ih =>
    rw [replL_cons, ih fun d hd => h d (List.mem_cons_of_mem _ hd)]
    simp [rep1, h c List.mem_cons_self]
theorem repl_snoc (f : UInt8 → Option (List UInt8)) (s : List UInt8) (k : Nat) (h : k < s.length) : replL f (s.take (k + 1)) = replL f (s.take k) ++ rep1 f s[k] := by
  rw [List.take_succ_eq_append_getElem h, replL_append]; simp [replL]
theorem repl_le {f : UInt8 → Option (List UInt8)} {keys : List UInt8} (h : Keyed1 f keys) (s : List UInt8) : s.length ≤ (replL f s).length ∧ (replL f s).length ≤ 10 * s.length := by
  have h1 : ∀ c, 1 ≤ (rep1 f c).length ∧ (rep1 f c).length ≤ 10 := by
    intro c
    cases hf : f c with
    | none => simp [rep1, hf]
    | some l => have := h.pos c l hf; have := h.small c l hf; simp [rep1, hf]; omega
  induction s with
  | nil => simp [replL]
  | cons c t ih =>
    have := h1 c
    rw [replL_cons]; simp only [List.length_append, List.length_cons]; omega
theorem repl_take_le (f : UInt8 → Option (List UInt8)) (s : List UInt8) (k : Nat) : (replL f (s.take k)).length ≤ (replL f s).length := by
  conv => rhs; rw [← List.take_append_drop k s, replL_append]
  simp
theorem caret_keyed : Keyed1 caretF [34, 10, 94] := by
  refine ⟨by decide, fun c => ?_, fun c l h => ?_, fun c l h => ?_⟩
  · exact of_decide_eq_true (byte_all (fun c => decide (caretF c = none ↔ c ∉ ([34, 10, 94] : List UInt8))) (by decide +kernel) c)
  · unfold caretF at h; repeat' split at h
    all_goals first | (injection h with h; subst h; decide) | cases h
  · unfold caretF at h; repeat' split at h
    all_goals first | (injection h with h; subst h; decide) | cases h
theorem esc_keyed : Keyed1 escF [10, 59, 44, 92] := by
  refine ⟨by decide, fun c => ?_, fun c l h => ?_, fun c l h => ?_⟩
  · exact of_decide_eq_true (byte_all (fun c => decide (escF c = none ↔ c ∉ ([10, 59, 44, 92] : List UInt8))) (by decide +kernel) c)
  · unfold escF at h; repeat' split at h
    all_goals first | (injection h with h; subst h; decide) | cases h
  · unfold escF at h; repeat' split at h
    all_goals first | (injection h with h; subst h; decide) | cases h

end Go.Proofs.Ythbjabjchfmmoaa
