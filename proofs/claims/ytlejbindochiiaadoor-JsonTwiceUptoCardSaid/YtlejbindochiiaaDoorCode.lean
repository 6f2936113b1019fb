/-
  Code points of texts, and what may stand in a text: plain.
-/
import Derived.Test.YtlejbindochiiaaDoorUtfPlain
namespace Go.Proofs.YtlejbindochiiaaDoor
open Go.RowKit
set_option linter.unusedVariables false
set_option linter.unusedSimpArgs false

/-! ## code points -/
theorem next_ascii_val {b : UInt8} {t : List UInt8} (h : b.toNat < 128) : nextL (b :: t) = ((b.toNat : Int), 1) := by
  unfold nextL
  simp [h, show ¬ 128 ≤ b.toNat by omega]
theorem step_ascii {b : UInt8} {t : List UInt8} (h : b.toNat < 128) : stepL (b :: t) = 1 := by
  unfold stepL; rw [next_ascii_val h]; rfl
theorem bad_cons {b : UInt8} {t : List UInt8} (h : b.toNat < 128) : badL (b :: t) = (badL t).map (· + 1) := by
  have hs : stepL (b :: t) = 1 := step_ascii h
  rw [badL_step (by rw [hs]; decide), hs]; rfl
theorem bad_cons_none {b : UInt8} {t : List UInt8} (h : b.toNat < 128) : badL (b :: t) = none ↔ badL t = none := by
  rw [bad_cons h]; cases badL t <;> simp
theorem bad_ascii : ∀ (l : List UInt8), (∀ b ∈ l, b.toNat < 128) → badL l = none
  | [], _ => badL_nil
  | b :: t, h => (bad_cons_none (h b List.mem_cons_self)).2 (bad_ascii t fun x hx => h x (List.mem_cons_of_mem _ hx))
/-- a code point of more bytes has no small ones -/
theorem step_high {l : List UInt8} (h : stepL l ≠ 0) : stepL l = 1 ∧ (∃ b t, l = b :: t ∧ b.toNat < 128) ∨ ∀ b ∈ l.take (stepL l), 128 ≤ b.toNat := by
  cases l with
  | nil => exact absurd rfl h
  | cons b t =>
    by_cases hb : b.toNat < 128
    · exact .inl ⟨step_ascii hb, b, t, rfl, hb⟩
    · right
      rcases nextL_bounds (b :: t) with hn | ⟨r, n, hn, hm, n1, n4, nl⟩
      · exact absurd (by unfold stepL; rw [hn]; rfl) h
      · have hs : stepL (b :: t) = n := stepL_of hn
        rw [hs]
        have hp := encode_next hn n1
        rw [← hp]
        have hr : ¬ r < 128 := by
          intro hr
          rw [pointL_1 hr] at hp
          have hl := congrArg List.length hp
          simp at hl
          have hn1 : n = 1 := by simp at nl; omega
          subst hn1
          simp at hp
          have := (may_range hm).1
          have hbn : (byteOf r).toNat = r.toNat := by unfold byteOf; simp; omega
          rw [hp] at hbn
          omega
        have hby : ∀ x : Int, 128 ≤ x → x < 256 → 128 ≤ (byteOf x).toNat := by
          intro x h1 h2
          have : (byteOf x).toNat = x.toNat := by unfold byteOf; simp; omega
          omega
        have hr2 := may_range hm
        intro c hc
        by_cases h2 : r < 2048
        · rw [pointL_2 hr h2] at hc
          simp only [List.mem_cons, List.not_mem_nil, or_false] at hc
          rcases hc with rfl | rfl <;> exact hby _ (by omega) (by omega)
        · by_cases h3 : r < 65536
          · rw [pointL_3 hr h2 h3] at hc
            simp only [List.mem_cons, List.not_mem_nil, or_false] at hc
            rcases hc with rfl | rfl | rfl <;> exact hby _ (by omega) (by omega)
          · rw [pointL_4 hr h2 h3] at hc
            simp only [List.mem_cons, List.not_mem_nil, or_false] at hc
            rcases hc with rfl | rfl | rfl | rfl <;> exact hby _ (by omega) (by omega)
theorem bad_take {l : List UInt8} (h : stepL l ≠ 0) : badL (l.take (stepL l)) = none := by
  obtain ⟨hn, hl⟩ : (nextL (l.take (stepL l)) = nextL l) ∧ (l.take (stepL l)).length = stepL l := by
    have hl : (l.take (stepL l)).length = stepL l := by have := step_le l; simp; omega
    refine ⟨?_, hl⟩
    rcases nextL_bounds l with h0 | ⟨r, n, hn, hm, n1, n4, nl⟩
    · exact absurd (by unfold stepL; rw [h0]; rfl) h
    · have hs : stepL l = n := stepL_of hn
      rw [hs, ← encode_next hn n1]
      have := next_point hm ([] : List UInt8)
      rw [List.append_nil] at this
      rw [this, encode_next hn n1, hn]
      have : (l.take n).length = n := by simp; omega
      rw [this]
  have hs : stepL (l.take (stepL l)) = stepL l := congrArg (fun p : Int × Int => p.2.toNat) hn
  rw [badL_step (by rw [hs]; exact h), hs, List.drop_eq_nil_of_le (by omega), badL_nil]; rfl

/-- a text cut ahead of a small byte: both parts are texts -/
theorem bad_split {c : UInt8} {b : List UInt8} (hc : c.toNat < 128) : ∀ (n : Nat) (a : List UInt8), a.length ≤ n → badL (a ++ c :: b) = none → badL a = none ∧ badL (c :: b) = none := by
  intro n
  induction n with
  | zero =>
    intro a ha h
    have : a = [] := List.length_eq_zero_iff.1 (by omega)
    subst this
    exact ⟨badL_nil, h⟩
  | succ n ih =>
    intro a ha h
    cases a with
    | nil => exact ⟨badL_nil, h⟩
    | cons x a =>
      by_cases hs : stepL (x :: a ++ c :: b) = 0
      · rw [badL_zero (by simp) hs] at h; cases h
      · have hle : stepL (x :: a ++ c :: b) ≤ (x :: a).length := by
          rcases step_high hs with ⟨h1, _⟩ | hh
          · rw [h1]; simp
          · rcases Nat.lt_or_ge (x :: a).length (stepL (x :: a ++ c :: b)) with hlt | hge
            · have hm : c ∈ (x :: a ++ c :: b).take (stepL (x :: a ++ c :: b)) := by
                refine List.mem_take_iff_getElem.2 ⟨(x :: a).length, by have := step_le (x :: a ++ c :: b); omega, ?_⟩
                rw [List.getElem_append_right (Nat.le_refl _)]
                simp
              have := hh c hm
              omega
            · exact hge
        have hd := h
        rw [badL_step hs, List.drop_append_of_le_length hle] at hd
        have hd2 : badL ((x :: a).drop (stepL (x :: a ++ c :: b)) ++ c :: b) = none := by
          cases e : badL ((x :: a).drop (stepL (x :: a ++ c :: b)) ++ c :: b) with
          | none => rfl
          | some z => rw [e] at hd; cases hd
        obtain ⟨h1, h2⟩ := ih _ (by rw [List.length_drop]; simp only [List.length_cons] at ha ⊢; omega) hd2
        refine ⟨?_, h2⟩
        have ht := bad_take hs
        rw [List.take_append_of_le_length hle] at ht
        have := bad_append_none ht h1
        rwa [List.take_append_drop] at this
theorem bad_cut {c : UInt8} {a b : List UInt8} (hc : c.toNat < 128) (h : badL (a ++ c :: b) = none) : badL a = none ∧ badL b = none := by
  obtain ⟨h1, h2⟩ := bad_split hc a.length a (Nat.le_refl _) h
  exact ⟨h1, (bad_cons_none hc).1 h2⟩

/-- a byte that may stand in a text (of more lines) -/
def txtP (lines : Bool) (c : UInt8) : Bool := decide ((32 ≤ (c.toNat : Int) ∨ (c.toNat : Int) = 9 ∨ ((c.toNat : Int) = 10 ∧ lines = true)) ∧ (c.toNat : Int) ≠ 127)
def holdsB (s : List UInt8) (lines : Bool) : Bool := s.all (txtP lines) && (badL s).isNone
theorem holds_no {s : List UInt8} {lines : Bool} (h : s.all (txtP lines) = false) : holdsB s lines = false := by unfold holdsB; rw [h]; rfl
theorem holds_bad {s : List UInt8} {lines : Bool} {k : Nat} (h : badL s = some k) : holdsB s lines = false := by unfold holdsB; rw [h]; simp
theorem holds_yes {s : List UInt8} {lines : Bool} (h : s.all (txtP lines) = true) (hb : badL s = none) : holdsB s lines = true := by unfold holdsB; rw [h, hb]; rfl
theorem holds_iff {s : List UInt8} {lines : Bool} : holdsB s lines = true ↔ (∀ c ∈ s, txtP lines c = true) ∧ badL s = none := by
  unfold holdsB
  rw [Bool.and_eq_true, List.all_eq_true, Option.isNone_iff_eq_none]
theorem holds_append {a b : List UInt8} {l : Bool} (ha : holdsB a l = true) (hb : holdsB b l = true) : holdsB (a ++ b) l = true := by
  obtain ⟨a1, a2⟩ := holds_iff.1 ha
  obtain ⟨b1, b2⟩ := holds_iff.1 hb
  refine holds_iff.2 ⟨fun c hc => ?_, bad_append_none a2 b2⟩
  rcases List.mem_append.1 hc with h | h
  · exact a1 c h
  · exact b1 c h
theorem holds_cons {c : UInt8} {b : List UInt8} {l : Bool} (hc : c.toNat < 128) (ht : txtP l c = true) (hb : holdsB b l = true) : holdsB (c :: b) l = true := by
  obtain ⟨b1, b2⟩ := holds_iff.1 hb
  refine holds_iff.2 ⟨fun x hx => ?_, (bad_cons_none hc).2 b2⟩
  rcases List.mem_cons.1 hx with rfl | h
  · exact ht
  · exact b1 x h
theorem holds_nil (l : Bool) : holdsB [] l = true := holds_iff.2 ⟨fun c hc => (by cases hc), badL_nil⟩
theorem holds_ascii {s : List UInt8} {l : Bool} (h : ∀ c ∈ s, 32 ≤ c.toNat ∧ c.toNat ≤ 126) : holdsB s l = true := by
  refine holds_iff.2 ⟨fun c hc => ?_, bad_ascii s fun b hb => by have := h b hb; omega⟩
  have := h c hc
  unfold txtP
  rw [decide_eq_true_iff]
  omega

end Go.Proofs.YtlejbindochiiaaDoor
