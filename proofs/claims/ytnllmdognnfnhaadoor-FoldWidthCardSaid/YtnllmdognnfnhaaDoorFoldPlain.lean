/-
  Lines and folded lines as plain functions on lists of bytes; no function of the program.
-/
import Derived.Test.YtnllmdognnfnhaaDoorStrs
import Derived.Test.YtnllmdognnfnhaaDoorUtfPlain
namespace Go.Proofs.YtnllmdognnfnhaaDoor
open Go.RowKit
set_option linter.unusedVariables false
set_option linter.unusedSimpArgs false

/-- a CR or an LF -/
def nlB (c : UInt8) : Bool := c == 13 || c == 10
/-- how many bytes stand ahead of the first of these -/
def brkL (l : List UInt8) : Nat := l.findIdx nlB
/-- a line: its text, where it begins, behind how many bytes it was folded -/
structure Ln where
  text : List UInt8
  pos : Nat
  folds : List Nat
def blankB : List UInt8 → Bool
  | [] => false
  | c :: _ => c == 32 || c == 9
inductive LinesR where
  | good (ls : List Ln)
  | bad (code : Int) (place : Nat)
def addLine (s : List UInt8) (k : Nat) (out : List Ln) : LinesR :=
  if blankB s = true then
    match out.getLast? with
    | none => .bad 10 0
    | some l => if 1500 < l.text.length + (s.length - 1) then .bad 4 l.pos else .good (out.dropLast ++ [⟨l.text ++ s.drop 1, l.pos, l.folds ++ [l.text.length]⟩])
  else if 1500 < s.length then .bad 4 k else .good (out ++ [⟨s, k, []⟩])
def linesGo (r : List UInt8) (k : Nat) (out : List Ln) : LinesR :=
  if h0 : r = [] then .good out
  else if brkL r = r.length then .bad 7 (k + r.length)
  else if hasP (r.drop (brkL r)) [13, 10] = false then .bad 3 (k + brkL r)
  else match addLine (r.take (brkL r)) k out with
    | .bad c p => .bad c p
    | .good out' => linesGo (r.drop (brkL r + 2)) (k + brkL r + 2) out'
termination_by r.length
decreasing_by
  have : 0 < r.length := by cases r with | nil => exact absurd rfl h0 | cons _ _ => simp
  simp; omega

theorem linesGo_nil (k : Nat) (out : List Ln) : linesGo [] k out = .good out := by rw [linesGo]; simp
theorem brkL_le (l : List UInt8) : brkL l ≤ l.length := List.findIdx_le_length
theorem brkL_at {l : List UInt8} (h : brkL l < l.length) : nlB (l[brkL l]) = true := List.findIdx_getElem
theorem brkL_before {l : List UInt8} {i : Nat} (h : i < brkL l) : nlB (l[i]'(by have := brkL_le l; omega)) = false := by
  have := List.not_of_lt_findIdx h
  simpa using this
theorem brkL_clean {l : List UInt8} (h : ∀ c ∈ l, nlB c = false) : brkL l = l.length := by
  unfold brkL; rw [List.findIdx_eq_length]; exact h
theorem brkL_pre {p r : List UInt8} (c : UInt8) (h : ∀ c ∈ p, nlB c = false) (hc : nlB c = true) : brkL (p ++ c :: r) = p.length := by
  unfold brkL
  rw [List.findIdx_append]
  have h1 : List.findIdx nlB p = p.length := by rw [List.findIdx_eq_length]; exact h
  rw [h1, if_neg (Nat.lt_irrefl _), List.findIdx_cons, hc]
  simp
theorem brkL_append {a : List UInt8} (b : List UInt8) (h : brkL a < a.length) : brkL (a ++ b) = brkL a := by
  unfold brkL at *
  rw [List.findIdx_append, if_pos h]

/-- a line ahead of the rest -/
theorem linesGo_line {p : List UInt8} (r : List UInt8) (k : Nat) (out : List Ln) (h : ∀ c ∈ p, nlB c = false) :
    linesGo (p ++ 13 :: 10 :: r) k out = match addLine p k out with | .bad c q => .bad c q | .good out' => linesGo r (k + p.length + 2) out' := by
  rw [linesGo, dif_neg (by simp)]
  have hb : brkL (p ++ 13 :: 10 :: r) = p.length := brkL_pre 13 h rfl
  rw [hb, if_neg (by simp), if_neg (by simp [hasP])]
  have h1 : (p ++ 13 :: 10 :: r).take p.length = p := by simp
  have h2 : (p ++ 13 :: 10 :: r).drop (p.length + 2) = r := by simp [List.drop_append]
  rw [h1, h2]

/-- how a text that is good begins -/
theorem linesGo_cases {r : List UInt8} {k : Nat} {out x : List Ln} (h : linesGo r k out = .good x) :
    r = [] ∧ x = out ∨ ∃ p r' out', r = p ++ 13 :: 10 :: r' ∧ (∀ c ∈ p, nlB c = false) ∧ addLine p k out = .good out' ∧ linesGo r' (k + p.length + 2) out' = .good x := by
  by_cases h0 : r = []
  · subst h0; rw [linesGo_nil] at h; left; exact ⟨rfl, by injection h with h; exact h.symm⟩
  · right
    rw [linesGo, dif_neg h0] at h
    by_cases h1 : brkL r = r.length
    · rw [if_pos h1] at h; cases h
    rw [if_neg h1] at h
    cases h2 : hasP (r.drop (brkL r)) [13, 10] with
    | false => rw [if_pos h2] at h; cases h
    | true =>
      rw [if_neg (by simp [h2])] at h
      have h3 := hasP_eq h2
      rw [List.drop_drop] at h3
      cases h4 : addLine (r.take (brkL r)) k out with
      | bad c p => rw [h4] at h; cases h
      | good out' =>
        rw [h4] at h
        have hl : (r.take (brkL r)).length = brkL r := by have := brkL_le r; simp; omega
        refine ⟨r.take (brkL r), r.drop (brkL r + 2), out', ?_, ?_, h4, by rw [hl]; exact h⟩
        · conv => lhs; rw [← List.take_append_drop (brkL r) r, h3]
          rfl
        · intro c hc
          obtain ⟨i, hi, rfl⟩ := List.getElem_of_mem hc
          rw [List.getElem_take]
          exact brkL_before (by rw [hl] at hi; exact hi)

theorem lines_ind {P : List UInt8 → Nat → List Ln → List Ln → Prop} (nil : ∀ k out, P [] k out out)
    (step : ∀ p r k out out' x, (∀ c ∈ p, nlB c = false) → addLine p k out = .good out' → linesGo r (k + p.length + 2) out' = .good x → P r (k + p.length + 2) out' x → P (p ++ 13 :: 10 :: r) k out x) :
    ∀ (n : Nat) (r : List UInt8) (k : Nat) (out x : List Ln), r.length ≤ n → linesGo r k out = .good x → P r k out x := by
  intro n
  induction n with
  | zero =>
    intro r k out x hl h
    have : r = [] := List.eq_nil_of_length_eq_zero (by omega)
    subst this
    rcases linesGo_cases h with ⟨_, rfl⟩ | ⟨p, r', _, h1, _⟩
    · exact nil _ _
    · simp at h1
  | succ n ih =>
    intro r k out x hl h
    rcases linesGo_cases h with ⟨rfl, rfl⟩ | ⟨p, r', out', rfl, h2, h3, h4⟩
    · exact nil _ _
    · exact step p r' k out out' x h2 h3 h4 (ih r' _ _ _ (by simp at hl; omega) h4)

/-! ## two texts -/
theorem lines_append {a : List UInt8} {k : Nat} {out x : List Ln} (b : List UInt8) (h : linesGo a k out = .good x) : linesGo (a ++ b) k out = linesGo b (k + a.length) x := by
  refine lines_ind (P := fun a k out x => linesGo (a ++ b) k out = linesGo b (k + a.length) x) ?_ ?_ a.length a k out x (Nat.le_refl _) h
  · intro k out; simp
  · intro p r k out out' x hp ha hg ih
    have e : (p ++ 13 :: 10 :: r) ++ b = p ++ 13 :: 10 :: (r ++ b) := by simp
    rw [e, linesGo_line _ _ _ hp, ha]
    show linesGo (r ++ b) _ _ = _
    rw [ih]
    congr 1
    simp; omega
def Ln.shift (n : Nat) (l : Ln) : Ln := ⟨l.text, n + l.pos, l.folds⟩
theorem addLine_shift {p : List UInt8} {k : Nat} {out out' : List Ln} (n : Nat) (x : List Ln) (h : addLine p k out = .good out') : addLine p (n + k) (x ++ out.map (Ln.shift n)) = .good (x ++ out'.map (Ln.shift n)) := by
  unfold addLine at h ⊢
  split at h
  · rename_i hb
    rw [if_pos hb]
    cases ho : out.getLast? with
    | none => rw [ho] at h; cases h
    | some l =>
      rw [ho] at h
      have h1 : (x ++ out.map (Ln.shift n)).getLast? = some (l.shift n) := by
        rw [List.getLast?_append, List.getLast?_map, ho]; rfl
      have hne : out.map (Ln.shift n) ≠ [] := by
        intro e
        have : out = [] := by simpa using e
        subst this; simp at ho
      rw [h1]
      dsimp only at h ⊢
      split at h
      · cases h
      · rename_i h5
        injection h with h
        have h6 : (l.shift n).text = l.text := rfl
        rw [if_neg (by rw [h6]; exact h5), ← h, List.dropLast_append_of_ne_nil hne, ← List.map_dropLast]
        simp [Ln.shift]
  · rename_i hb
    rw [if_neg hb]
    split at h
    · cases h
    · rename_i h5
      injection h with h
      rw [if_neg h5, ← h]
      simp [Ln.shift]
theorem lines_shift {r : List UInt8} {k : Nat} {out y : List Ln} (n : Nat) (x : List Ln) (h : linesGo r k out = .good y) : linesGo r (n + k) (x ++ out.map (Ln.shift n)) = .good (x ++ y.map (Ln.shift n)) := by
  refine lines_ind (P := fun r k out y => linesGo r (n + k) (x ++ out.map (Ln.shift n)) = .good (x ++ y.map (Ln.shift n))) ?_ ?_ r.length r k out y (Nat.le_refl _) h
  · intro k out; rw [linesGo_nil]
  · intro p r k out out' y hp ha hg ih
    rw [linesGo_line _ _ _ hp, addLine_shift n x ha]
    show linesGo r _ _ = _
    rw [← ih]
    congr 1
    omega
theorem lines_joins {a b : List UInt8} {x y : List Ln} (ha : linesGo a 0 [] = .good x) (hb : linesGo b 0 [] = .good y) : linesGo (a ++ b) 0 [] = .good (x ++ y.map (Ln.shift a.length)) := by
  rw [lines_append b ha, Nat.zero_add]
  have := lines_shift a.length x hb
  simpa using this

/-! ## places -/
def countF (l : Ln) (i : Nat) : Nat := (l.folds.filter fun f => decide (f ≤ i)).length
def placeL (l : Ln) (i : Nat) : Nat := l.pos + i + 3 * countF l i
/-- what holds of the lines that have been read, up to a byte k of t -/
structure Placed (t : List UInt8) (out : List Ln) (k : Nat) : Prop where
  here : ∀ l ∈ out, ∀ i, i < l.text.length → placeL l i < k ∧ t[placeL l i]? = l.text[i]?
  next : out.Pairwise fun l l' => ∀ i i', i < l.text.length → i' < l'.text.length → placeL l i < placeL l' i'
  last : ∀ l, out.getLast? = some l → k = l.pos + l.text.length + 3 * l.folds.length + 2 ∧ ∀ f ∈ l.folds, f ≤ l.text.length
theorem Placed.nil (t : List UInt8) (k : Nat) : Placed t [] k := ⟨by simp, by simp, by simp⟩
theorem placeL_lt (l : Ln) {i i' : Nat} (h : i < i') : placeL l i < placeL l i' := by
  unfold placeL countF
  have : (l.folds.filter fun f => decide (f ≤ i)).length ≤ (l.folds.filter fun f => decide (f ≤ i')).length := by
    generalize l.folds = fs
    induction fs with
    | nil => simp
    | cons f fs ih =>
      rw [List.filter_cons, List.filter_cons]
      by_cases h1 : f ≤ i
      · have h2 : f ≤ i' := by omega
        simp [h1, h2]; exact ih
      · simp only [h1, decide_false, Bool.false_eq_true, if_false]
        split
        · simp; omega
        · exact ih
  omega
theorem countF_all (fs : List Nat) (i : Nat) (h : ∀ f ∈ fs, f ≤ i) : (fs.filter fun f => decide (f ≤ i)).length = fs.length := by
  rw [List.filter_eq_self.2]
  intro f hf; simpa using h f hf
theorem placed_line {t p r : List UInt8} {k : Nat} {out out' : List Ln} (hr : t.drop k = p ++ 13 :: 10 :: r) (h : Placed t out k) (ha : addLine p k out = .good out') : Placed t out' (k + p.length + 2) := by
  have ht : ∀ i, i < p.length → t[k + i]? = p[i]? := by
    intro i hi
    have := congrArg (fun l => l[i]?) hr
    simp only [List.getElem?_drop] at this
    rw [this, List.getElem?_append_left hi]
  unfold addLine at ha
  split at ha
  · cases ho : out.getLast? with
    | none => rw [ho] at ha; cases ha
    | some l =>
      rw [ho] at ha
      obtain ⟨init, rfl⟩ := List.getLast?_eq_some_iff.1 ho
      dsimp only at ha
      split at ha
      · cases ha
      · injection ha with ha
        rw [List.dropLast_concat] at ha
        subst ha
        obtain ⟨hk, hf⟩ := h.last l ho
        have hn := List.pairwise_append.1 h.next
        have hpre : ∀ i, i < l.text.length → placeL ⟨l.text ++ p.drop 1, l.pos, l.folds ++ [l.text.length]⟩ i = placeL l i := by
          intro i hi
          have : ¬ l.text.length ≤ i := by omega
          simp [placeL, countF, this]
        have hpost : ∀ i, l.text.length ≤ i → placeL ⟨l.text ++ p.drop 1, l.pos, l.folds ++ [l.text.length]⟩ i = k + 1 + (i - l.text.length) := by
          intro i hi
          have := countF_all l.folds i (fun f hf' => Nat.le_trans (hf f hf') hi)
          simp only [placeL, countF, List.filter_append, List.length_append, this]
          simp [hi]; omega
        refine ⟨?_, ?_, ?_⟩
        · intro m hm i hi
          rcases List.mem_append.1 hm with hm | hm
          · obtain ⟨h1, h2⟩ := h.here m (List.mem_append_left _ hm) i hi
            exact ⟨by omega, h2⟩
          · have : m = _ := List.mem_singleton.1 hm
            subst this
            by_cases hl : i < l.text.length
            · obtain ⟨h1, h2⟩ := h.here l (by simp) i hl
              rw [hpre i hl, h2]
              exact ⟨by omega, by rw [List.getElem?_append_left hl]⟩
            · rw [hpost i (by omega)]
              simp at hi
              refine ⟨by omega, ?_⟩
              rw [List.getElem?_append_right (by omega), List.getElem?_drop, ← ht (1 + (i - l.text.length)) (by omega)]
              congr 1; omega
        · rw [List.pairwise_append]
          refine ⟨hn.1, by simp, ?_⟩
          intro a ha' b hb i i' hi hi'
          have : b = _ := List.mem_singleton.1 hb
          subst this
          by_cases hl : i' < l.text.length
          · rw [hpre i' hl]
            exact hn.2.2 a ha' l (by simp) i i' hi hl
          · rw [hpost i' (by omega)]
            have := (h.here a (List.mem_append_left _ ha') i hi).1
            omega
        · intro m hm
          rw [List.getLast?_concat] at hm
          injection hm with hm
          subst hm
          refine ⟨?_, ?_⟩
          · have : 1 ≤ p.length := by
              cases p with
              | nil => simp [blankB] at *
              | cons _ _ => simp
            simp; omega
          · intro f hf'
            rcases List.mem_append.1 hf' with hf' | hf'
            · have := hf f hf'; simp; omega
            · have : f = _ := List.mem_singleton.1 hf'
              subst this; simp
  · split at ha
    · cases ha
    · injection ha with ha
      subst ha
      have hpl : ∀ i, placeL ⟨p, k, []⟩ i = k + i := by intro i; simp [placeL, countF]
      refine ⟨?_, ?_, ?_⟩
      · intro m hm i hi
        rcases List.mem_append.1 hm with hm | hm
        · obtain ⟨h1, h2⟩ := h.here m hm i hi
          exact ⟨by omega, h2⟩
        · have : m = _ := List.mem_singleton.1 hm
          subst this
          rw [hpl]
          exact ⟨by simp at hi; omega, ht i hi⟩
      · rw [List.pairwise_append]
        refine ⟨h.next, by simp, ?_⟩
        intro a ha' b hb i i' hi hi'
        have : b = _ := List.mem_singleton.1 hb
        subst this
        rw [hpl]
        have := (h.here a ha' i hi).1
        omega
      · intro m hm
        rw [List.getLast?_concat] at hm
        injection hm with hm
        subst hm
        simp
theorem lines_placed {t : List UInt8} {x : List Ln} (h : linesGo t 0 [] = .good x) : Placed t x t.length := by
  have key := lines_ind (P := fun r k out x => t.drop k = r → k + r.length = t.length → Placed t out k → Placed t x t.length) ?_ ?_ t.length t 0 [] x (Nat.le_refl _) h
  · exact key rfl (by simp) (Placed.nil t 0)
  · intro k out _ hk hp
    simp at hk
    rw [← hk]; exact hp
  · intro p r k out out' y hp ha hg ih hr hk hpl
    refine ih ?_ ?_ (placed_line hr hpl ha)
    · have : t.drop (k + p.length + 2) = (t.drop k).drop (p.length + 2) := by rw [List.drop_drop]; congr 1
      rw [this, hr]
      simp [List.drop_append]
    · simp at hk; omega

/-! ## folding -/
/-- a line folded: the first piece has at most room bytes, the next ones a blank and at most width - 1 -/
def foldOut (s : List UInt8) (room width : Nat) : List UInt8 :=
  s.take (cutL s room) ++ 13 :: 10 :: (if h : s.drop (cutL s room) = [] ∨ cutL s room = 0 then [] else 32 :: foldOut (s.drop (cutL s room)) (width - 1) width)
termination_by s.length
decreasing_by
  have : s ≠ [] := by rintro rfl; simp at h
  have : 0 < s.length := by cases s with | nil => contradiction | cons _ _ => simp
  simp; omega

end Go.Proofs.YtnllmdognnfnhaaDoor
