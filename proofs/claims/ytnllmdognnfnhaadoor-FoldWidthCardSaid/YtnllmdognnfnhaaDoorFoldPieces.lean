/-
  A folded line as its pieces; what fold.Lines, strings.Count make of it. Plain.
-/
import Derived.Test.YtnllmdognnfnhaaDoorFold2
namespace Go.Proofs.YtnllmdognnfnhaaDoor
open Go.RowKit
set_option linter.unusedVariables false
set_option linter.unusedSimpArgs false

/-- pieces: the first one, and each next one behind a byte x -/
def joinF (x : UInt8) (p : List UInt8) : List (List UInt8) → List UInt8
  | [] => p ++ [13, 10]
  | q :: ps => p ++ 13 :: 10 :: x :: joinF x q ps
/-- how many pieces there are -/
def foldN (r : List UInt8) (rm width : Nat) : Nat :=
  if h : r.drop (cutL r rm) = [] ∨ cutL r rm = 0 then 1 else 1 + foldN (r.drop (cutL r rm)) (width - 1) width
termination_by r.length
decreasing_by
  have : r ≠ [] := by rintro rfl; simp at h
  have : 0 < r.length := by cases r with | nil => contradiction | cons _ _ => simp
  simp; omega

theorem fold_pieces (width : Nat) (hw : 5 ≤ width) : ∀ (n : Nat) (r : List UInt8) (rm : Nat), r.length ≤ n → badL r = none → 4 ≤ rm →
    ∃ p ps, foldOut r rm width = joinF 32 p ps ∧ p ++ ps.flatten = r ∧ p.length ≤ rm ∧ (∀ q ∈ ps, q.length ≤ width - 1 ∧ q ≠ [] ∧ badL q = none) ∧ badL p = none ∧ (r ≠ [] → p ≠ []) ∧ foldN r rm width = 1 + ps.length := by
  intro n
  induction n with
  | zero =>
    intro r rm hl hb hr
    have : r = [] := List.eq_nil_of_length_eq_zero (by omega)
    subst this
    refine ⟨[], [], ?_, by simp, by simp, by simp, hb, by simp, ?_⟩
    · rw [foldOut_last (by simp)]; simp [joinF]
    · rw [foldN, dif_pos (.inl (by simp))]; rfl
  | succ n ih =>
    intro r rm hl hb hr
    rcases cut_piece hb hr with ⟨c1, c2, c3⟩ | ⟨c1, c2, c3, c4, c5, c6⟩
    · refine ⟨r, [], ?_, by simp, c3, by simp, hb, fun h => h, ?_⟩
      · rw [foldOut_last c1, c2]; rfl
      · rw [foldN, dif_pos (.inl c1)]; rfl
    · obtain ⟨p, ps, h1, h2, h3, h4, h5, h6, h7⟩ := ih (r.drop (cutL r rm)) (width - 1) (by simp; omega) c5 (by omega)
      refine ⟨r.take (cutL r rm), p :: ps, ?_, ?_, ?_, ?_, c6, ?_, ?_⟩
      · rw [foldOut_more c1 c2, h1]; rfl
      · rw [List.flatten_cons, h2, List.take_append_drop]
      · simp; omega
      · intro q hq
        rcases List.mem_cons.1 hq with rfl | hq
        · exact ⟨h3, h6 c1, h5⟩
        · exact h4 q hq
      · intro h e
        have := congrArg List.length e
        have h0 : 0 < r.length := by cases r with | nil => exact absurd rfl h | cons _ _ => simp
        rw [List.length_take] at this
        simp only [List.length_nil] at this; omega
      · rw [foldN, dif_neg (by rintro (h | h); exact c1 h; omega), h7]; simp; omega

theorem joinF_length (x : UInt8) (p : List UInt8) (ps : List (List UInt8)) : (joinF x p ps).length = (p ++ ps.flatten).length + 2 + 3 * ps.length := by
  induction ps generalizing p with
  | nil => simp [joinF]
  | cons q ps ih => simp [joinF, ih]; omega
theorem pieces_le (ps : List (List UInt8)) (h : ∀ q ∈ ps, q ≠ []) : ps.length ≤ ps.flatten.length := by
  induction ps with
  | nil => simp
  | cons q ps ih =>
    have h1 := ih fun q hq => h q (List.mem_cons_of_mem _ hq)
    have h2 : 0 < q.length := by
      have := h q List.mem_cons_self
      cases q with | nil => exact absurd rfl this | cons _ _ => simp
    rw [List.flatten_cons, List.length_append, List.length_cons]; omega

/-! ## read again -/
theorem blank_cons {x : UInt8} (hx : (x == 32 || x == 9) = true) (q : List UInt8) : blankB (x :: q) = true := hx
theorem lines_pieces {x : UInt8} (hx : (x == 32 || x == 9) = true) (hx2 : nlB x = false) (ps : List (List UInt8)) : ∀ (p : List UInt8) (k : Nat) (out init : List Ln) (l : Ln),
    (∀ c ∈ p, nlB c = false) → (∀ q ∈ ps, ∀ c ∈ q, nlB c = false) → addLine p k out = .good (init ++ [l]) → l.text.length + ps.flatten.length ≤ 1500 →
    ∃ fs, linesGo (joinF x p ps) k out = .good (init ++ [⟨l.text ++ ps.flatten, l.pos, l.folds ++ fs⟩]) ∧ fs = (List.range ps.length).map (fun i => l.text.length + ((ps.take i).flatten).length) := by
  induction ps with
  | nil =>
    intro p k out init l hp hq ha hl
    refine ⟨[], ?_, rfl⟩
    show linesGo (p ++ 13 :: 10 :: []) k out = _
    rw [linesGo_line _ _ _ hp, ha]
    show linesGo [] _ _ = _
    rw [linesGo_nil]; simp
  | cons q ps ih =>
    intro p k out init l hp hq ha hl
    simp at hl
    obtain ⟨fs, h1, h2⟩ := ih (x :: q) (k + p.length + 2) (init ++ [l]) init ⟨l.text ++ q, l.pos, l.folds ++ [l.text.length]⟩ (by
        intro c hc
        rcases List.mem_cons.1 hc with rfl | hc
        · exact hx2
        · exact hq q List.mem_cons_self c hc) (fun q' hq' => hq q' (List.mem_cons_of_mem _ hq')) (by
        unfold addLine
        rw [if_pos (blank_cons hx q), List.getLast?_concat, List.dropLast_concat]
        simp
        omega) (by simp; omega)
    refine ⟨l.text.length :: fs, ?_, ?_⟩
    · show linesGo (p ++ 13 :: 10 :: x :: joinF x q ps) k out = _
      rw [linesGo_line _ _ _ hp, ha]
      have e : joinF x (x :: q) ps = x :: joinF x q ps := by cases ps <;> rfl
      rw [← e]
      refine h1.trans ?_
      simp
    · rw [h2, List.length_cons, List.range_succ_eq_map]
      simp [List.map_map, Function.comp_def, Nat.add_assoc]

theorem nlB_clean {s : List UInt8} (h : brkL s = s.length) : ∀ c ∈ s, nlB c = false := by
  have := List.findIdx_eq_length.1 h
  intro c hc; simpa using this c hc
theorem lines_foldX {x : UInt8} (hx : (x == 32 || x == 9) = true) (hx2 : nlB x = false) {p : List UInt8} {ps : List (List UInt8)} {s : List UInt8} (hs : p ++ ps.flatten = s) (hn : ∀ c ∈ s, nlB c = false) (hl : s.length ≤ 1500) (hb : blankB s = false) (hp : s ≠ [] → p ≠ []) :
    linesGo (joinF x p ps) 0 [] = .good [⟨s, 0, (List.range ps.length).map (fun i => p.length + ((ps.take i).flatten).length)⟩] := by
  have hbp : blankB p = false := by
    cases p with
    | nil => rfl
    | cons c p => rw [← hs] at hb; exact hb
  have hpl : p.length ≤ s.length := by rw [← hs]; simp
  obtain ⟨fs, h1, h2⟩ := lines_pieces hx hx2 ps p 0 [] [] ⟨p, 0, []⟩ (fun c hc => hn c (by rw [← hs]; exact List.mem_append_left _ hc)) (fun q hq c hc => hn c (by rw [← hs]; exact List.mem_append_right _ (List.mem_flatten.2 ⟨q, hq, hc⟩))) (by
    unfold addLine; rw [if_neg (by simp [hbp]), if_neg (by omega)]) (by rw [← hs] at hl; simpa using hl)
  rw [h1, h2, hs]; simp

/-! ## counting -/
theorem count_pieces (x : UInt8) (hx : nlB x = false) (ps : List (List UInt8)) : ∀ p : List UInt8, (∀ c ∈ p, nlB c = false) → (∀ q ∈ ps, ∀ c ∈ q, nlB c = false) → Lib.count (joinF x p ps) [13, 10] = 1 + ps.length := by
  have hit : ∀ (p r : List UInt8), (∀ c ∈ p, nlB c = false) → Lib.index (p ++ 13 :: 10 :: r) [13, 10] = p.length := by
    intro p r hp
    refine Lib.index_hit ?_ (by simp) ?_
    · intro j hj
      unfold Lib.occAt
      rw [List.drop_append_of_le_length (by omega)]
      rw [List.drop_eq_getElem_cons hj]
      have := hp _ (List.getElem_mem hj)
      simp [nlB] at this
      rw [List.cons_append]
      have h13 : ((13 : UInt8) == p[j]) = false := beq_eq_false_iff_ne.2 (fun e => this.1 e.symm)
      simp [List.isPrefixOf, h13]
    · simp [Lib.occAt]
  induction ps with
  | nil =>
    intro p hp hq
    show Lib.count (p ++ 13 :: 10 :: []) _ = _
    rw [Lib.count_hit (by simp) (hit p [] hp)]
    have : (p ++ 13 :: 10 :: [] : List UInt8).drop (p.length + ([13, 10] : List UInt8).length) = ([] : List UInt8) := by simp
    rw [this]; rfl
  | cons q ps ih =>
    intro p hp hq
    show Lib.count (p ++ 13 :: 10 :: (x :: joinF x q ps)) _ = _
    rw [Lib.count_hit (by simp) (hit p _ hp)]
    have : (p ++ 13 :: 10 :: (x :: joinF x q ps)).drop (p.length + ([13, 10] : List UInt8).length) = x :: joinF x q ps := by simp [List.drop_append]
    rw [this]
    have e : joinF x (x :: q) ps = x :: joinF x q ps := by cases ps <;> rfl
    rw [← e, ih (x :: q) (by
        intro c hc
        rcases List.mem_cons.1 hc with rfl | hc
        · exact hx
        · exact hq q List.mem_cons_self c hc) fun q' hq' => hq q' (List.mem_cons_of_mem _ hq')]
    simp; omega

/-! ## wider is fewer -/
theorem boundary_le {l : List UInt8} (h : badL l = none) : ∀ (n b : Nat), badL (l.take b) = none → b ≤ n → b ≤ l.length → b ≤ cutL l n := by
  refine text_ind (p := fun l => ∀ (n b : Nat), badL (l.take b) = none → b ≤ n → b ≤ l.length → b ≤ cutL l n) ?_ ?_ l h
  · intro n b _ _ hl; simp at hl; omega
  · intro l h0 ih n b hb hn hl
    have hl0 : l ≠ [] := by rintro rfl; exact h0 rfl
    by_cases hb0 : b = 0
    · omega
    have hne : l.take b ≠ [] := by
      intro e
      have := congrArg List.length e
      rw [List.length_take] at this
      simp only [List.length_nil] at this; omega
    have hs : stepL (l.take b) ≠ 0 := by
      intro e
      rw [badL_zero hne e] at hb; cases hb
    have hsl : stepL l = stepL (l.take b) := by
      conv => lhs; rw [← List.take_append_drop b l]
      rw [step_append hs]
    have hle : stepL l ≤ b := by
      rw [hsl]
      have := step_le (l.take b)
      rw [List.length_take] at this; omega
    rw [cutL_step hl0 (m := stepL l) (by omega) (by omega)]
    have := ih (n - stepL l) (b - stepL l) (by
      have h2 : (l.take b).drop (stepL l) = (l.drop (stepL l)).take (b - stepL l) := by rw [List.drop_take]
      rw [← h2]
      rw [badL_step hs, ← hsl] at hb
      cases h3 : badL ((l.take b).drop (stepL l)) with
      | none => rfl
      | some k => rw [h3] at hb; cases hb) (by omega) (by simp; omega)
    omega
theorem foldN_last {r : List UInt8} {rm width : Nat} (h : r.drop (cutL r rm) = []) : foldN r rm width = 1 := by rw [foldN, dif_pos (.inl h)]
theorem foldN_more {r : List UInt8} {rm width : Nat} (h : r.drop (cutL r rm) ≠ []) (h1 : 1 ≤ cutL r rm) : foldN r rm width = 1 + foldN (r.drop (cutL r rm)) (width - 1) width := by
  rw [foldN, dif_neg (by rintro (h2 | h2); exact h h2; omega)]
theorem foldN_pos (r : List UInt8) (rm width : Nat) : 1 ≤ foldN r rm width := by rw [foldN]; split <;> omega
theorem foldN_le (w1 w2 : Nat) (hw : 5 ≤ w1) (hw2 : w1 ≤ w2) : ∀ (n : Nat) (r : List UInt8) (j rm1 rm2 : Nat), r.length ≤ n → badL r = none → badL (r.drop j) = none → badL (r.take j) = none → j ≤ r.length → 4 ≤ rm1 → rm1 ≤ rm2 → foldN (r.drop j) rm2 w2 ≤ foldN r rm1 w1 := by
  intro n
  induction n with
  | zero =>
    intro r j rm1 rm2 hl hb hd ht hj h1 h2
    have : r = [] := List.eq_nil_of_length_eq_zero (by omega)
    subst this
    rw [foldN_last (by simp)]; exact foldN_pos _ _ _
  | succ n ih =>
    intro r j rm1 rm2 hl hb hd ht hj h1 h2
    rcases cut_piece hd (show 4 ≤ rm2 by omega) with ⟨c1, c2, c3⟩ | ⟨c1, c2, c3, c4, c5, c6⟩
    · rw [foldN_last c1]; exact foldN_pos _ _ _
    · rw [foldN_more c1 c2]
      rcases cut_piece hb h1 with ⟨d1, d2, d3⟩ | ⟨d1, d2, d3, d4, d5, d6⟩
      · exfalso
        -- the whole fits into the less room, so the rest fits into the greater one
        have := boundary_le hd rm2 (r.drop j).length (by rw [List.take_length]; exact hd) (by simp; omega) (Nat.le_refl _)
        exact c1 (List.drop_eq_nil_of_le this)
      · rw [foldN_more d1 d2]
        have key : cutL r rm1 ≤ j + cutL (r.drop j) rm2 := by
          by_cases hj2 : cutL r rm1 ≤ j
          · omega
          · have hb2 : badL ((r.drop j).take (cutL r rm1 - j)) = none := by
              have e : r.take (cutL r rm1) = r.take j ++ (r.drop j).take (cutL r rm1 - j) := by
                conv => lhs; rw [show cutL r rm1 = j + (cutL r rm1 - j) by omega]
                rw [List.take_add]
              rw [e, bad_append ht] at d6
              cases h3 : badL ((r.drop j).take (cutL r rm1 - j)) with
              | none => rfl
              | some k => rw [h3] at d6; cases d6
            have := boundary_le hd rm2 (cutL r rm1 - j) hb2 (by omega) (by simp; omega)
            omega
        simp at c4
        have e1 : (r.drop j).drop (cutL (r.drop j) rm2) = (r.drop (cutL r rm1)).drop (j + cutL (r.drop j) rm2 - cutL r rm1) := by
          rw [List.drop_drop, List.drop_drop]; congr 1; omega
        rw [e1]
        have := ih (r.drop (cutL r rm1)) (j + cutL (r.drop j) rm2 - cutL r rm1) (w1 - 1) (w2 - 1) (by simp; omega) d5 (by rw [← e1]; exact c5) ?_ (by simp; omega) (by omega) (by omega)
        · omega
        · have e2 : r.take (j + cutL (r.drop j) rm2) = r.take (cutL r rm1) ++ (r.drop (cutL r rm1)).take (j + cutL (r.drop j) rm2 - cutL r rm1) := by
            conv => lhs; rw [show j + cutL (r.drop j) rm2 = cutL r rm1 + (j + cutL (r.drop j) rm2 - cutL r rm1) by omega]
            rw [List.take_add]
          have e3 : r.take (j + cutL (r.drop j) rm2) = r.take j ++ (r.drop j).take (cutL (r.drop j) rm2) := by rw [List.take_add]
          have hbad : badL (r.take (j + cutL (r.drop j) rm2)) = none := by rw [e3]; exact bad_append_none ht c6
          rw [e2, bad_append d6] at hbad
          cases h3 : badL ((r.drop (cutL r rm1)).take (j + cutL (r.drop j) rm2 - cutL r rm1)) with
          | none => rfl
          | some k => rw [h3] at hbad; cases hbad

end Go.Proofs.YtnllmdognnfnhaaDoor
