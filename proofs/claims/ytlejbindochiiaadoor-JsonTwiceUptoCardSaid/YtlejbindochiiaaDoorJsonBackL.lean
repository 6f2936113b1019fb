/-
  What json.Write writes json.Read reads. Plain.
-/
import Derived.Test.YtlejbindochiiaaDoorJsonPlain
namespace Go.Proofs.YtlejbindochiiaaDoor
open Go.RowKit
set_option linter.unusedVariables false
set_option linter.unusedSimpArgs false

/-- a text that goes on no number -/
def stopJ (l : List UInt8) : Prop := ∀ c r, l = c :: r → dgJ c = false ∧ c ≠ 46 ∧ c ≠ 101 ∧ c ≠ 69 ∧ c ≠ 43 ∧ c ≠ 45
theorem stop_nil : stopJ [] := fun c r h => by cases h
theorem stop_cons {c : UInt8} {r : List UInt8} (h : dgJ c = false ∧ c ≠ 46 ∧ c ≠ 101 ∧ c ≠ 69 ∧ c ≠ 43 ∧ c ≠ 45) : stopJ (c :: r) := fun d t e => by injection e with e _; subst e; exact h
theorem digs_le (l : List UInt8) : digsJ l ≤ l.length := by
  unfold digsJ
  have := congrArg List.length (List.takeWhile_append_dropWhile (p := dgJ) (l := l))
  rw [List.length_append] at this; omega
theorem digs_nil : digsJ [] = 0 := rfl
theorem digs_cons (c : UInt8) (l : List UInt8) : digsJ (c :: l) = if dgJ c = true then 1 + digsJ l else 0 := by
  unfold digsJ
  rw [List.takeWhile_cons]
  split
  · simp; omega
  · rfl
/-- digits that are followed by none -/
theorem digs_stop {r : List UInt8} (h : stopJ r) : digsJ r = 0 := by
  cases r with
  | nil => rfl
  | cons c r => rw [digs_cons, if_neg (by rw [(h c r rfl).1]; simp)]
theorem digs_all {r : List UInt8} (h : stopJ r) : ∀ l : List UInt8, digsJ (l ++ r) = digsJ l
  | [] => digs_stop h
  | c :: l => by
    show digsJ (c :: (l ++ r)) = _
    rw [digs_cons, digs_cons, digs_all h l]
theorem drop_app {l r : List UInt8} {n : Nat} (h : n ≤ l.length) : (l ++ r).drop n = l.drop n ++ r := List.drop_append_of_le_length h
theorem exp_stop {r : List UInt8} (h : stopJ r) : ∀ l : List UInt8, expJ (l ++ r) = expJ l
  | [] => by
    show expJ r = 0
    cases r with
    | nil => rfl
    | cons c r =>
      obtain ⟨_, _, h1, h2, _⟩ := h c r rfl
      unfold expJ
      simp [h1, h2]
  | c :: l => by
    show expJ (c :: (l ++ r)) = expJ (c :: l)
    unfold expJ
    by_cases hc : c = 101 ∨ c = 69
    · simp only [if_pos hc]
      cases l with
      | nil =>
        simp only [List.nil_append]
        cases r with
        | nil => rfl
        | cons d r =>
          obtain ⟨_, _, _, _, h1, h2⟩ := h d r rfl
          simp only [if_neg (show ¬ (d = 43 ∨ d = 45) by rintro (e | e); (· exact h1 e); exact h2 e), List.drop_zero]
          rw [digs_stop h]; rfl
      | cons d l =>
        simp only [List.cons_append]
        have e : ∀ s, s ≤ 1 → ((d :: (l ++ r)).drop s) = (d :: l).drop s ++ r := fun s hs => by
          rw [← List.cons_append, drop_app (by simp; omega)]
        have hs : (if d = 43 ∨ d = 45 then 1 else 0) ≤ 1 := by split <;> omega
        rw [e _ hs, digs_all h]
    · simp only [if_neg hc]
theorem frac_stop {r : List UInt8} (h : stopJ r) : ∀ l : List UInt8, fracJ (l ++ r) = fracJ l
  | [] => by
    show fracJ r = 0
    cases r with
    | nil => rfl
    | cons c r =>
      obtain ⟨_, h0, _⟩ := h c r rfl
      unfold fracJ
      simp only [if_neg h0]
      exact exp_stop h []
  | c :: l => by
    show fracJ (c :: (l ++ r)) = fracJ (c :: l)
    unfold fracJ
    by_cases hc : c = 46
    · simp only [if_pos hc]
      rw [digs_all h, drop_app (digs_le l), exp_stop h]
    · simp only [if_neg hc]
      exact exp_stop h (c :: l)
/-- what follows a number that is told from it does not change it -/
theorem num_stop {r : List UInt8} (h : stopJ r) (l : List UInt8) (hl : l ≠ []) : numJ (l ++ r) = numJ l := by
  cases l with
  | nil => exact absurd rfl hl
  | cons c l =>
    show numJ (c :: (l ++ r)) = numJ (c :: l)
    have key : ∀ m : Nat, m ≤ 1 → (c :: (l ++ r)).drop m = (c :: l).drop m ++ r := fun m hm => by rw [← List.cons_append, drop_app (by simp; omega)]
    unfold numJ
    simp only
    have hm : (if c = 45 then 1 else 0) ≤ 1 := by split <;> omega
    rw [key _ hm]
    generalize (if c = 45 then 1 else 0) = m
    cases hd : (c :: l).drop m with
    | nil =>
      simp only [List.nil_append]
      cases r with
      | nil => rfl
      | cons d r =>
        have hs := h d r rfl
        have h48 : d ≠ 48 := fun e => by rw [e] at hs; exact absurd hs.1 (by decide)
        simp only [if_neg h48]
        rw [digs_stop h]; rfl
    | cons d t =>
      simp only [List.cons_append]
      by_cases h48 : d = 48
      · simp only [if_pos h48]; rw [frac_stop h]
      · simp only [if_neg h48]
        have e : d :: (t ++ r) = (d :: t) ++ r := rfl
        rw [e, digs_all h, drop_app (digs_le _), frac_stop h]
theorem num_le : ∀ l : List UInt8, numJ l ≤ l.length := by
  have he : ∀ l : List UInt8, expJ l ≤ l.length := fun l => by
    cases l with
    | nil => exact Nat.le_refl _
    | cons c r =>
      unfold expJ
      simp only
      split
      · cases r with
        | nil => simp [digsJ]
        | cons d r =>
          simp only
          generalize hs : (if d = 43 ∨ d = 45 then 1 else 0) = s
          have h1 : s ≤ 1 := by rw [← hs]; split <;> omega
          have h2 := digs_le ((d :: r).drop s)
          rw [List.length_drop] at h2
          simp only [List.length_cons] at h2 ⊢
          split <;> omega
      · omega
  have hf : ∀ l : List UInt8, fracJ l ≤ l.length := fun l => by
    cases l with
    | nil => exact Nat.le_refl _
    | cons c r =>
      unfold fracJ
      simp only
      split
      · have h1 := digs_le r
        have h2 := he (r.drop (digsJ r))
        rw [List.length_drop] at h2
        simp only [List.length_cons]
        split <;> omega
      · exact he _
  intro l
  cases l with
  | nil => exact Nat.le_refl _
  | cons c l =>
    unfold numJ
    simp only
    generalize hm : (if c = 45 then 1 else 0) = m
    have h1 : m ≤ 1 := by rw [← hm]; split <;> omega
    have hl : ((c :: l).drop m).length = l.length + 1 - m := by simp
    cases hd : (c :: l).drop m with
    | nil => simp
    | cons d t =>
      rw [hd] at hl
      simp only [List.length_cons] at hl ⊢
      split
      · have := hf t; omega
      · split
        · omega
        · have h2 := hf ((d :: t).drop (digsJ (d :: t)))
          have h3 := digs_le (d :: t)
          rw [List.length_drop] at h2
          simp only [List.length_cons] at h2 h3
          omega
/-- a text that begins with another byte begins with no number -/
theorem num_zero {c : UInt8} {r : List UInt8} (h1 : dgJ c = false) (h2 : c ≠ 45) : numJ (c :: r) = 0 := by
  have h48 : c ≠ 48 := fun e => by rw [e] at h1; exact absurd h1 (by decide)
  unfold numJ
  simp only [if_neg h2, List.drop_zero, if_neg h48]
  have h0 : digsJ (c :: r) = 0 := by rw [digs_cons, if_neg (by rw [h1]; simp)]
  rw [if_pos h0]
theorem num_head {c : UInt8} {r : List UInt8} (h : 0 < numJ (c :: r)) : dgJ c = true ∨ c = 45 := by
  by_cases h2 : c = 45
  · exact .inr h2
  · cases h1 : dgJ c with
    | true => exact .inl rfl
    | false => rw [num_zero h1 h2] at h; omega

/-! ## texts -/
theorem hex_digit (n : Nat) (h : n < 16) : digitJ (hexJ n) = some n := by
  have key : (List.range 16).all (fun n => digitJ (hexJ n) == some n) = true := by decide +kernel
  have := List.all_eq_true.1 key n (by simpa using h)
  simpa using this
theorem short_long : ∀ c d, shortJ c = some d → longJ d = some c ∧ d ≠ 117 := fun c d h => by
  have key := byte_all (fun c => match shortJ c with | some d => longJ d == some c && d != 117 | none => true) (by decide +kernel) c
  simp only [h] at key
  simpa using key
theorem textJ_step (f : Nat) (c : UInt8) (r : List UInt8) : textJ (f + 1) (c :: r) = if c = 34 then .ok ([], r) else if c = 92 then JRs.next (escJ (r.length + 1) r) fun a t => JRs.next (textJ f t) fun b u => .ok (a ++ b, u)
    else if c.toNat < 32 then .error (3, r.length + 1) else JRs.next (textJ f r) fun b u => .ok (c :: b, u) := rfl
theorem byteJ_read (c : UInt8) (f : Nat) (r : List UInt8) : textJ (f + 1) (byteJ c ++ r) = JRs.next (textJ f r) fun b u => .ok (c :: b, u) := by
  unfold byteJ
  cases hs : shortJ c with
  | some d =>
    obtain ⟨h1, h2⟩ := short_long c d hs
    show textJ (f + 1) (92 :: d :: r) = _
    have he : escJ ((d :: r).length + 1) (d :: r) = .ok ([c], r) := by
      unfold escJ
      simp only [if_neg h2, h1]
    rw [textJ_step, if_neg (by decide), if_pos rfl, he, jnext_pos]
    rfl
  | none =>
    have h34 : c ≠ 34 := by rintro rfl; cases hs
    have h92 : c ≠ 92 := by rintro rfl; cases hs
    by_cases h32 : c.toNat < 32
    · simp only [if_pos h32]
      show textJ (f + 1) (92 :: 117 :: 48 :: 48 :: hexJ (c.toNat / 16) :: hexJ (c.toNat % 16) :: r) = _
      have e0 : digitJ 48 = some 0 := by decide
      have e1 := hex_digit (c.toNat / 16) (by omega)
      have e2 := hex_digit (c.toNat % 16) (by omega)
      have hf : fourJ 4 0 (48 :: 48 :: hexJ (c.toNat / 16) :: hexJ (c.toNat % 16) :: r) = .ok (c.toNat, r) := by
        simp only [fourJ, e0, e1, e2]
        congr 2
        omega
      have hp : pointL (c.toNat : Int) = [c] := by
        unfold pointL
        rw [if_pos (by omega), byteOf_cast]
      have hm : mayB (c.toNat : Int) = true := by unfold mayB; rw [decide_eq_true_iff]; omega
      have he : ∀ m, escJ m (117 :: 48 :: 48 :: hexJ (c.toNat / 16) :: hexJ (c.toNat % 16) :: r) = .ok ([c], r) := fun m => by
        unfold escJ
        simp only [if_true, hf, jnext_pos]
        rw [if_neg (by omega)]
        unfold pointJ
        rw [if_pos hm, hp]
      rw [textJ_step, if_neg (by decide), if_pos rfl, he, jnext_pos]
      rfl
    · simp only [if_neg h32]
      show textJ (f + 1) (c :: r) = _
      rw [textJ_step, if_neg h34, if_neg h92, if_neg h32]
theorem byteJ_pos (c : UInt8) : 1 ≤ (byteJ c).length := by
  unfold byteJ
  cases shortJ c with
  | some d => simp
  | none => simp only; split <;> simp
theorem text_read (r : List UInt8) : ∀ (s : List UInt8) (f : Nat), s.length < f → textJ f (s.flatMap byteJ ++ 34 :: r) = .ok (s, r)
  | [], f + 1, _ => by show textJ (f + 1) (34 :: r) = _; unfold textJ; rw [if_pos rfl]
  | c :: s, f + 1, h => by
    simp only [List.length_cons] at h
    have e : (c :: s).flatMap byteJ ++ 34 :: r = byteJ c ++ (s.flatMap byteJ ++ 34 :: r) := by simp
    rw [e, byteJ_read, text_read r s f (by omega)]
    rfl
theorem flat_len1 (s : List UInt8) : s.length ≤ (s.flatMap byteJ).length := by
  induction s with
  | nil => exact Nat.le_refl _
  | cons c s ih =>
    have := byteJ_pos c
    simp only [List.flatMap_cons, List.length_append, List.length_cons]; omega
theorem str_read (s r : List UInt8) : strJ (quoteJ s ++ r) = .ok (s, r) := by
  unfold strJ quoteJ wantJ
  simp only [List.cons_append, isJ_cons, jnext_pos, List.append_assoc, List.nil_append]
  exact text_read r s _ (by have := flat_len1 s; simp only [List.length_append, List.length_cons]; omega)

/-! ## trees -/
theorem blank_not {c : UInt8} {r : List UInt8} (h : blankB c = false) : blankJ (c :: r) = c :: r := by unfold blankJ; rw [List.dropWhile_cons_of_neg (by rw [h]; simp)]
/-- a byte that a written tree may begin with -/
def headB (c : UInt8) : Bool := !blankB c && c != 93 && c != 125 && c != 44
theorem headB_blank {c : UInt8} (h : headB c = true) : blankB c = false ∧ c ≠ 93 ∧ c ≠ 125 ∧ c ≠ 44 := by
  unfold headB at h
  simpa [and_assoc] using h
theorem dg_head {c : UInt8} (h : dgJ c = true ∨ c = 45) : headB c = true ∧ c ≠ 110 ∧ c ≠ 102 ∧ c ≠ 116 := by
  have key := byte_all (fun c => decide ((dgJ c = true ∨ c = 45) → headB c = true ∧ c ≠ 110 ∧ c ≠ 102 ∧ c ≠ 116)) (by decide +kernel) c
  exact of_decide_eq_true key h
/-- what is right of a tree, part by part -/
theorem right_parts_J {d : Nat} {k : Int} {t : List UInt8} {ks : List (List UInt8)} {l : List Jt} (h : rightJ (d + 1) (.mk k t ks l) = none) :
    (1 ≤ k ∧ k ≤ 7) ∧ ((k = 4 ∨ k = 5 ∨ t = []) ∧ (k = 7 ∨ ks = []) ∧ (k = 7 → ks.length = l.length) ∧ (k = 7 ∨ k = 6 ∨ l = [])) ∧ ¬ ((k = 4 ∧ (t = [] ∨ numJ t ≠ t.length)) ∨ badL t ≠ none) ∧ (∀ x ∈ ks, badL x = none) ∧ ks.Nodup ∧ ∀ x ∈ l, rightJ d x = none := by
  unfold rightJ at h
  split at h
  · cases h
  · rename_i h1
    split at h
    · cases h
    · rename_i h2
      split at h
      · cases h
      · rename_i h3
        split at h
        · cases h
        · rename_i h4
          split at h
          · cases h
          · rename_i h5
            refine ⟨Decidable.not_not.1 h1, Decidable.not_not.1 h2, h3, fun x hx => ?_, Decidable.not_not.1 h5, fun x hx => ?_⟩
            · cases hb : badL x with
              | none => rfl
              | some i => exact absurd ⟨x, hx, by rw [hb]; simp⟩ h4
            · exact List.findSome?_eq_none_iff.1 h x hx
theorem right_of_J {d : Nat} {k : Int} {t : List UInt8} {ks : List (List UInt8)} {l : List Jt} (h1 : 1 ≤ k ∧ k ≤ 7) (h2 : (k = 4 ∨ k = 5 ∨ t = []) ∧ (k = 7 ∨ ks = []) ∧ (k = 7 → ks.length = l.length) ∧ (k = 7 ∨ k = 6 ∨ l = []))
    (h3 : ¬ ((k = 4 ∧ (t = [] ∨ numJ t ≠ t.length)) ∨ badL t ≠ none)) (h4 : ∀ x ∈ ks, badL x = none) (h5 : ks.Nodup) (h6 : ∀ x ∈ l, rightJ d x = none) : rightJ (d + 1) (.mk k t ks l) = none := by
  unfold rightJ
  rw [if_neg (fun h => h h1), if_neg (fun h => h h2), if_neg h3, if_neg (by rintro ⟨x, hx, hb⟩; exact hb (h4 x hx)), if_neg (fun h => h h5)]
  exact List.findSome?_eq_none_iff.2 h6
theorem kinds {k : Int} (h : 1 ≤ k ∧ k ≤ 7) : k = 1 ∨ k = 2 ∨ k = 3 ∨ k = 4 ∨ k = 5 ∨ k = 6 ∨ k = 7 := by omega
/-- a written tree begins with a byte of its own -/
theorem write_head {d : Nat} {j : Jt} (h : rightJ d j = none) : ∃ c r, writeJ d j = c :: r ∧ headB c = true := by
  cases d with
  | zero => cases h
  | succ d =>
    obtain ⟨k, t, ks, l⟩ := j
    obtain ⟨h1, h2, h3, _⟩ := right_parts_J h
    unfold writeJ
    rcases kinds h1 with rfl | rfl | rfl | rfl | rfl | rfl | rfl
    · exact ⟨_, _, rfl, by decide⟩
    · exact ⟨_, _, rfl, by decide⟩
    · exact ⟨_, _, rfl, by decide⟩
    · cases t with
      | nil => exact absurd (.inl ⟨rfl, .inl rfl⟩) h3
      | cons c r =>
        refine ⟨c, r, rfl, (dg_head (num_head (r := r) ?_)).1⟩
        have : numJ (c :: r) = (c :: r).length := Decidable.not_not.1 fun e => h3 (.inl ⟨rfl, .inr e⟩)
        rw [this]; simp
    · exact ⟨_, _, rfl, by decide⟩
    · exact ⟨_, _, rfl, by decide⟩
    · exact ⟨_, _, rfl, by decide⟩
theorem stop44 (r : List UInt8) : stopJ (44 :: r) := stop_cons (by decide)
theorem stop93 (r : List UInt8) : stopJ (93 :: r) := stop_cons (by decide)
theorem stop125 (r : List UInt8) : stopJ (125 :: r) := stop_cons (by decide)
theorem items_head {f : Jt → List UInt8} {obj : Bool} {ks : List (List UInt8)} {l : List Jt} {e : UInt8} {r : List UInt8} (he : e = 93 ∨ e = 125) : ∃ c t, itemsJ f obj false ks l ++ e :: r = c :: t ∧ (c = 44 ∨ c = e) := by
  cases l with
  | nil => exact ⟨_, _, rfl, .inr rfl⟩
  | cons x l => exact ⟨_, _, rfl, .inl rfl⟩
theorem items_stop {f : Jt → List UInt8} {obj : Bool} {ks : List (List UInt8)} {l : List Jt} {e : UInt8} {r : List UInt8} (he : e = 93 ∨ e = 125) : stopJ (itemsJ f obj false ks l ++ e :: r) ∧ blankJ (itemsJ f obj false ks l ++ e :: r) = itemsJ f obj false ks l ++ e :: r := by
  obtain ⟨c, t, h, hc⟩ := items_head (f := f) (obj := obj) (ks := ks) (l := l) (r := r) he
  rw [h]
  rcases hc with rfl | rfl
  · exact ⟨stop44 _, blank_not (by decide)⟩
  · rcases he with rfl | rfl
    · exact ⟨stop93 _, blank_not (by decide)⟩
    · exact ⟨stop125 _, blank_not (by decide)⟩
theorem elems_read {d : Nat} (ih : ∀ x, rightJ d x = none → ∀ r, stopJ r → treeJ d (writeJ d x ++ r) = .ok (x, r)) (ks : List (List UInt8)) (r : List UInt8) :
    ∀ (l : List Jt) (n : Nat) (first : Bool), l.length < n → (∀ x ∈ l, rightJ d x = none) → elemsJ (treeJ d) n (!first) (itemsJ (writeJ d) false first ks l ++ 93 :: r) = .ok (l, r)
  | [], n + 1, first, _, _ => by
    show elemsJ (treeJ d) (n + 1) (!first) (93 :: r) = _
    unfold elemsJ
    rw [isJ_cons]
  | x :: l, n + 1, first, hn, hr => by
    simp only [List.length_cons] at hn
    obtain ⟨c, w, hw, hc⟩ := write_head (hr x List.mem_cons_self)
    obtain ⟨_, c1, _, _⟩ := headB_blank hc
    obtain ⟨s1, s2⟩ := items_stop (f := writeJ d) (obj := false) (ks := ks.tail) (l := l) (e := 93) (r := r) (.inl rfl)
    have hx := ih x (hr x List.mem_cons_self) (itemsJ (writeJ d) false false ks.tail l ++ 93 :: r) s1
    have hl := elems_read ih ks.tail r l n false (by omega) fun y hy => hr y (List.mem_cons_of_mem _ hy)
    have e : itemsJ (writeJ d) false first ks (x :: l) ++ 93 :: r = (if first then [] else [44]) ++ (writeJ d x ++ (itemsJ (writeJ d) false false ks.tail l ++ 93 :: r)) := by simp [itemsJ]
    rw [e]
    unfold elemsJ
    cases first with
    | true =>
      have h0 : isJ 93 (writeJ d x ++ (itemsJ (writeJ d) false false ks.tail l ++ 93 :: r)) = none := isJ_not (by rw [hw]; simpa using c1)
      simp only [if_true, List.nil_append, h0, Bool.not_true, Bool.false_eq_true, if_false, jnext_pos, hx, s2]
      rw [show (!false) = true from rfl] at hl
      rw [hl]; rfl
    | false =>
      have h0 : isJ 93 (44 :: (writeJ d x ++ (itemsJ (writeJ d) false false ks.tail l ++ 93 :: r))) = none := isJ_not (by simp)
      simp only [Bool.false_eq_true, if_false, List.cons_append, List.nil_append, h0, Bool.not_false, if_true, wantJ, isJ_cons, jnext_pos, hx, s2]
      rw [show (!false) = true from rfl] at hl
      rw [hl]; rfl
theorem memb_read {d : Nat} (ih : ∀ x, rightJ d x = none → ∀ r, stopJ r → treeJ d (writeJ d x ++ r) = .ok (x, r)) (r : List UInt8) :
    ∀ (l : List Jt) (ks pre : List (List UInt8)) (n : Nat), l.length < n → ks.length = l.length → (pre ++ ks).Nodup → (∀ x ∈ l, rightJ d x = none) → membJ (treeJ d) n pre (itemsJ (writeJ d) true pre.isEmpty ks l ++ 125 :: r) = .ok ((ks, l), r)
  | [], [], pre, n + 1, _, _, _, _ => by
    show membJ (treeJ d) (n + 1) pre (125 :: r) = _
    unfold membJ
    rw [isJ_cons]
  | [], k :: ks, pre, n, _, h, _, _ => by simp at h
  | x :: l, [], pre, n, _, h, _, _ => by simp at h
  | x :: l, k :: ks, pre, n + 1, hn, hk, hd, hr => by
    simp only [List.length_cons] at hn hk
    obtain ⟨c, w, hw, hc⟩ := write_head (hr x List.mem_cons_self)
    obtain ⟨s1, s2⟩ := items_stop (f := writeJ d) (obj := true) (ks := ks) (l := l) (e := 125) (r := r) (.inr rfl)
    have hx := ih x (hr x List.mem_cons_self) (itemsJ (writeJ d) true false ks l ++ 125 :: r) s1
    have hl := memb_read ih r l ks (pre ++ [k]) n (by omega) (by omega) (by simpa using hd) fun y hy => hr y (List.mem_cons_of_mem _ hy)
    have hpe : (pre ++ [k]).isEmpty = false := by simp
    rw [hpe] at hl
    have hkn : k ∉ pre := by
      intro hm
      have := List.nodup_append.1 hd
      exact this.2.2 k hm k List.mem_cons_self rfl
    have e : itemsJ (writeJ d) true pre.isEmpty (k :: ks) (x :: l) ++ 125 :: r = (if pre.isEmpty then [] else [44]) ++ (quoteJ k ++ 58 :: (writeJ d x ++ (itemsJ (writeJ d) true false ks l ++ 125 :: r))) := by simp [itemsJ]
    have hs := str_read k (58 :: (writeJ d x ++ (itemsJ (writeJ d) true false ks l ++ 125 :: r)))
    have hb : blankJ (58 :: (writeJ d x ++ (itemsJ (writeJ d) true false ks l ++ 125 :: r))) = 58 :: (writeJ d x ++ (itemsJ (writeJ d) true false ks l ++ 125 :: r)) := blank_not (by decide)
    obtain ⟨q, hq⟩ : ∃ q, quoteJ k ++ 58 :: (writeJ d x ++ (itemsJ (writeJ d) true false ks l ++ 125 :: r)) = 34 :: q := ⟨_, rfl⟩
    rw [e]
    rw [hq] at hs ⊢
    unfold membJ
    cases pre with
    | nil =>
      have h0 : isJ 125 (34 :: q) = none := isJ_not (by simp)
      simp only [List.isEmpty_nil, if_true, List.nil_append, h0, jnext_pos, hs, hb, wantJ, isJ_cons, hx, s2, List.not_mem_nil, if_false]
      simp only [List.nil_append] at hl
      rw [hl]; rfl
    | cons p pre =>
      have h0 : isJ 125 (44 :: 34 :: q) = none := isJ_not (by simp)
      have hb2 : blankJ (34 :: q) = 34 :: q := blank_not (by decide)
      simp only [List.isEmpty_cons, Bool.false_eq_true, if_false, List.cons_append, List.nil_append, h0, reduceCtorEq, wantJ, isJ_cons, jnext_pos, hb2, hs, hb, if_neg hkn, hx, s2]
      simp only [List.cons_append] at hl
      rw [hl]; rfl
theorem items_len {d : Nat} : ∀ (l : List Jt) (obj first : Bool) (ks : List (List UInt8)), (∀ x ∈ l, rightJ d x = none) → l.length ≤ (itemsJ (writeJ d) obj first ks l).length
  | [], _, _, _, _ => Nat.zero_le _
  | x :: l, obj, first, ks, h => by
    have := items_len l obj false ks.tail fun y hy => h y (List.mem_cons_of_mem _ hy)
    obtain ⟨c, w, hw, _⟩ := write_head (h x List.mem_cons_self)
    simp only [itemsJ, List.length_append, List.length_cons, hw]; omega
theorem tree_pre {d : Nat} {c : UInt8} {r : List UInt8} (hb : blankB c = false) (h1 : c ≠ 110) (h2 : c ≠ 102) (h3 : c ≠ 116) (hd : dgJ c = false) (h4 : c ≠ 45) : treeJ (d + 1) (c :: r) =
    if c = 34 then JRs.next (strJ (c :: r)) fun s t => .ok (.mk 5 s [] [], t)
    else if c = 91 then JRs.next (elemsJ (treeJ d) (r.length + 1) false (blankJ r)) fun xs t => .ok (.mk 6 [] [] xs, t)
    else if c = 123 then JRs.next (membJ (treeJ d) (r.length + 1) [] (blankJ r)) fun p t => .ok (.mk 7 [] p.1 p.2, t)
    else .error (3, r.length + 1) := by
  have e1 : (c :: r).take 4 ≠ nullJ := fun e => h1 (by injection e)
  have e2 : (c :: r).take 5 ≠ falseJ := fun e => h2 (by injection e)
  have e3 : (c :: r).take 4 ≠ trueJ := fun e => h3 (by injection e)
  unfold treeJ
  rw [blank_not hb, if_neg e1, if_neg e2, if_neg e3, if_neg (by rw [num_zero hd h4]; omega)]
/-- WHAT IS WRITTEN IS READ -/
theorem tree_read : ∀ (d : Nat) (j : Jt), rightJ d j = none → ∀ r, stopJ r → treeJ d (writeJ d j ++ r) = .ok (j, r)
  | 0, j, h, _, _ => by cases h
  | d + 1, .mk k t ks l, h, r, hr => by
    have ih := tree_read d
    obtain ⟨h1, ⟨ha, hb, hc7, hc⟩, h3, h4, h5, h6⟩ := right_parts_J h
    unfold writeJ
    rcases kinds h1 with rfl | rfl | rfl | rfl | rfl | rfl | rfl
    · obtain rfl : t = [] := by simpa using ha
      obtain rfl : ks = [] := by simpa using hb
      obtain rfl : l = [] := by simpa using hc
      rfl
    · obtain rfl : t = [] := by simpa using ha
      obtain rfl : ks = [] := by simpa using hb
      obtain rfl : l = [] := by simpa using hc
      rfl
    · obtain rfl : t = [] := by simpa using ha
      obtain rfl : ks = [] := by simpa using hb
      obtain rfl : l = [] := by simpa using hc
      rfl
    · obtain rfl : ks = [] := by simpa using hb
      obtain rfl : l = [] := by simpa using hc
      have hne : t ≠ [] := fun e => h3 (.inl ⟨rfl, .inl e⟩)
      have hnum : numJ t = t.length := Decidable.not_not.1 fun e => h3 (.inl ⟨rfl, .inr e⟩)
      have hns : numJ (t ++ r) = t.length := by rw [num_stop hr t hne, hnum]
      show treeJ (d + 1) (t ++ r) = _
      cases t with
      | nil => exact absurd rfl hne
      | cons c t =>
        obtain ⟨g1, g2, g3, g4⟩ := dg_head (num_head (r := t) (by rw [hnum]; simp))
        have e1 : (c :: (t ++ r)).take 4 ≠ nullJ := fun e => g2 (by injection e)
        have e2 : (c :: (t ++ r)).take 5 ≠ falseJ := fun e => g3 (by injection e)
        have e3 : (c :: (t ++ r)).take 4 ≠ trueJ := fun e => g4 (by injection e)
        rw [List.cons_append]
        unfold treeJ
        have hns' : numJ (c :: (t ++ r)) = (c :: t).length := hns
        rw [blank_not (headB_blank g1).1, if_neg e1, if_neg e2, if_neg e3, hns', if_pos (by simp)]
        congr 2
        · rw [← List.cons_append, List.take_left']; rfl
        · rw [← List.cons_append, List.drop_left']; rfl
    · obtain rfl : ks = [] := by simpa using hb
      obtain rfl : l = [] := by simpa using hc
      show treeJ (d + 1) (34 :: ((t.flatMap byteJ ++ [34]) ++ r)) = _
      have := str_read t r
      rw [show quoteJ t ++ r = 34 :: ((t.flatMap byteJ ++ [34]) ++ r) from rfl] at this
      rw [tree_pre (by decide) (by decide) (by decide) (by decide) (by decide) (by decide), if_pos rfl, this, jnext_pos]
    · obtain rfl : t = [] := by simpa using ha
      obtain rfl : ks = [] := by simpa using hb
      show treeJ (d + 1) (91 :: ((itemsJ (writeJ d) false true [] l ++ [93]) ++ r)) = _
      have e : (itemsJ (writeJ d) false true [] l ++ [93]) ++ r = itemsJ (writeJ d) false true [] l ++ 93 :: r := by simp
      have hb2 : blankJ (itemsJ (writeJ d) false true [] l ++ 93 :: r) = itemsJ (writeJ d) false true [] l ++ 93 :: r := by
        cases l with
        | nil => exact blank_not (by decide)
        | cons x l =>
          obtain ⟨c, w, hw, hc⟩ := write_head (h6 x List.mem_cons_self)
          simp only [itemsJ, hw, if_true, List.nil_append, Bool.false_eq_true, if_false, List.cons_append]
          exact blank_not (headB_blank hc).1
      have hl := items_len l false true [] h6
      rw [tree_pre (by decide) (by decide) (by decide) (by decide) (by decide) (by decide), if_neg (by decide), if_pos rfl, e, hb2]
      have hm := elems_read ih [] r l ((itemsJ (writeJ d) false true [] l ++ 93 :: r).length + 1) true (by simp only [List.length_append]; omega) h6
      rw [show (!true) = false from rfl] at hm
      rw [hm, jnext_pos]
    · obtain rfl : t = [] := by simpa using ha
      have hkl : ks.length = l.length := hc7 rfl
      show treeJ (d + 1) (123 :: ((itemsJ (writeJ d) true true ks l ++ [125]) ++ r)) = _
      have e : (itemsJ (writeJ d) true true ks l ++ [125]) ++ r = itemsJ (writeJ d) true true ks l ++ 125 :: r := by simp
      have hb2 : blankJ (itemsJ (writeJ d) true true ks l ++ 125 :: r) = itemsJ (writeJ d) true true ks l ++ 125 :: r := by
        cases l with
        | nil => exact blank_not (by decide)
        | cons x l =>
          simp only [itemsJ, if_true, List.nil_append, quoteJ, List.cons_append]
          exact blank_not (by decide)
      have hl := items_len l true true ks h6
      have hm := memb_read ih r l ks [] ((itemsJ (writeJ d) true true ks l ++ 125 :: r).length + 1) (by simp only [List.length_append]; omega) hkl (by simpa using h5) h6
      rw [tree_pre (by decide) (by decide) (by decide) (by decide) (by decide) (by decide), if_neg (by decide), if_neg (by decide), if_pos rfl, e, hb2]
      rw [show ([] : List (List UInt8)).isEmpty = true from rfl] at hm
      rw [hm, jnext_pos]

end Go.Proofs.YtlejbindochiiaaDoor
