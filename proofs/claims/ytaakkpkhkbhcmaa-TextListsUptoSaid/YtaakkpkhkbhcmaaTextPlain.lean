/-
  Texts, lists of them, and lists of these: reading and writing. Plain.
-/
import Derived.Test.YtaakkpkhkbhcmaaReplLen
import Derived.Test.YtaakkpkhkbhcmaaSplit
namespace Go.Proofs.Ytaakkpkhkbhcmaa
open Go.RowKit
set_option linter.unusedVariables false
set_option linter.unusedSimpArgs false

/-- the accumulators stand ahead of what is read -/
theorem pieces_acc (a : List UInt8) : ∀ (n : Nat) (s : List UInt8), s.length ≤ n → ∀ (k : Nat) (cur : List UInt8) (ts : List (List UInt8)) (cs : List UInt8) (T : List (List UInt8)) (C : List UInt8), piecesGo a s k cur ts cs = .good T C →
    ∃ T' C', T = ts ++ T' ∧ C = cs ++ C' ∧ T'.length = C'.length + 1 ∧ ∀ k' ts' cs', piecesGo a s k' cur ts' cs' = .good (ts' ++ T') (cs' ++ C') := by
  intro n
  induction n with
  | zero =>
    intro s hs k cur ts cs T C h
    have : s = [] := List.eq_nil_of_length_eq_zero (by omega)
    subst this
    rw [pieces_nil] at h
    injection h with h1 h2
    exact ⟨[cur], [], h1.symm, by simp [h2], rfl, fun k' ts' cs' => by rw [pieces_nil]; simp⟩
  | succ n ih =>
    intro s hs k cur ts cs T C h
    match s, hs, h with
    | [], _, h =>
      rw [pieces_nil] at h
      injection h with h1 h2
      exact ⟨[cur], [], h1.symm, by simp [h2], rfl, fun k' ts' cs' => by rw [pieces_nil]; simp⟩
    | c :: t, hs, h =>
      by_cases h92 : c = 92
      · subst h92
        match t, hs, h with
        | [], _, h => rw [pieces_end] at h; cases h
        | d :: t, hs, h =>
          cases hu : unescB d with
          | none => rw [pieces_none hu] at h; cases h
          | some x =>
            rw [pieces_esc hu] at h
            obtain ⟨T', C', h1, h2, h3, h4⟩ := ih t (by simp at hs; omega) _ _ _ _ _ _ h
            exact ⟨T', C', h1, h2, h3, fun k' ts' cs' => by rw [pieces_esc hu]; exact h4 _ _ _⟩
      · cases hc : a.contains c with
        | true =>
          rw [pieces_cut h92 hc] at h
          obtain ⟨T', C', h1, h2, h3, h4⟩ := ih t (by simp at hs; omega) _ _ _ _ _ _ h
          exact ⟨cur :: T', c :: C', by rw [h1]; simp, by rw [h2]; simp, by simp [h3], fun k' ts' cs' => by rw [pieces_cut h92 hc, h4]; simp⟩
        | false =>
          rw [pieces_one h92 hc] at h
          obtain ⟨T', C', h1, h2, h3, h4⟩ := ih t (by simp at hs; omega) _ _ _ _ _ _ h
          exact ⟨T', C', h1, h2, h3, fun k' ts' cs' => by rw [pieces_one h92 hc]; exact h4 _ _ _⟩
/-- what is good goes on with what stands behind -/
theorem pieces_append (a : List UInt8) (c : UInt8) (hc : a.contains c = true) (h92 : c ≠ 92) (r : List UInt8) : ∀ (n : Nat) (s : List UInt8), s.length ≤ n → ∀ (k : Nat) (cur : List UInt8) (ts : List (List UInt8)) (cs : List UInt8) (T : List (List UInt8)) (C : List UInt8), piecesGo a s k cur ts cs = .good T C →
    ∃ k', piecesGo a (s ++ c :: r) k cur ts cs = piecesGo a r k' [] T (C ++ [c]) := by
  intro n
  induction n with
  | zero =>
    intro s hs k cur ts cs T C h
    have : s = [] := List.eq_nil_of_length_eq_zero (by omega)
    subst this
    rw [pieces_nil] at h
    injection h with h1 h2
    subst h1; subst h2
    exact ⟨k + 1, pieces_cut h92 hc⟩
  | succ n ih =>
    intro s hs k cur ts cs T C h
    match s, hs, h with
    | [], _, h =>
      rw [pieces_nil] at h
      injection h with h1 h2
      subst h1; subst h2
      exact ⟨k + 1, pieces_cut h92 hc⟩
    | e :: t, hs, h =>
      by_cases he : e = 92
      · subst he
        match t, hs, h with
        | [], _, h => rw [pieces_end] at h; cases h
        | d :: t, hs, h =>
          cases hu : unescB d with
          | none => rw [pieces_none hu] at h; cases h
          | some x =>
            rw [pieces_esc hu] at h
            obtain ⟨k', h1⟩ := ih t (by simp at hs; omega) _ _ _ _ _ _ h
            exact ⟨k', by show piecesGo a (92 :: d :: (t ++ c :: r)) k cur ts cs = _; rw [pieces_esc hu]; exact h1⟩
      · cases hc2 : a.contains e with
        | true =>
          rw [pieces_cut he hc2] at h
          obtain ⟨k', h1⟩ := ih t (by simp at hs; omega) _ _ _ _ _ _ h
          exact ⟨k', by show piecesGo a (e :: (t ++ c :: r)) k cur ts cs = _; rw [pieces_cut he hc2]; exact h1⟩
        | false =>
          rw [pieces_one he hc2] at h
          obtain ⟨k', h1⟩ := ih t (by simp at hs; omega) _ _ _ _ _ _ h
          exact ⟨k', by show piecesGo a (e :: (t ++ c :: r)) k cur ts cs = _; rw [pieces_one he hc2]; exact h1⟩

/-- the lists: at each semicolon another one begins -/
def partsOf : List (List UInt8) → List UInt8 → List (List UInt8) → List (List (List UInt8))
  | cur, [], _ => [cur]
  | cur, _ :: _, [] => [cur]
  | cur, c :: cs, t :: ts => if c = 59 then cur :: partsOf [t] cs ts else partsOf (cur ++ [t]) cs ts
theorem parts_append (Cb : List UInt8) (t0 : List UInt8) (Tb : List (List UInt8)) : ∀ (Ca : List UInt8) (Ta : List (List UInt8)) (cur : List (List UInt8)), Ta.length = Ca.length →
    partsOf cur (Ca ++ 59 :: Cb) (Ta ++ t0 :: Tb) = partsOf cur Ca Ta ++ partsOf [t0] Cb Tb := by
  intro Ca
  induction Ca with
  | nil =>
    intro Ta cur h
    have : Ta = [] := List.eq_nil_of_length_eq_zero (by simpa using h)
    subst this
    rfl
  | cons c Ca ih =>
    intro Ta cur h
    cases Ta with
    | nil => simp at h
    | cons t Ta =>
      have e : ∀ (X : List UInt8) (Y : List (List UInt8)), partsOf cur (c :: X) (t :: Y) = if c = 59 then cur :: partsOf [t] X Y else partsOf (cur ++ [t]) X Y := fun _ _ => rfl
      rw [List.cons_append, List.cons_append, e, e]
      split
      · rw [ih Ta [t] (by simpa using h)]; rfl
      · exact ih Ta (cur ++ [t]) (by simpa using h)

/-- a list as a text -/
def joinL : List (List UInt8) → List UInt8
  | [] => []
  | x :: xs => joinS [44] (escL x) (xs.map escL)
theorem pieces_joinL (a : List UInt8) (ha : ∀ c ∈ a, c = 44 ∨ c = 59) (h44 : a.contains 44 = true) (xs : List (List UInt8)) : ∀ (x : List UInt8) (r : List UInt8) (k : Nat) (ts : List (List UInt8)) (cs : List UInt8),
    ∃ k' init last, x :: xs = init ++ [last] ∧ piecesGo a (joinL (x :: xs) ++ r) k [] ts cs = piecesGo a r k' last (ts ++ init) (cs ++ List.replicate xs.length 44) := by
  induction xs with
  | nil =>
    intro x r k ts cs
    refine ⟨k + (escL x).length, [], x, rfl, ?_⟩
    show piecesGo a (escL x ++ r) k [] ts cs = _
    rw [pieces_escL a ha]
    simp
  | cons y xs ih =>
    intro x r k ts cs
    obtain ⟨k', init, last, h1, h2⟩ := ih y r (k + (escL x).length + 1) (ts ++ [x]) (cs ++ [44])
    refine ⟨k', x :: init, last, by rw [h1]; rfl, ?_⟩
    have e : joinL (x :: y :: xs) ++ r = escL x ++ (44 :: (joinL (y :: xs) ++ r)) := by
      show (escL x ++ ([44] ++ joinS [44] (escL y) (xs.map escL))) ++ r = _
      simp [joinL]
    rw [e, pieces_escL a ha, pieces_cut (by decide) h44]
    simp only [List.nil_append]
    rw [h2]
    simp [List.replicate_succ]
theorem list_back (x : List UInt8) (xs : List (List UInt8)) : piecesGo [44] (joinL (x :: xs)) 0 [] [] [] = .good (x :: xs) (List.replicate xs.length 44) := by
  obtain ⟨k', init, last, h1, h2⟩ := pieces_joinL [44] (by simp) rfl xs x [] 0 [] []
  rw [List.append_nil] at h2
  rw [h2, pieces_nil, h1]; simp
/-- lists as a text -/
def joinP : List (List (List UInt8)) → List UInt8
  | [] => []
  | x :: xs => joinS [59] (joinL x) (xs.map joinL)
theorem parts_one : ∀ (xs : List (List UInt8)) (cur : List (List UInt8)), partsOf cur (List.replicate xs.length 44) xs = [cur ++ xs] := by
  intro xs
  induction xs with
  | nil => intro cur; simp [partsOf]
  | cons y ys ih =>
    intro cur
    show (if (44 : UInt8) = 59 then _ else partsOf (cur ++ [y]) (List.replicate ys.length 44) ys) = _
    rw [if_neg (by decide), ih]; simp
theorem parts_pieces (ls : List (List (List UInt8))) : ∀ (l : List (List UInt8)), l ≠ [] → (∀ m ∈ ls, m ≠ []) → ∀ (k : Nat) (ts : List (List UInt8)) (cs : List UInt8),
    ∃ x xs C, piecesGo [44, 59] (joinP (l :: ls)) k [] ts cs = .good (ts ++ x :: xs) (cs ++ C) ∧ xs.length = C.length ∧ partsOf [x] C xs = l :: ls := by
  induction ls with
  | nil =>
    intro l hl _ k ts cs
    obtain ⟨x, xs, rfl⟩ : ∃ x xs, l = x :: xs := by cases l with | nil => exact absurd rfl hl | cons x xs => exact ⟨x, xs, rfl⟩
    obtain ⟨k', init, last, h1, h2⟩ := pieces_joinL [44, 59] (by simp) rfl xs x [] k ts cs
    rw [List.append_nil] at h2
    refine ⟨x, xs, List.replicate xs.length 44, ?_, by simp, parts_one xs [x]⟩
    show piecesGo [44, 59] (joinL (x :: xs)) k [] ts cs = _
    rw [h2, pieces_nil, h1]; simp
  | cons m ls ih =>
    intro l hl hls k ts cs
    obtain ⟨x, xs, rfl⟩ : ∃ x xs, l = x :: xs := by cases l with | nil => exact absurd rfl hl | cons x xs => exact ⟨x, xs, rfl⟩
    obtain ⟨k', init, last, h1, h2⟩ := pieces_joinL [44, 59] (by simp) rfl xs x (59 :: joinP (m :: ls)) k ts cs
    obtain ⟨y, ys, C, h3, h4, h5⟩ := ih m (hls m List.mem_cons_self) (fun q hq => hls q (List.mem_cons_of_mem _ hq)) (k' + 1) (ts ++ init ++ [last]) (cs ++ List.replicate xs.length 44 ++ [59])
    refine ⟨x, xs ++ y :: ys, List.replicate xs.length 44 ++ 59 :: C, ?_, by simp [h4], ?_⟩
    · have e : joinP ((x :: xs) :: m :: ls) = joinL (x :: xs) ++ 59 :: joinP (m :: ls) := by
        show joinL (x :: xs) ++ ([59] ++ joinS [59] (joinL m) (ls.map joinL)) = _
        rfl
      rw [e, h2, pieces_cut (by decide) rfl, h3]
      have : x :: (xs ++ y :: ys) = init ++ [last] ++ y :: ys := by rw [← h1]; rfl
      rw [this]; simp
    · rw [parts_append C y ys (List.replicate xs.length 44) xs [x] (by simp), parts_one, h5]; rfl

/-! ## whatever it is cut at, the same is wrong -/
theorem pieces_bad (a b : List UInt8) (ha : ∀ c ∈ a, c = 44 ∨ c = 59) (hb : ∀ c ∈ b, c = 44 ∨ c = 59) : ∀ (n : Nat) (s : List UInt8), s.length ≤ n → ∀ (k : Nat) cur ts cs cur' ts' cs' (e : Int) (p : Nat), piecesGo a s k cur ts cs = .bad e p → piecesGo b s k cur' ts' cs' = .bad e p := by
  intro n
  induction n with
  | zero =>
    intro s hs k cur ts cs cur' ts' cs' e p h
    have : s = [] := List.eq_nil_of_length_eq_zero (by omega)
    subst this
    rw [pieces_nil] at h; cases h
  | succ n ih =>
    intro s hs k cur ts cs cur' ts' cs' e p h
    match s, hs, h with
    | [], _, h => rw [pieces_nil] at h; cases h
    | c :: t, hs, h =>
      by_cases h92 : c = 92
      · subst h92
        match t, hs, h with
        | [], _, h => rw [pieces_end] at h ⊢; exact h
        | d :: t, hs, h =>
          cases hu : unescB d with
          | none => rw [pieces_none hu] at h ⊢; exact h
          | some x =>
            rw [pieces_esc hu] at h ⊢
            exact ih t (by simp at hs; omega) _ _ _ _ _ _ _ _ _ h
      · have hR : ∃ cur1 ts1 cs1, piecesGo a (c :: t) k cur ts cs = piecesGo a t (k + 1) cur1 ts1 cs1 := by
          cases hc : a.contains c with
          | true => exact ⟨_, _, _, pieces_cut h92 hc⟩
          | false => exact ⟨_, _, _, pieces_one h92 hc⟩
        obtain ⟨cur1, ts1, cs1, hR⟩ := hR
        rw [hR] at h
        cases hc : b.contains c with
        | true => rw [pieces_cut h92 hc]; exact ih t (by simp at hs; omega) _ _ _ _ _ _ _ _ _ h
        | false => rw [pieces_one h92 hc]; exact ih t (by simp at hs; omega) _ _ _ _ _ _ _ _ _ h
/-- as one text, and as a list -/
theorem pieces_text : ∀ (n : Nat) (s : List UInt8), s.length ≤ n → ∀ (k : Nat) (cur : List UInt8) (ts : List (List UInt8)) (cs : List UInt8) (T : List (List UInt8)) (C : List UInt8), piecesGo [44] s k cur ts cs = .good T C →
    ∀ cur0, cur0 = Lib.join (ts ++ [cur]) [44] → piecesGo [] s k cur0 [] [] = .good [Lib.join T [44]] [] := by
  have jn : ∀ (ts : List (List UInt8)) (q : List UInt8) (x : UInt8), Lib.join (ts ++ [q ++ [x]]) [44] = Lib.join (ts ++ [q]) [44] ++ [x] := by
    intro ts q x
    cases ts with
    | nil => simp [Lib.join_one]
    | cons t ts =>
      rw [List.cons_append, List.cons_append, Lib.join_cons, Lib.join_cons]
      simp [Lib.joinTail]
  have jc : ∀ (ts : List (List UInt8)) (q : List UInt8), Lib.join (ts ++ [q] ++ [[]]) [44] = Lib.join (ts ++ [q]) [44] ++ [44] := by
    intro ts q
    cases ts with
    | nil => simp [Lib.join_cons, Lib.joinTail]
    | cons t ts =>
      rw [List.cons_append, List.cons_append, Lib.join_cons, Lib.join_cons]
      simp [Lib.joinTail]
  intro n
  induction n with
  | zero =>
    intro s hs k cur ts cs T C h cur0 hc0
    have : s = [] := List.eq_nil_of_length_eq_zero (by omega)
    subst this
    rw [pieces_nil] at h ⊢
    injection h with h1 h2
    rw [← h1, hc0]; rfl
  | succ n ih =>
    intro s hs k cur ts cs T C h cur0 hc0
    match s, hs, h with
    | [], _, h =>
      rw [pieces_nil] at h ⊢
      injection h with h1 h2
      rw [← h1, hc0]; rfl
    | c :: t, hs, h =>
      by_cases h92 : c = 92
      · subst h92
        match t, hs, h with
        | [], _, h => rw [pieces_end] at h; cases h
        | d :: t, hs, h =>
          cases hu : unescB d with
          | none => rw [pieces_none hu] at h; cases h
          | some x =>
            rw [pieces_esc hu] at h ⊢
            exact ih t (by simp at hs; omega) _ _ _ _ _ _ h _ (by rw [hc0, jn])
      · rw [pieces_one h92 rfl]
        cases hc : ([44] : List UInt8).contains c with
        | true =>
          have h44 : c = 44 := by simpa using hc
          subst h44
          rw [pieces_cut h92 hc] at h
          exact ih t (by simp at hs; omega) _ _ _ _ _ _ h _ (by rw [hc0, jc])
        | false =>
          rw [pieces_one h92 hc] at h
          exact ih t (by simp at hs; omega) _ _ _ _ _ _ h _ (by rw [hc0, jn])

end Go.Proofs.Ytaakkpkhkbhcmaa
