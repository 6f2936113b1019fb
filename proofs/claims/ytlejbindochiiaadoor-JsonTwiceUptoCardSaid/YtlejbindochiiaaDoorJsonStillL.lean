/-
  What json.Read reads is right, and is no shorter than it is written. Plain.
-/
import Derived.Test.YtlejbindochiiaaDoorJsonBackL
namespace Go.Proofs.YtlejbindochiiaaDoor
open Go.RowKit
set_option linter.unusedVariables false
set_option linter.unusedSimpArgs false

/-! ## numbers -/
theorem takeWhile_take (p : UInt8 → Bool) : ∀ (l : List UInt8) (m : Nat), ((l.take m).takeWhile p).length = min (l.takeWhile p).length m
  | [], m => by simp
  | c :: l, 0 => by simp
  | c :: l, m + 1 => by
    rw [List.take_succ_cons, List.takeWhile_cons, List.takeWhile_cons]
    split
    · simp only [List.length_cons, takeWhile_take p l m]; omega
    · simp
theorem digs_take (l : List UInt8) (m : Nat) : digsJ (l.take m) = min (digsJ l) m := takeWhile_take dgJ l m
theorem exp_cons (c : UInt8) (r : List UInt8) : expJ (c :: r) = if c = 101 ∨ c = 69 then (if digsJ (r.drop (match r with | d :: _ => if d = 43 ∨ d = 45 then 1 else 0 | [] => 0)) = 0 then 0 else 1 + (match r with | d :: _ => if d = 43 ∨ d = 45 then 1 else 0 | [] => 0) + digsJ (r.drop (match r with | d :: _ => if d = 43 ∨ d = 45 then 1 else 0 | [] => 0))) else 0 := rfl
def signJ (r : List UInt8) : Nat := match r with | d :: _ => if d = 43 ∨ d = 45 then 1 else 0 | [] => 0
theorem exp_cons' (c : UInt8) (r : List UInt8) : expJ (c :: r) = if c = 101 ∨ c = 69 then (if digsJ (r.drop (signJ r)) = 0 then 0 else 1 + signJ r + digsJ (r.drop (signJ r))) else 0 := rfl
theorem sign_cons (d : UInt8) (r : List UInt8) : signJ (d :: r) = if d = 43 ∨ d = 45 then 1 else 0 := rfl
theorem sign_le (r : List UInt8) : signJ r ≤ 1 := by unfold signJ; split <;> (try split) <;> omega
theorem sign_take (r : List UInt8) (m : Nat) (h : 1 ≤ m) : signJ (r.take m) = signJ r := by
  cases r with
  | nil => simp
  | cons d r => cases m with
    | zero => omega
    | succ m => rfl
theorem exp_take (l : List UInt8) : expJ (l.take (expJ l)) = expJ l := by
  cases l with
  | nil => rfl
  | cons c r =>
    have e := exp_cons' c r
    by_cases hc : c = 101 ∨ c = 69
    · rw [if_pos hc] at e
      by_cases hd : digsJ (r.drop (signJ r)) = 0
      · rw [if_pos hd] at e; rw [e]; rfl
      · rw [if_neg hd] at e
        rw [e]
        have e1 : 1 + signJ r + digsJ (r.drop (signJ r)) = (signJ r + digsJ (r.drop (signJ r))) + 1 := by omega
        have hs : signJ (r.take (signJ r + digsJ (r.drop (signJ r)))) = signJ r := sign_take _ _ (by omega)
        rw [e1, List.take_succ_cons, exp_cons', if_pos hc, hs, List.drop_take]
        have e2 : signJ r + digsJ (r.drop (signJ r)) - signJ r = digsJ (r.drop (signJ r)) := by omega
        rw [e2, digs_take, Nat.min_self, if_neg hd]; omega
    · rw [if_neg hc] at e; rw [e]; rfl
theorem frac_cons (c : UInt8) (r : List UInt8) : fracJ (c :: r) = if c = 46 then (if digsJ r = 0 then 0 else 1 + digsJ r + expJ (r.drop (digsJ r))) else expJ (c :: r) := rfl
theorem frac_take (l : List UInt8) : fracJ (l.take (fracJ l)) = fracJ l := by
  cases l with
  | nil => rfl
  | cons c r =>
    have e := frac_cons c r
    by_cases hc : c = 46
    · rw [if_pos hc] at e
      by_cases hd : digsJ r = 0
      · rw [if_pos hd] at e; rw [e]; rfl
      · rw [if_neg hd] at e
        rw [e]
        have e1 : 1 + digsJ r + expJ (r.drop (digsJ r)) = (digsJ r + expJ (r.drop (digsJ r))) + 1 := by omega
        rw [e1, List.take_succ_cons, frac_cons, if_pos hc, digs_take]
        have e2 : min (digsJ r) (digsJ r + expJ (r.drop (digsJ r))) = digsJ r := by omega
        rw [e2, if_neg hd, List.drop_take]
        have e3 : digsJ r + expJ (r.drop (digsJ r)) - digsJ r = expJ (r.drop (digsJ r)) := by omega
        rw [e3, exp_take]; omega
    · rw [if_neg hc] at e
      rw [e]
      have h := exp_take (c :: r)
      by_cases h0 : expJ (c :: r) = 0
      · rw [h0]; rfl
      · obtain ⟨m, hm⟩ : ∃ m, expJ (c :: r) = m + 1 := ⟨expJ (c :: r) - 1, by omega⟩
        rw [hm] at h ⊢
        rw [List.take_succ_cons] at h ⊢
        rw [frac_cons, if_neg hc, h]
def minusJ (l : List UInt8) : Nat := match l with | c :: _ => if c = 45 then 1 else 0 | [] => 0
theorem minus_cons (d : UInt8) (r : List UInt8) : minusJ (d :: r) = if d = 45 then 1 else 0 := rfl
theorem minus_le (l : List UInt8) : minusJ l ≤ 1 := by unfold minusJ; split <;> (try split) <;> omega
/-- a number behind its sign -/
def bareJ (l : List UInt8) : Nat := match l with
  | c :: r => if c = 48 then 1 + fracJ r else if digsJ (c :: r) = 0 then 0 else digsJ (c :: r) + fracJ ((c :: r).drop (digsJ (c :: r)))
  | [] => 0
theorem num_bare (l : List UInt8) : numJ l = if bareJ (l.drop (minusJ l)) = 0 then 0 else minusJ l + bareJ (l.drop (minusJ l)) := by
  have e : numJ l = match l.drop (minusJ l) with
    | c :: r => if c = 48 then minusJ l + 1 + fracJ r else if digsJ (c :: r) = 0 then 0 else minusJ l + digsJ (c :: r) + fracJ ((c :: r).drop (digsJ (c :: r)))
    | [] => 0 := rfl
  rw [e]
  cases l.drop (minusJ l) with
  | nil => rfl
  | cons c r =>
    unfold bareJ
    simp only
    by_cases hc : c = 48
    · rw [if_pos hc, if_pos hc, if_neg (by omega)]; omega
    · rw [if_neg hc, if_neg hc]
      by_cases hd : digsJ (c :: r) = 0
      · rw [if_pos hd, if_pos hd, if_pos rfl]
      · rw [if_neg hd, if_neg hd, if_neg (by omega)]; omega
theorem bare_take (l : List UInt8) : bareJ (l.take (bareJ l)) = bareJ l := by
  cases l with
  | nil => rfl
  | cons c r =>
    have e : bareJ (c :: r) = if c = 48 then 1 + fracJ r else if digsJ (c :: r) = 0 then 0 else digsJ (c :: r) + fracJ ((c :: r).drop (digsJ (c :: r))) := rfl
    by_cases hc : c = 48
    · rw [if_pos hc] at e
      rw [e, Nat.add_comm, List.take_succ_cons]
      show (if c = 48 then 1 + fracJ (r.take (fracJ r)) else _) = _
      rw [if_pos hc, frac_take]; omega
    · rw [if_neg hc] at e
      by_cases hd : digsJ (c :: r) = 0
      · rw [if_pos hd] at e; rw [e]; rfl
      · rw [if_neg hd] at e
        rw [e]
        obtain ⟨m, hm⟩ : ∃ m, digsJ (c :: r) + fracJ ((c :: r).drop (digsJ (c :: r))) = m + 1 := ⟨digsJ (c :: r) + fracJ ((c :: r).drop (digsJ (c :: r))) - 1, by omega⟩
        have ht : (c :: r).take (digsJ (c :: r) + fracJ ((c :: r).drop (digsJ (c :: r)))) = c :: r.take m := by rw [hm]; rfl
        have h1 : digsJ (c :: r.take m) = digsJ (c :: r) := by rw [← ht, digs_take]; omega
        rw [ht]
        show (if c = 48 then _ else if digsJ (c :: r.take m) = 0 then 0 else digsJ (c :: r.take m) + fracJ ((c :: r.take m).drop (digsJ (c :: r.take m)))) = _
        rw [if_neg hc, h1, if_neg hd, ← ht, List.drop_take]
        have e3 : digsJ (c :: r) + fracJ ((c :: r).drop (digsJ (c :: r))) - digsJ (c :: r) = fracJ ((c :: r).drop (digsJ (c :: r))) := by omega
        rw [e3, frac_take]
theorem num_take (l : List UInt8) : numJ (l.take (numJ l)) = numJ l := by
  have e := num_bare l
  by_cases h0 : bareJ (l.drop (minusJ l)) = 0
  · rw [if_pos h0] at e; rw [e]; rfl
  · rw [if_neg h0] at e
    have hm : minusJ (l.take (numJ l)) = minusJ l := by
      cases l with
      | nil => simp
      | cons c r =>
        obtain ⟨m, hm⟩ : ∃ m, numJ (c :: r) = m + 1 := ⟨numJ (c :: r) - 1, by omega⟩
        rw [hm]; rfl
    have hd : (l.take (numJ l)).drop (minusJ l) = (l.drop (minusJ l)).take (bareJ (l.drop (minusJ l))) := by
      rw [List.drop_take, e]
      congr 1; omega
    rw [num_bare (l.take (numJ l)), hm, hd, bare_take, if_neg h0, e]
def numCh (c : UInt8) : Bool := dgJ c || c == 45 || c == 43 || c == 46 || c == 101 || c == 69
theorem numCh_small {c : UInt8} (h : numCh c = true) : c.toNat < 128 := by
  have key := byte_all (fun c => decide (numCh c = true → c.toNat < 128)) (by decide +kernel) c
  exact of_decide_eq_true key h
theorem take_digs : ∀ l : List UInt8, l.take (digsJ l) = l.takeWhile dgJ
  | [] => rfl
  | a :: l => by
    unfold digsJ
    rw [List.takeWhile_cons]
    split
    · have := take_digs l
      unfold digsJ at this
      simp [this]
    · rfl
theorem mem_while {p : UInt8 → Bool} : ∀ {l : List UInt8} {c : UInt8}, c ∈ l.takeWhile p → p c = true
  | a :: l, c, h => by
    rw [List.takeWhile_cons] at h
    split at h
    · rename_i ha
      rcases List.mem_cons.1 h with rfl | h
      · exact ha
      · exact mem_while h
    · cases h
theorem digs_ch (l : List UInt8) : ∀ c ∈ l.take (digsJ l), numCh c = true := by
  intro c hc
  rw [take_digs] at hc
  unfold numCh; rw [mem_while hc]; rfl
theorem take_add (l : List UInt8) (a b : Nat) : ∀ c ∈ l.take (a + b), c ∈ l.take a ∨ c ∈ (l.drop a).take b := by
  intro c hc
  rw [List.take_add] at hc
  exact List.mem_append.1 hc
theorem exp_ch (l : List UInt8) : ∀ c ∈ l.take (expJ l), numCh c = true := by
  cases l with
  | nil => intro c hc; simp at hc
  | cons a r =>
    intro c hc
    rw [exp_cons'] at hc
    by_cases ha : a = 101 ∨ a = 69
    · rw [if_pos ha] at hc
      split at hc
      · simp at hc
      · have e1 : 1 + signJ r + digsJ (r.drop (signJ r)) = (signJ r + digsJ (r.drop (signJ r))) + 1 := by omega
        rw [e1, List.take_succ_cons] at hc
        rcases List.mem_cons.1 hc with rfl | hc
        · rcases ha with rfl | rfl <;> decide
        · rcases take_add _ _ _ c hc with hc | hc
          · cases r with
            | nil => simp at hc
            | cons d r =>
              rw [sign_cons] at hc
              split at hc
              · rename_i hd
                have : c = d := by simpa using hc
                rw [this]
                rcases hd with h | h <;> rw [h] <;> decide
              · simp at hc
          · exact digs_ch _ c hc
    · rw [if_neg ha] at hc; simp at hc
theorem frac_ch (l : List UInt8) : ∀ c ∈ l.take (fracJ l), numCh c = true := by
  cases l with
  | nil => intro c hc; simp at hc
  | cons a r =>
    intro c hc
    rw [frac_cons] at hc
    by_cases ha : a = 46
    · rw [if_pos ha] at hc
      split at hc
      · simp at hc
      · have e1 : 1 + digsJ r + expJ (r.drop (digsJ r)) = (digsJ r + expJ (r.drop (digsJ r))) + 1 := by omega
        rw [e1, List.take_succ_cons] at hc
        rcases List.mem_cons.1 hc with rfl | hc
        · rw [ha]; decide
        · rcases take_add _ _ _ c hc with hc | hc
          · exact digs_ch _ c hc
          · exact exp_ch _ c hc
    · rw [if_neg ha] at hc; exact exp_ch _ c hc
theorem num_ch (l : List UInt8) : ∀ c ∈ l.take (numJ l), numCh c = true := by
  intro c hc
  rw [num_bare] at hc
  split at hc
  · simp at hc
  · rcases take_add _ _ _ c hc with hc | hc
    · cases l with
      | nil => simp at hc
      | cons d r =>
        rw [minus_cons] at hc
        split at hc
        · rename_i hd
          have : c = d := by simpa using hc
          rw [this, hd]; decide
        · simp at hc
    · revert hc
      cases l.drop (minusJ l) with
      | nil => intro hc; simp at hc
      | cons d t =>
        intro hc
        unfold bareJ at hc
        simp only at hc
        split at hc
        · rename_i hd
          rw [Nat.add_comm, List.take_succ_cons] at hc
          rcases List.mem_cons.1 hc with rfl | hc
          · rw [hd]; decide
          · exact frac_ch _ c hc
        · split at hc
          · simp at hc
          · rcases take_add _ _ _ c hc with hc | hc
            · exact digs_ch _ c hc
            · exact frac_ch _ c hc

/-! ## texts -/
theorem bad_small_append : ∀ {a b : List UInt8}, (∀ c ∈ a, c.toNat < 128) → (badL (a ++ b) = none ↔ badL b = none)
  | [], b, _ => Iff.rfl
  | c :: a, b, h => by
    rw [List.cons_append, bad_cons_none (h c List.mem_cons_self)]
    exact bad_small_append fun x hx => h x (List.mem_cons_of_mem _ hx)
theorem bad_point {n : Nat} (h : mayB (n : Int) = true) : badL (pointL (n : Int)) = none := by
  have := next_point h []
  rw [List.append_nil] at this
  have hs : stepL (pointL (n : Int)) = (pointL (n : Int)).length := stepL_of this
  have h1 := (pointL_len (n : Int)).1
  have := bad_take (l := pointL (n : Int)) (by rw [hs]; omega)
  rwa [hs, List.take_length] at this
theorem digit_small {c : UInt8} {d : Nat} (h : digitJ c = some d) : c.toNat < 128 ∧ d < 16 := by
  have key := byte_all (fun c => match digitJ c with | some d => decide (c.toNat < 128 ∧ d < 16) | none => true) (by decide +kernel) c
  simp only [h] at key
  exact of_decide_eq_true key
theorem four_ok : ∀ {k n : Nat} {l t : List UInt8} {m : Nat}, fourJ k n l = .ok (m, t) → ∃ p, l = p ++ t ∧ p.length = k ∧ (∀ c ∈ p, c.toNat < 128) ∧ m < (n + 1) * 16 ^ k
  | 0, n, l, t, m, h => by
    unfold fourJ at h
    injection h with h; injection h with h1 h2; subst h1; subst h2
    exact ⟨[], rfl, rfl, by simp, by simp⟩
  | k + 1, n, [], t, m, h => by cases h
  | k + 1, n, c :: r, t, m, h => by
    unfold fourJ at h
    cases hd : digitJ c with
    | none => rw [hd] at h; cases h
    | some d =>
      rw [hd] at h
      obtain ⟨p, h1, h2, h3, h4⟩ := four_ok h
      obtain ⟨d1, d2⟩ := digit_small hd
      refine ⟨c :: p, by rw [h1]; rfl, by simp [h2], fun x hx => ?_, ?_⟩
      · rcases List.mem_cons.1 hx with rfl | hx
        · exact d1
        · exact h3 x hx
      · have : n * 16 + d + 1 ≤ (n + 1) * 16 := by omega
        have := Nat.mul_le_mul_right (16 ^ k) this
        rw [Nat.pow_succ]
        have e : (n + 1) * 16 * 16 ^ k = (n + 1) * (16 ^ k * 16) := by rw [Nat.mul_assoc, Nat.mul_comm 16]
        omega
theorem point_ok {m n : Nat} {t a u : List UInt8} (h : pointJ m n t = .ok (a, u)) : mayB (n : Int) = true ∧ a = pointL (n : Int) ∧ u = t := by
  unfold pointJ at h
  split at h
  · rename_i hm
    injection h with h; injection h with h1 h2
    exact ⟨hm, h1.symm, h2.symm⟩
  · cases h
/-- bytes of a code point above a point are written as they are -/
theorem byteJ_high {c : UInt8} (h : 127 ≤ c.toNat) : byteJ c = [c] := by
  have key := byte_all (fun c => decide (127 ≤ c.toNat → byteJ c = [c])) (by decide +kernel) c
  exact of_decide_eq_true key h
theorem byteJ_len (c : UInt8) : (byteJ c).length ≤ 6 := by
  have key := byte_all (fun c => decide ((byteJ c).length ≤ 6)) (by decide +kernel) c
  exact of_decide_eq_true key
theorem flat_high : ∀ {l : List UInt8}, (∀ c ∈ l, 127 ≤ c.toNat) → l.flatMap byteJ = l
  | [], _ => rfl
  | c :: l, h => by rw [List.flatMap_cons, byteJ_high (h c List.mem_cons_self), flat_high fun x hx => h x (List.mem_cons_of_mem _ hx)]; rfl
theorem point_high {n : Nat} (hm : mayB (n : Int) = true) (h : 128 ≤ n) : ∀ c ∈ pointL (n : Int), 127 ≤ c.toNat := by
  have h2 := may_range hm
  have e1 := byteOf_toNat (n := 192 + (n : Int) / 64)
  have e2 := byteOf_toNat (n := 128 + (n : Int) % 64)
  have e3 := byteOf_toNat (n := 224 + (n : Int) / 4096)
  have e4 := byteOf_toNat (n := 128 + (n : Int) / 64 % 64)
  have e5 := byteOf_toNat (n := 240 + (n : Int) / 262144)
  have e6 := byteOf_toNat (n := 128 + (n : Int) / 4096 % 64)
  intro c hc
  unfold pointL at hc
  rw [if_neg (by omega)] at hc
  split at hc
  · simp only [List.mem_cons, List.mem_nil_iff, or_false] at hc
    rcases hc with rfl | rfl <;> omega
  · split at hc
    · simp only [List.mem_cons, List.mem_nil_iff, or_false] at hc
      rcases hc with rfl | rfl | rfl <;> omega
    · simp only [List.mem_cons, List.mem_nil_iff, or_false] at hc
      rcases hc with rfl | rfl | rfl | rfl <;> omega
theorem point_flat {n : Nat} (hm : mayB (n : Int) = true) : ((pointL (n : Int)).flatMap byteJ).length ≤ 6 ∧ (65536 ≤ n → ((pointL (n : Int)).flatMap byteJ).length ≤ 12) := by
  by_cases h : n < 128
  · have e : pointL (n : Int) = [byteOf n] := pointL_1 (by omega)
    rw [e]
    have := byteJ_len (byteOf (n : Int))
    simp only [List.flatMap_cons, List.flatMap_nil, List.append_nil]
    exact ⟨this, fun _ => by omega⟩
  · rw [flat_high (point_high hm (by omega))]
    have := (pointL_len (n : Int)).2
    exact ⟨by omega, fun _ => by omega⟩
theorem long_ok {c d : UInt8} (h : longJ c = some d) : c.toNat < 128 ∧ d.toNat < 128 ∧ (byteJ d).length ≤ 2 := by
  have key := byte_all (fun c => match longJ c with | some d => decide (c.toNat < 128 ∧ d.toNat < 128 ∧ (byteJ d).length ≤ 2) | none => true) (by decide +kernel) c
  simp only [h] at key
  exact of_decide_eq_true key
theorem escJ_cons (m : Nat) (c : UInt8) (r : List UInt8) : escJ m (c :: r) = if c = 117 then
      JRs.next (fourJ 4 0 r) fun n t =>
        if 55296 ≤ n ∧ n < 56320 ∧ t.take 2 = [92, 117] then
          JRs.next (fourJ 4 0 (t.drop 2)) fun low u => if 56320 ≤ low ∧ low ≤ 57343 then pointJ m (65536 + (n - 55296) * 1024 + (low - 56320)) u else .error (3, m)
        else pointJ m n t
    else match longJ c with
      | some d => .ok ([d], r)
      | none => .error (3, r.length + 1) := rfl
theorem esc_ok {m : Nat} {l a t : List UInt8} (h : escJ m l = .ok (a, t)) (hb : badL l = none) : badL a = none ∧ badL t = none ∧ (a.flatMap byteJ).length + t.length ≤ l.length + 1 ∧ t.length < l.length := by
  cases l with
  | nil => cases h
  | cons c r =>
    rw [escJ_cons] at h
    by_cases hc : c = 117
    · rw [if_pos hc] at h
      obtain ⟨n, t1, h1, h2⟩ := jnext_ok.1 h
      obtain ⟨p, e1, e2, e3, _⟩ := four_ok h1
      have hb1 : badL t1 = none := by
        rw [bad_cons_none (by rw [hc]; decide), e1] at hb
        exact (bad_small_append e3).1 hb
      have hl1 : r.length = 4 + t1.length := by rw [e1, List.length_append, e2]
      split at h2
      · rename_i hs
        obtain ⟨low, u, h3, h4⟩ := jnext_ok.1 h2
        obtain ⟨q, f1, f2, f3, _⟩ := four_ok h3
        have ht1 : t1 = [92, 117] ++ t1.drop 2 := by rw [← hs.2.2, List.take_append_drop]
        have hb2 : badL u = none := by
          rw [ht1, f1] at hb1
          have := (bad_small_append (a := [92, 117]) (by simp)).1 hb1
          exact (bad_small_append f3).1 this
        have hl2 : t1.length = 2 + (4 + u.length) := by rw [ht1, List.length_append, f1, List.length_append, f2]; rfl
        generalize 65536 + (n - 55296) * 1024 + (low - 56320) = N at h4
        split at h4
        · obtain ⟨g1, g2, g3⟩ := point_ok h4
          rw [g2, g3]
          have := (point_flat g1).1
          have k1 := bad_point g1
          have k2 : (c :: r).length = r.length + 1 := rfl
          refine ⟨k1, hb2, ?_, ?_⟩
          · rw [k2]; omega
          · rw [k2]; omega
        · cases h4
      · obtain ⟨g1, g2, g3⟩ := point_ok h2
        rw [g2, g3]
        have := (point_flat g1).1
        have k1 := bad_point g1
        have k2 : (c :: r).length = r.length + 1 := rfl
        refine ⟨k1, hb1, ?_, ?_⟩
        · rw [k2]; omega
        · rw [k2]; omega
    · rw [if_neg hc] at h
      cases hd : longJ c with
      | none => rw [hd] at h; cases h
      | some d =>
        rw [hd] at h
        injection h with h; injection h with h1 h2
        subst h1; subst h2
        obtain ⟨d1, d2, d3⟩ := long_ok hd
        refine ⟨(bad_cons_none d2).2 badL_nil, (bad_cons_none d1).1 hb, ?_, by simp⟩
        simp only [List.flatMap_cons, List.flatMap_nil, List.append_nil, List.length_cons]; omega

/-- bytes of a code point stand as they are -/
theorem text_high : ∀ (p : List UInt8) (f : Nat) (r s t : List UInt8), (∀ b ∈ p, 128 ≤ b.toNat) → textJ f (p ++ r) = .ok (s, t) → ∃ s', s = p ++ s' ∧ p.length ≤ f ∧ textJ (f - p.length) r = .ok (s', t)
  | [], f, r, s, t, _, h => ⟨s, rfl, Nat.zero_le _, h⟩
  | c :: p, 0, r, s, t, _, h => by cases h
  | c :: p, f + 1, r, s, t, hp, h => by
    have hc := hp c List.mem_cons_self
    rw [List.cons_append, textJ_step, if_neg (by rintro rfl; exact absurd hc (by decide)), if_neg (by rintro rfl; exact absurd hc (by decide)), if_neg (by omega)] at h
    obtain ⟨b, u, h1, h2⟩ := jnext_ok.1 h
    injection h2 with h2; injection h2 with h3 h4; subst h3; subst h4
    obtain ⟨s', e1, e2, e3⟩ := text_high p f r b u (fun x hx => hp x (List.mem_cons_of_mem _ hx)) h1
    refine ⟨s', by rw [e1]; rfl, by simp only [List.length_cons]; omega, ?_⟩
    rw [List.length_cons, Nat.add_sub_add_right]; exact e3
theorem text_ok : ∀ (n : Nat) (f : Nat) (l s t : List UInt8), l.length ≤ n → textJ f l = .ok (s, t) → badL l = none → badL s = none ∧ badL t = none ∧ (s.flatMap byteJ).length + 1 + t.length ≤ l.length
  | n, 0, l, s, t, _, h, _ => by cases h
  | n, f + 1, [], s, t, _, h, _ => by cases h
  | 0, f + 1, c :: r, s, t, hn, h, _ => by simp at hn
  | n + 1, f + 1, c :: r, s, t, hn, h, hb => by
    simp only [List.length_cons] at hn
    by_cases hc : c.toNat < 128
    · have hbr := (bad_cons_none hc).1 hb
      rw [textJ_step] at h
      by_cases h34 : c = 34
      · rw [if_pos h34] at h
        injection h with h; injection h with h1 h2; subst h1; subst h2
        exact ⟨badL_nil, hbr, by simp; omega⟩
      · rw [if_neg h34] at h
        by_cases h92 : c = 92
        · rw [if_pos h92] at h
          obtain ⟨a, t1, h1, h2⟩ := jnext_ok.1 h
          obtain ⟨b, u, h3, h4⟩ := jnext_ok.1 h2
          injection h4 with h4; injection h4 with h5 h6; subst h5; subst h6
          obtain ⟨a1, a2, a3, a4⟩ := esc_ok h1 hbr
          obtain ⟨b1, b2, b3⟩ := text_ok n f t1 b u (by omega) h3 a2
          refine ⟨bad_append_none a1 b1, b2, ?_⟩
          simp only [List.flatMap_append, List.length_append, List.length_cons]; omega
        · rw [if_neg h92] at h
          by_cases h32 : c.toNat < 32
          · rw [if_pos h32] at h; cases h
          · rw [if_neg h32] at h
            obtain ⟨b, u, h3, h4⟩ := jnext_ok.1 h
            injection h4 with h4; injection h4 with h5 h6; subst h5; subst h6
            obtain ⟨b1, b2, b3⟩ := text_ok n f r b u (by omega) h3 hbr
            refine ⟨(bad_cons_none hc).2 b1, b2, ?_⟩
            have hs : shortJ c = none := by
              have key := byte_all (fun c => decide (c ≠ 34 → c ≠ 92 → ¬ c.toNat < 32 → shortJ c = none)) (by decide +kernel) c
              exact of_decide_eq_true key h34 h92 h32
            have hl : byteJ c = [c] := by unfold byteJ; rw [hs]; simp only [if_neg h32]
            simp only [List.flatMap_cons, hl, List.length_append, List.length_cons, List.length_nil]; omega
    · have hs : stepL (c :: r) ≠ 0 := fun e => by rw [badL_zero (by simp) e] at hb; cases hb
      have hdr : badL ((c :: r).drop (stepL (c :: r))) = none := by
        rw [badL_step hs] at hb
        cases e : badL ((c :: r).drop (stepL (c :: r))) with
        | none => rfl
        | some z => rw [e] at hb; cases hb
      rcases step_high hs with ⟨_, b, t', e, hb'⟩ | hh
      · injection e with e1 e2; subst e1; exact absurd hb' hc
      · have e : c :: r = (c :: r).take (stepL (c :: r)) ++ (c :: r).drop (stepL (c :: r)) := (List.take_append_drop _ _).symm
        have hle := step_le (c :: r)
        rw [e] at h
        obtain ⟨s', e1, e2, e3⟩ := text_high _ _ _ _ _ hh h
        obtain ⟨b1, b2, b3⟩ := text_ok n _ _ s' t (by simp only [List.length_drop, List.length_cons]; omega) e3 hdr
        have hf : ((c :: r).take (stepL (c :: r))).flatMap byteJ = (c :: r).take (stepL (c :: r)) := flat_high fun x hx => by have := hh x hx; omega
        refine ⟨by rw [e1]; exact bad_append_none (bad_take hs) b1, b2, ?_⟩
        rw [e1, List.flatMap_append, hf]
        simp only [List.length_append, List.length_take, List.length_drop, List.length_cons] at b3 ⊢
        simp only [List.length_cons] at hle
        omega
theorem str_ok {l s t : List UInt8} (h : strJ l = .ok (s, t)) (hb : badL l = none) : badL s = none ∧ badL t = none ∧ (quoteJ s).length + t.length ≤ l.length ∧ ∃ r, l = 34 :: r := by
  unfold strJ wantJ at h
  cases hi : isJ 34 l with
  | none => rw [hi] at h; cases h
  | some r =>
    rw [hi] at h
    simp only [jnext_pos] at h
    have e := isJ_some hi
    rw [e] at hb
    obtain ⟨a, b, c⟩ := text_ok _ _ r s t (Nat.le_refl _) h ((bad_cons_none (by decide)).1 hb)
    refine ⟨a, b, ?_, r, e⟩
    rw [e]
    unfold quoteJ
    simp only [List.length_cons, List.length_append, List.length_nil]; omega
theorem blank_bad : ∀ {l : List UInt8}, badL l = none → badL (blankJ l) = none
  | [], h => h
  | c :: r, h => by
    unfold blankJ
    rw [List.dropWhile_cons]
    split
    · rename_i hc
      have : c.toNat < 128 := by
        have key := byte_all (fun c => decide (blankB c = true → c.toNat < 128)) (by decide +kernel) c
        exact of_decide_eq_true key hc
      exact blank_bad ((bad_cons_none this).1 h)
    · exact h
theorem blank_len (l : List UInt8) : (blankJ l).length ≤ l.length := by
  unfold blankJ
  have := congrArg List.length (List.takeWhile_append_dropWhile (p := blankB) (l := l))
  rw [List.length_append] at this; omega
theorem want_ok {c : UInt8} {l t : List UInt8} {u : Unit} (h : wantJ c l = .ok (u, t)) : l = c :: t := by
  unfold wantJ at h
  cases hi : isJ c l with
  | none => rw [hi] at h; cases h
  | some r => rw [hi] at h; injection h with h; injection h with _ h; subst h; exact isJ_some hi

end Go.Proofs.YtlejbindochiiaaDoor
