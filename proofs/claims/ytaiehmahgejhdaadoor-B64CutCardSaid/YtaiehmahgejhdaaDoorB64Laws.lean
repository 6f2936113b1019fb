/-
  PLAIN LAWS of base64: what is written is read, one text alone is written for given bytes, pieces of whole groups.
-/
import Derived.Test.YtaiehmahgejhdaaDoorB64Dec2
namespace Go.Proofs.YtaiehmahgejhdaaDoor
open Go.RowKit
set_option linter.unusedVariables false
set_option linter.unusedSimpArgs false

theorem num3_range (a b c : UInt8) : 0 ≤ num3 a b c ∧ num3 a b c < 16777216 := by
  have ha := a.toNat_lt; have hb := b.toNat_lt; have hc := c.toNat_lt
  unfold num3; omega
theorem bytes3_num3 (a b c : UInt8) : bytes3 (num3 a b c) = [a, b, c] := by
  have ha := a.toNat_lt; have hb := b.toNat_lt; have hc := c.toNat_lt
  unfold bytes3
  rw [byteOf_eq (c := a) (by unfold num3; omega), byteOf_eq (c := b) (by unfold num3; omega), byteOf_eq (c := c) (by unfold num3; omega)]
theorem decQ_full {last : Bool} {c0 c1 c2 c3 : UInt8} (h0 : 0 ≤ idxB c0) (h1 : 0 ≤ idxB c1) (h2 : 0 ≤ idxB c2) (h3 : 0 ≤ idxB c3) : decQ last c0 c1 c2 c3 = .ok (bytes3 (num4 (idxB c0) (idxB c1) (idxB c2) (idxB c3))) := by
  have n2 : c3 ≠ 61 := by intro e; rw [e, idx61] at h3; omega
  unfold decQ
  rw [if_neg (by omega), if_neg (by omega), if_neg (by simp [n2]), if_neg (by omega), if_neg (by simp [n2]), if_neg (by omega)]
theorem quad_dec (a b c : UInt8) (last : Bool) : ∃ c0 c1 c2 c3, quadL (num3 a b c) = [c0, c1, c2, c3] ∧ decQ last c0 c1 c2 c3 = .ok [a, b, c] := by
  have hr := num3_range a b c
  refine ⟨_, _, _, _, rfl, ?_⟩
  have i0 := idxB_letter (num3 a b c / 262144 % 64) (by omega) (by omega)
  have i1 := idxB_letter (num3 a b c / 4096 % 64) (by omega) (by omega)
  have i2 := idxB_letter (num3 a b c / 64 % 64) (by omega) (by omega)
  have i3 := idxB_letter (num3 a b c % 64) (by omega) (by omega)
  rw [decQ_full (by rw [i0]; omega) (by rw [i1]; omega) (by rw [i2]; omega) (by rw [i3]; omega), i0, i1, i2, i3, ← bytes3_num3 a b c]
  congr 2
  unfold num4; omega
theorem dec_enc : ∀ l : List UInt8, decL (encL l) = .ok l
  | [] => rfl
  | [a] => by
    have ha := a.toNat_lt
    have hn : num3 a 0 0 = (a.toNat : Int) * 65536 := by unfold num3; simp; omega
    have i0 := idxB_letter (num3 a 0 0 / 262144 % 64) (by omega) (by omega)
    have i1 := idxB_letter (num3 a 0 0 / 4096 % 64) (by omega) (by omega)
    have hq : num4 (num3 a 0 0 / 262144 % 64) (num3 a 0 0 / 4096 % 64) 0 0 = (a.toNat : Int) * 65536 := by unfold num4; omega
    rw [encL_1]
    show decL [_, _, 61, 61] = _
    rw [decL_cons]
    have : decQ true (byteOf (letB (num3 a 0 0 / 262144 % 64))) (byteOf (letB (num3 a 0 0 / 4096 % 64))) 61 61 = .ok [a] := by
      unfold decQ
      rw [if_neg (by rw [i0]; omega), if_neg (by rw [i1]; omega), if_pos ⟨rfl, rfl, rfl⟩, i0, i1, hq, if_pos (by omega)]
      unfold bytes3
      rw [byteOf_eq (c := a) (by omega)]; rfl
    simp only [List.isEmpty_nil]
    rw [this]; rfl
  | [a, b] => by
    have ha := a.toNat_lt
    have hb := b.toNat_lt
    have hn : num3 a b 0 = (a.toNat : Int) * 65536 + (b.toNat : Int) * 256 := by unfold num3; simp; omega
    have i0 := idxB_letter (num3 a b 0 / 262144 % 64) (by omega) (by omega)
    have i1 := idxB_letter (num3 a b 0 / 4096 % 64) (by omega) (by omega)
    have i2 := idxB_letter (num3 a b 0 / 64 % 64) (by omega) (by omega)
    have n2 := letB_ne (num3 a b 0 / 64 % 64) (by omega) (by omega)
    have hq : num4 (num3 a b 0 / 262144 % 64) (num3 a b 0 / 4096 % 64) (num3 a b 0 / 64 % 64) 0 = (a.toNat : Int) * 65536 + (b.toNat : Int) * 256 := by unfold num4; omega
    rw [encL_2]
    show decL [_, _, _, 61] = _
    rw [decL_cons]
    have : decQ true (byteOf (letB (num3 a b 0 / 262144 % 64))) (byteOf (letB (num3 a b 0 / 4096 % 64))) (byteOf (letB (num3 a b 0 / 64 % 64))) 61 = .ok [a, b] := by
      unfold decQ
      rw [if_neg (by rw [i0]; omega), if_neg (by rw [i1]; omega), if_neg (by simp [n2]), if_neg (by rw [i2]; omega), if_pos ⟨rfl, rfl⟩, i0, i1, i2, hq, if_pos (by omega)]
      unfold bytes3
      rw [byteOf_eq (c := a) (by omega), byteOf_eq (c := b) (by omega)]; rfl
    simp only [List.isEmpty_nil]
    rw [this]; rfl
  | a :: b :: c :: t => by
    rw [encL_3]
    obtain ⟨c0, c1, c2, c3, h, hd⟩ := quad_dec a b c (encL t).isEmpty
    rw [h]
    show decL (c0 :: c1 :: c2 :: c3 :: encL t) = _
    rw [decL_cons, hd, dec_enc t]; rfl
theorem idx_back {c : UInt8} {k : Int} (h : idxB c = k) (hk : 0 ≤ k) : byteOf (letB k) = c ∧ k < 64 := by
  rcases idxB_cases c with h' | ⟨_, h2, h3, _⟩
  · omega
  · rw [h] at h2 h3; exact ⟨h3, h2⟩
theorem decQ_cases {last : Bool} {c0 c1 c2 c3 : UInt8} {bs : List UInt8} (h : decQ last c0 c1 c2 c3 = .ok bs) :
    (last = true ∧ ∃ a, bs = [a] ∧ encL [a] = [c0, c1, c2, c3]) ∨ (last = true ∧ ∃ a b, bs = [a, b] ∧ encL [a, b] = [c0, c1, c2, c3]) ∨ ∃ a b c, bs = [a, b, c] ∧ quadL (num3 a b c) = [c0, c1, c2, c3] := by
  unfold decQ at h
  split at h
  · cases h
  rename_i h0
  split at h
  · cases h
  rename_i h1
  obtain ⟨b0, l0⟩ := idx_back (c := c0) rfl (by omega)
  obtain ⟨b1, l1⟩ := idx_back (c := c1) rfl (by omega)
  generalize hi : idxB c0 = i at *
  generalize hj : idxB c1 = j at *
  split at h
  · rename_i hp
    split at h
    · rename_i hz
      cases h
      obtain ⟨hl, rfl, rfl⟩ := hp
      refine .inl ⟨hl, byteOf (num4 i j 0 0 / 65536), rfl, ?_⟩
      have e := byteOf_toNat (n := num4 i j 0 0 / 65536) (by unfold num4; omega) (by unfold num4; omega)
      have e2 : num3 (byteOf (num4 i j 0 0 / 65536)) 0 0 = num4 i j 0 0 := by
        unfold num3; rw [e]; simp; omega
      rw [encL_1, e2]
      have q0 : num4 i j 0 0 / 262144 % 64 = i := by unfold num4; omega
      have q1 : num4 i j 0 0 / 4096 % 64 = j := by unfold num4; omega
      unfold quadL
      rw [q0, q1, b0, b1]; rfl
    · cases h
  · split at h
    · cases h
    rename_i h2
    obtain ⟨b2, l2⟩ := idx_back (c := c2) rfl (by omega)
    generalize hk : idxB c2 = k at *
    split at h
    · rename_i hp
      split at h
      · rename_i hz
        cases h
        obtain ⟨hl, rfl⟩ := hp
        refine .inr (.inl ⟨hl, byteOf (num4 i j k 0 / 65536), byteOf (num4 i j k 0 / 256 % 256), rfl, ?_⟩)
        have e := byteOf_toNat (n := num4 i j k 0 / 65536) (by unfold num4; omega) (by unfold num4; omega)
        have e' := byteOf_toNat (n := num4 i j k 0 / 256 % 256) (by omega) (by omega)
        have e2 : num3 (byteOf (num4 i j k 0 / 65536)) (byteOf (num4 i j k 0 / 256 % 256)) 0 = num4 i j k 0 := by
          unfold num3; rw [e, e']; simp; omega
        rw [encL_2, e2]
        have q0 : num4 i j k 0 / 262144 % 64 = i := by unfold num4; omega
        have q1 : num4 i j k 0 / 4096 % 64 = j := by unfold num4; omega
        have q2 : num4 i j k 0 / 64 % 64 = k := by unfold num4; omega
        unfold quadL
        rw [q0, q1, q2, b0, b1, b2]; rfl
      · cases h
    · split at h
      · cases h
      rename_i h3
      obtain ⟨b3, l3⟩ := idx_back (c := c3) rfl (by omega)
      generalize hm : idxB c3 = m at *
      cases h
      refine .inr (.inr ⟨_, _, _, rfl, ?_⟩)
      have e := byteOf_toNat (n := num4 i j k m / 65536) (by unfold num4; omega) (by unfold num4; omega)
      have e' := byteOf_toNat (n := num4 i j k m / 256 % 256) (by omega) (by omega)
      have e'' := byteOf_toNat (n := num4 i j k m % 256) (by omega) (by omega)
      have e2 : num3 (byteOf (num4 i j k m / 65536)) (byteOf (num4 i j k m / 256 % 256)) (byteOf (num4 i j k m % 256)) = num4 i j k m := by
        unfold num3; rw [e, e', e'']; omega
      rw [e2]
      have q0 : num4 i j k m / 262144 % 64 = i := by unfold num4; omega
      have q1 : num4 i j k m / 4096 % 64 = j := by unfold num4; omega
      have q2 : num4 i j k m / 64 % 64 = k := by unfold num4; omega
      have q3 : num4 i j k m % 64 = m := by unfold num4; omega
      unfold quadL
      rw [q0, q1, q2, q3, b0, b1, b2, b3]
theorem enc_dec : ∀ (r b : List UInt8), r.length % 4 = 0 → decL r = .ok b → encL b = r
  | c0 :: c1 :: c2 :: c3 :: t, b, hl, h => by
    rw [decL_cons] at h
    cases hq : decQ t.isEmpty c0 c1 c2 c3 with
    | error p => rw [hq] at h; cases h
    | ok bs =>
      rw [hq] at h
      cases ht : decL t with
      | error p => rw [ht] at h; cases h
      | ok cs =>
        rw [ht] at h
        have hb : b = bs ++ cs := by cases h; rfl
        rcases decQ_cases hq with ⟨hl, a, rfl, he⟩ | ⟨hl, a, a', rfl, he⟩ | ⟨a, a', a'', rfl, he⟩
        · have : t = [] := by simpa using hl
          subst this
          cases ht
          rw [hb]; exact he
        · have : t = [] := by simpa using hl
          subst this
          cases ht
          rw [hb]; exact he
        · have ih := enc_dec t cs (by simp at hl; omega) ht
          rw [hb]
          show encL (a :: a' :: a'' :: cs) = _
          rw [encL_3, he, ih]; rfl
  | [], b, _, h => by cases h; rfl
  | [_], _, hl, _ => by simp at hl
  | [_, _], _, hl, _ => by simp at hl
  | [_, _, _], _, hl, _ => by simp at hl
theorem enc_append : ∀ (a b : List UInt8), a.length % 3 = 0 → encL (a ++ b) = encL a ++ encL b
  | [], b, _ => rfl
  | [_], _, h => by simp at h
  | [_, _], _, h => by simp at h
  | x :: y :: z :: t, b, h => by
    show encL (x :: y :: z :: (t ++ b)) = _
    rw [encL_3, encL_3, enc_append t b (by simp at h; omega), List.append_assoc]
theorem dec_cut : ∀ (s : List UInt8) (n : Nat), 4 * n ≤ (encL s).length → decL ((encL s).take (4 * n)) = .ok (s.take (3 * n))
  | s, 0, _ => by simp; rfl
  | [], n + 1, h => by simp [encL] at h
  | [a], n + 1, h => by
    have hl := encL_length [a]
    simp at hl
    have : n = 0 := by omega
    subst this
    rw [List.take_of_length_le (by omega), dec_enc]; rfl
  | [a, b], n + 1, h => by
    have hl := encL_length [a, b]
    simp at hl
    have : n = 0 := by omega
    subst this
    rw [List.take_of_length_le (by omega), dec_enc]; rfl
  | a :: b :: c :: t, n + 1, h => by
    rw [encL_3] at h ⊢
    rw [List.length_append, quadL_length] at h
    have ih := dec_cut t n (by omega)
    have e : (quadL (num3 a b c) ++ encL t).take (4 * (n + 1)) = quadL (num3 a b c) ++ (encL t).take (4 * n) := by
      rw [show 4 * (n + 1) = (quadL (num3 a b c)).length + 4 * n by rw [quadL_length]; omega, List.take_length_add_append]
    rw [e]
    obtain ⟨c0, c1, c2, c3, h, hd⟩ := quad_dec a b c ((encL t).take (4 * n)).isEmpty
    rw [h]
    show decL (c0 :: c1 :: c2 :: c3 :: (encL t).take (4 * n)) = _
    rw [decL_cons, hd, ih]
    show Except.ok _ = _
    rw [show 3 * (n + 1) = 3 * n + 1 + 1 + 1 by omega]
    rfl

theorem decode_ok (l bs : List UInt8) (w : World) (hl : l.length ≤ 1099511627776) (hm : l.length % 4 = 0) (h : decL l = .ok bs) : Gives 22 #[.string (S l)] w (.tuple #[.string (S bs), .nilIface]) := by
  refine Calls.mono (b64decode_any l w hl) ?_
  rintro e w' ⟨v, rfl, hq, hg⟩
  unfold DecPost at hq
  rw [if_neg (by omega), h] at hq
  exact ⟨by rw [hq], hg⟩
theorem decode_bad (l : List UInt8) (c : Int) (p : Nat) (w : World) (hl : l.length ≤ 1099511627776) (h : if l.length % 4 ≠ 0 then c = 7 ∧ p = l.length else c = 3 ∧ decL l = .error p) : Makes 22 #[.string (S l)] w (fun v w' => ∃ b, v = .tuple #[.string (S []), .iface 69 (.pointer (some ⟨b, 0, none⟩))] ∧ w'.cell? ⟨b, 0, none⟩ = some (.int .i64 c) ∧ w'.cell? ⟨b, 1, none⟩ = some (.int .i64 p) ∧ b < w'.heap.size) := by
  refine (b64decode_any l w hl).mono ?_
  intro v w' _ hq
  unfold DecPost at hq
  split at h
  · rename_i hm
    rw [if_pos hm] at hq
    obtain ⟨rfl, rfl⟩ := h
    obtain ⟨e, rfl, b, rfl, h1, h2, h3⟩ := hq
    exact ⟨b, rfl, h1, h2, h3⟩
  · rename_i hm
    obtain ⟨rfl, h⟩ := h
    rw [if_neg hm, h] at hq
    obtain ⟨e, rfl, b, rfl, h1, h2, h3⟩ := hq
    exact ⟨b, rfl, h1, h2, h3⟩
theorem decL_err_le : ∀ (l : List UInt8) (p : Nat), decL l = .error p → p ≤ l.length
  | c0 :: c1 :: c2 :: c3 :: t, p => by
    intro h
    rw [decL_cons] at h
    have hq : ∀ q, decQ t.isEmpty c0 c1 c2 c3 = .error q → q ≤ 3 := by
      intro q hq
      unfold decQ at hq
      split at hq
      · cases hq; omega
      · split at hq
        · cases hq; omega
        · split at hq
          · split at hq <;> cases hq <;> omega
          · split at hq
            · cases hq; omega
            · split at hq
              · split at hq <;> cases hq <;> omega
              · split at hq <;> cases hq <;> omega
    cases hd : decQ t.isEmpty c0 c1 c2 c3 with
    | error q => rw [hd] at h; cases h; have := hq _ hd; simp; omega
    | ok bs =>
      rw [hd] at h
      cases ht : decL t with
      | ok _ => rw [ht] at h; cases h
      | error q => rw [ht] at h; cases h; have := decL_err_le t q ht; simp; omega
  | [], p => by intro h; cases h
  | [_], p => by intro h; simp [decL] at h
  | [_, _], p => by intro h; simp [decL] at h
  | [_, _, _], p => by intro h; simp [decL] at h
theorem decode_err (l : List UInt8) (p : Nat) (w : World) (hl : l.length ≤ 1099511627776) (hm : l.length % 4 = 0) (h : decL l = .error p) : Makes 22 #[.string (S l)] w (fun v w' => ∃ e, v = .tuple #[.string (S []), e] ∧ IsAt w' e 3 p) := by
  refine (b64decode_any l w hl).mono ?_
  intro v w' _ hq
  unfold DecPost at hq
  rw [if_neg (by omega), h] at hq
  exact hq
/-- what Decode hands back, for the laws -/
theorem decode_any2 (l : List UInt8) (w : World) (hl : l.length ≤ 1099511627776) : Makes 22 #[.string (S l)] w (fun v _ =>
    (∃ b, encL b = l ∧ v = .tuple #[.string (S b), .nilIface]) ∨ ∃ a, v = .tuple #[.string (S []), .iface 69 (.pointer (some ⟨a, 0, none⟩))]) := by
  refine (b64decode_any l w hl).mono ?_
  intro v w' _ hq
  unfold DecPost at hq
  split at hq
  · obtain ⟨e, rfl, b, rfl, -⟩ := hq
    exact .inr ⟨b, rfl⟩
  · rename_i hm
    cases hd : decL l with
    | ok b => rw [hd] at hq; exact .inl ⟨b, enc_dec l b (by omega) hd, hq⟩
    | error p =>
      rw [hd] at hq
      obtain ⟨e, rfl, b, rfl, -⟩ := hq
      exact .inr ⟨b, rfl⟩

end Go.Proofs.YtaiehmahgejhdaaDoor
