/-
  PLAIN LAWS of code points as bytes: decoding what is encoded, encoding what is decoded, texts one behind the other, the order, the cut.
-/
import Derived.Test.YtlejbindochiiaaDoorUtf3
namespace Go.Proofs.YtlejbindochiiaaDoor
open Go.RowKit
set_option linter.unusedVariables false
set_option linter.unusedSimpArgs false

theorem isC_iff {c : UInt8} : isC c = true ↔ 128 ≤ c.toNat ∧ c.toNat < 192 := by
  unfold isC; rw [beq_iff_eq]; omega
theorem finU_some {low r n : Int} {x : Int} {m : Nat} (h : finU low r n = (x, (m : Int))) (hm : 1 ≤ m) : x = r ∧ (m : Int) = n ∧ low ≤ r ∧ mayB r = true := by
  rcases finU_bounds low r n with h' | ⟨h', h2, h3⟩
  · rw [h'] at h; have := congrArg Prod.snd h; simp at this; omega
  · rw [h'] at h
    have e1 := congrArg Prod.fst h
    have e2 := congrArg Prod.snd h
    exact ⟨e1.symm, e2.symm, h3, h2⟩
theorem pointL_1 {r : Int} (h : r < 128) : pointL r = [byteOf r] := by unfold pointL; rw [if_pos h]
theorem pointL_2 {r : Int} (h1 : ¬ r < 128) (h2 : r < 2048) : pointL r = [byteOf (192 + r / 64), byteOf (128 + r % 64)] := by unfold pointL; rw [if_neg h1, if_pos h2]
theorem pointL_3 {r : Int} (h1 : ¬ r < 128) (h2 : ¬ r < 2048) (h3 : r < 65536) : pointL r = [byteOf (224 + r / 4096), byteOf (128 + r / 64 % 64), byteOf (128 + r % 64)] := by unfold pointL; rw [if_neg h1, if_neg h2, if_pos h3]
theorem pointL_4 {r : Int} (h1 : ¬ r < 128) (h2 : ¬ r < 2048) (h3 : ¬ r < 65536) : pointL r = [byteOf (240 + r / 262144), byteOf (128 + r / 4096 % 64), byteOf (128 + r / 64 % 64), byteOf (128 + r % 64)] := by unfold pointL; rw [if_neg h1, if_neg h2, if_neg h3]

/-- what is decoded is encoded so again -/
theorem encode_next {l : List UInt8} {r : Int} {n : Nat} (h : nextL l = (r, (n : Int))) (hn : 1 ≤ n) : pointL r = l.take n := by
  have hz : ∀ {p : Int × Int}, p = (0, 0) → p = (r, (n : Int)) → pointL r = l.take n := by
    intro p h1 h2; rw [h1] at h2; have := congrArg Prod.snd h2; simp at this; omega
  match l with
  | [] => exact hz rfl h
  | b :: t =>
    by_cases h1 : b.toNat < 128
    · have e : nextL (b :: t) = ((b.toNat : Int), 1) := by show (if b.toNat < 128 then _ else _) = _; rw [if_pos h1]
      rw [e] at h
      have e1 := congrArg Prod.fst h
      have e2 := congrArg Prod.snd h
      simp only at e1 e2
      have : n = 1 := by omega
      subst this
      rw [pointL_1 (by omega), ← e1, byteOf_eq rfl]; rfl
    by_cases h2 : b.toNat < 192
    · exact hz (by show (if b.toNat < 128 then _ else _) = _; rw [if_neg h1, if_pos h2]) h
    by_cases h3 : b.toNat < 224
    · match t, h with
      | [], h => exact hz (by show (if b.toNat < 128 then _ else _) = _; rw [if_neg h1, if_neg h2, if_pos h3]) h
      | c1 :: t, h =>
        rw [nextL_2 (by omega) h3] at h
        split at h
        · rename_i hc
          obtain ⟨rfl, hk, hlow, _⟩ := finU_some h hn
          have : n = 2 := by omega
          subst this
          have k1 := isC_iff.1 hc
          unfold acc at *
          rw [pointL_2 (by omega) (by omega), byteOf_eq (c := b) (by omega), byteOf_eq (c := c1) (by omega)]; rfl
        · exact hz rfl h
    by_cases h4 : b.toNat < 240
    · match t, h with
      | [], h => exact hz (by show (if b.toNat < 128 then _ else _) = _; rw [if_neg h1, if_neg h2, if_neg h3, if_pos h4]) h
      | [c1], h => exact hz (by show (if b.toNat < 128 then _ else _) = _; rw [if_neg h1, if_neg h2, if_neg h3, if_pos h4]) h
      | c1 :: c2 :: t, h =>
        rw [nextL_3 (by omega) h4] at h
        split at h
        · rename_i hc
          obtain ⟨rfl, hk, hlow, _⟩ := finU_some h hn
          have : n = 3 := by omega
          subst this
          have k1 := isC_iff.1 hc.1
          have k2 := isC_iff.1 hc.2
          unfold acc at *
          rw [pointL_3 (by omega) (by omega) (by omega), byteOf_eq (c := b) (by omega), byteOf_eq (c := c1) (by omega), byteOf_eq (c := c2) (by omega)]; rfl
        · exact hz rfl h
    by_cases h5 : b.toNat < 248
    · match t, h with
      | [], h => exact hz (by show (if b.toNat < 128 then _ else _) = _; rw [if_neg h1, if_neg h2, if_neg h3, if_neg h4, if_pos h5]) h
      | [c1], h => exact hz (by show (if b.toNat < 128 then _ else _) = _; rw [if_neg h1, if_neg h2, if_neg h3, if_neg h4, if_pos h5]) h
      | [c1, c2], h => exact hz (by show (if b.toNat < 128 then _ else _) = _; rw [if_neg h1, if_neg h2, if_neg h3, if_neg h4, if_pos h5]) h
      | c1 :: c2 :: c3 :: t, h =>
        rw [nextL_4 (by omega) h5] at h
        split at h
        · rename_i hc
          obtain ⟨rfl, hk, hlow, _⟩ := finU_some h hn
          have : n = 4 := by omega
          subst this
          have k1 := isC_iff.1 hc.1
          have k2 := isC_iff.1 hc.2.1
          have k3 := isC_iff.1 hc.2.2
          unfold acc at *
          rw [pointL_4 (by omega) (by omega) (by omega), byteOf_eq (c := b) (by omega), byteOf_eq (c := c1) (by omega), byteOf_eq (c := c2) (by omega), byteOf_eq (c := c3) (by omega)]; rfl
        · exact hz rfl h
    · exact hz (by show (if b.toNat < 128 then _ else _) = _; rw [if_neg h1, if_neg h2, if_neg h3, if_neg h4, if_neg h5]) h

theorem finU_ok {low r n : Int} (h : low ≤ r) (hm : mayB r = true) : finU low r n = (r, n) := by
  unfold finU; rw [if_neg (by rw [hm]; simp; omega)]
/-- what is encoded is decoded, whatever follows -/
theorem next_point {r : Int} (hm : mayB r = true) (more : List UInt8) : nextL (pointL r ++ more) = (r, ((pointL r).length : Int)) := by
  obtain ⟨h0, h9⟩ := may_range hm
  by_cases h1 : r < 128
  · rw [pointL_1 h1]
    have := byteOf_toNat h0 (by omega)
    show (if (byteOf r).toNat < 128 then (((byteOf r).toNat : Int), (1 : Int)) else _) = _
    rw [if_pos (by omega), this]; rfl
  by_cases h2 : r < 2048
  · rw [pointL_2 h1 h2]
    have a := byteOf_toNat (n := 192 + r / 64) (by omega) (by omega)
    have b := byteOf_toNat (n := 128 + r % 64) (by omega) (by omega)
    show nextL (_ :: _ :: more) = _
    rw [nextL_2 (by omega) (by omega), if_pos (isC_iff.2 (by omega))]
    unfold acc
    rw [a, b]
    have e : (192 + r / 64 - 192) * 64 + (128 + r % 64) % 64 = r := by omega
    rw [e, finU_ok (by omega) hm]; rfl
  by_cases h3 : r < 65536
  · rw [pointL_3 h1 h2 h3]
    have a := byteOf_toNat (n := 224 + r / 4096) (by omega) (by omega)
    have b := byteOf_toNat (n := 128 + r / 64 % 64) (by omega) (by omega)
    have c := byteOf_toNat (n := 128 + r % 64) (by omega) (by omega)
    show nextL (_ :: _ :: _ :: more) = _
    rw [nextL_3 (by omega) (by omega), if_pos ⟨isC_iff.2 (by omega), isC_iff.2 (by omega)⟩]
    unfold acc
    rw [a, b, c]
    have e : ((224 + r / 4096 - 224) * 64 + (128 + r / 64 % 64) % 64) * 64 + (128 + r % 64) % 64 = r := by omega
    rw [e, finU_ok (by omega) hm]; rfl
  · rw [pointL_4 h1 h2 h3]
    have a := byteOf_toNat (n := 240 + r / 262144) (by omega) (by omega)
    have b := byteOf_toNat (n := 128 + r / 4096 % 64) (by omega) (by omega)
    have c := byteOf_toNat (n := 128 + r / 64 % 64) (by omega) (by omega)
    have d := byteOf_toNat (n := 128 + r % 64) (by omega) (by omega)
    show nextL (_ :: _ :: _ :: _ :: more) = _
    rw [nextL_4 (by omega) (by omega), if_pos ⟨isC_iff.2 (by omega), isC_iff.2 (by omega), isC_iff.2 (by omega)⟩]
    unfold acc
    rw [a, b, c, d]
    have e : (((240 + r / 262144 - 240) * 64 + (128 + r / 4096 % 64) % 64) * 64 + (128 + r / 64 % 64) % 64) * 64 + (128 + r % 64) % 64 = r := by omega
    rw [e, finU_ok (by omega) hm]; rfl

/-- more behind it does not matter -/
theorem next_append {l : List UInt8} (h : stepL l ≠ 0) (m : List UInt8) : nextL (l ++ m) = nextL l := by
  rcases nextL_bounds l with hn | ⟨r, n, hn, hm, n1, n4, nl⟩
  · exact absurd (by unfold stepL; rw [hn]; rfl) h
  · have e := encode_next hn n1
    have hl : l = l.take n ++ l.drop n := (List.take_append_drop n l).symm
    rw [hn]
    have e2 : l ++ m = pointL r ++ (l.drop n ++ m) := by rw [e, ← List.append_assoc, List.take_append_drop]
    rw [e2, next_point hm]
    rw [e, List.length_take, Nat.min_eq_left nl]
theorem step_append {l : List UInt8} (h : stepL l ≠ 0) (m : List UInt8) : stepL (l ++ m) = stepL l := by
  unfold stepL; rw [next_append h m]
theorem step_le (l : List UInt8) : stepL l ≤ l.length := by
  rcases nextL_bounds l with hn | ⟨r, n, hn, _, _, _, nl⟩
  · unfold stepL; rw [hn]; simp
  · rw [stepL_of hn]; exact nl

/-- induction over code points -/
theorem text_ind {p : List UInt8 → Prop} (nil : p []) (step : ∀ l, stepL l ≠ 0 → p (l.drop (stepL l)) → p l) : ∀ l, badL l = none → p l := by
  have key : ∀ n, ∀ l : List UInt8, l.length ≤ n → badL l = none → p l := by
    intro n
    induction n with
    | zero => intro l hl _; cases l with | nil => exact nil | cons _ _ => simp at hl
    | succ n ih =>
      intro l hl hb
      by_cases h0 : l = []
      · subst h0; exact nil
      · by_cases hs : stepL l = 0
        · rw [badL_zero h0 hs] at hb; cases hb
        · refine step l hs (ih _ ?_ ?_)
          · simp; omega
          · rw [badL_step hs] at hb
            cases hd : badL (l.drop (stepL l)) with
            | none => rfl
            | some x => rw [hd] at hb; cases hb
  exact fun l hb => key l.length l (Nat.le_refl _) hb

theorem bad_append {a b : List UInt8} (ha : badL a = none) : badL (a ++ b) = (badL b).map (· + a.length) := by
  refine text_ind (p := fun a => badL (a ++ b) = (badL b).map (· + a.length)) (by simp) ?_ a ha
  intro l hs ih
  rw [badL_step (by rw [step_append hs]; exact hs), step_append hs, List.drop_append_of_le_length (step_le l), ih, Option.map_map]
  congr 1
  funext x
  have := step_le l
  simp; omega
theorem bad_append_none {a b : List UInt8} (ha : badL a = none) (hb : badL b = none) : badL (a ++ b) = none := by rw [bad_append ha, hb]; rfl
theorem pts_append {a b : List UInt8} (ha : badL a = none) : ptsL (a ++ b) = ptsL a ++ ptsL b := by
  refine text_ind (p := fun a => ptsL (a ++ b) = ptsL a ++ ptsL b) (by simp [ptsL_nil]) ?_ a ha
  intro l hs ih
  rw [ptsL_step (by rw [step_append hs]; exact hs), step_append hs, next_append hs, List.drop_append_of_le_length (step_le l), ih, ptsL_step hs]
  rfl
theorem pts_may {l : List UInt8} (h : badL l = none) : ∀ r ∈ ptsL l, mayB r = true := by
  refine text_ind (p := fun l => ∀ r ∈ ptsL l, mayB r = true) (by simp [ptsL_nil]) ?_ l h
  intro l hs ih r hr
  rw [ptsL_step hs] at hr
  rcases List.mem_cons.1 hr with rfl | hr
  · rcases nextL_bounds l with hn | ⟨r, n, hn, hm, _⟩
    · exact absurd (by unfold stepL; rw [hn]; rfl) hs
    · rw [hn]; exact hm
  · exact ih r hr
/-- a text is its code points, each as its bytes -/
theorem pts_join {l : List UInt8} (h : badL l = none) : (ptsL l).flatMap pointL = l := by
  refine text_ind (p := fun l => (ptsL l).flatMap pointL = l) (by simp [ptsL_nil]) ?_ l h
  intro l hs ih
  rw [ptsL_step hs, List.flatMap_cons, ih]
  rcases nextL_bounds l with hn | ⟨r, n, hn, hm, n1, _⟩
  · exact absurd (by unfold stepL; rw [hn]; rfl) hs
  · rw [stepL_of hn, hn, encode_next hn n1, List.take_append_drop]

theorem bl_byte {x y : Int} (hx : 0 ≤ x) (hx' : x < 256) (hy : 0 ≤ y) (hy' : y < 256) (l m : List UInt8) : Op.bytesLess (byteOf x :: l) (byteOf y :: m) = (decide (x < y) || (decide (x = y) && Op.bytesLess l m)) := by
  have a := byteOf_toNat hx hx'
  have b := byteOf_toNat hy hy'
  have e1 : decide (byteOf x < byteOf y) = decide (x < y) := by
    rw [Bool.eq_iff_iff]; simp [UInt8.lt_iff_toNat_lt]; omega
  have e2 : (byteOf x == byteOf y) = decide (x = y) := by
    rw [Bool.eq_iff_iff]; simp only [beq_iff_eq, decide_eq_true_eq]
    constructor
    · intro h; have := congrArg UInt8.toNat h; omega
    · intro h; rw [h]
  show (decide (byteOf x < byteOf y) || (byteOf x == byteOf y && Op.bytesLess l m)) = _
  rw [e1, e2]
theorem bl_nil : Op.bytesLess [] [] = false := rfl
theorem point_less {a b : Int} (ha : mayB a = true) (hb : mayB b = true) : Op.bytesLess (pointL a) (pointL b) = decide (a < b) := by
  obtain ⟨a0, a9⟩ := may_range ha
  obtain ⟨b0, b9⟩ := may_range hb
  by_cases h1 : a < 128 <;> by_cases h2 : a < 2048 <;> by_cases h3 : a < 65536 <;> by_cases k1 : b < 128 <;> by_cases k2 : b < 2048 <;> by_cases k3 : b < 65536 <;> first
    | omega
    | (simp only [pointL_1, pointL_2, pointL_3, pointL_4, h1, h2, h3, k1, k2, k3, not_false_iff]
       rw [bl_byte (by omega) (by omega) (by omega) (by omega), Bool.eq_iff_iff]
       try rw [bl_byte (by omega) (by omega) (by omega) (by omega)]
       try rw [bl_byte (by omega) (by omega) (by omega) (by omega)]
       try rw [bl_byte (by omega) (by omega) (by omega) (by omega)]
       simp only [Op.bytesLess, Bool.or_eq_true, Bool.and_eq_true, decide_eq_true_eq, Bool.false_eq_true, and_false, or_false]
       try omega)
theorem point_inj {a b : Int} (ha : mayB a = true) (hb : mayB b = true) (h : pointL a = pointL b) : a = b := by
  have e1 := next_point ha []
  have e2 := next_point hb []
  rw [h, e2] at e1
  exact (congrArg Prod.fst e1).symm
theorem point_eq {a b : Int} (ha : mayB a = true) (hb : mayB b = true) : (pointL a == pointL b) = (a == b) := by
  rw [Bool.eq_iff_iff]; simp only [beq_iff_eq]
  exact ⟨point_inj ha hb, fun h => by rw [h]⟩

/-- the cut of a good text -/
theorem cut_spec {l : List UInt8} (h : badL l = none) : ∀ n, cutL l n ≤ n ∧ cutL l n ≤ l.length ∧ badL (l.take (cutL l n)) = none ∧ badL (l.drop (cutL l n)) = none ∧ (cutL l n = l.length ∨ n < cutL l n + stepL (l.drop (cutL l n))) := by
  refine text_ind (p := fun l => ∀ n, cutL l n ≤ n ∧ cutL l n ≤ l.length ∧ badL (l.take (cutL l n)) = none ∧ badL (l.drop (cutL l n)) = none ∧ (cutL l n = l.length ∨ n < cutL l n + stepL (l.drop (cutL l n)))) ?_ ?_ l h
  · intro n; rw [cutL_nil]; simp [badL_nil]
  · intro l hs ih n
    have h0 : l ≠ [] := by intro e; subst e; exact hs rfl
    have hm : max (stepL l) 1 = stepL l := by omega
    have hle := step_le l
    by_cases hf : stepL l ≤ n
    · obtain ⟨i1, i2, i3, i4, i5⟩ := ih (n - stepL l)
      rw [cutL_step h0 hm hf]
      generalize cutL (l.drop (stepL l)) (n - stepL l) = k at *
      rw [List.length_drop] at i2
      rw [List.drop_drop] at i4 i5
      rw [List.length_drop] at i5
      refine ⟨by omega, by omega, ?_, i4, by omega⟩
      rw [List.take_add]
      have e1 : badL (l.take (stepL l)) = none := by
        rcases nextL_bounds l with hn | ⟨r, j, hn, hr, n1, _, nl⟩
        · exact absurd (by unfold stepL; rw [hn]; rfl) hs
        · rw [stepL_of hn]
          have hp := encode_next hn n1
          have hnx := next_point hr []
          rw [List.append_nil, hp] at hnx
          have hj : (l.take j).length = j := by simp; omega
          rw [hj] at hnx
          rw [badL_step (by rw [stepL_of hnx]; omega), stepL_of hnx, List.drop_eq_nil_of_le (by omega), badL_nil]; rfl
      exact bad_append_none e1 i3
    · rw [cutL_stop h0 hm hf]
      refine ⟨by omega, by omega, by simp [badL_nil], ?_, Or.inr (by simp; omega)⟩
      simp only [List.drop_zero]
      rw [badL_step hs]
      obtain ⟨_, _, _, i4, _⟩ := ih 0
      have : badL (l.drop (stepL l)) = none := by
        cases hd : badL (l.drop (stepL l)) with
        | none => rfl
        | some x =>
          exfalso
          have hc := cutL_stop (l := l.drop (stepL l)) (n := 0) (m := max (stepL (l.drop (stepL l))) 1)
          by_cases e0 : l.drop (stepL l) = []
          · rw [e0, badL_nil] at hd; cases hd
          · rw [hc e0 rfl (by omega), List.drop_zero, hd] at i4; cases i4
      rw [this]; rfl

theorem pointL_len (r : Int) : 1 ≤ (pointL r).length ∧ (pointL r).length ≤ 4 := by
  unfold pointL; split
  · simp
  · split
    · simp
    · split <;> simp

end Go.Proofs.YtlejbindochiiaaDoor
