/-
  JSON: what is written holds code points alone, and is read as it was by json.Read. Plain.
-/
import Derived.Test.YtlejbindochiiaaDoorJsonStill2
namespace Go.Proofs.YtlejbindochiiaaDoor
open Go.RowKit
set_option linter.unusedVariables false
set_option linter.unusedSimpArgs false

theorem hexJ_small {n : Nat} (h : n < 16) : (hexJ n).toNat < 128 := by
  have := hex_digit n h
  exact (digit_small this).1
theorem byteJ_small {c : UInt8} (h : c.toNat < 128) : ∀ x ∈ byteJ c, x.toNat < 128 := by
  intro x hx
  unfold byteJ at hx
  cases hs : shortJ c with
  | some d =>
    rw [hs] at hx
    simp only at hx
    have hd : d.toNat < 128 := by
      unfold shortJ at hs
      repeat' split at hs
      all_goals first | (injection hs with hs; subst hs; decide) | cases hs
    simp at hx
    rcases hx with rfl | rfl
    · decide
    · exact hd
  | none =>
    rw [hs] at hx
    simp only at hx
    split at hx
    · rename_i h32
      simp at hx
      rcases hx with rfl | rfl | rfl | rfl | rfl
      · decide
      · decide
      · decide
      · exact hexJ_small (by omega)
      · exact hexJ_small (by omega)
    · simp at hx; subst hx; exact h
theorem point_small {r : Int} (hm : mayB r = true) (h : r < 128) : ∀ c ∈ pointL r, c.toNat < 128 := by
  intro c hc
  rw [pointL_1 h] at hc
  simp at hc
  have h0 := may_range hm
  obtain ⟨n, rfl⟩ := Int.eq_ofNat_of_zero_le h0.1
  subst hc
  unfold byteOf
  have : n < 128 := by omega
  simp
  omega
theorem bad_pointI {r : Int} (hm : mayB r = true) : badL (pointL r) = none := by
  obtain ⟨n, rfl⟩ := Int.eq_ofNat_of_zero_le (may_range hm).1
  exact bad_point hm
theorem flat_bad : ∀ s : List UInt8, badL s = none → badL (s.flatMap byteJ) = none := by
  refine text_ind (by simp [badL_nil]) fun l hl ih => ?_
  obtain ⟨r, n, hn, hm, h1⟩ : ∃ r : Int, ∃ n : Nat, nextL l = (r, (n : Int)) ∧ mayB r = true ∧ 1 ≤ n := by
    rcases nextL_bounds l with h | ⟨r, n, h, hm, h1, _⟩
    · exact absurd (by unfold stepL; rw [h]; rfl) hl
    · exact ⟨r, n, h, hm, h1⟩
  have hs := stepL_of hn
  rw [hs] at ih
  have e := encode_next hn h1
  have el : l = pointL r ++ l.drop n := by rw [e]; exact (List.take_append_drop n l).symm
  rw [el, List.flatMap_append]
  by_cases hr : r < 128
  · refine (bad_small_append (a := (pointL r).flatMap byteJ) fun c hc => ?_).2 ih
    obtain ⟨b, hb, hc⟩ := List.mem_flatMap.1 hc
    exact byteJ_small (point_small hm hr b hb) c hc
  · obtain ⟨m, rfl⟩ := Int.eq_ofNat_of_zero_le (may_range hm).1
    rw [flat_high (point_high hm (by omega))]
    exact bad_append_none (bad_point hm) ih
theorem quote_bad {s : List UInt8} (h : badL s = none) : badL (quoteJ s) = none := by
  unfold quoteJ
  refine (bad_small_append (a := [34]) (by simp)).2 (bad_append_none (flat_bad s h) ?_)
  exact (bad_small_append (a := [34]) (b := []) (by simp)).2 badL_nil
theorem small_bad {a : List UInt8} (h : ∀ c ∈ a, c.toNat < 128) : badL a = none := by
  have := (bad_small_append (b := []) h).2 badL_nil
  rwa [List.append_nil] at this
theorem items_bad {f : Jt → List UInt8} {obj : Bool} : ∀ (l : List Jt) (first : Bool) (ks : List (List UInt8)), (∀ x ∈ l, badL (f x) = none) → (∀ k ∈ ks, badL k = none) → badL (itemsJ f obj first ks l) = none
  | [], _, _, _, _ => badL_nil
  | x :: l, first, ks, hl, hk => by
    unfold itemsJ
    refine bad_append_none (bad_append_none (bad_append_none ?_ ?_) (hl x (by simp))) (items_bad l false ks.tail (fun y hy => hl y (List.mem_cons_of_mem _ hy)) fun k h => hk k (List.mem_of_mem_tail h))
    · cases first
      · exact small_bad (by simp)
      · exact badL_nil
    · cases obj
      · exact badL_nil
      · have : badL (ks.headD []) = none := by
          cases ks with
          | nil => exact badL_nil
          | cons k ks => exact hk k (by simp)
        exact bad_append_none (quote_bad this) (small_bad (by simp))
theorem write_bad : ∀ (d : Nat) (j : Jt), rightJ d j = none → badL (writeJ d j) = none
  | 0, _, h => by cases h
  | d + 1, .mk k t ks l, h => by
    obtain ⟨h1, h2, h3, h4, h5, h6⟩ := right_parts_J h
    have ht : badL t = none := by
      cases hb : badL t with
      | none => rfl
      | some i => exact absurd (Or.inr (by rw [hb]; simp)) h3
    have hi : ∀ obj, badL (itemsJ (writeJ d) obj true ks l) = none := fun obj => items_bad l true ks (fun x hx => write_bad d x (h6 x hx)) h4
    unfold writeJ
    rcases kinds h1 with rfl | rfl | rfl | rfl | rfl | rfl | rfl
    · exact small_bad (a := nullJ) (by decide)
    · exact small_bad (a := falseJ) (by decide)
    · exact small_bad (a := trueJ) (by decide)
    · exact ht
    · exact quote_bad ht
    · exact (bad_small_append (a := [91]) (by simp)).2 (bad_append_none (hi false) (small_bad (by simp)))
    · exact (bad_small_append (a := [123]) (by simp)).2 (bad_append_none (hi true) (small_bad (by simp)))
/-- a tree that is right is read as it was -/
theorem read_write {j : Jt} (h : rightJ 12 j = none) : readJ (writeJ 12 j) = if 20000 < (writeJ 12 j).length then .error (4, none) else .ok j := by
  unfold readJ
  split
  · rfl
  · rw [write_bad 12 j h]
    have := tree_read 12 j h [] stop_nil
    rw [List.append_nil] at this
    rw [this]
    rfl
/-- what is read is right, and no longer when it is written -/
theorem read_right {s : List UInt8} {j : Jt} (h : readJ s = .ok j) : rightJ 12 j = none ∧ (writeJ 12 j).length ≤ s.length ∧ s.length ≤ 20000 := by
  unfold readJ at h
  split at h
  · cases h
  · rename_i hs
    cases hb : badL s with
    | some i => rw [hb] at h; cases h
    | none =>
      rw [hb] at h
      cases ht : treeJ 12 s with
      | error e => rw [ht] at h; cases h
      | ok p =>
        obtain ⟨x, t⟩ := p
        rw [ht] at h
        simp only at h
        split at h
        · injection h with h
          subst h
          obtain ⟨hr, _, hl⟩ := tree_ok 12 s x t ht hb
          exact ⟨hr, by omega, by omega⟩
        · cases h

end Go.Proofs.YtlejbindochiiaaDoor
