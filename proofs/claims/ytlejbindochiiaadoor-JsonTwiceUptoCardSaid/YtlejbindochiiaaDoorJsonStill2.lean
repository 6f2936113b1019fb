/-
  Trees that are read are right; written again they are read as they were. Plain.
-/
import Derived.Test.YtlejbindochiiaaDoorJsonStillL
namespace Go.Proofs.YtlejbindochiiaaDoor
open Go.RowKit
set_option linter.unusedVariables false
set_option linter.unusedSimpArgs false

/-- what is read with f is right, and is no shorter than it is written -/
def GoodJ (d : Nat) : Prop := ∀ l x t, treeJ d l = .ok (x, t) → badL l = none → rightJ d x = none ∧ badL t = none ∧ (writeJ d x).length + t.length ≤ l.length
theorem elemsJ_step (f : List UInt8 → JRs Jt) (n : Nat) (more : Bool) (l : List UInt8) : elemsJ f (n + 1) more l = match isJ 93 l with
    | some r => .ok ([], r)
    | none => JRs.next (if more then wantJ 44 l else .ok ((), l)) fun _ t => JRs.next (f t) fun x u => JRs.next (elemsJ f n true (blankJ u)) fun xs v => .ok (x :: xs, v) := rfl
theorem membJ_step (f : List UInt8 → JRs Jt) (n : Nat) (ks : List (List UInt8)) (l : List UInt8) : membJ f (n + 1) ks l = match isJ 125 l with
    | some r => .ok (([], []), r)
    | none => JRs.next (if ks = [] then .ok ((), l) else JRs.next (wantJ 44 l) fun _ t => .ok ((), blankJ t)) fun _ t =>
      JRs.next (strJ t) fun k u => if k ∈ ks then .error (9, t.length) else
        JRs.next (wantJ 58 (blankJ u)) fun _ v => JRs.next (f v) fun x w => JRs.next (membJ f n (ks ++ [k]) (blankJ w)) fun p z => .ok ((k :: p.1, x :: p.2), z) := rfl
theorem elems_ok {d : Nat} (ih : GoodJ d) : ∀ (n : Nat) (more : Bool) (l : List UInt8) (xs : List Jt) (t : List UInt8) (ks : List (List UInt8)), elemsJ (treeJ d) n more l = .ok (xs, t) → badL l = none →
    (∀ x ∈ xs, rightJ d x = none) ∧ badL t = none ∧ (itemsJ (writeJ d) false (!more) ks xs).length + 1 + t.length ≤ l.length
  | 0, more, l, xs, t, ks, h, _ => by cases h
  | n + 1, more, l, xs, t, ks, h, hb => by
    rw [elemsJ_step] at h
    cases hi : isJ 93 l with
    | some r =>
      rw [hi] at h
      injection h with h; injection h with h1 h2; subst h1; subst h2
      have e := isJ_some hi
      rw [e] at hb
      refine ⟨by simp, (bad_cons_none (by decide)).1 hb, ?_⟩
      rw [e]; simp [itemsJ]; omega
    | none =>
      rw [hi] at h
      simp only at h
      obtain ⟨_, t1, h1, h2⟩ := jnext_ok.1 h
      obtain ⟨x, u, h3, h4⟩ := jnext_ok.1 h2
      obtain ⟨xs', v, h5, h6⟩ := jnext_ok.1 h4
      injection h6 with h6; injection h6 with h7 h8; subst h7; subst h8
      have hk : badL t1 = none ∧ t1.length + (if more then 1 else 0) ≤ l.length := by
        cases more with
        | true =>
          simp only [if_true] at h1
          have e := want_ok h1
          rw [e] at hb
          exact ⟨(bad_cons_none (by decide)).1 hb, by rw [e]; simp⟩
        | false =>
          simp only [Bool.false_eq_true, if_false] at h1
          injection h1 with h1; injection h1 with _ h1; subst h1
          exact ⟨hb, by simp⟩
      obtain ⟨a1, a2, a3⟩ := ih t1 x u h3 hk.1
      obtain ⟨b1, b2, b3⟩ := elems_ok ih n true (blankJ u) xs' v ks.tail h5 (blank_bad a2)
      have hl := blank_len u
      have h9 := hk.2
      refine ⟨fun y hy => ?_, b2, ?_⟩
      · rcases List.mem_cons.1 hy with rfl | hy
        · exact a1
        · exact b1 y hy
      · rw [show (!true) = false from rfl] at b3
        cases more with
        | true => simp [itemsJ] at b3 h9 ⊢; omega
        | false => simp [itemsJ] at b3 h9 ⊢; omega
theorem memb_ok {d : Nat} (ih : GoodJ d) : ∀ (n : Nat) (pre : List (List UInt8)) (l : List UInt8) (p : List (List UInt8) × List Jt) (t : List UInt8), membJ (treeJ d) n pre l = .ok (p, t) → badL l = none → pre.Nodup →
    (pre ++ p.1).Nodup ∧ p.1.length = p.2.length ∧ (∀ k ∈ p.1, badL k = none) ∧ (∀ x ∈ p.2, rightJ d x = none) ∧ badL t = none ∧ (itemsJ (writeJ d) true pre.isEmpty p.1 p.2).length + 1 + t.length ≤ l.length
  | 0, pre, l, p, t, h, _, _ => by cases h
  | n + 1, pre, l, p, t, h, hb, hnd => by
    rw [membJ_step] at h
    cases hi : isJ 125 l with
    | some r =>
      rw [hi] at h
      injection h with h; injection h with h1 h2; subst h1; subst h2
      have e := isJ_some hi
      rw [e] at hb
      refine ⟨by simpa using hnd, rfl, by simp, by simp, (bad_cons_none (by decide)).1 hb, ?_⟩
      rw [e]; simp [itemsJ]; omega
    | none =>
      rw [hi] at h
      simp only at h
      obtain ⟨_, t1, h1, h2⟩ := jnext_ok.1 h
      obtain ⟨k, u, h3, h4⟩ := jnext_ok.1 h2
      split at h4
      · cases h4
      · rename_i hkn
        obtain ⟨_, v, h5, h6⟩ := jnext_ok.1 h4
        obtain ⟨x, w, h7, h8⟩ := jnext_ok.1 h6
        obtain ⟨q, z, h9, h10⟩ := jnext_ok.1 h8
        injection h10 with h10; injection h10 with h11 h12; subst h11; subst h12
        have hk : badL t1 = none ∧ t1.length + (if pre.isEmpty then 0 else 1) ≤ l.length := by
          cases pre with
          | nil =>
            simp only [if_true] at h1
            injection h1 with h1; injection h1 with _ h1; subst h1
            exact ⟨hb, by simp⟩
          | cons a pre =>
            rw [if_neg (by simp)] at h1
            obtain ⟨_, t2, h13, h14⟩ := jnext_ok.1 h1
            injection h14 with h14; injection h14 with _ h14; subst h14
            have e := want_ok h13
            rw [e] at hb
            have hl := blank_len t2
            refine ⟨blank_bad ((bad_cons_none (by decide)).1 hb), ?_⟩
            rw [e]; simp; omega
        obtain ⟨s1, s2, s3, _⟩ := str_ok h3 hk.1
        have e := want_ok h5
        have hv : badL v = none := by
          have := blank_bad s2
          rw [e] at this
          exact (bad_cons_none (by decide)).1 this
        have hvl : v.length + 1 ≤ u.length := by
          have := blank_len u
          rw [e] at this; simpa using this
        obtain ⟨a1, a2, a3⟩ := ih v x w h7 hv
        have hnd2 : (pre ++ [k]).Nodup := by
          rw [List.nodup_append]
          exact ⟨hnd, by simp, fun a ha b hb => by simp at hb; subst hb; rintro rfl; exact hkn ha⟩
        obtain ⟨b1, b2, b3, b4, b5, b6⟩ := memb_ok ih n (pre ++ [k]) (blankJ w) q z h9 (blank_bad a2) hnd2
        have hl := blank_len w
        have h13 := hk.2
        have hpe : (pre ++ [k]).isEmpty = false := by simp
        rw [hpe] at b6
        refine ⟨by simpa using b1, by simp [b2], fun y hy => ?_, fun y hy => ?_, b5, ?_⟩
        · rcases List.mem_cons.1 hy with rfl | hy
          · exact s1
          · exact b3 y hy
        · rcases List.mem_cons.1 hy with rfl | hy
          · exact a1
          · exact b4 y hy
        · cases hp : pre.isEmpty with
          | true => rw [hp] at h13; simp [itemsJ] at b6 h13 ⊢; omega
          | false => rw [hp] at h13; simp [itemsJ] at b6 h13 ⊢; omega
theorem take_word {l w : List UInt8} (h : l.take w.length = w) : l = w ++ l.drop w.length := by
  conv => lhs; rw [← List.take_append_drop w.length l, h]
theorem word_case {d : Nat} {k : Int} {l l1 w : List UInt8} (hw : ∀ c ∈ w, c.toNat < 128) (hl : l1.length ≤ l.length) (hb : badL l1 = none) (hk : writeJ (d + 1) (.mk k [] [] []) = w) (hr : rightJ (d + 1) (.mk k [] [] []) = none) (h : l1.take w.length = w) :
    rightJ (d + 1) (.mk k [] [] []) = none ∧ badL (l1.drop w.length) = none ∧ (writeJ (d + 1) (.mk k [] [] [])).length + (l1.drop w.length).length ≤ l.length := by
  have e := take_word h
  rw [e] at hb
  refine ⟨hr, (bad_small_append hw).1 hb, ?_⟩
  rw [hk]
  have := congrArg List.length e
  rw [List.length_append] at this; omega
/-- WHAT IS READ IS RIGHT -/
theorem tree_ok : ∀ d, GoodJ d
  | 0, l, x, t, h, _ => by cases h
  | d + 1, l, x, t, h, hb => by
    have ih := tree_ok d
    have hb1 := blank_bad hb
    have hl1 := blank_len l
    unfold treeJ at h
    obtain ⟨l1, hl⟩ : ∃ l1, blankJ l = l1 := ⟨_, rfl⟩
    rw [hl] at h hb1 hl1
    clear hl hb
    by_cases c1 : l1.take 4 = nullJ
    · rw [if_pos c1] at h
      injection h with h; injection h with h1 h2; subst h1; subst h2
      exact word_case (w := nullJ) (by decide) hl1 hb1 rfl (right_of_J (by decide) (by simp) (by simp [badL_nil]) (by simp) (by simp) (by simp)) c1
    · rw [if_neg c1] at h
      by_cases c2 : l1.take 5 = falseJ
      · rw [if_pos c2] at h
        injection h with h; injection h with h1 h2; subst h1; subst h2
        exact word_case (w := falseJ) (by decide) hl1 hb1 rfl (right_of_J (by decide) (by simp) (by simp [badL_nil]) (by simp) (by simp) (by simp)) c2
      · rw [if_neg c2] at h
        by_cases c3 : l1.take 4 = trueJ
        · rw [if_pos c3] at h
          injection h with h; injection h with h1 h2; subst h1; subst h2
          exact word_case (w := trueJ) (by decide) hl1 hb1 rfl (right_of_J (by decide) (by simp) (by simp [badL_nil]) (by simp) (by simp) (by simp)) c3
        · rw [if_neg c3] at h
          by_cases c4 : 0 < numJ l1
          · rw [if_pos c4] at h
            injection h with h; injection h with h1 h2; subst h1; subst h2
            have hle := num_le l1
            have hch : ∀ c ∈ l1.take (numJ l1), c.toNat < 128 := fun c hc => numCh_small (num_ch l1 c hc)
            have e : l1 = l1.take (numJ l1) ++ l1.drop (numJ l1) := (List.take_append_drop _ _).symm
            have hlen : (l1.take (numJ l1)).length = numJ l1 := by simp; omega
            refine ⟨right_of_J (by decide) (by simp) ?_ (by simp) (by simp) (by simp), ?_, ?_⟩
            · rintro (⟨_, h | h⟩ | h)
              · rw [h] at hlen; simp at hlen; omega
              · exact h (by rw [num_take, hlen])
              · exact h (bad_ascii _ hch)
            · rw [e] at hb1; exact (bad_small_append hch).1 hb1
            · show (l1.take (numJ l1)).length + _ ≤ _
              rw [hlen, List.length_drop]; omega
          · rw [if_neg c4] at h
            cases l1 with
            | nil => cases h
            | cons c r =>
              simp only [List.length_cons] at hl1
              simp only at h
              by_cases c5 : c = 34
              · rw [if_pos c5] at h
                obtain ⟨s, u, h1, h2⟩ := jnext_ok.1 h
                injection h2 with h2; injection h2 with h3 h4; subst h3; subst h4
                obtain ⟨s1, s2, s3, _⟩ := str_ok h1 hb1
                refine ⟨right_of_J (by decide) (by simp) (by simp [s1]) (by simp) (by simp) (by simp), s2, ?_⟩
                simp only [List.length_cons] at s3
                show (quoteJ s).length + _ ≤ _
                omega
              · rw [if_neg c5] at h
                by_cases c6 : c = 91
                · rw [if_pos c6] at h
                  obtain ⟨xs, u, h1, h2⟩ := jnext_ok.1 h
                  injection h2 with h2; injection h2 with h3 h4; subst h3; subst h4
                  have hbr : badL r = none := (bad_cons_none (by rw [c6]; decide)).1 hb1
                  obtain ⟨a1, a2, a3⟩ := elems_ok ih _ false _ xs u [] h1 (blank_bad hbr)
                  have hlr := blank_len r
                  refine ⟨right_of_J (by decide) (by simp) (by simp [badL_nil]) (by simp) (by simp) a1, a2, ?_⟩
                  show (91 :: (itemsJ (writeJ d) false true [] xs ++ [93])).length + _ ≤ _
                  rw [show (!false) = true from rfl] at a3
                  simp only [List.length_cons, List.length_append, List.length_nil]; omega
                · rw [if_neg c6] at h
                  by_cases c7 : c = 123
                  · rw [if_pos c7] at h
                    obtain ⟨p, u, h1, h2⟩ := jnext_ok.1 h
                    injection h2 with h2; injection h2 with h3 h4; subst h3; subst h4
                    have hbr : badL r = none := (bad_cons_none (by rw [c7]; decide)).1 hb1
                    obtain ⟨a1, a2, a3, a4, a5, a6⟩ := memb_ok ih _ [] _ p u h1 (blank_bad hbr) (by simp)
                    have hlr := blank_len r
                    refine ⟨right_of_J (by decide) ⟨by simp, by simp, fun _ => a2, by simp⟩ (by simp [badL_nil]) a3 (by simpa using a1) a4, a5, ?_⟩
                    show (123 :: (itemsJ (writeJ d) true true p.1 p.2 ++ [125])).length + _ ≤ _
                    rw [show ([] : List (List UInt8)).isEmpty = true from rfl] at a6
                    simp only [List.length_cons, List.length_append, List.length_nil]; omega
                  · rw [if_neg c7] at h; cases h

end Go.Proofs.YtlejbindochiiaaDoor
