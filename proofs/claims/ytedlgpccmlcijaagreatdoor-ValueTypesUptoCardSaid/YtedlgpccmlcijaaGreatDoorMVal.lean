/-
  Texts merged into one: Holds, ValPlain, ValSpec.
-/
import Derived.Test.YtedlgpccmlcijaaGreatDoorMUtf
import Derived.Test.YtedlgpccmlcijaaGreatDoorMRight
import Derived.Test.YtedlgpccmlcijaaGreatDoorMText
import Derived.Test.YtedlgpccmlcijaaGreatDoorMLaws
namespace Go.Proofs.YtedlgpccmlcijaaGreatDoor
open Go.RowKit
set_option linter.unusedVariables false
set_option linter.unusedSimpArgs false

/-- a byte that may stand in a text (of more lines) -/
def txtP (lines : Bool) (c : UInt8) : Bool := decide ((32 ≤ (c.toNat : Int) ∨ (c.toNat : Int) = 9 ∨ ((c.toNat : Int) = 10 ∧ lines = true)) ∧ (c.toNat : Int) ≠ 127)
def holdsB (s : List UInt8) (lines : Bool) : Bool := s.all (txtP lines) && (badL s).isNone
theorem holds_no {s : List UInt8} {lines : Bool} (h : s.all (txtP lines) = false) : holdsB s lines = false := by unfold holdsB; rw [h]; rfl
theorem holds_bad {s : List UInt8} {lines : Bool} {k : Nat} (h : badL s = some k) : holdsB s lines = false := by unfold holdsB; rw [h]; simp
theorem holds_yes {s : List UInt8} {lines : Bool} (h : s.all (txtP lines) = true) (hb : badL s = none) : holdsB s lines = true := by unfold holdsB; rw [h, hb]; rfl
theorem holds_iff {s : List UInt8} {lines : Bool} : holdsB s lines = true ↔ (∀ c ∈ s, txtP lines c = true) ∧ badL s = none := by
  unfold holdsB
  rw [Bool.and_eq_true, List.all_eq_true, Option.isNone_iff_eq_none]
set_option maxRecDepth 100000 in
set_option maxHeartbeats 1000000 in
theorem holds_any (s : List UInt8) (lines : Bool) (w : World) (hs : s.length ≤ 1000000) : Pure 14 #[.string (S s), .bool lines] w (.bool (holdsB s lines)) := by
  have hbad := fun W => bad_any s W (by omega)
  have HB := hid hbad
  obtain ⟨o, ho⟩ : ∃ o, badL s = o := ⟨_, rfl⟩
  rw [ho] at HB
  have HO := hid ho
  clear hbad ho
  cases lines with
  | false =>
    go_enter Tryz.func14, Tryz.ntmps14
    go_wp2_with fail
    go_loop [9] (fun i => ∃ k : Nat, k ≤ s.length ∧ i = .int .i64 k ∧ (s.take k).all (txtP false) = true) (fun i => s.length - (intOf i).toNat)
    case atStart => exact ⟨0, Nat.zero_le _, rfl, rfl⟩
    case round =>
      obtain ⟨k, hk, rfl, hr⟩ := hrel
      have HR := hid hr; clear hr
      by_cases hlt : k < s.length
      case neg =>
        have HA := hid (all_end HR.out (by omega))
        cases o with
        | none =>
          go_wp2_with fail
          refine (HB.out _).use ?_
          simp only [badV]
          go_wp2_with fail
          go_ret
          exact ⟨ret_bool (holds_yes HA.out HO.out).symm, rfl⟩
        | some p =>
          go_wp2_with fail
          refine (HB.out _).use ?_
          simp only [badV]
          go_wp2_with fail
          go_ret
          exact ⟨ret_bool (holds_bad HO.out).symm, rfl⟩
      have hb := s[k].toNat_lt
      go_wp2_with fail
      all_goals try (go_ret; refine ⟨ret_bool (holds_no (all_at hlt (by unfold txtP; rw [decide_eq_false_iff_not]; (try simp only [Bool.false_eq_true, and_false, or_false, and_true]); ((try simp only [beq_iff_eq, beq_eq_false_iff_ne, bne_iff_ne, bne_eq_false_iff_eq, Bool.not_eq_true, ne_eq] at *); omega)))).symm, rfl⟩; done)
      all_goals go_round
      all_goals try (case measure => simp [intOf]; omega)
      all_goals exact ⟨k + 1, by omega, by go_num, all_step HR.out hlt (by unfold txtP; rw [decide_eq_true_iff]; (try simp only [Bool.false_eq_true, and_false, or_false, and_true]); ((try simp only [beq_iff_eq, beq_eq_false_iff_ne, bne_iff_ne, bne_eq_false_iff_eq, Bool.not_eq_true, ne_eq] at *); omega))⟩

  | true =>
    go_enter Tryz.func14, Tryz.ntmps14
    go_wp2_with fail
    go_loop [9] (fun i => ∃ k : Nat, k ≤ s.length ∧ i = .int .i64 k ∧ (s.take k).all (txtP true) = true) (fun i => s.length - (intOf i).toNat)
    case atStart => exact ⟨0, Nat.zero_le _, rfl, rfl⟩
    case round =>
      obtain ⟨k, hk, rfl, hr⟩ := hrel
      have HR := hid hr; clear hr
      by_cases hlt : k < s.length
      case neg =>
        have HA := hid (all_end HR.out (by omega))
        cases o with
        | none =>
          go_wp2_with fail
          refine (HB.out _).use ?_
          simp only [badV]
          go_wp2_with fail
          go_ret
          exact ⟨ret_bool (holds_yes HA.out HO.out).symm, rfl⟩
        | some p =>
          go_wp2_with fail
          refine (HB.out _).use ?_
          simp only [badV]
          go_wp2_with fail
          go_ret
          exact ⟨ret_bool (holds_bad HO.out).symm, rfl⟩
      have hb := s[k].toNat_lt
      go_wp2_with fail
      all_goals try (go_ret; refine ⟨ret_bool (holds_no (all_at hlt (by unfold txtP; rw [decide_eq_false_iff_not]; (try simp only [Bool.false_eq_true, and_false, or_false, and_true]); ((try simp only [beq_iff_eq, beq_eq_false_iff_ne, bne_iff_ne, bne_eq_false_iff_eq, Bool.not_eq_true, ne_eq] at *); omega)))).symm, rfl⟩; done)
      all_goals go_round
      all_goals try (case measure => simp [intOf]; omega)
      all_goals exact ⟨k + 1, by omega, by go_num, all_step HR.out hlt (by unfold txtP; rw [decide_eq_true_iff]; (try simp only [Bool.false_eq_true, and_false, or_false, and_true]); ((try simp only [beq_iff_eq, beq_eq_false_iff_ne, bne_iff_ne, bne_eq_false_iff_eq, Bool.not_eq_true, ne_eq] at *); omega))⟩


end Go.Proofs.YtedlgpccmlcijaaGreatDoor

namespace Go.Proofs.YtedlgpccmlcijaaGreatDoor
open Go.RowKit
set_option linter.unusedVariables false
set_option linter.unusedSimpArgs false

/-! ## code points -/
theorem next_ascii_val {b : UInt8} {t : List UInt8} (h : b.toNat < 128) : nextL (b :: t) = ((b.toNat : Int), 1) := by
  unfold nextL
  simp [h, show ¬ 128 ≤ b.toNat by omega]
theorem step_ascii {b : UInt8} {t : List UInt8} (h : b.toNat < 128) : stepL (b :: t) = 1 := by
  unfold stepL; rw [next_ascii_val h]; rfl
theorem bad_cons {b : UInt8} {t : List UInt8} (h : b.toNat < 128) : badL (b :: t) = (badL t).map (· + 1) := by
  have hs : stepL (b :: t) = 1 := step_ascii h
  rw [badL_step (by rw [hs]; decide), hs]; rfl
theorem bad_cons_none {b : UInt8} {t : List UInt8} (h : b.toNat < 128) : badL (b :: t) = none ↔ badL t = none := by
  rw [bad_cons h]; cases badL t <;> simp
theorem bad_ascii : ∀ (l : List UInt8), (∀ b ∈ l, b.toNat < 128) → badL l = none
  | [], _ => badL_nil
  | b :: t, h => (bad_cons_none (h b List.mem_cons_self)).2 (bad_ascii t fun x hx => h x (List.mem_cons_of_mem _ hx))
/-- a code point of more bytes has no small ones -/
theorem step_high {l : List UInt8} (h : stepL l ≠ 0) : stepL l = 1 ∧ (∃ b t, l = b :: t ∧ b.toNat < 128) ∨ ∀ b ∈ l.take (stepL l), 128 ≤ b.toNat := by
  cases l with
  | nil => exact absurd rfl h
  | cons b t =>
    by_cases hb : b.toNat < 128
    · exact .inl ⟨step_ascii hb, b, t, rfl, hb⟩
    · right
      rcases nextL_bounds (b :: t) with hn | ⟨r, n, hn, hm, n1, n4, nl⟩
      · exact absurd (by unfold stepL; rw [hn]; rfl) h
      · have hs : stepL (b :: t) = n := stepL_of hn
        rw [hs]
        have hp := encode_next hn n1
        rw [← hp]
        have hr : ¬ r < 128 := by
          intro hr
          rw [pointL_1 hr] at hp
          have hl := congrArg List.length hp
          simp at hl
          have hn1 : n = 1 := by simp at nl; omega
          subst hn1
          simp at hp
          have := (may_range hm).1
          have hbn : (byteOf r).toNat = r.toNat := by unfold byteOf; simp; omega
          rw [hp] at hbn
          omega
        have hby : ∀ x : Int, 128 ≤ x → x < 256 → 128 ≤ (byteOf x).toNat := by
          intro x h1 h2
          have : (byteOf x).toNat = x.toNat := by unfold byteOf; simp; omega
          omega
        have hr2 := may_range hm
        intro c hc
        by_cases h2 : r < 2048
        · rw [pointL_2 hr h2] at hc
          simp only [List.mem_cons, List.not_mem_nil, or_false] at hc
          rcases hc with rfl | rfl <;> exact hby _ (by omega) (by omega)
        · by_cases h3 : r < 65536
          · rw [pointL_3 hr h2 h3] at hc
            simp only [List.mem_cons, List.not_mem_nil, or_false] at hc
            rcases hc with rfl | rfl | rfl <;> exact hby _ (by omega) (by omega)
          · rw [pointL_4 hr h2 h3] at hc
            simp only [List.mem_cons, List.not_mem_nil, or_false] at hc
            rcases hc with rfl | rfl | rfl | rfl <;> exact hby _ (by omega) (by omega)
theorem bad_take {l : List UInt8} (h : stepL l ≠ 0) : badL (l.take (stepL l)) = none := by
  obtain ⟨hn, hl⟩ : (nextL (l.take (stepL l)) = nextL l) ∧ (l.take (stepL l)).length = stepL l := by
    have hl : (l.take (stepL l)).length = stepL l := by have := step_le l; simp; omega
    refine ⟨?_, hl⟩
    rcases nextL_bounds l with h0 | ⟨r, n, hn, hm, n1, n4, nl⟩
    · exact absurd (by unfold stepL; rw [h0]; rfl) h
    · have hs : stepL l = n := stepL_of hn
      rw [hs, ← encode_next hn n1]
      have := next_point hm ([] : List UInt8)
      rw [List.append_nil] at this
      rw [this, encode_next hn n1, hn]
      have : (l.take n).length = n := by simp; omega
      rw [this]
  have hs : stepL (l.take (stepL l)) = stepL l := congrArg (fun p : Int × Int => p.2.toNat) hn
  rw [badL_step (by rw [hs]; exact h), hs, List.drop_eq_nil_of_le (by omega), badL_nil]; rfl

/-! ## escapes -/
theorem escL_high {p : List UInt8} (h : ∀ b ∈ p, 128 ≤ b.toNat) : escL p = p := by
  induction p with
  | nil => rfl
  | cons b t ih =>
    have hb := h b List.mem_cons_self
    have e : rep1 escF b = [b] := by
      unfold rep1 escF
      rw [if_neg (by rintro rfl; exact absurd hb (by decide)), if_neg (by rintro rfl; exact absurd hb (by decide)), if_neg (by rintro rfl; exact absurd hb (by decide)), if_neg (by rintro rfl; exact absurd hb (by decide))]; rfl
    show rep1 escF b ++ escL t = _
    rw [e, ih fun x hx => h x (List.mem_cons_of_mem _ hx)]; rfl
theorem esc_small (c : UInt8) (h : c.toNat < 128) : ∀ b ∈ rep1 escF c, b.toNat < 128 := by
  have key := byte_all (fun c => decide (c.toNat < 128 → ∀ b ∈ rep1 escF c, b.toNat < 128)) (by decide +kernel) c
  exact (of_decide_eq_true key) h
theorem bad_escL : ∀ l, badL l = none → badL (escL l) = none := by
  refine text_ind ?_ ?_
  · exact badL_nil
  · intro l h ih
    have e : l = l.take (stepL l) ++ l.drop (stepL l) := (List.take_append_drop _ _).symm
    rcases step_high h with ⟨h1, b, t, rfl, hb⟩ | hh
    · rw [h1] at ih
      show badL (rep1 escF b ++ escL t) = none
      exact bad_append_none (bad_ascii _ (esc_small b hb)) ih
    · rw [e, show escL (l.take (stepL l) ++ l.drop (stepL l)) = escL (l.take (stepL l)) ++ escL (l.drop (stepL l)) from replL_append _ _ _, escL_high hh]
      exact bad_append_none (bad_take h) ih
theorem txt_esc (c : UInt8) (h : txtP true c = true) : ∀ b ∈ rep1 escF c, txtP false b = true := by
  have key := byte_all (fun c => decide (txtP true c = true → ∀ b ∈ rep1 escF c, txtP false b = true)) (by decide +kernel) c
  exact (of_decide_eq_true key) h
theorem holds_escL {s : List UInt8} (h : holdsB s true = true) : holdsB (escL s) false = true := by
  obtain ⟨h1, h2⟩ := holds_iff.1 h
  refine holds_iff.2 ⟨?_, bad_escL s h2⟩
  intro b hb
  obtain ⟨c, hc, hb⟩ := List.mem_flatMap.1 hb
  exact txt_esc c (h1 c hc) b hb
theorem holds_append {a b : List UInt8} {l : Bool} (ha : holdsB a l = true) (hb : holdsB b l = true) : holdsB (a ++ b) l = true := by
  obtain ⟨a1, a2⟩ := holds_iff.1 ha
  obtain ⟨b1, b2⟩ := holds_iff.1 hb
  refine holds_iff.2 ⟨fun c hc => ?_, bad_append_none a2 b2⟩
  rcases List.mem_append.1 hc with h | h
  · exact a1 c h
  · exact b1 c h
theorem holds_cons {c : UInt8} {b : List UInt8} {l : Bool} (hc : c.toNat < 128) (ht : txtP l c = true) (hb : holdsB b l = true) : holdsB (c :: b) l = true := by
  obtain ⟨b1, b2⟩ := holds_iff.1 hb
  refine holds_iff.2 ⟨fun x hx => ?_, (bad_cons_none hc).2 b2⟩
  rcases List.mem_cons.1 hx with rfl | h
  · exact ht
  · exact b1 x h
theorem holds_nil (l : Bool) : holdsB [] l = true := holds_iff.2 ⟨fun c hc => (by cases hc), badL_nil⟩
theorem holds_ascii {s : List UInt8} {l : Bool} (h : ∀ c ∈ s, 32 ≤ c.toNat ∧ c.toNat ≤ 126) : holdsB s l = true := by
  refine holds_iff.2 ⟨fun c hc => ?_, bad_ascii s fun b hb => by have := h b hb; omega⟩
  have := h c hc
  unfold txtP
  rw [decide_eq_true_iff]
  omega
theorem joinL_holds : ∀ (x : List UInt8) (xs : List (List UInt8)), (∀ s ∈ x :: xs, holdsB s true = true) → holdsB (joinL (x :: xs)) false = true
  | x, [], h => by
    have : joinL [x] = escL x := by rw [joinL_eq]; simp [joinS]
    rw [this]; exact holds_escL (h x List.mem_cons_self)
  | x, y :: ys, h => by
    have := joinL_append [x] (y :: ys) (by simp) (by simp)
    rw [List.singleton_append] at this
    rw [this]
    have e : joinL [x] = escL x := by rw [joinL_eq]; simp [joinS]
    rw [e]
    exact holds_append (holds_escL (h x List.mem_cons_self)) (holds_cons (by decide) (by decide) (joinL_holds y ys fun s hs => h s (List.mem_cons_of_mem _ hs)))
theorem joinL_holds' {l : List (List UInt8)} (h0 : l ≠ []) (h : ∀ s ∈ l, holdsB s true = true) : holdsB (joinL l) false = true := by
  cases l with
  | nil => exact absurd rfl h0
  | cons x xs => exact joinL_holds x xs h
theorem joinP_holds : ∀ (x : List (List UInt8)) (xs : List (List (List UInt8))), (∀ l ∈ x :: xs, l ≠ [] ∧ ∀ s ∈ l, holdsB s true = true) → holdsB (joinP (x :: xs)) false = true
  | x, [], h => by
    have : joinP [x] = joinL x := by rw [joinP_eq]; simp [joinS]
    obtain ⟨h1, h2⟩ := h x List.mem_cons_self
    rw [this]; exact joinL_holds' h1 h2
  | x, y :: ys, h => by
    have e : joinP (x :: y :: ys) = joinL x ++ 59 :: joinP (y :: ys) := by
      rw [joinP_eq, joinP_eq]; simp [joinS]
    obtain ⟨h1, h2⟩ := h x List.mem_cons_self
    rw [e]
    exact holds_append (joinL_holds' h1 h2) (holds_cons (by decide) (by decide) (joinP_holds y ys fun l hl => h l (List.mem_cons_of_mem _ hl)))

/-! ## what pieces read -/
theorem pieces_high (a : List UInt8) (ha : ∀ c ∈ a, c = 44 ∨ c = 59) : ∀ (p r : List UInt8) (k : Nat) (cur : List UInt8) (ts : List (List UInt8)) (cs : List UInt8), (∀ b ∈ p, 128 ≤ b.toNat) → piecesGo a (p ++ r) k cur ts cs = piecesGo a r (k + p.length) (cur ++ p) ts cs
  | [], r, k, cur, ts, cs, _ => by simp
  | b :: t, r, k, cur, ts, cs, h => by
    have hb := h b List.mem_cons_self
    have h1 : b ≠ 92 := by rintro rfl; exact absurd hb (by decide)
    have h2 : a.contains b = false := by
      cases e : a.contains b with
      | false => rfl
      | true =>
        rcases ha b (by simpa using e) with rfl | rfl <;> exact absurd hb (by decide)
    rw [List.cons_append, pieces_one h1 h2, pieces_high a ha t r (k + 1) (cur ++ [b]) ts cs fun x hx => h x (List.mem_cons_of_mem _ hx)]
    simp
    congr 1
    omega
theorem unesc_txt {d x : UInt8} (h : unescB d = some x) : x.toNat < 128 ∧ txtP true x = true := by
  unfold unescB at h
  split at h
  · rename_i hd; cases h; rcases hd with rfl | rfl | rfl <;> decide
  · split at h
    · cases h; decide
    · cases h
theorem txt_more {c : UInt8} (h : txtP false c = true) : txtP true c = true := by
  have key := byte_all (fun c => decide (txtP false c = true → txtP true c = true)) (by decide +kernel) c
  exact (of_decide_eq_true key) h
theorem pieces_holds (a : List UInt8) (ha : ∀ c ∈ a, c = 44 ∨ c = 59) : ∀ (n : Nat) (s : List UInt8), s.length ≤ n → holdsB s false = true → ∀ (k : Nat) (cur : List UInt8) (ts : List (List UInt8)) (cs : List UInt8) (T : List (List UInt8)) (C : List UInt8), holdsB cur true = true → (∀ t ∈ ts, holdsB t true = true) → piecesGo a s k cur ts cs = .good T C → ∀ t ∈ T, holdsB t true = true := by
  intro n
  induction n with
  | zero =>
    intro s hs _ k cur ts cs T C hc ht h
    rw [List.eq_nil_of_length_eq_zero (Nat.le_zero.1 hs), pieces_nil] at h
    cases h
    intro t hm
    rcases List.mem_append.1 hm with hm | hm
    · exact ht t hm
    · rw [List.mem_singleton.1 hm]; exact hc
  | succ n ih =>
    intro s hs hh k cur ts cs T C hc ht h
    obtain ⟨h1, h2⟩ := holds_iff.1 hh
    cases s with
    | nil =>
      rw [pieces_nil] at h
      cases h
      intro t hm
      rcases List.mem_append.1 hm with hm | hm
      · exact ht t hm
      · rw [List.mem_singleton.1 hm]; exact hc
    | cons c r =>
      have hst : stepL (c :: r) ≠ 0 := fun e => by rw [badL_zero (by simp) e] at h2; cases h2
      rcases step_high hst with ⟨_, b, t, hbt, hb⟩ | hhi
      · cases hbt
        have hr : holdsB r false = true := holds_iff.2 ⟨fun x hx => h1 x (List.mem_cons_of_mem _ hx), (bad_cons_none hb).1 h2⟩
        have hone : holdsB [c] true = true := holds_cons hb (txt_more (h1 c List.mem_cons_self)) (holds_nil _)
        by_cases e92 : c = 92
        · subst e92
          cases r with
          | nil => rw [pieces_end] at h; cases h
          | cons d q =>
            cases hu : unescB d with
            | none => rw [pieces_none hu] at h; cases h
            | some x =>
              rw [pieces_esc hu] at h
              have hd : d.toNat < 128 := by
                have := unesc_txt hu
                unfold unescB at hu
                split at hu
                · rename_i hd; rcases hd with rfl | rfl | rfl <;> decide
                · split at hu
                  · rename_i hd; rcases hd with rfl | rfl <;> decide
                  · cases hu
              obtain ⟨r1, r2⟩ := holds_iff.1 hr
              have hq : holdsB q false = true := holds_iff.2 ⟨fun x hx => r1 x (List.mem_cons_of_mem _ hx), (bad_cons_none hd).1 r2⟩
              have hx : holdsB [x] true = true := holds_cons (unesc_txt hu).1 (unesc_txt hu).2 (holds_nil _)
              exact ih q (by simp at hs; omega) hq _ _ _ _ T C (holds_append hc hx) ht h
        · by_cases hcut : a.contains c = true
          · rw [pieces_cut e92 hcut] at h
            refine ih r (by simpa using hs) hr _ _ _ _ T C (holds_nil _) ?_ h
            intro t hm
            rcases List.mem_append.1 hm with hm | hm
            · exact ht t hm
            · rw [List.mem_singleton.1 hm]; exact hc
          · rw [pieces_one e92 (by simpa using hcut)] at h
            exact ih r (by simpa using hs) hr _ _ _ _ T C (holds_append hc hone) ht h
      · have e : (c :: r) = (c :: r).take (stepL (c :: r)) ++ (c :: r).drop (stepL (c :: r)) := (List.take_append_drop _ _).symm
        have hle := step_le (c :: r)
        rw [e, pieces_high a ha _ _ _ _ _ _ hhi] at h
        have hd : holdsB ((c :: r).drop (stepL (c :: r))) false = true := by
          refine holds_iff.2 ⟨fun x hx => h1 x (List.mem_of_mem_drop hx), ?_⟩
          rw [badL_step hst] at h2
          simpa using h2
        have ht' : holdsB ((c :: r).take (stepL (c :: r))) true = true := holds_iff.2 ⟨fun x hx => txt_more (h1 x (List.mem_of_mem_take hx)), bad_take hst⟩
        exact ih _ (by simp at hs ⊢; omega) hd _ _ _ _ T C (holds_append hc ht') ht h
theorem pieces_holds' {a : List UInt8} (ha : ∀ c ∈ a, c = 44 ∨ c = 59) {s : List UInt8} {T : List (List UInt8)} {C : List UInt8} (hs : holdsB s false = true) (h : piecesGo a s 0 [] [] [] = .good T C) : ∀ t ∈ T, holdsB t true = true :=
  pieces_holds a ha s.length s (Nat.le_refl _) hs 0 [] [] [] T C (holds_nil _) (fun t ht => by cases ht) h
theorem partsOf_mem : ∀ (cs : List UInt8) (ts cur : List (List UInt8)) (l : List (List UInt8)) (t : List UInt8), l ∈ partsOf cur cs ts → t ∈ l → t ∈ cur ∨ t ∈ ts
  | [], [], cur, l, t, hl, ht => by
    simp [partsOf] at hl; subst hl; exact .inl ht
  | [], x :: ts, cur, l, t, hl, ht => by
    simp [partsOf] at hl; subst hl; exact .inl ht
  | c :: cs, [], cur, l, t, hl, ht => by
    simp [partsOf] at hl; subst hl; exact .inl ht
  | c :: cs, x :: ts, cur, l, t, hl, ht => by
    rw [partsOf_cons] at hl
    split at hl
    · rcases List.mem_cons.1 hl with rfl | hl
      · exact .inl ht
      · rcases partsOf_mem cs ts [x] l t hl ht with h | h
        · rw [List.mem_singleton.1 h]; exact .inr List.mem_cons_self
        · exact .inr (List.mem_cons_of_mem _ h)
    · rcases partsOf_mem cs ts (cur ++ [x]) l t hl ht with h | h
      · rcases List.mem_append.1 h with h | h
        · exact .inl h
        · rw [List.mem_singleton.1 h]; exact .inr List.mem_cons_self
      · exact .inr (List.mem_cons_of_mem _ h)

/-! ## dates, offsets, languages -/
theorem dd_print {b : UInt8} (h : dd b) : 32 ≤ b.toNat ∧ b.toNat ≤ 126 := by
  rcases h with h | rfl
  · have := dg_lt h; omega
  · decide
theorem printZ_print {z : Int} (hz : rightZ z = true) : ∀ b ∈ printZ z, 32 ≤ b.toNat ∧ b.toNat ≤ 126 := by
  have hr : -840 ≤ z ∧ z ≤ 840 := by unfold rightZ at hz; simpa using hz
  have key : ∀ k : Fin 1681, (printZ ((k.val : Int) - 840)).all (fun b => decide (32 ≤ b.toNat ∧ b.toNat ≤ 126)) = true := by decide +kernel
  intro b hb
  have h2 := key ⟨(z + 840).toNat, by omega⟩
  have e : (((z + 840).toNat : Nat) : Int) - 840 = z := by omega
  simp only [e] at h2
  simpa using List.all_eq_true.1 h2 b hb
theorem text_print (x : St) (hr : x.right = 0) : ∀ b ∈ x.text, 32 ≤ b.toNat ∧ b.toNat ≤ 126 := by
  have g := St.good hr
  obtain ⟨f1, f2, f3⟩ := bad_forms (St.right_zero hr).1
  obtain ⟨_, hdd⟩ := dateP_text x g f1
  intro b hb
  unfold St.text at hb
  split at hb
  · exact dd_print (hdd b hb)
  · rename_i ht
    have hc := (clock_text x g f2 ht).bytes
    rcases List.mem_append.1 hb with h | h
    · exact dd_print (hdd b h)
    · rcases List.mem_cons.1 h with rfl | h
      · decide
      · rcases List.mem_append.1 h with h | h
        · exact dd_print (hc b h)
        · split at h
          · exact printZ_print g.z b h
          · cases h
theorem letter_print {c : UInt8} (h : letterB c.toNat = true) : 32 ≤ c.toNat ∧ c.toNat ≤ 126 := by
  unfold letterB at h
  rw [decide_eq_true_iff] at h
  omega
theorem lang_print : ∀ (l : List UInt8) (first : Bool) (cur : Nat), scanL first cur l = true → ∀ b ∈ l, 32 ≤ b.toNat ∧ b.toNat ≤ 126
  | [], _, _, _, b, hb => by cases hb
  | c :: t, first, cur, h, b, hb => by
    unfold scanL at h
    split at h
    · rename_i hc
      rw [Bool.and_eq_true] at h
      rcases List.mem_cons.1 hb with rfl | hb
      · rw [hc]; decide
      · exact lang_print t false 0 h.2 b hb
    · rw [Bool.and_eq_true] at h
      rcases List.mem_cons.1 hb with rfl | hb
      · unfold pieceB at h
        rw [Bool.and_eq_true] at h
        exact letter_print h.1.1
      · exact lang_print t first (cur + 1) h.2 b hb
theorem holds_print {s : List UInt8} {l : Bool} (h : ∀ c ∈ s, 32 ≤ c.toNat ∧ c.toNat ≤ 126) : holdsB s l = true := holds_ascii h

end Go.Proofs.YtedlgpccmlcijaaGreatDoor

namespace Go.Proofs.YtedlgpccmlcijaaGreatDoor
open Go.RowKit
set_option linter.unusedVariables false
set_option linter.unusedSimpArgs false

structure Vl where
  ty : Int
  tx : List UInt8
  ps : List (List (List UInt8))
  st : St
  n : Int
def isT (k : Int) : Bool := decide (k = 1 ∨ k = 4 ∨ k = 7 ∨ k = 8)
def isL (k : Int) : Bool := decide (k = 2 ∨ k = 3)
def St.isZero (t : St) : Bool := decide (t.y = 0 ∧ t.m = 0 ∧ t.d = 0 ∧ t.h = 0 ∧ t.n = 0 ∧ t.s = 0 ∧ t.zd = false ∧ t.zn = 0)
theorem St.zero_iff {t : St} : t.isZero = true ↔ t = St0 := by
  obtain ⟨y, m, d, h, n, s, zd, zn⟩ := t
  unfold St.isZero St0
  rw [decide_eq_true_iff]
  simp
def Vl.only (v : Vl) : Bool := (isT v.ty || decide (v.tx = [])) && (isL v.ty || decide (v.ps = [])) && (decide (v.ty = 5) || v.st.isZero) && (decide (v.ty = 6) || decide (v.n = 0))
def uriB (l : List UInt8) : Bool := decide (begL l ≠ 0) && (badAt seenP l).isNone && decide (begL l + 1 ≠ l.length)
def listsB (ps : List (List (List UInt8))) : Bool := ps.all fun l => l.all fun s => holdsB s true
def Vl.body (v : Vl) : Bool :=
  if v.ty = 2 ∨ v.ty = 3 then !(decide (v.ps = []) || decide (v.ty = 2 ∧ v.ps.length ≠ 1)) && !(v.ps.any fun l => l.isEmpty) && listsB v.ps
  else if v.ty = 4 then uriB v.tx
  else if v.ty = 5 then decide (v.st.right = 0)
  else if v.ty = 6 then rightZ v.n
  else if v.ty = 7 then langB v.tx
  else holdsB v.tx (decide (v.ty = 1))
def Vl.ok (v : Vl) : Bool := decide (1 ≤ v.ty ∧ v.ty < 9) && v.only && v.body
def Vl.text (v : Vl) : List UInt8 :=
  if v.ty = 1 then escL v.tx else if v.ty = 2 ∨ v.ty = 3 then joinP v.ps else if v.ty = 5 then v.st.text else if v.ty = 6 then printZ v.n else v.tx
def tV (k : Int) (s : List UInt8) : Vl := ⟨k, s, [], St0, 0⟩
def readV (s : List UInt8) (k : Int) : Option Vl :=
  if ¬ (1 ≤ k ∧ k < 9) then none
  else if holdsB s false = false then none
  else if k = 1 then (match piecesGo [] s 0 [] [] [] with | .good (t :: _) _ => some (tV 1 t) | _ => none)
  else if k = 2 then (match piecesGo [44] s 0 [] [] [] with | .good T _ => some ⟨2, [], [T], St0, 0⟩ | _ => none)
  else if k = 3 then (match piecesGo [44, 59] s 0 [] [] [] with | .good (t :: ts) cs => some ⟨3, [], partsOf [t] cs ts, St0, 0⟩ | _ => none)
  else if k = 4 then (if uriB s = true then some (tV 4 s) else none)
  else if k = 5 then (if (parseW s).2 = 0 then some ⟨5, [], [], (parseW s).1, 0⟩ else none)
  else if k = 6 then (if (parseZ s).2 = 0 then some ⟨6, [], [], St0, (parseZ s).1⟩ else none)
  else if k = 7 then (if langB s = true then some (tV 7 s) else none)
  else some (tV 8 s)

theorem unesc_escL (x : List UInt8) : piecesGo [] (escL x) 0 [] [] [] = .good [x] [] := by
  have := pieces_escL [] (by simp) x [] 0 [] [] []
  rw [List.append_nil] at this
  rw [this, pieces_nil]; rfl
theorem list_of {x : List (List UInt8)} (h : x ≠ []) : piecesGo [44] (joinL x) 0 [] [] [] = .good x (List.replicate (x.length - 1) 44) := by
  cases x with
  | nil => exact absurd rfl h
  | cons a t => exact list_back a t
theorem parts_of {ps : List (List (List UInt8))} (h0 : ps ≠ []) (h : ∀ l ∈ ps, l ≠ []) : ∃ t ts cs, piecesGo [44, 59] (joinP ps) 0 [] [] [] = .good (t :: ts) cs ∧ partsOf [t] cs ts = ps := by
  cases ps with
  | nil => exact absurd rfl h0
  | cons l ls =>
    obtain ⟨x, xs, C, e1, _, e3⟩ := parts_pieces ls l (h l List.mem_cons_self) (fun m hm => h m (List.mem_cons_of_mem _ hm)) 0 [] []
    exact ⟨x, xs, C, by simpa using e1, e3⟩

theorem only_parts {v : Vl} (h : v.only = true) : (isT v.ty = false → v.tx = []) ∧ (isL v.ty = false → v.ps = []) ∧ (v.ty ≠ 5 → v.st = St0) ∧ (v.ty ≠ 6 → v.n = 0) := by
  unfold Vl.only at h
  simp only [Bool.and_eq_true, Bool.or_eq_true, decide_eq_true_eq, St.zero_iff] at h
  obtain ⟨⟨⟨h1, h2⟩, h3⟩, h4⟩ := h
  refine ⟨fun e => ?_, fun e => ?_, fun e => ?_, fun e => ?_⟩
  · rcases h1 with h | h
    · rw [e] at h; cases h
    · exact h
  · rcases h2 with h | h
    · rw [e] at h; cases h
    · exact h
  · rcases h3 with h | h
    · exact absurd h e
    · exact h
  · rcases h4 with h | h
    · exact absurd h e
    · exact h
theorem listsB_iff {ps : List (List (List UInt8))} : listsB ps = true ↔ ∀ l ∈ ps, ∀ s ∈ l, holdsB s true = true := by
  unfold listsB; simp [List.all_eq_true]
theorem uri_holds {s : List UInt8} (h : uriB s = true) : holdsB s false = true := by
  unfold uriB at h
  simp only [Bool.and_eq_true, Option.isNone_iff_eq_none] at h
  have := badAt_none.1 h.1.2
  refine holds_print fun c hc => ?_
  have := List.all_eq_true.1 this c hc
  unfold seenP at this
  rw [decide_eq_true_iff] at this
  omega
theorem holds_one {s : List UInt8} (h : holdsB s (decide ((8 : Int) = 1)) = true) : holdsB s false = true := h

/-- WHAT IS WRITTEN IS READ AS IT WAS, and may stand in a line -/
theorem val_back (v : Vl) (h : v.ok = true) : readV v.text v.ty = some v ∧ holdsB v.text false = true := by
  unfold Vl.ok at h
  simp only [Bool.and_eq_true, decide_eq_true_eq] at h
  obtain ⟨⟨⟨h1, h9⟩, ho⟩, hb⟩ := h
  obtain ⟨o1, o2, o3, o4⟩ := only_parts ho
  obtain ⟨ty, tx, ps, st, n⟩ := v
  simp only at h1 h9 o1 o2 o3 o4
  have hk : ty = 1 ∨ ty = 2 ∨ ty = 3 ∨ ty = 4 ∨ ty = 5 ∨ ty = 6 ∨ ty = 7 ∨ ty = 8 := by omega
  rcases hk with rfl | rfl | rfl | rfl | rfl | rfl | rfl | rfl
  · obtain rfl := o2 rfl
    obtain rfl := o3 (by decide)
    obtain rfl := o4 (by decide)
    have hb : holdsB tx true = true := hb
    have hh := holds_escL hb
    refine ⟨?_, hh⟩
    show readV (escL tx) 1 = _
    unfold readV
    rw [if_neg (by decide), if_neg (by rw [hh]; decide), if_pos rfl, unesc_escL]; rfl
  · obtain rfl := o1 rfl
    obtain rfl := o3 (by decide)
    obtain rfl := o4 (by decide)
    unfold Vl.body at hb
    rw [if_pos (.inl rfl)] at hb
    simp only [Bool.and_eq_true, Bool.not_eq_true', Bool.or_eq_false_iff, decide_eq_false_iff_not] at hb
    obtain ⟨⟨⟨b1, b2⟩, b3⟩, b4⟩ := hb
    have hl : ps.length = 1 := by simpa using b2
    obtain ⟨l, rfl⟩ := List.length_eq_one_iff.1 hl
    have hne : l ≠ [] := by
      intro e; subst e; simp at b3
    have hj : joinP [l] = joinL l := by rw [joinP_eq]; simp [joinS]
    have hh := joinL_holds' hne (listsB_iff.1 b4 l List.mem_cons_self)
    show readV (joinP [l]) 2 = _ ∧ holdsB (joinP [l]) false = true
    rw [hj]
    refine ⟨?_, hh⟩
    unfold readV
    rw [if_neg (by decide), if_neg (by rw [hh]; decide), if_neg (by decide), if_pos rfl, list_of hne]
  · obtain rfl := o1 rfl
    obtain rfl := o3 (by decide)
    obtain rfl := o4 (by decide)
    unfold Vl.body at hb
    rw [if_pos (.inr rfl)] at hb
    simp only [Bool.and_eq_true, Bool.not_eq_true', Bool.or_eq_false_iff, decide_eq_false_iff_not] at hb
    obtain ⟨⟨⟨b1, b2⟩, b3⟩, b4⟩ := hb
    have hne : ∀ l ∈ ps, l ≠ [] := by
      intro l hl e
      subst e
      rw [List.any_eq_false] at b3
      exact b3 [] hl rfl
    have hh : holdsB (joinP ps) false = true := by
      cases ps with
      | nil => exact absurd rfl b1
      | cons x xs => exact joinP_holds x xs fun l hl => ⟨hne l hl, listsB_iff.1 b4 l hl⟩
    obtain ⟨t, ts, cs, e1, e2⟩ := parts_of b1 hne
    show readV (joinP ps) 3 = _ ∧ holdsB (joinP ps) false = true
    refine ⟨?_, hh⟩
    unfold readV
    rw [if_neg (by decide), if_neg (by rw [hh]; decide), if_neg (by decide), if_neg (by decide), if_pos rfl, e1]
    simp only [e2]
  · obtain rfl := o2 rfl
    obtain rfl := o3 (by decide)
    obtain rfl := o4 (by decide)
    have hb : uriB tx = true := hb
    have hh := uri_holds hb
    show readV tx 4 = _ ∧ holdsB tx false = true
    refine ⟨?_, hh⟩
    unfold readV
    rw [if_neg (by decide), if_neg (by rw [hh]; decide), if_neg (by decide), if_neg (by decide), if_neg (by decide), if_pos rfl, if_pos hb]; rfl
  · obtain rfl := o1 rfl
    obtain rfl := o2 rfl
    obtain rfl := o4 (by decide)
    have hb : decide (st.right = 0) = true := hb
    have hr : st.right = 0 := by simpa using hb
    have hh : holdsB st.text false = true := holds_print (text_print st hr)
    show readV st.text 5 = _ ∧ holdsB st.text false = true
    refine ⟨?_, hh⟩
    unfold readV
    rw [if_neg (by decide), if_neg (by rw [hh]; decide), if_neg (by decide), if_neg (by decide), if_neg (by decide), if_neg (by decide), if_pos rfl, parse_text st hr]; rfl
  · obtain rfl := o1 rfl
    obtain rfl := o2 rfl
    obtain rfl := o3 (by decide)
    have hb : rightZ n = true := hb
    have hh : holdsB (printZ n) false = true := holds_print (printZ_print hb)
    show readV (printZ n) 6 = _ ∧ holdsB (printZ n) false = true
    refine ⟨?_, hh⟩
    unfold readV
    rw [if_neg (by decide), if_neg (by rw [hh]; decide), if_neg (by decide), if_neg (by decide), if_neg (by decide), if_neg (by decide), if_neg (by decide), if_pos rfl, print_parse n hb]; rfl
  · obtain rfl := o2 rfl
    obtain rfl := o3 (by decide)
    obtain rfl := o4 (by decide)
    have hb : langB tx = true := hb
    have hh : holdsB tx false = true := holds_print (lang_print tx true 0 hb)
    show readV tx 7 = _ ∧ holdsB tx false = true
    refine ⟨?_, hh⟩
    unfold readV
    rw [if_neg (by decide), if_neg (by rw [hh]; decide), if_neg (by decide), if_neg (by decide), if_neg (by decide), if_neg (by decide), if_neg (by decide), if_neg (by decide), if_pos rfl, if_pos hb]; rfl
  · obtain rfl := o2 rfl
    obtain rfl := o3 (by decide)
    obtain rfl := o4 (by decide)
    have hh : holdsB tx false = true := hb
    show readV tx 8 = _ ∧ holdsB tx false = true
    refine ⟨?_, hh⟩
    unfold readV
    rw [if_neg (by decide), if_neg (by rw [hh]; decide), if_neg (by decide), if_neg (by decide), if_neg (by decide), if_neg (by decide), if_neg (by decide), if_neg (by decide), if_neg (by decide)]; rfl

/-- WHAT IS READ IS RIGHT, of its type -/
theorem val_still (s : List UInt8) (k : Int) (v : Vl) (h : readV s k = some v) : v.ok = true ∧ v.ty = k := by
  unfold readV at h
  split at h
  · cases h
  rename_i hk
  split at h
  · cases h
  rename_i hh
  have hh : holdsB s false = true := by simpa using hh
  split at h
  · rename_i e; subst e
    split at h
    · rename_i t _ _ hp
      cases h
      have := pieces_holds' (by simp) hh hp t List.mem_cons_self
      refine ⟨?_, rfl⟩
      show (decide ((1 : Int) ≤ 1 ∧ (1 : Int) < 9) && (tV 1 t).only && holdsB t true) = true
      rw [this]; rfl
    · cases h
  split at h
  · rename_i e; subst e
    split at h
    · rename_i T _ hp
      cases h
      have h1 := pieces_holds' (by simp) hh hp
      have h2 := pieces_ne hp
      have h3 : T.isEmpty = false := by cases T with
        | nil => simp at h2
        | cons => rfl
      refine ⟨?_, rfl⟩
      unfold Vl.ok Vl.body Vl.only
      simp [isT, isL, St0, St.isZero, h3, listsB]
      exact h1
    · cases h
  split at h
  · rename_i e; subst e
    split at h
    · rename_i t ts cs hp
      cases h
      have h1 := pieces_holds' (by simp) hh hp
      obtain ⟨h2, h3⟩ := parts_ne cs ts [t] (by simp)
      refine ⟨?_, rfl⟩
      unfold Vl.ok Vl.body Vl.only
      have h4 : ((partsOf [t] cs ts).any fun l => l.isEmpty) = false := by
        rw [List.any_eq_false]
        intro l hl e
        exact h3 l hl (List.isEmpty_iff.1 e)
      have h5 : listsB (partsOf [t] cs ts) = true := listsB_iff.2 fun l hl s hs => by
        rcases partsOf_mem cs ts [t] l s hl hs with h | h
        · rw [List.mem_singleton.1 h]; exact h1 t List.mem_cons_self
        · exact h1 s (List.mem_cons_of_mem _ h)
      simp [isT, isL, St0, St.isZero, h4, h5, h2]
    · cases h
  split at h
  · rename_i e; subst e
    split at h
    · rename_i hu
      cases h
      refine ⟨?_, rfl⟩
      show (decide ((1 : Int) ≤ 4 ∧ (4 : Int) < 9) && (tV 4 s).only && uriB s) = true
      rw [hu]; rfl
    · cases h
  split at h
  · rename_i e; subst e
    split at h
    · rename_i hp
      cases h
      have hr : (parseW s).1.right = 0 := by
        rcases parseW_cases s with ⟨_, h⟩ | ⟨h, _⟩
        · exact h
        · exact absurd hp h
      refine ⟨?_, rfl⟩
      show (decide ((1 : Int) ≤ 5 ∧ (5 : Int) < 9) && (⟨5, [], [], (parseW s).1, 0⟩ : Vl).only && decide ((parseW s).1.right = 0)) = true
      rw [hr]; rfl
    · cases h
  split at h
  · rename_i e; subst e
    split at h
    · rename_i hp
      cases h
      have hr : rightZ (parseZ s).1 = true := by
        rcases parse_cases s with ⟨_, h⟩ | ⟨h, _⟩
        · exact h
        · rcases h with h | h <;> (rw [h] at hp; exact absurd hp (by decide))
      refine ⟨?_, rfl⟩
      show (decide ((1 : Int) ≤ 6 ∧ (6 : Int) < 9) && (⟨6, [], [], St0, (parseZ s).1⟩ : Vl).only && rightZ (parseZ s).1) = true
      rw [hr]; rfl
    · cases h
  split at h
  · rename_i e; subst e
    split at h
    · rename_i hu
      cases h
      refine ⟨?_, rfl⟩
      show (decide ((1 : Int) ≤ 7 ∧ (7 : Int) < 9) && (tV 7 s).only && langB s) = true
      rw [hu]; rfl
    · cases h
  · cases h
    have : k = 8 := by omega
    subst this
    refine ⟨?_, rfl⟩
    show (decide ((1 : Int) ≤ 8 ∧ (8 : Int) < 9) && (tV 8 s).only && holdsB s false) = true
    rw [hh]; rfl
/-- whatever is read can be read as it stands -/
theorem val_other (s : List UInt8) (k : Int) (v : Vl) (h : readV s k = some v) : readV s 8 = some (tV 8 s) ∧ (tV 8 s).ok = true ∧ (tV 8 s).text = s := by
  have hh : holdsB s false = true := by
    unfold readV at h
    split at h
    · cases h
    split at h
    · cases h
    · rename_i hx; simpa using hx
  have h8 : readV s 8 = some (tV 8 s) := by
    unfold readV
    rw [if_neg (by decide), if_neg (by rw [hh]; decide), if_neg (by decide), if_neg (by decide), if_neg (by decide), if_neg (by decide), if_neg (by decide), if_neg (by decide), if_neg (by decide)]
  exact ⟨h8, (val_still s 8 _ h8).1, rfl⟩

end Go.Proofs.YtedlgpccmlcijaaGreatDoor
