/-
  What is read hangs on what was gone over alone: whatever follows. Blanks around a value. Plain.
-/
import Derived.Test.YtlejbindochiiaaDoorJsonWriteL
namespace Go.Proofs.YtlejbindochiiaaDoor
open Go.RowKit
set_option linter.unusedVariables false
set_option linter.unusedSimpArgs false

theorem isJ_head {c : UInt8} {a x : List UInt8} (y : List UInt8) (h : isJ c (a ++ x) = none) (ha : a ≠ []) : isJ c (a ++ y) = none := by
  cases a with
  | nil => exact absurd rfl ha
  | cons d a =>
    rw [List.cons_append, isJ_eq] at h ⊢
    by_cases e : d = c
    · rw [if_pos e] at h; cases h
    · rw [if_neg e]
theorem want_cons (c : UInt8) (r : List UInt8) : wantJ c (c :: r) = .ok ((), r) := by unfold wantJ; rw [isJ_cons]
theorem blank_split (l : List UInt8) : ∃ b, l = b ++ blankJ l ∧ ∀ c ∈ b, blankB c = true := ⟨l.takeWhile blankB, (List.takeWhile_append_dropWhile ..).symm, fun c hc => mem_while hc⟩
theorem blank_pass {a b : List UInt8} (ha : ∀ c ∈ a, blankB c = true) : blankJ (a ++ b) = blankJ b := by
  unfold blankJ; rw [List.dropWhile_append_of_pos ha]
theorem blank_stop {c : UInt8} (h : blankB c = true) : dgJ c = false ∧ c ≠ 46 ∧ c ≠ 101 ∧ c ≠ 69 ∧ c ≠ 43 ∧ c ≠ 45 := by
  have key := byte_all (fun c => decide (blankB c = true → dgJ c = false ∧ c ≠ 46 ∧ c ≠ 101 ∧ c ≠ 69 ∧ c ≠ 43 ∧ c ≠ 45)) (by decide +kernel) c
  exact of_decide_eq_true key h
theorem blank_small {c : UInt8} (h : blankB c = true) : c.toNat < 128 := by
  have key := byte_all (fun c => decide (blankB c = true → c.toNat < 128)) (by decide +kernel) c
  exact of_decide_eq_true key h
theorem num_noblank {c : UInt8} (h : numCh c = true) : blankB c = false := by
  have key := byte_all (fun c => decide (numCh c = true → blankB c = false)) (by decide +kernel) c
  exact of_decide_eq_true key h
/-- blanks, then what is no blank -/
theorem blanks_stop {b x : List UInt8} (hb : ∀ c ∈ b, blankB c = true) (hx : stopJ x) : stopJ (b ++ x) := by
  cases b with
  | nil => exact hx
  | cons c b => exact stop_cons (blank_stop (hb c List.mem_cons_self))

theorem four_loc : ∀ {k n : Nat} {l t : List UInt8} {m : Nat}, fourJ k n l = .ok (m, t) → ∃ p, l = p ++ t ∧ ∀ r, fourJ k n (p ++ r) = .ok (m, r)
  | 0, n, l, t, m, h => by
    unfold fourJ at h
    injection h with h; injection h with h1 h2; subst h1; subst h2
    exact ⟨[], rfl, fun r => rfl⟩
  | k + 1, n, [], t, m, h => by cases h
  | k + 1, n, c :: r, t, m, h => by
    unfold fourJ at h
    cases hd : digitJ c with
    | none => rw [hd] at h; cases h
    | some d =>
      rw [hd] at h
      obtain ⟨p, h1, h2⟩ := four_loc h
      refine ⟨c :: p, by rw [h1]; rfl, fun r' => ?_⟩
      rw [List.cons_append]; unfold fourJ; rw [hd]; exact h2 r'
theorem point_loc {m n m' : Nat} {t a u : List UInt8} (h : pointJ m n t = .ok (a, u)) (r : List UInt8) : pointJ m' n r = .ok (a, r) := by
  obtain ⟨h1, h2, h3⟩ := point_ok h
  unfold pointJ; rw [if_pos h1, h2]
theorem esc_loc {m : Nat} {l a t : List UInt8} (h : escJ m l = .ok (a, t)) : ∃ p, l = p ++ t ∧ ∀ m' r, escJ m' (p ++ r) = .ok (a, r) := by
  cases l with
  | nil => cases h
  | cons c r =>
    rw [escJ_cons] at h
    by_cases hc : c = 117
    · rw [if_pos hc] at h
      obtain ⟨n, t1, h1, h2⟩ := jnext_ok.1 h
      obtain ⟨p, e1, e2⟩ := four_loc h1
      split at h2
      · rename_i hs
        obtain ⟨low, u, h3, h4⟩ := jnext_ok.1 h2
        obtain ⟨q, f1, f2⟩ := four_loc h3
        have ht1 : t1 = [92, 117] ++ t1.drop 2 := by rw [← hs.2.2, List.take_append_drop]
        obtain ⟨N, hN⟩ : ∃ N, 65536 + (n - 55296) * 1024 + (low - 56320) = N := ⟨_, rfl⟩
        rw [hN] at h4
        split at h4
        · rename_i hw
          obtain ⟨g1, g2, g3⟩ := point_ok h4
          have hr : r = p ++ ([92, 117] ++ (q ++ u)) := by rw [e1, ← f1, ← ht1]
          subst g3
          refine ⟨c :: (p ++ ([92, 117] ++ q)), by rw [hr]; simp, fun m' r' => ?_⟩
          rw [show c :: (p ++ ([92, 117] ++ q)) ++ r' = c :: (p ++ ([92, 117] ++ (q ++ r'))) by simp, escJ_cons, if_pos hc, e2, jnext_pos, if_pos ⟨hs.1, hs.2.1, rfl⟩]
          show JRs.next (fourJ 4 0 (q ++ r')) _ = _
          rw [f2, jnext_pos, if_pos hw, hN]
          exact point_loc h4 _
        · cases h4
      · obtain ⟨g1, g2, g3⟩ := point_ok h2
        subst g3
        have hn : ¬ (55296 ≤ n ∧ n < 56320) := by
          rintro ⟨x, y⟩
          have := of_decide_eq_true g1
          omega
        refine ⟨c :: p, by rw [e1]; rfl, fun m' r' => ?_⟩
        rw [List.cons_append, escJ_cons, if_pos hc, e2, jnext_pos, if_neg (fun x => hn ⟨x.1, x.2.1⟩)]
        exact point_loc h2 _
    · rw [if_neg hc] at h
      cases hd : longJ c with
      | none => rw [hd] at h; cases h
      | some d =>
        rw [hd] at h
        injection h with h; injection h with h1 h2; subst h1; subst h2
        refine ⟨[c], rfl, fun m' r' => ?_⟩
        rw [List.cons_append, escJ_cons, if_neg hc, hd]; rfl
theorem text_loc : ∀ (f : Nat) {l s t : List UInt8}, textJ f l = .ok (s, t) → ∃ h, l = h ++ 34 :: t ∧ ∀ f' r, h.length < f' → textJ f' (h ++ 34 :: r) = .ok (s, r)
  | 0, l, s, t, h => by cases h
  | f + 1, [], s, t, h => by cases h
  | f + 1, c :: r, s, t, h => by
    rw [textJ_step] at h
    by_cases c1 : c = 34
    · rw [if_pos c1] at h
      injection h with h; injection h with h1 h2; subst h1; subst h2; subst c1
      refine ⟨[], rfl, fun f' r' hf => ?_⟩
      obtain ⟨g, rfl⟩ : ∃ g, f' = g + 1 := ⟨f' - 1, by simp at hf; omega⟩
      rw [List.nil_append, textJ_step, if_pos rfl]
    · rw [if_neg c1] at h
      by_cases c2 : c = 92
      · rw [if_pos c2] at h
        obtain ⟨a, t1, h1, h2⟩ := jnext_ok.1 h
        obtain ⟨b, u, h3, h4⟩ := jnext_ok.1 h2
        injection h4 with h4; injection h4 with h5 h6; subst h5; subst h6
        obtain ⟨p, e1, e2⟩ := esc_loc h1
        obtain ⟨h', e3, e4⟩ := text_loc f h3
        refine ⟨c :: (p ++ h'), by rw [e1, e3]; simp, fun f' r' hf => ?_⟩
        simp only [List.length_cons, List.length_append] at hf
        obtain ⟨g, rfl⟩ : ∃ g, f' = g + 1 := ⟨f' - 1, by omega⟩
        rw [List.cons_append, textJ_step, if_neg c1, if_pos c2, List.append_assoc, e2, jnext_pos, e4 g r' (by omega), jnext_pos]
      · rw [if_neg c2] at h
        by_cases c3 : c.toNat < 32
        · rw [if_pos c3] at h; cases h
        · rw [if_neg c3] at h
          obtain ⟨b, u, h3, h4⟩ := jnext_ok.1 h
          injection h4 with h4; injection h4 with h5 h6; subst h5; subst h6
          obtain ⟨h', e3, e4⟩ := text_loc f h3
          refine ⟨c :: h', by rw [e3]; rfl, fun f' r' hf => ?_⟩
          simp only [List.length_cons] at hf
          obtain ⟨g, rfl⟩ : ∃ g, f' = g + 1 := ⟨f' - 1, by omega⟩
          rw [List.cons_append, textJ_step, if_neg c1, if_neg c2, if_neg c3, e4 g r' (by omega), jnext_pos]
theorem str_loc {l s t : List UInt8} (h : strJ l = .ok (s, t)) : ∃ a, l = 34 :: (a ++ 34 :: t) ∧ ∀ r, strJ (34 :: (a ++ 34 :: r)) = .ok (s, r) := by
  unfold strJ at h
  obtain ⟨_, r0, h1, h2⟩ := jnext_ok.1 h
  obtain ⟨a, e1, e2⟩ := text_loc _ h2
  refine ⟨a, by rw [want_ok h1, e1], fun r => ?_⟩
  unfold strJ
  rw [want_cons, jnext_pos]
  exact e2 _ r (by simp; omega)
/-- what is read hangs on what was gone over -/
def LocJ (f : List UInt8 → JRs Jt) : Prop := ∀ l x u, f l = .ok (x, u) → ∃ h c, l = h ++ c :: u ∧ blankB c = false ∧ ∀ r, stopJ r → f (h ++ c :: r) = .ok (x, r)
theorem stop_of {e : UInt8} (he : e = 93 ∨ e = 125) {h r : List UInt8} (hh : ∀ c r, h = c :: r → c = 44) : stopJ (h ++ e :: r) ∧ blankJ (h ++ e :: r) = h ++ e :: r := by
  cases h with
  | nil => rcases he with rfl | rfl
           · exact ⟨stop93 r, blank_not (by decide)⟩
           · exact ⟨stop125 r, blank_not (by decide)⟩
  | cons c h => obtain rfl := hh c h rfl
                exact ⟨stop44 _, blank_not (by decide)⟩
theorem elems_loc {f : List UInt8 → JRs Jt} (ih : LocJ f) : ∀ (n : Nat) (more : Bool) (l : List UInt8) (xs : List Jt) (t : List UInt8), elemsJ f n more l = .ok (xs, t) →
    ∃ h, l = h ++ 93 :: t ∧ (more = true → ∀ c r, h = c :: r → c = 44) ∧ ∀ n' r, h.length < n' → elemsJ f n' more (h ++ 93 :: r) = .ok (xs, r)
  | 0, more, l, xs, t, h => by cases h
  | n + 1, more, l, xs, t, h => by
    rw [elemsJ_step] at h
    cases hi : isJ 93 l with
    | some r0 =>
      rw [hi] at h
      injection h with h; injection h with h1 h2; subst h1; subst h2
      refine ⟨[], isJ_some hi, fun _ c r e => (by cases e), fun n' r hn => ?_⟩
      obtain ⟨g, rfl⟩ : ∃ g, n' = g + 1 := ⟨n' - 1, by simp at hn; omega⟩
      rw [List.nil_append, elemsJ_step, isJ_cons]
    | none =>
      rw [hi] at h
      simp only at h
      obtain ⟨_, t1, h1, h2⟩ := jnext_ok.1 h
      obtain ⟨x, u, h3, h4⟩ := jnext_ok.1 h2
      obtain ⟨xs', v, h5, h6⟩ := jnext_ok.1 h4
      injection h6 with h6; injection h6 with h7 h8; subst h7; subst h8
      obtain ⟨m, hm, hm2⟩ : ∃ m, l = m ++ t1 ∧ (if more then m = [44] else m = []) := by
        cases more with
        | true => exact ⟨[44], want_ok h1, rfl⟩
        | false => simp only [Bool.false_eq_true, if_false] at h1 ⊢; injection h1 with h1; injection h1 with _ h1; subst h1; exact ⟨[], rfl, rfl⟩
      obtain ⟨hx, c, e1, hc, e2⟩ := ih _ _ _ h3
      obtain ⟨b, e3, hb⟩ := blank_split u
      obtain ⟨h', e4, e5, e6⟩ := elems_loc ih n true (blankJ u) xs' v h5
      have hl : l = m ++ (hx ++ c :: (b ++ (h' ++ 93 :: v))) := by rw [hm, e1, ← e4, ← e3]
      refine ⟨m ++ (hx ++ c :: (b ++ h')), by rw [hl]; simp, fun hmo c' r' e => ?_, fun n' r hn => ?_⟩
      · subst hmo
        simp only [if_true] at hm2
        rw [hm2] at e; injection e with e _; exact e.symm
      · simp only [List.length_append, List.length_cons] at hn
        obtain ⟨g, rfl⟩ : ∃ g, n' = g + 1 := ⟨n' - 1, by omega⟩
        have hs := stop_of (.inl rfl) (r := r) (e5 rfl)
        have hi2 : isJ 93 (m ++ (hx ++ c :: (b ++ (h' ++ 93 :: r)))) = none := by
          rw [show m ++ (hx ++ c :: (b ++ (h' ++ 93 :: r))) = (m ++ (hx ++ [c])) ++ (b ++ (h' ++ 93 :: r)) by simp]
          refine isJ_head (x := b ++ (h' ++ 93 :: v)) _ ?_ (by simp)
          rw [← hi, hl]; congr 1; simp
        rw [show m ++ (hx ++ c :: (b ++ h')) ++ 93 :: r = m ++ (hx ++ c :: (b ++ (h' ++ 93 :: r))) by simp, elemsJ_step, hi2]
        simp only
        have hw : (if more then wantJ 44 (m ++ (hx ++ c :: (b ++ (h' ++ 93 :: r)))) else .ok ((), m ++ (hx ++ c :: (b ++ (h' ++ 93 :: r))))) = .ok ((), hx ++ c :: (b ++ (h' ++ 93 :: r))) := by
          cases more with
          | true => simp only [if_true] at hm2 ⊢; rw [hm2]; exact want_cons _ _
          | false => simp only [Bool.false_eq_true, if_false] at hm2 ⊢; rw [hm2]; rfl
        rw [hw, jnext_pos, e2 _ (blanks_stop hb hs.1), jnext_pos, blank_pass hb, hs.2, e6 g r (by omega), jnext_pos]
theorem memb_loc {f : List UInt8 → JRs Jt} (ih : LocJ f) : ∀ (n : Nat) (ks : List (List UInt8)) (l : List UInt8) (p : List (List UInt8) × List Jt) (t : List UInt8), membJ f n ks l = .ok (p, t) →
    ∃ h, l = h ++ 125 :: t ∧ (ks ≠ [] → ∀ c r, h = c :: r → c = 44) ∧ ∀ n' r, h.length < n' → membJ f n' ks (h ++ 125 :: r) = .ok (p, r)
  | 0, ks, l, p, t, h => by cases h
  | n + 1, ks, l, p, t, h => by
    rw [membJ_step] at h
    cases hi : isJ 125 l with
    | some r0 =>
      rw [hi] at h
      injection h with h; injection h with h1 h2; subst h1; subst h2
      refine ⟨[], isJ_some hi, fun _ c r e => (by cases e), fun n' r hn => ?_⟩
      obtain ⟨g, rfl⟩ : ∃ g, n' = g + 1 := ⟨n' - 1, by simp at hn; omega⟩
      rw [List.nil_append, membJ_step, isJ_cons]
    | none =>
      rw [hi] at h
      simp only at h
      obtain ⟨_, t1, h1, h2⟩ := jnext_ok.1 h
      obtain ⟨k, u, h3, h4⟩ := jnext_ok.1 h2
      by_cases hk : k ∈ ks
      · rw [if_pos hk] at h4; cases h4
      rw [if_neg hk] at h4
      obtain ⟨_, v, h5, h6⟩ := jnext_ok.1 h4
      obtain ⟨x, w, h7, h8⟩ := jnext_ok.1 h6
      obtain ⟨q, z, h9, h10⟩ := jnext_ok.1 h8
      injection h10 with h10; injection h10 with h11 h12; subst h11; subst h12
      obtain ⟨a, ea, ea2⟩ := str_loc h3
      obtain ⟨m, hm, hm2⟩ : ∃ m, l = m ++ t1 ∧ ((ks = [] ∧ m = []) ∨ (ks ≠ [] ∧ ∃ b, m = 44 :: b ∧ ∀ c ∈ b, blankB c = true)) := by
        by_cases hks : ks = []
        · rw [if_pos hks] at h1; injection h1 with h1; injection h1 with _ h1; subst h1; exact ⟨[], rfl, .inl ⟨hks, rfl⟩⟩
        · rw [if_neg hks] at h1
          obtain ⟨_, t0, h13, h14⟩ := jnext_ok.1 h1
          injection h14 with h14; injection h14 with _ h14; subst h14
          obtain ⟨b, e3, hb⟩ := blank_split t0
          exact ⟨44 :: b, by rw [want_ok h13, List.cons_append, ← e3], .inr ⟨hks, b, rfl, hb⟩⟩
      obtain ⟨b2, e7, hb2⟩ := blank_split u
      have e8 := want_ok h5
      obtain ⟨hx, c, e1, hc, e2⟩ := ih _ _ _ h7
      obtain ⟨b, e3, hb⟩ := blank_split w
      obtain ⟨h', e4, e5, e6⟩ := memb_loc ih n (ks ++ [k]) (blankJ w) q z h9
      have hl : l = m ++ (34 :: (a ++ 34 :: (b2 ++ 58 :: (hx ++ c :: (b ++ (h' ++ 125 :: z)))))) := by rw [hm, ea, ← e4, ← e3, ← e1, ← e8, ← e7]
      refine ⟨m ++ (34 :: (a ++ 34 :: (b2 ++ 58 :: (hx ++ c :: (b ++ h'))))), by rw [hl]; simp, fun hks c' r' e => ?_, fun n' r hn => ?_⟩
      · rcases hm2 with ⟨hm2, _⟩ | ⟨_, b0, hm2, _⟩
        · exact absurd hm2 hks
        · rw [hm2] at e; injection e with e _; exact e.symm
      · simp only [List.length_append, List.length_cons] at hn
        obtain ⟨g, rfl⟩ : ∃ g, n' = g + 1 := ⟨n' - 1, by omega⟩
        have hs := stop_of (.inr rfl) (r := r) (e5 (by simp))
        obtain ⟨X, hX⟩ : ∃ X, b2 ++ 58 :: (hx ++ c :: (b ++ (h' ++ 125 :: r))) = X := ⟨_, rfl⟩
        have hi2 : isJ 125 (m ++ (34 :: (a ++ 34 :: X))) = none := by
          rw [show m ++ (34 :: (a ++ 34 :: X)) = (m ++ (34 :: (a ++ [34]))) ++ X by simp]
          refine isJ_head (x := b2 ++ 58 :: (hx ++ c :: (b ++ (h' ++ 125 :: z)))) _ ?_ (by simp)
          rw [← hi, hl]; congr 1; simp
        rw [show m ++ (34 :: (a ++ 34 :: (b2 ++ 58 :: (hx ++ c :: (b ++ h'))))) ++ 125 :: r = m ++ (34 :: (a ++ 34 :: X)) by rw [← hX]; simp, membJ_step, hi2]
        simp only
        have hw : (if ks = [] then .ok ((), m ++ (34 :: (a ++ 34 :: X))) else JRs.next (wantJ 44 (m ++ (34 :: (a ++ 34 :: X)))) fun _ t => .ok ((), blankJ t)) = (.ok ((), 34 :: (a ++ 34 :: X)) : JRs Unit) := by
          rcases hm2 with ⟨hk1, hm2⟩ | ⟨hk1, b0, hm2, hb0⟩
          · rw [if_pos hk1, hm2]; rfl
          · rw [if_neg hk1, hm2, List.cons_append, want_cons, jnext_pos, blank_pass hb0, blank_not (by decide)]
        have hX2 : wantJ 58 (blankJ X) = .ok ((), hx ++ c :: (b ++ (h' ++ 125 :: r))) := by rw [← hX, blank_pass hb2, blank_not (by decide), want_cons]
        rw [hw, jnext_pos, ea2, jnext_pos, if_neg hk, hX2, jnext_pos, e2 _ (blanks_stop hb hs.1), jnext_pos, blank_pass hb, hs.2, e6 g r (by omega), jnext_pos]
theorem tree_lead (d : Nat) {a l : List UInt8} (ha : ∀ c ∈ a, blankB c = true) : treeJ d (a ++ l) = treeJ d l := by
  cases d <;> (unfold treeJ; rw [blank_pass ha])
theorem word_loc {d : Nat} {k : Int} {w : List UInt8} {c : UInt8} {b l1 u : List UInt8} (hc : blankB c = false) (hb : ∀ c ∈ b, blankB c = true) (h : l1.take (w ++ [c]).length = w ++ [c]) (hu : l1.drop (w ++ [c]).length = u) (hr : ∀ r, treeJ d (w ++ c :: r) = .ok (.mk k [] [] [], r)) :
    ∃ h c, b ++ l1 = h ++ c :: u ∧ blankB c = false ∧ ∀ r, stopJ r → treeJ d (h ++ c :: r) = .ok (.mk k [] [] [], r) :=
  ⟨b ++ w, c, by have := take_word h; rw [hu] at this; rw [this]; simp, hc, fun r _ => by rw [List.append_assoc, tree_lead d hb]; exact hr r⟩
theorem tree_loc : ∀ d, LocJ (treeJ d)
  | 0, l, x, u, h => by cases h
  | d + 1, l, x, u, h => by
    have ih := tree_loc d
    obtain ⟨b, hbl, hb⟩ := blank_split l
    have h0 : treeJ (d + 1) (blankJ l) = .ok (x, u) := by rw [← h]; conv => rhs; rw [hbl, tree_lead _ hb]
    have hnb : blankJ (blankJ l) = blankJ l := by
      have : blankJ l = blankJ (b ++ blankJ l) := by rw [← hbl]
      rw [blank_pass hb] at this; exact this.symm
    rw [hbl]
    generalize blankJ l = l1 at h0 hnb
    clear h hbl
    unfold treeJ at h0
    rw [hnb] at h0
    by_cases c1 : l1.take 4 = nullJ
    · rw [if_pos c1] at h0
      injection h0 with h; injection h with h1 h2; subst h1
      exact word_loc (w := [110, 117, 108]) (c := 108) (by decide) hb c1 h2 fun r => rfl
    rw [if_neg c1] at h0
    by_cases c2 : l1.take 5 = falseJ
    · rw [if_pos c2] at h0
      injection h0 with h; injection h with h1 h2; subst h1
      exact word_loc (w := [102, 97, 108, 115]) (c := 101) (by decide) hb c2 h2 fun r => rfl
    rw [if_neg c2] at h0
    by_cases c3 : l1.take 4 = trueJ
    · rw [if_pos c3] at h0
      injection h0 with h; injection h with h1 h2; subst h1
      exact word_loc (w := [116, 114, 117]) (c := 101) (by decide) hb c3 h2 fun r => rfl
    rw [if_neg c3] at h0
    by_cases c4 : 0 < numJ l1
    · rw [if_pos c4] at h0
      injection h0 with h; injection h with h1 h2; subst h1
      have hle := num_le l1
      obtain ⟨t, ht⟩ : ∃ t, l1.take (numJ l1) = t := ⟨_, rfl⟩
      have hlen : t.length = numJ l1 := by rw [← ht]; simp; omega
      have hnt : numJ t = t.length := by rw [hlen, ← ht]; exact num_take l1
      have hch : ∀ c ∈ t, numCh c = true := by rw [← ht]; exact num_ch l1
      have hsp : l1 = t ++ u := by rw [← ht, ← h2, List.take_append_drop]
      obtain ⟨t0, c, hc⟩ : ∃ t0 c, t = t0 ++ [c] := ⟨t.dropLast, t.getLast (by rintro rfl; simp at hlen; omega), (List.dropLast_concat_getLast _).symm⟩
      refine ⟨b ++ t0, c, by rw [hsp, hc]; simp, num_noblank (hch c (by rw [hc]; simp)), fun r hr => ?_⟩
      rw [show b ++ t0 ++ c :: r = b ++ (t ++ r) by rw [hc]; simp, tree_lead _ hb, ht]
      have hns : numJ (t ++ r) = t.length := by rw [num_stop hr t (by rintro rfl; simp at hlen; omega), hnt]
      clear hc hsp ht h2 c1 c2 c3 hnb
      cases t with
      | nil => simp at hlen; omega
      | cons c' t =>
        obtain ⟨g1, g2, g3, g4⟩ := dg_head (num_head (r := t) (by rw [hnt]; simp))
        have e1 : (c' :: (t ++ r)).take 4 ≠ nullJ := fun e => g2 (by injection e)
        have e2 : (c' :: (t ++ r)).take 5 ≠ falseJ := fun e => g3 (by injection e)
        have e3 : (c' :: (t ++ r)).take 4 ≠ trueJ := fun e => g4 (by injection e)
        rw [List.cons_append]
        unfold treeJ
        have hns' : numJ (c' :: (t ++ r)) = (c' :: t).length := hns
        rw [blank_not (headB_blank g1).1, if_neg e1, if_neg e2, if_neg e3, hns', if_pos (by simp)]
        congr 2
        · rw [← List.cons_append, List.take_left']; rfl
        · rw [← List.cons_append, List.drop_left']; rfl
    rw [if_neg c4] at h0
    cases l1 with
    | nil => cases h0
    | cons c r0 =>
      simp only at h0
      by_cases c5 : c = 34
      · rw [if_pos c5] at h0
        obtain ⟨s, t, h1, h2⟩ := jnext_ok.1 h0
        injection h2 with h2; injection h2 with h3 h4; subst h3; subst h4
        obtain ⟨a, e1, e2⟩ := str_loc h1
        refine ⟨b ++ 34 :: a, 34, by rw [e1]; simp, by decide, fun r _ => ?_⟩
        rw [show b ++ 34 :: a ++ 34 :: r = b ++ (34 :: (a ++ 34 :: r)) by simp, tree_lead _ hb, tree_pre (by decide) (by decide) (by decide) (by decide) (by decide) (by decide), if_pos rfl, e2, jnext_pos]
      rw [if_neg c5] at h0
      by_cases c6 : c = 91
      · rw [if_pos c6] at h0
        obtain ⟨xs, t, h1, h2⟩ := jnext_ok.1 h0
        injection h2 with h2; injection h2 with h3 h4; subst h3; subst h4
        obtain ⟨b1, e3, hb1⟩ := blank_split r0
        obtain ⟨a, e1, _, e2⟩ := elems_loc ih _ _ _ _ _ h1
        refine ⟨b ++ 91 :: (b1 ++ a), 93, by rw [e3, e1, c6]; simp, by decide, fun r _ => ?_⟩
        rw [show b ++ 91 :: (b1 ++ a) ++ 93 :: r = b ++ (91 :: (b1 ++ (a ++ 93 :: r))) by simp, tree_lead _ hb, tree_pre (by decide) (by decide) (by decide) (by decide) (by decide) (by decide), if_neg (by decide), if_pos rfl, blank_pass hb1]
        have hq : blankJ (a ++ 93 :: r) = a ++ 93 :: r := by
          cases a with
          | nil => exact blank_not (by decide)
          | cons d a =>
            have h9 : blankJ (blankJ r0) = blankJ r0 := by
              have : blankJ r0 = blankJ (b1 ++ blankJ r0) := by rw [← e3]
              rw [blank_pass hb1] at this; exact this.symm
            rw [e1, List.cons_append] at h9
            rw [List.cons_append]
            cases hd : blankB d with
            | false => exact blank_not hd
            | true =>
              exfalso
              have h10 : blankJ (d :: (a ++ 93 :: t)) = blankJ (a ++ 93 :: t) := by unfold blankJ; rw [List.dropWhile_cons_of_pos hd]
              rw [h10] at h9
              have := blank_len (a ++ 93 :: t)
              rw [h9] at this; simp at this; omega
        rw [hq, e2 _ r (by simp; omega), jnext_pos]
      rw [if_neg c6] at h0
      by_cases c7 : c = 123
      · rw [if_pos c7] at h0
        obtain ⟨p, t, h1, h2⟩ := jnext_ok.1 h0
        injection h2 with h2; injection h2 with h3 h4; subst h3; subst h4
        obtain ⟨b1, e3, hb1⟩ := blank_split r0
        obtain ⟨a, e1, _, e2⟩ := memb_loc ih _ _ _ _ _ h1
        refine ⟨b ++ 123 :: (b1 ++ a), 125, by rw [e3, e1, c7]; simp, by decide, fun r _ => ?_⟩
        rw [show b ++ 123 :: (b1 ++ a) ++ 125 :: r = b ++ (123 :: (b1 ++ (a ++ 125 :: r))) by simp, tree_lead _ hb, tree_pre (by decide) (by decide) (by decide) (by decide) (by decide) (by decide), if_neg (by decide), if_neg (by decide), if_pos rfl, blank_pass hb1]
        have hq : blankJ (a ++ 125 :: r) = a ++ 125 :: r := by
          cases a with
          | nil => exact blank_not (by decide)
          | cons d a =>
            have h9 : blankJ (blankJ r0) = blankJ r0 := by
              have : blankJ r0 = blankJ (b1 ++ blankJ r0) := by rw [← e3]
              rw [blank_pass hb1] at this; exact this.symm
            rw [e1, List.cons_append] at h9
            rw [List.cons_append]
            cases hd : blankB d with
            | false => exact blank_not hd
            | true =>
              exfalso
              have h10 : blankJ (d :: (a ++ 125 :: t)) = blankJ (a ++ 125 :: t) := by unfold blankJ; rw [List.dropWhile_cons_of_pos hd]
              rw [h10] at h9
              have := blank_len (a ++ 125 :: t)
              rw [h9] at this; simp at this; omega
        rw [hq, e2 _ r (by simp; omega), jnext_pos]
      rw [if_neg c7] at h0
      cases h0

/-! ## blanks around -/
theorem bad_around {a b s : List UInt8} (ha : ∀ c ∈ a, blankB c = true) (hb : ∀ c ∈ b, blankB c = true) : badL (a ++ (s ++ b)) = none ↔ badL s = none := by
  rw [bad_small_append fun c hc => blank_small (ha c hc)]
  constructor
  · intro h
    cases b with
    | nil => rwa [List.append_nil] at h
    | cons c b => exact (bad_cut (blank_small (hb c List.mem_cons_self)) h).1
  · exact fun h => bad_append_none h (bad_ascii _ fun c hc => blank_small (hb c hc))
theorem read_ok {s : List UInt8} (hl : s.length ≤ 20000) {j : Jt} : readJ s = .ok j ↔ badL s = none ∧ ∃ t, treeJ 12 s = .ok (j, t) ∧ blankJ t = [] := by
  unfold readJ
  rw [if_neg (by omega)]
  cases hb : badL s with
  | some i => simp
  | none =>
    cases ht : treeJ 12 s with
    | error e =>
      obtain ⟨c, k⟩ := e
      exact ⟨fun h => (by cases h), fun h => by obtain ⟨_, t, h1, _⟩ := h; cases h1⟩
    | ok p =>
      obtain ⟨x, t⟩ := p
      simp only
      by_cases h0 : blankJ t = []
      · rw [if_pos h0]
        constructor
        · intro h; injection h with h; subst h; exact ⟨trivial, t, rfl, h0⟩
        · intro h; obtain ⟨_, t', h1, _⟩ := h; injection h1 with h1; injection h1 with h1 _; rw [h1]
      · rw [if_neg h0]
        constructor
        · intro h; cases h
        · intro h; obtain ⟨_, t', h1, h2⟩ := h; injection h1 with h1; injection h1 with _ h1; subst h1; exact absurd h2 h0
theorem blank_nil : ∀ {t : List UInt8}, blankJ t = [] ↔ ∀ c ∈ t, blankB c = true
  | [] => by simp [blankJ]
  | c :: t => by
    cases h : blankB c with
    | true =>
      have e : blankJ (c :: t) = blankJ t := by unfold blankJ; rw [List.dropWhile_cons_of_pos h]
      rw [e, blank_nil]
      simp [h]
    | false => rw [blank_not h]; simp [h]
/-- BLANKS AROUND IT ARE NOTHING -/
theorem read_around {a b s : List UInt8} (ha : ∀ c ∈ a, blankB c = true) (hb : ∀ c ∈ b, blankB c = true) (hl : (a ++ (s ++ b)).length ≤ 20000) {j : Jt} : readJ (a ++ (s ++ b)) = .ok j ↔ readJ s = .ok j := by
  have hl2 : s.length ≤ 20000 := by simp at hl; omega
  rw [read_ok hl, read_ok hl2, bad_around ha hb, tree_lead _ ha]
  refine and_congr_right fun _ => ⟨?_, ?_⟩
  · rintro ⟨t, h1, h2⟩
    obtain ⟨h, c, e1, e2, e3⟩ := tree_loc 12 _ _ _ h1
    have ht := blank_nil.1 h2
    -- the last byte that was gone over is no blank: it lies in s
    obtain ⟨t', e4, e5⟩ : ∃ t', s = h ++ c :: t' ∧ t = t' ++ b := by
      rcases List.append_eq_append_iff.1 e1.symm with ⟨k, h3, h4⟩ | ⟨k, h3, h4⟩
      · cases k with
        | nil =>
          simp only [List.nil_append] at h4
          have := hb c (by rw [← h4]; simp)
          rw [e2] at this; cases this
        | cons d k =>
          injection h4 with h5 h6
          subst h5
          exact ⟨k, h3, h6⟩
      · have := hb c (by rw [h4]; simp)
        rw [e2] at this; cases this
    refine ⟨t', ?_, blank_nil.2 fun c hc => ht c (by rw [e5]; simp [hc])⟩
    rw [e4]
    refine e3 t' ?_
    have := blanks_stop (b := t') (x := []) (fun c hc => ht c (by rw [e5]; simp [hc])) stop_nil
    rwa [List.append_nil] at this
  · rintro ⟨t, h1, h2⟩
    obtain ⟨h, c, e1, e2, e3⟩ := tree_loc 12 _ _ _ h1
    have ht := blank_nil.1 h2
    refine ⟨t ++ b, ?_, blank_nil.2 fun c hc => ?_⟩
    · rw [e1, List.append_assoc, List.cons_append]
      refine e3 _ ?_
      have := blanks_stop (b := t ++ b) (x := []) (fun c hc => (List.mem_append.1 hc).elim (ht c) (hb c)) stop_nil
      rwa [List.append_nil] at this
    · exact (List.mem_append.1 hc).elim (ht c) (hb c)

end Go.Proofs.YtlejbindochiiaaDoor
