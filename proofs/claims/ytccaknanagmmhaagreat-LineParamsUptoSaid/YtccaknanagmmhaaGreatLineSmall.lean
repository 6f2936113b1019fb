/-
  Sizes of lines that are read and written. Plain.
-/
import Derived.Test.YtccaknanagmmhaaGreatLinePrint
import Derived.Test.YtccaknanagmmhaaGreatMParse
import Derived.Test.YtccaknanagmmhaaGreatMSame
namespace Go.Proofs.YtccaknanagmmhaaGreat
open Go.RowKit
set_option linter.unusedVariables false
set_option linter.unusedSimpArgs false

theorem decL_small : ∀ (n : Nat) (l : L8), l.length ≤ n → (decL l).length ≤ l.length := by
  intro n
  induction n with
  | zero =>
    intro l hl
    have : l = [] := List.length_eq_zero_iff.1 (by omega)
    subst this; exact Nat.le_refl _
  | succ n ih =>
    intro l hl
    cases l with
    | nil => exact Nat.le_refl _
    | cons c t =>
      simp only [List.length_cons] at hl
      cases hm : mtL (c :: t) with
      | some v =>
        have h2 := mtL_len hm
        cases t with
        | nil => simp at h2
        | cons d r =>
          simp only [List.length_cons] at hl
          rw [decL_some hm]
          have := ih r (by omega)
          simp only [List.length_cons]; omega
      | none =>
        rw [decL_none hm]
        have := ih t (by omega)
        simp only [List.length_cons]; omega
theorem decV_small (cf : Bool) (l : L8) : (decV cf l).length ≤ l.length := by
  cases cf with
  | false => exact Nat.le_refl _
  | true => exact decL_small _ l (Nat.le_refl _)
theorem value_small {cf : Bool} {l v t : L8} (h : valueP cf l = .ok (v, t)) : v.length + t.length ≤ l.length := by
  unfold valueP at h
  split at h
  · rename_i r hr
    obtain ⟨a, t2, h1, h2⟩ := next_ok.1 h
    have e := isB_some hr
    obtain ⟨e2, _⟩ := scan_spec h1
    split at h2
    · rename_i u hu
      have e3 := isB_some hu
      injection h2 with h2; injection h2 with h3 h4; subst h4; subst h3
      have := decV_small cf a
      rw [e, e2, e3]; simp; omega
    · cases h2
  · obtain ⟨a, t2, h1, h2⟩ := next_ok.1 h
    injection h2 with h2; injection h2 with h3 h4; subst h4; subst h3
    obtain ⟨e2, _⟩ := scan_spec h1
    have := decV_small cf a
    rw [e2]; simp; omega
theorem more_small {cf : Bool} : ∀ (n : Nat) {l t : L8} {vs : List L8}, l.length ≤ n → moreV cf l = .ok (vs, t) → vs.length + (vs.map List.length).sum + t.length ≤ l.length := by
  intro n
  induction n with
  | zero =>
    intro l t vs hl h
    have : l = [] := List.length_eq_zero_iff.1 (by omega)
    subst this
    rw [more_none rfl] at h
    injection h with h; injection h with h1 h; subst h; subst h1; simp
  | succ n ih =>
    intro l t vs hl h
    cases hb : isB 44 l with
    | none =>
      rw [more_none hb] at h
      injection h with h; injection h with h1 h; subst h; subst h1; simp
    | some r =>
      rw [more_some hb] at h
      obtain ⟨v, t1, h1, h2⟩ := next_ok.1 h
      obtain ⟨vs', u, h3, h4⟩ := next_ok.1 h2
      injection h4 with h4; injection h4 with h5 h4; subst h4; subst h5
      have l1 := value_small h1
      have hl' : l.length = r.length + 1 := by rw [isB_some hb]; rfl
      have := ih (by omega) h3
      simp only [List.length_cons, List.map_cons, List.sum_cons]
      omega
theorem pm_small {cf : Bool} {l t : L8} {p : Pm} (h : pmP cf l = .ok (p, t)) : lensP p + t.length ≤ l.length := by
  obtain ⟨n, t1, h1, h2⟩ := next_ok.1 h
  obtain ⟨e1, _, _⟩ := word_ok h1
  split at h2
  · cases h2
  · rename_i r hr
    have e2 := isB_some hr
    obtain ⟨v, t2, h3, h4⟩ := next_ok.1 h2
    obtain ⟨vs, t3, h5, h6⟩ := next_ok.1 h4
    injection h6 with h6; injection h6 with h7 h6; subst h6; subst h7
    have a := value_small h3
    have b := more_small _ (Nat.le_refl _) h5
    have l1 : l.length = n.length + t1.length := by rw [e1]; simp
    have l2 : t1.length = r.length + 1 := by rw [e2]; rfl
    simp only [lensP, List.length_cons, List.map_cons, List.sum_cons]
    omega
theorem wideN_cons (p : Pm) (ps : List Pm) : wideN (p :: ps) = 1 + lensP p + wideN ps := by unfold wideN; simp only [List.length_cons, List.map_cons, List.sum_cons]; omega
theorem params_small {cf : Bool} : ∀ (n k : Nat) {l t : L8} {ps : List Pm}, l.length ≤ n → paramsP cf k l = .ok (ps, t) → wideN ps + t.length ≤ l.length := by
  intro n
  induction n with
  | zero =>
    intro k l t vs hl h
    have : l = [] := List.length_eq_zero_iff.1 (by omega)
    subst this
    rw [params_none rfl] at h
    injection h with h; injection h with h1 h; subst h; subst h1; simp [wideN]
  | succ n ih =>
    intro k l t vs hl h
    cases hx : isB 59 l with
    | none =>
      rw [params_none hx] at h
      injection h with h; injection h with h1 h; subst h; subst h1; simp [wideN]
    | some r =>
      rw [params_some hx] at h
      obtain ⟨p, t1, h1, h2⟩ := next_ok.1 h
      split at h2
      · cases h2
      · obtain ⟨ps', u, h3, h4⟩ := next_ok.1 h2
        injection h4 with h4; injection h4 with h5 h4; subst h4; subst h5
        have l1 := pm_small h1
        have hl' : l.length = r.length + 1 := by rw [isB_some hx]; rfl
        have := ih (k + 1) (by omega) h3
        rw [wideN_cons]; omega
/-- a line's bytes in memory -/
def sizeL (p : Ln) : Nat := p.hd.group.length + p.hd.name.length + wideN p.hd.params + p.value.length
theorem head_small {cf : Bool} {l t : L8} {h : Hd} (hh : headP cf l = .ok (h, t)) : h.group.length + h.name.length + wideN h.params + t.length ≤ l.length := by
  obtain ⟨n, t1, h1, h2⟩ := next_ok.1 hh
  obtain ⟨gn, t2, h3, h4⟩ := next_ok.1 h2
  obtain ⟨ps, t3, h5, h6⟩ := next_ok.1 h4
  obtain ⟨e1, _, _⟩ := word_ok h1
  have l1 : l.length = n.length + t1.length := by rw [e1]; simp
  have a := params_small _ 0 (Nat.le_refl _) h5
  split at h6
  · cases h6
  · rename_i r hr
    have l2 : t3.length = r.length + 1 := by rw [isB_some hr]; rfl
    injection h6 with h6; injection h6 with h7 h6; subst h6; subst h7
    have key : gn.1.length + gn.2.length + t2.length ≤ n.length + t1.length := by
      split at h3
      · rename_i r2 hr2
        obtain ⟨m, u, h8, h9⟩ := next_ok.1 h3
        obtain ⟨e2, _, _⟩ := word_ok h8
        injection h9 with h9; injection h9 with h10 h9; subst h9; subst h10
        have l3 : t1.length = r2.length + 1 := by rw [isB_some hr2]; rfl
        have l4 : r2.length = m.length + u.length := by rw [e2]; simp
        simp only; omega
      · injection h3 with h3; injection h3 with h10 h9; subst h9; subst h10
        simp
    simp only; omega
theorem parse_small {cf : Bool} {s : L8} {p : Ln} (h : parseP cf s = .ok p) : sizeL p ≤ s.length := (by
  obtain ⟨_, hh, _⟩ := parse_ok h
  have := head_small hh
  unfold sizeL; omega)
theorem print_small (cf : Bool) (p : Ln) : (printW cf p).length ≤ 3 * sizeL p + 2 := by
  have := flat_len cf p.hd.params
  unfold printW headW sizeL
  simp only [List.length_append, List.length_cons]
  split
  · simp only [List.length_nil]; omega
  · simp only [List.length_append, List.length_cons, List.length_nil]; omega
theorem wide_small {ps : List Pm} {n : Nat} (h : wideN ps ≤ n) (hn : n ≤ 1000000) : smallPm ps ∧ ps.length ≤ 1000000 := by
  refine ⟨fun p hp => ?_, by unfold wideN at h; omega⟩
  have h1 : lensP p ≤ (ps.map lensP).sum := mem_le_sum (List.mem_map_of_mem hp)
  have h2 : lensP p = p.1.length + p.2.length + (p.2.map List.length).sum := rfl
  unfold wideN at h
  constructor <;> omega
theorem hasE_of {a b : L8} (h : ∃ c, a = c ++ b) : hasE a b = true := by obtain ⟨c, rfl⟩ := h; exact hasE_append _ _

theorem PrintP.good {cf : Bool} {p : Ln} {v : Value} {w : World} (h : rightE cf p = none) (hp : PrintP cf p v w) : v = .tuple #[.string (S (printW cf p)), .nilIface] := by unfold PrintP at hp; rw [h] at hp; exact hp
theorem PrintP.bad {cf : Bool} {p : Ln} {v : Value} {w : World} {o : Int × Option Nat} (h : rightE cf p = some o) (hp : PrintP cf p v w) : ∃ t x, v = .tuple #[.string (S []), .iface t x] := by unfold PrintP at hp; rw [h] at hp; obtain ⟨e, rfl, _, t, x, rfl⟩ := hp; exact ⟨t, x, rfl⟩
/-- a line's block -/
def LnAt (w : World) (B : Nat) (p : Ln) (pv : Value) : Prop := w.heap[B]? = some (.cells #[.string (S p.hd.group), .string (S p.hd.name), pv, .string (S p.value)] 24)
theorem LnAt.new (w : World) (p : Ln) (pv : Value) : LnAt (w.alloc (.cells #[.string (S p.hd.group), .string (S p.hd.name), pv, .string (S p.value)] 24)) w.heap.size p pv := World.alloc_heap_new w _
section
variable {w w' : World} {B : Nat} {p : Ln} {pv : Value}
theorem LnAt.grow (h : LnAt w B p pv) (g : G w w') : LnAt w' B p pv := (g.below.block B (lt_of_row h)).trans h
theorem LnAt.c0 (h : LnAt w B p pv) : w.cell? ⟨B, 0, none⟩ = some (.string (S p.hd.group)) := by rw [cell_of_row w B 0 _ _ _ h]; rfl
theorem LnAt.c1 (h : LnAt w B p pv) : w.cell? ⟨B, 1, none⟩ = some (.string (S p.hd.name)) := by rw [cell_of_row w B 1 _ _ _ h]; rfl
theorem LnAt.c2 (h : LnAt w B p pv) : w.cell? ⟨B, 2, none⟩ = some pv := by rw [cell_of_row w B 2 _ _ _ h]; rfl
theorem LnAt.c3 (h : LnAt w B p pv) : w.cell? ⟨B, 3, none⟩ = some (.string (S p.value)) := by rw [cell_of_row w B 3 _ _ _ h]; rfl
theorem LnAt.lt (h : LnAt w B p pv) : B < w.heap.size := lt_of_row h
end

/-! ## contracts on lines -/
theorem lnPrint_any (p : Ln) (pv : Value) (cf : Bool) (w : World) (hP : IsParams w pv p.hd.params) (hs : sizeL p ≤ 10000) : Makes 11 #[lnV p pv, .bool cf] w (PrintP cf p) := by
  unfold sizeL at hs
  exact linePrint_any p.hd.group p.hd.name p.value pv p.hd.params cf w hP (by omega) (by omega) (by omega) (by omega)
theorem lnRight_any (p : Ln) (pv : Value) (cf : Bool) (w : World) (hP : IsParams w pv p.hd.params) (hs : sizeL p ≤ 10000) : Makes 12 #[lnV p pv, .bool cf] w fun x w' => IsErr w' x (rightE cf p) := by
  unfold sizeL at hs
  refine lineRight_any p.hd.group p.hd.name p.value pv p.hd.params cf w hP (by omega) (by omega) (by omega) fun q hq => ?_
  have h1 : lensP q ≤ (p.hd.params.map lensP).sum := mem_le_sum (List.mem_map_of_mem hq)
  have h2 : lensP q = q.1.length + q.2.length + (q.2.map List.length).sum := rfl
  have h3 : wideN p.hd.params = p.hd.params.length + (p.hd.params.map lensP).sum := rfl
  refine ⟨by omega, by omega, fun u hu => ?_⟩
  have : u.length ≤ (q.2.map List.length).sum := mem_le_sum (List.mem_map_of_mem hu)
  omega
theorem lnSame_any (p q : Ln) (va vb : Value) (w : World) (ha : IsParams w va p.hd.params) (hb : IsParams w vb q.hd.params) (h1 : sizeL p ≤ 1000000) (h2 : sizeL q ≤ 1000000) : Gives 14 #[lnV p va, lnV q vb] w (.bool (decide (p.hd.group = q.hd.group ∧ p.hd.name = q.hd.name ∧ p.value = q.value ∧ p.hd.params = q.hd.params))) := by
  unfold sizeL at h1 h2
  obtain ⟨a1, a2⟩ := wide_small (n := 1000000) (show wideN p.hd.params ≤ 1000000 by omega) (by omega)
  obtain ⟨b1, b2⟩ := wide_small (n := 1000000) (show wideN q.hd.params ≤ 1000000 by omega) (by omega)
  exact sameProp_any p.hd.group q.hd.group p.hd.name q.hd.name p.value q.value ha hb a2 b2 a1 b1 (by omega) (by omega) (by omega) (by omega) (by omega) (by omega)
theorem lnSame_refl (p : Ln) (va vb : Value) (w : World) (ha : IsParams w va p.hd.params) (hb : IsParams w vb p.hd.params) (h1 : sizeL p ≤ 1000000) : Gives 14 #[lnV p va, lnV p vb] w (.bool true) := by
  have h := lnSame_any p p va vb w ha hb h1 h1
  have hd : decide (p.hd.group = p.hd.group ∧ p.hd.name = p.hd.name ∧ p.value = p.value ∧ p.hd.params = p.hd.params) = true := by simp
  rwa [hd] at h

end Go.Proofs.YtccaknanagmmhaaGreat
