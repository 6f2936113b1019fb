/-
  A stamp with a date and a time against its two parts: plain.
-/
import Derived.Test.YtkhnghcecnghmaaDoorWhenLaws2
namespace Go.Proofs.YtkhnghcecnghmaaDoor
open Go.RowKit
set_option linter.unusedVariables false
set_option linter.unusedSimpArgs false

def St.out (x : St) : List UInt8 := if x.right = 0 then x.text else []
theorem form_in {y m d : Int} (h : DForm y m d) : Lib.contains datesA (32 :: (formL y m d ++ [32])) = true := by
  unfold DForm at h
  unfold formL
  rcases h with ⟨a, b, c⟩ | ⟨a, b, c⟩ | ⟨a, b, c⟩ | ⟨a, b, c⟩ | ⟨a, b, c⟩ | ⟨a, b, c⟩ | ⟨a, b, c⟩
  · rw [a, b, c]; decide +kernel
  · rw [dgF_yes a, b, c]; decide +kernel
  · rw [dgF_yes a, dgF_yes b, c]; decide +kernel
  · rw [dgF_yes a, dgF_yes b, dgF_yes c]; decide +kernel
  · rw [a, dgF_yes b, c]; decide +kernel
  · rw [a, dgF_yes b, dgF_yes c]; decide +kernel
  · rw [a, b, dgF_yes c]; decide +kernel
theorem form_dash {y m d : Int} (h : formL y m d = [45, 45, 45]) : y = -1 ∧ m = -1 ∧ d = -1 := by
  unfold formL at h
  have one : ∀ n, dgF n = 45 → n = -1 := by
    intro n e
    rcases dgF_or n with ⟨a, _⟩ | ⟨_, a⟩
    · exact a
    · rw [a] at e; exact absurd e (by decide)
  simp only [List.cons.injEq, and_true] at h
  exact ⟨one _ h.1, one _ h.2.1, one _ h.2.2⟩
theorem right_of {t : St} (h1 : t.bad = false) (h2 : t.fits = true) : t.right = 0 := by
  unfold St.right; rw [h1, h2]; rfl
theorem fits_iff {t : St} : t.fits = true ↔ (((((wth t.y 0 9999 = true ∧ wth t.m 1 12 = true) ∧ wth t.d 1 t.most = true) ∧ wth t.h 0 23 = true) ∧ wth t.n 0 59 = true) ∧ wth t.s 0 59 = true) ∧ rightZ t.zn = true := by
  unfold St.fits; simp only [Bool.and_eq_true]
/-- one of the two parts is none -/
theorem bad_one {t : St} (hf : DForm t.y t.m t.d) (hg : DForm t.h t.n t.s) (h : ¬ ((t.y = -1 ∧ t.m = -1 ∧ t.d = -1) ∧ t.h = -1 ∧ t.n = -1 ∧ t.s = -1)) (ho : (t.y = -1 ∧ t.m = -1 ∧ t.d = -1) ∨ (t.h = -1 ∧ t.n = -1 ∧ t.s = -1)) (hz : t.zd = true → t.h ≠ -1) (hz2 : t.zd = false → t.zn = 0) : t.bad = false := by
  have e0 : formL t.y t.m t.d = [45, 45, 45] ∨ formL t.h t.n t.s = [45, 45, 45] := by
    rcases ho with ⟨a, b, c⟩ | ⟨a, b, c⟩
    · left; rw [a, b, c]; rfl
    · right; rw [a, b, c]; rfl
  have e1 : ¬ (formL t.y t.m t.d ≠ [45, 45, 45] ∧ formL t.h t.n t.s ≠ [45, 45, 45]) := fun ⟨a, b⟩ => by
    rcases e0 with e | e
    · exact a e
    · exact b e
  have e2 : ¬ (formL t.y t.m t.d = [45, 45, 45] ∧ formL t.h t.n t.s = [45, 45, 45]) := fun ⟨a, b⟩ => h ⟨form_dash a, form_dash b⟩
  have c1 : (decide (formL t.y t.m t.d = [45, 45, 45]) && decide (formL t.h t.n t.s = [45, 45, 45])) = false := by
    rw [← Bool.decide_and]; exact decide_eq_false e2
  have c2 : (t.zd && decide (t.h = -1)) = false := by
    cases e : t.zd with
    | false => rfl
    | true => simpa using hz e
  have c3 : (!t.zd && !decide (t.zn = 0)) = false := by
    cases e : t.zd with
    | false => simpa using hz2 e
    | true => rfl
  unfold St.bad datesOf timesOf
  simp only [if_neg e1, form_in hf, form_in hg, c1, c2, c3]
  rfl

/-- the date alone, the time alone, both -/
def dateOf (a : St) : St := ⟨a.y, a.m, a.d, -1, -1, -1, false, 0⟩
def timeOf (b : St) : St := ⟨-1, -1, -1, b.h, b.n, b.s, b.zd, b.zn⟩
def bothOf (a b : St) : St := ⟨a.y, a.m, a.d, b.h, b.n, b.s, b.zd, b.zn⟩
theorem both_date (a b : St) (h : b.h = -1 ∧ b.n = -1 ∧ b.s = -1) (hr : (bothOf a b).right = 0) : bothOf a b = dateOf a := by
  obtain ⟨_, _, _, h1, h2⟩ := bad_parts (St.right_zero hr).1
  obtain ⟨x, y, z⟩ := h
  have hz : b.zd = false := by
    cases e : b.zd with
    | false => rfl
    | true => exact absurd x (h1 e)
  have hz2 : b.zn = 0 := h2 hz
  unfold bothOf dateOf
  rw [x, y, z, hz, hz2]
theorem both_parts (a b : St) (hd : ¬ (a.y = -1 ∧ a.m = -1 ∧ a.d = -1)) (ht : ¬ (b.h = -1 ∧ b.n = -1 ∧ b.s = -1)) (hr : (bothOf a b).right = 0) :
    (dateOf a).right = 0 ∧ (timeOf b).right = 0 ∧ (bothOf a b).text = (dateOf a).text ++ (timeOf b).text ∧ ∃ r, (timeOf b).text = 84 :: r := by
  obtain ⟨hb, hf⟩ := St.right_zero hr
  obtain ⟨f1, f2, _⟩ := bad_forms hb
  obtain ⟨_, _, _, z1, z2⟩ := bad_parts hb
  obtain ⟨⟨⟨⟨⟨⟨h1, h2⟩, h3⟩, h4⟩, h5⟩, h6⟩, h7⟩ := fits_iff.1 hf
  have ht1 : ¬ ((timeOf b).h = -1 ∧ (timeOf b).n = -1 ∧ (timeOf b).s = -1) := ht
  have ht2 : ¬ ((bothOf a b).h = -1 ∧ (bothOf a b).n = -1 ∧ (bothOf a b).s = -1) := ht
  have n1 : ∀ x y, wth (-1) x y = true := fun x y => by simp [wth]
  have none3 : DForm (-1) (-1) (-1) := .inl ⟨rfl, rfl, rfl⟩
  refine ⟨right_of (bad_one f1 none3 (fun h => hd h.1) (.inr ⟨rfl, rfl, rfl⟩) (fun h => by cases h) (fun _ => rfl)) (fits_iff.2 ⟨⟨⟨⟨⟨⟨h1, h2⟩, h3⟩, n1 _ _⟩, n1 _ _⟩, n1 _ _⟩, rfl⟩), right_of (bad_one none3 f2 (fun h => ht h.2) (.inl ⟨rfl, rfl, rfl⟩) z1 z2) (fits_iff.2 ⟨⟨⟨⟨⟨⟨n1 _ _, n1 _ _⟩, n1 _ _⟩, h4⟩, h5⟩, h6⟩, h7⟩), ?_, ?_⟩
  · have e1 : (dateOf a).text = (bothOf a b).date := by unfold St.text; rw [if_pos ⟨rfl, rfl, rfl⟩]; rfl
    have e2 : (timeOf b).text = 84 :: ((bothOf a b).clock ++ if (bothOf a b).zd then printZ (bothOf a b).zn else []) := by unfold St.text; rw [if_neg ht1]; rfl
    rw [e1, e2]
    conv => lhs; unfold St.text
    rw [if_neg ht2]
  · exact ⟨_, by unfold St.text; rw [if_neg ht1]; rfl⟩

end Go.Proofs.YtkhnghcecnghmaaDoor
