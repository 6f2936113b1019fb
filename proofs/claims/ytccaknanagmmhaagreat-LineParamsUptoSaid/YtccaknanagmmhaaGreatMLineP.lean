/-
  Texts merged into one: LinePlain, LinePlain2, LinePlain3.
-/
import Derived.Test.YtccaknanagmmhaaGreatCode
import Derived.Test.YtccaknanagmmhaaGreatCaretPlain
import Derived.Test.YtccaknanagmmhaaGreatMReplA
import Derived.Test.YtccaknanagmmhaaGreatParams
namespace Go.Proofs.YtccaknanagmmhaaGreat
open Go.RowKit
set_option linter.unusedVariables false
set_option linter.unusedSimpArgs false

abbrev L8 := List UInt8
/-- an error's number, and how many bytes are left where it is told -/
abbrev Er := Int × Nat
abbrev Rs (α : Type) := Except Er (α × L8)
def Rs.next {α β : Type} (x : Except Er (α × L8)) (f : α → L8 → Except Er β) : Except Er β := match x with | .ok (a, t) => f a t | .error e => .error e
theorem next_ok {α β : Type} {x : Except Er (α × L8)} {f : α → L8 → Except Er β} {b : β} : Rs.next x f = .ok b ↔ ∃ a t, x = .ok (a, t) ∧ f a t = .ok b := by
  cases x with
  | ok p => obtain ⟨a, t⟩ := p; exact ⟨fun h => ⟨a, t, rfl, h⟩, fun ⟨a', t', h, h2⟩ => by injection h with h; injection h with h1 h3; subst h1; subst h3; exact h2⟩
  | error e => exact ⟨fun h => (by cases h), fun ⟨_, _, h, _⟩ => (by cases h)⟩
theorem next_pos {α β : Type} (a : α) (t : L8) (f : α → L8 → Except Er β) : Rs.next (.ok (a, t)) f = f a t := rfl
/-- a byte that may stand nowhere -/
def ctlB (c : UInt8) : Bool := !(txtP false c)
def nameCh (c : UInt8) : Bool := letterB c.toNat
def wordP (l : L8) : Rs L8 := if isNameL (l.takeWhile nameCh) then .ok (l.takeWhile nameCh, l.dropWhile nameCh) else .error (5, l.length)
def isB (c : UInt8) : L8 → Option L8
  | [] => none
  | d :: r => if d = c then some r else none
/-- a byte that ends a value -/
def endB (q : Bool) (c : UInt8) : Bool := c == 34 || (!q && (c == 44 || c == 59 || c == 58))
def scanP (q : Bool) : L8 → Rs L8
  | [] => .ok ([], [])
  | c :: r => if endB q c then .ok ([], c :: r) else if ctlB c then .error (3, r.length + 1) else
      Rs.next (scanP q r) fun v t => .ok (c :: v, t)
def decV (cf : Bool) (v : L8) : L8 := if cf then decL v else v
def valueP (cf : Bool) (l : L8) : Rs L8 :=
  match isB 34 l with
  | some r => Rs.next (scanP true r) fun v t => match isB 34 t with
    | some u => .ok (decV cf v, u)
    | none => .error (7, t.length)
  | none => Rs.next (scanP false l) fun v t => .ok (decV cf v, t)
theorem isB_eq (c d : UInt8) (r : L8) : isB c (d :: r) = if d = c then some r else none := rfl
theorem isB_some {c : UInt8} {l r : L8} (h : isB c l = some r) : l = c :: r := by
  cases l with
  | nil => cases h
  | cons d l =>
    rw [isB_eq] at h
    by_cases e : d = c
    · rw [if_pos e] at h; injection h with h; rw [e, h]
    · rw [if_neg e] at h; cases h
theorem isB_none {c : UInt8} {l : L8} (h : isB c l = none) : l.head? ≠ some c := by
  cases l with
  | nil => simp
  | cons d l =>
    rw [isB_eq] at h
    by_cases e : d = c
    · rw [if_pos e] at h; cases h
    · simpa using e
theorem isB_cons (c : UInt8) (r : L8) : isB c (c :: r) = some r := by rw [isB_eq, if_pos rfl]
theorem isB_not {c : UInt8} {l : L8} (h : l.head? ≠ some c) : isB c l = none := by
  cases l with
  | nil => rfl
  | cons d l => rw [isB_eq, if_neg (by simpa using h)]
theorem scan_spec {q : Bool} : ∀ {l v t : L8}, scanP q l = .ok (v, t) → l = v ++ t ∧ (∀ c ∈ v, endB q c = false ∧ ctlB c = false) ∧ (∀ c r, t = c :: r → endB q c = true)
  | [], v, t, h => by
    unfold scanP at h
    injection h with h; injection h with h1 h2; subst h1; subst h2
    exact ⟨rfl, by simp, by simp⟩
  | c :: r, v, t, h => by
    unfold scanP at h
    split at h
    · rename_i he
      injection h with h; injection h with h1 h2; subst h1; subst h2
      exact ⟨rfl, by simp, fun d r' e => by injection e with e1 e2; subst e1; exact he⟩
    · split at h
      · cases h
      · rename_i he hc
        obtain ⟨v', t', h1, h2⟩ := next_ok.1 h
        injection h2 with h2; injection h2 with h3 h4; subst h3; subst h4
        obtain ⟨a, b, d⟩ := scan_spec h1
        refine ⟨by rw [a]; rfl, fun x hx => ?_, d⟩
        rcases List.mem_cons.1 hx with rfl | hx
        · exact ⟨by simpa using he, by simpa using hc⟩
        · exact b x hx
theorem scan_of {q : Bool} : ∀ (v t : L8), (∀ c ∈ v, endB q c = false ∧ ctlB c = false) → (∀ c r, t = c :: r → endB q c = true) → scanP q (v ++ t) = .ok (v, t)
  | [], [], _, _ => rfl
  | [], c :: r, _, h => by
    show scanP q (c :: r) = _
    unfold scanP; rw [if_pos (h c r rfl)]
  | c :: v, t, h, h2 => by
    obtain ⟨a, b⟩ := h c List.mem_cons_self
    show scanP q (c :: (v ++ t)) = _
    unfold scanP
    rw [if_neg (by simp [a]), if_neg (by simp [b]), scan_of v t (fun x hx => h x (List.mem_cons_of_mem _ hx)) h2]
    rfl
theorem value_len {cf : Bool} {l v t : L8} (h : valueP cf l = .ok (v, t)) : t.length ≤ l.length := by
  unfold valueP at h
  split at h
  · rename_i r hr
    obtain ⟨a, t2, h1, h2⟩ := next_ok.1 h
    have e := isB_some hr
    obtain ⟨e2, _⟩ := scan_spec h1
    split at h2
    · rename_i u hu
      have e3 := isB_some hu
      injection h2 with h2; injection h2 with h3 h4; subst h4
      rw [e, e2, e3]; simp; omega
    · cases h2
  · obtain ⟨a, t2, h1, h2⟩ := next_ok.1 h
    injection h2 with h2; injection h2 with h3 h4; subst h4
    obtain ⟨e2, _⟩ := scan_spec h1
    rw [e2]; simp
/-- further values, each behind a comma -/
def moreV (cf : Bool) (l : L8) : Rs (List L8) :=
  match h : isB 44 l with
  | none => .ok ([], l)
  | some r => match h2 : valueP cf r with
    | .error e => .error e
    | .ok (v, t) => Rs.next (moreV cf t) fun vs u => .ok (v :: vs, u)
termination_by l.length
decreasing_by
  have e := isB_some h
  have := value_len h2
  rw [e]; simp; omega
theorem more_none {cf : Bool} {l : L8} (h : isB 44 l = none) : moreV cf l = .ok ([], l) := by
  rw [moreV]
  split
  · rfl
  · rename_i r hr; rw [h] at hr; cases hr
theorem more_some {cf : Bool} {l r : L8} (h : isB 44 l = some r) : moreV cf l = Rs.next (valueP cf r) fun v t => Rs.next (moreV cf t) fun vs u => .ok (v :: vs, u) := by
  rw [moreV]
  split
  · rename_i hr; rw [h] at hr; cases hr
  · rename_i r' hr
    rw [h] at hr
    injection hr with hr
    subst hr
    split
    · rename_i e he; rw [he]; rfl
    · rename_i v t he; rw [he]; rfl
theorem more_len {cf : Bool} : ∀ (n : Nat) {l t : L8} {vs : List L8}, l.length ≤ n → moreV cf l = .ok (vs, t) → t.length ≤ l.length := by
  intro n
  induction n with
  | zero =>
    intro l t vs hl h
    have : l = [] := List.length_eq_zero_iff.1 (by omega)
    subst this
    rw [more_none rfl] at h
    injection h with h; injection h with _ h; subst h; exact Nat.le_refl _
  | succ n ih =>
    intro l t vs hl h
    cases hb : isB 44 l with
    | none =>
      rw [more_none hb] at h
      injection h with h; injection h with _ h; subst h; exact Nat.le_refl _
    | some r =>
      rw [more_some hb] at h
      obtain ⟨v, t1, h1, h2⟩ := next_ok.1 h
      obtain ⟨vs', u, h3, h4⟩ := next_ok.1 h2
      injection h4 with h4; injection h4 with _ h4; subst h4
      have e := isB_some hb
      have l1 := value_len h1
      have hl' : l.length = r.length + 1 := by rw [e]; rfl
      have := ih (by omega) h3
      omega
/-- one parameter, behind its semicolon -/
def pmP (cf : Bool) (l : L8) : Rs Pm :=
  Rs.next (wordP l) fun n t => match isB 61 t with
    | none => .error (7, t.length)
    | some r => Rs.next (valueP cf r) fun v t2 => Rs.next (moreV cf t2) fun vs t3 => .ok ((n, v :: vs), t3)
theorem drop_while_len (p : UInt8 → Bool) (l : L8) : (l.dropWhile p).length ≤ l.length := by
  have := congrArg List.length (List.takeWhile_append_dropWhile (p := p) (l := l))
  rw [List.length_append] at this; omega
theorem word_ok {l n t : L8} (h : wordP l = .ok (n, t)) : l = n ++ t ∧ isNameL n = true ∧ (∀ c r, t = c :: r → nameCh c = false) := by
  unfold wordP at h
  split at h
  · rename_i hn
    injection h with h; injection h with h1 h2; subst h1; subst h2
    refine ⟨List.takeWhile_append_dropWhile.symm, hn, fun c r e => ?_⟩
    have := List.head?_dropWhile_not nameCh l
    rw [e] at this
    simpa using this
  · cases h
theorem pm_len {cf : Bool} {l t : L8} {p : Pm} (h : pmP cf l = .ok (p, t)) : t.length ≤ l.length := by
  obtain ⟨n, t1, h1, h2⟩ := next_ok.1 h
  obtain ⟨e1, _, _⟩ := word_ok h1
  split at h2
  · cases h2
  · rename_i r hr
    have e2 := isB_some hr
    obtain ⟨v, t2, h3, h4⟩ := next_ok.1 h2
    obtain ⟨vs, t3, h5, h6⟩ := next_ok.1 h4
    injection h6 with h6; injection h6 with _ h6; subst h6
    have a := value_len h3
    have b := more_len _ (Nat.le_refl _) h5
    have l1 : l.length = n.length + t1.length := by rw [e1]; simp
    have l2 : t1.length = r.length + 1 := by rw [e2]; rfl
    omega
/-- parameters (k of them stand already) -/
def paramsP (cf : Bool) (k : Nat) (l : L8) : Rs (List Pm) :=
  match h : isB 59 l with
  | none => .ok ([], l)
  | some r => match h2 : pmP cf r with
    | .error e => .error e
    | .ok (p, t) => if k = 20 then .error (4, r.length) else Rs.next (paramsP cf (k + 1) t) fun ps u => .ok (p :: ps, u)
termination_by l.length
decreasing_by
  have e := isB_some h
  have := pm_len h2
  rw [e]; simp; omega
theorem params_none {cf : Bool} {k : Nat} {l : L8} (h : isB 59 l = none) : paramsP cf k l = .ok ([], l) := by
  rw [paramsP]
  split
  · rfl
  · rename_i r hr; rw [h] at hr; cases hr
theorem params_some {cf : Bool} {k : Nat} {l r : L8} (h : isB 59 l = some r) : paramsP cf k l = Rs.next (pmP cf r) fun p t => if k = 20 then .error (4, r.length) else Rs.next (paramsP cf (k + 1) t) fun ps u => .ok (p :: ps, u) := by
  rw [paramsP]
  split
  · rename_i hr; rw [h] at hr; cases hr
  · rename_i r' hr
    rw [h] at hr
    injection hr with hr
    subst hr
    split
    · rename_i e he; rw [he]; rfl
    · rename_i v t he; rw [he]; rfl
/-- what precedes the colon -/
structure Hd where
  group : L8
  name : L8
  params : List Pm
def headP (cf : Bool) (l : L8) : Rs Hd :=
  Rs.next (wordP l) fun n t => Rs.next (match isB 46 t with
    | some r => Rs.next (wordP r) fun m u => .ok ((n, m), u)
    | none => .ok (([], n), t) : Rs (L8 × L8)) fun gn t2 => Rs.next (paramsP cf 0 t2) fun ps t3 => match isB 58 t3 with
    | none => .error (7, t3.length)
    | some r => .ok (⟨gn.1, gn.2, ps⟩, r)
/-- a line: what precedes the colon, its value -/
structure Ln where
  hd : Hd
  value : L8
def parseP (cf : Bool) (s : L8) : Except Er Ln :=
  match badL s with
  | some i => .error (3, i)
  | none => match headP cf s with
    | .error (e, k) => .error (e, s.length - k)
    | .ok (h, r) => match r.findIdx? ctlB with
      | some i => .error (3, s.length - r.length + i)
      | none => .ok ⟨h, r⟩

/-! ## what is written -/
def encV (cf : Bool) (v : L8) : L8 := if cf then encL v else v
def needQ (v : L8) : Bool := v.any fun c => c == 44 || c == 59 || c == 58
def valW (cf : Bool) (v : L8) : L8 := if needQ (encV cf v) then 34 :: (encV cf v ++ [34]) else encV cf v
def valsW (cf : Bool) : List L8 → L8
  | [] => []
  | v :: vs => 61 :: valW cf v ++ vs.flatMap fun u => 44 :: valW cf u
def pmW (cf : Bool) (p : Pm) : L8 := 59 :: p.1 ++ valsW cf p.2
def headW (cf : Bool) (h : Hd) : L8 := (if h.group = [] then [] else h.group ++ [46]) ++ h.name ++ h.params.flatMap (pmW cf)
def printW (cf : Bool) (p : Ln) : L8 := headW cf p.hd ++ 58 :: p.value
def holdsP (cf : Bool) (v : L8) : Bool := holdsB (encV cf v) false && !((encV cf v).contains 34)
def pmR (cf : Bool) (p : Pm) : Bool := isNameL p.1 && !p.2.isEmpty && p.2.all (holdsP cf)
def rightB (cf : Bool) (p : Ln) : Bool := isNameL p.hd.name && (p.hd.group.isEmpty || isNameL p.hd.group) && decide (p.hd.params.length ≤ 20) && p.hd.params.all (pmR cf) && holdsB p.value false

end Go.Proofs.YtccaknanagmmhaaGreat

namespace Go.Proofs.YtccaknanagmmhaaGreat
open Go.RowKit
set_option linter.unusedVariables false
set_option linter.unusedSimpArgs false

theorem name_chars {n : L8} (h : isNameL n = true) : ∀ c ∈ n, nameCh c = true := by
  unfold isNameL at h
  rw [Bool.and_eq_true, List.all_eq_true] at h
  exact h.1
theorem name_ne {n : L8} (h : isNameL n = true) : n ≠ [] := by
  rintro rfl
  cases h
theorem nameCh_ascii {c : UInt8} (h : nameCh c = true) : 32 ≤ c.toNat ∧ c.toNat ≤ 126 := by
  unfold nameCh letterB at h
  rw [decide_eq_true_iff] at h
  omega
theorem name_holds {n : L8} (h : isNameL n = true) : holdsB n false = true := holds_ascii fun c hc => nameCh_ascii (name_chars h c hc)
theorem word_of {n t : L8} (h : isNameL n = true) (ht : ∀ c r, t = c :: r → nameCh c = false) : wordP (n ++ t) = .ok (n, t) := by
  have e1 : (n ++ t).takeWhile nameCh = n := by
    rw [List.takeWhile_append_of_pos (name_chars h)]
    cases t with
    | nil => simp
    | cons c r => rw [List.takeWhile_cons_of_neg (by simp [ht c r rfl])]; simp
  have e2 : (n ++ t).dropWhile nameCh = t := by
    rw [List.dropWhile_append_of_pos (name_chars h)]
    cases t with
    | nil => rfl
    | cons c r => rw [List.dropWhile_cons_of_neg (by simp [ht c r rfl])]
  unfold wordP
  rw [e1, e2, if_pos h]
theorem dec_encV (cf : Bool) (v : L8) : decV cf (encV cf v) = v := by
  cases cf with
  | false => rfl
  | true => exact decL_enc v
theorem holdsP_iff {cf : Bool} {v : L8} : holdsP cf v = true ↔ holdsB (encV cf v) false = true ∧ (34 : UInt8) ∉ encV cf v := by
  unfold holdsP
  rw [Bool.and_eq_true, Bool.not_eq_true', ← Bool.not_eq_true, List.contains_iff_mem]
/-- a value that has no quotation mark and no control: in quotation marks -/
theorem value_quoted {cf : Bool} {e t : L8} (h1 : holdsB e false = true) (h2 : (34 : UInt8) ∉ e) : valueP cf (34 :: (e ++ 34 :: t)) = .ok (decV cf e, t) := by
  have hs : scanP true (e ++ 34 :: t) = .ok (e, 34 :: t) := scan_of e (34 :: t) (fun c hc => ⟨by
    have : c ≠ 34 := fun h => h2 (h ▸ hc)
    unfold endB; simp [this], by unfold ctlB; rw [(holds_iff.1 h1).1 c hc]; rfl⟩) (fun c r h => by injection h with h _; subst h; rfl)
  unfold valueP
  simp only [isB_cons, hs, next_pos]
/-- the same without them, where it needs none -/
theorem value_plain {cf : Bool} {e t : L8} (h1 : holdsB e false = true) (h2 : (34 : UInt8) ∉ e) (h3 : needQ e = false) (ht : ∀ c r, t = c :: r → c = 44 ∨ c = 59 ∨ c = 58) : valueP cf (e ++ t) = .ok (decV cf e, t) := by
  have hq : isB 34 (e ++ t) = none := by
    apply isB_not
    cases e with
    | nil =>
      cases t with
      | nil => simp
      | cons c r =>
        have := ht c r rfl
        simp
        rintro rfl
        revert this; decide
    | cons c e =>
      simp
      rintro rfl
      exact h2 List.mem_cons_self
  unfold valueP
  rw [hq]
  simp only
  rw [scan_of e t (fun c hc => ⟨?_, ?_⟩) (fun c r h => ?_)]
  · rfl
  · have n1 : c ≠ 34 := fun h => h2 (h ▸ hc)
    have n2 : ¬ (c == 44 || c == 59 || c == 58) = true := by
      intro h
      have : needQ e = true := List.any_eq_true.2 ⟨c, hc, h⟩
      rw [h3] at this; cases this
    have n2' : (c == 44 || c == 59 || c == 58) = false := by simpa using n2
    unfold endB
    rw [show (c == 34) = false from by simpa using n1, n2']; rfl
  · unfold ctlB; rw [(holds_iff.1 h1).1 c hc]; rfl
  · rcases ht c r h with rfl | rfl | rfl <;> rfl
theorem value_of {cf : Bool} {v t : L8} (h : holdsP cf v = true) (ht : ∀ c r, t = c :: r → c = 44 ∨ c = 59 ∨ c = 58) : valueP cf (valW cf v ++ t) = .ok (v, t) := by
  obtain ⟨h1, h2⟩ := holdsP_iff.1 h
  unfold valW
  cases hq : needQ (encV cf v) with
  | true =>
    rw [if_pos rfl]
    have := value_quoted (cf := cf) (t := t) h1 h2
    rw [dec_encV] at this
    simpa using this
  | false =>
    rw [if_neg (by simp)]
    have := value_plain (cf := cf) h1 h2 hq ht
    rwa [dec_encV] at this
theorem more_of {cf : Bool} : ∀ (vs : List L8) (t : L8), vs.all (holdsP cf) = true → (∀ c r, t = c :: r → c = 59 ∨ c = 58) → moreV cf ((vs.flatMap fun u => 44 :: valW cf u) ++ t) = .ok (vs, t)
  | [], t, _, ht => by
    show moreV cf t = _
    rw [more_none (isB_not ?_)]
    cases t with
    | nil => simp
    | cons c r =>
      have := ht c r rfl
      simp
      rintro rfl
      revert this; decide
  | v :: vs, t, h, ht => by
    rw [List.all_cons, Bool.and_eq_true] at h
    have ih := more_of vs t h.2 ht
    have e : ((v :: vs).flatMap fun u => 44 :: valW cf u) ++ t = 44 :: (valW cf v ++ ((vs.flatMap fun u => 44 :: valW cf u) ++ t)) := by simp
    rw [e, more_some (isB_cons _ _), value_of h.1 (fun c r hc => ?_)]
    · show Rs.next (moreV cf _) _ = _
      rw [ih]; rfl
    · cases vs with
      | nil => exact .inr (ht c r (by simpa using hc))
      | cons u us => left; simp at hc; exact hc.1.symm
theorem pm_of {cf : Bool} {p : Pm} {t : L8} (h : pmR cf p = true) (ht : ∀ c r, t = c :: r → c = 59 ∨ c = 58) : pmP cf (p.1 ++ valsW cf p.2 ++ t) = .ok (p, t) := by
  unfold pmR at h
  rw [Bool.and_eq_true, Bool.and_eq_true] at h
  obtain ⟨⟨h1, h2⟩, h3⟩ := h
  obtain ⟨n, vs⟩ := p
  cases vs with
  | nil => cases h2
  | cons v vs =>
    simp only at h1 h3 ⊢
    rw [List.all_cons, Bool.and_eq_true] at h3
    have e : n ++ valsW cf (v :: vs) ++ t = n ++ 61 :: (valW cf v ++ ((vs.flatMap fun u => 44 :: valW cf u) ++ t)) := by simp [valsW]
    have hv := value_of (cf := cf) (t := (vs.flatMap fun u => 44 :: valW cf u) ++ t) h3.1 (fun c r hc => by
      cases vs with
      | nil => exact .inr (ht c r (by simpa using hc))
      | cons u us => left; simp at hc; exact hc.1.symm)
    unfold pmP
    rw [e, word_of h1 (fun c r hc => by injection hc with hc _; subst hc; rfl)]
    simp only [next_pos, isB_cons, hv, more_of vs t h3.2 ht]
theorem params_of {cf : Bool} {t : L8} : ∀ (ps : List Pm) (k : Nat), ps.all (pmR cf) = true → k + ps.length ≤ 20 → paramsP cf k (ps.flatMap (pmW cf) ++ 58 :: t) = .ok (ps, 58 :: t)
  | [], k, _, _ => params_none (isB_not (by simp))
  | p :: ps, k, h, hk => by
    rw [List.all_cons, Bool.and_eq_true] at h
    simp only [List.length_cons] at hk
    have ih := params_of (t := t) ps (k + 1) h.2 (by omega)
    have e : (p :: ps).flatMap (pmW cf) ++ 58 :: t = 59 :: (p.1 ++ valsW cf p.2 ++ (ps.flatMap (pmW cf) ++ 58 :: t)) := by simp [pmW]
    rw [e, params_some (isB_cons _ _), pm_of h.1 (fun c r hc => ?_)]
    · show (if k = 20 then _ else Rs.next (paramsP cf (k + 1) _) _) = _
      rw [if_neg (by omega), ih]; rfl
    · cases ps with
      | nil => right; simp at hc; exact hc.1.symm
      | cons q qs => left; simp [pmW] at hc; exact hc.1.symm
theorem right_parts {cf : Bool} {p : Ln} (h : rightB cf p = true) : isNameL p.hd.name = true ∧ (p.hd.group = [] ∨ isNameL p.hd.group = true) ∧ p.hd.params.length ≤ 20 ∧ p.hd.params.all (pmR cf) = true ∧ holdsB p.value false = true := by
  unfold rightB at h
  simp only [Bool.and_eq_true, Bool.or_eq_true, decide_eq_true_iff, List.isEmpty_iff] at h
  exact ⟨h.1.1.1.1, h.1.1.1.2, h.1.1.2, h.1.2, h.2⟩
theorem params_head {cf : Bool} {ps : List Pm} {t c r} (h : ps.flatMap (pmW cf) ++ 58 :: t = c :: r) : c = 59 ∨ c = 58 := by
  cases ps with
  | nil => right; simp at h; exact h.1.symm
  | cons q qs => left; simp [pmW] at h; exact h.1.symm
theorem head_of {cf : Bool} {h : Hd} {t : L8} (h1 : isNameL h.name = true) (h2 : h.group = [] ∨ isNameL h.group = true) (h3 : h.params.length ≤ 20) (h4 : h.params.all (pmR cf) = true) : headP cf (headW cf h ++ 58 :: t) = .ok (h, t) := by
  obtain ⟨g, n, ps⟩ := h
  simp only at h1 h2 h3 h4
  have hp := params_of (cf := cf) (t := t) ps 0 h4 (by omega)
  have hw := word_of (n := n) (t := ps.flatMap (pmW cf) ++ 58 :: t) h1 (fun c r hc => by rcases params_head hc with rfl | rfl <;> rfl)
  unfold headP headW
  by_cases hg : g = []
  · subst hg
    have e : (if ([] : L8) = [] then [] else [] ++ [46]) ++ n ++ ps.flatMap (pmW cf) ++ 58 :: t = n ++ (ps.flatMap (pmW cf) ++ 58 :: t) := by simp
    have hnot : isB 46 (ps.flatMap (pmW cf) ++ 58 :: t) = none := isB_not (fun hh => by
      cases hx : ps.flatMap (pmW cf) ++ 58 :: t with
      | nil => rw [hx] at hh; cases hh
      | cons c r => rw [hx] at hh; injection hh with hh; subst hh; rcases params_head hx with h | h <;> revert h <;> decide)
    show Rs.next (wordP ((if ([] : L8) = [] then [] else [] ++ [46]) ++ n ++ ps.flatMap (pmW cf) ++ 58 :: t)) _ = _
    rw [e, hw]
    simp only [next_pos, hnot, hp, isB_cons]
  · have hgn : isNameL g = true := h2.resolve_left hg
    have hwg := word_of (n := g) (t := 46 :: (n ++ (ps.flatMap (pmW cf) ++ 58 :: t))) hgn (fun c r hc => by injection hc with hc _; subst hc; rfl)
    have e : (if g = [] then [] else g ++ [46]) ++ n ++ ps.flatMap (pmW cf) ++ 58 :: t = g ++ 46 :: (n ++ (ps.flatMap (pmW cf) ++ 58 :: t)) := by simp [hg]
    show Rs.next (wordP ((if g = [] then [] else g ++ [46]) ++ n ++ ps.flatMap (pmW cf) ++ 58 :: t)) _ = _
    rw [e, hwg]
    simp only [next_pos, isB_cons, hw, hp]

/-! ## what is written holds -/
theorem flat_holds {α : Type} {f : α → L8} : ∀ (l : List α), (∀ a ∈ l, holdsB (f a) false = true) → holdsB (l.flatMap f) false = true
  | [], _ => holds_nil _
  | a :: l, h => by
    rw [List.flatMap_cons]
    exact holds_append (h a List.mem_cons_self) (flat_holds l fun b hb => h b (List.mem_cons_of_mem _ hb))
theorem one_holds (c : UInt8) (h1 : c.toNat < 128) (h2 : txtP false c = true) : holdsB [c] false = true := holds_cons h1 h2 (holds_nil _)
theorem valW_holds {cf : Bool} {v : L8} (h : holdsP cf v = true) : holdsB (valW cf v) false = true := by
  obtain ⟨h1, h2⟩ := holdsP_iff.1 h
  unfold valW
  split
  · exact holds_cons (by decide) (by decide) (holds_append h1 (one_holds 34 (by decide) (by decide)))
  · exact h1
theorem pmW_holds {cf : Bool} {p : Pm} (h : pmR cf p = true) : holdsB (pmW cf p) false = true := by
  unfold pmR at h
  rw [Bool.and_eq_true, Bool.and_eq_true] at h
  obtain ⟨⟨h1, h2⟩, h3⟩ := h
  obtain ⟨n, vs⟩ := p
  rw [List.all_eq_true] at h3
  unfold pmW
  refine holds_append (holds_cons (by decide) (by decide) (name_holds h1)) ?_
  cases vs with
  | nil => cases h2
  | cons v vs =>
    unfold valsW
    refine holds_append (holds_cons (by decide) (by decide) (valW_holds (h3 v List.mem_cons_self))) (flat_holds _ fun u hu => ?_)
    exact holds_cons (by decide) (by decide) (valW_holds (h3 u (List.mem_cons_of_mem _ hu)))
theorem headW_holds {cf : Bool} {p : Ln} (h : rightB cf p = true) : holdsB (headW cf p.hd) false = true := by
  obtain ⟨h1, h2, h3, h4, h5⟩ := right_parts h
  rw [List.all_eq_true] at h4
  unfold headW
  refine holds_append (holds_append ?_ (name_holds h1)) (flat_holds _ fun q hq => pmW_holds (h4 q hq))
  split
  · exact holds_nil _
  · rename_i hg
    exact holds_append (name_holds (h2.resolve_left hg)) (one_holds 46 (by decide) (by decide))
theorem printW_holds {cf : Bool} {p : Ln} (h : rightB cf p = true) : holdsB (printW cf p) false = true := by
  unfold printW
  exact holds_append (headW_holds h) (holds_cons (by decide) (by decide) (right_parts h).2.2.2.2)
theorem no_ctl {r : L8} (h : holdsB r false = true) : r.findIdx? ctlB = none := by
  rw [List.findIdx?_eq_none_iff]
  intro c hc
  unfold ctlB; rw [(holds_iff.1 h).1 c hc]; rfl
theorem parse_of {cf : Bool} {s r : L8} {h : Hd} (hb : badL s = none) (hh : headP cf s = .ok (h, r)) (hr : holdsB r false = true) : parseP cf s = .ok ⟨h, r⟩ := by
  unfold parseP
  rw [hb]
  simp only
  rw [hh]
  simp only
  rw [no_ctl hr]
/-- WHAT IS WRITTEN IS READ -/
theorem parse_print {cf : Bool} {p : Ln} (h : rightB cf p = true) : parseP cf (printW cf p) = .ok p := by
  obtain ⟨h1, h2, h3, h4, h5⟩ := right_parts h
  have := parse_of (holds_iff.1 (printW_holds h)).2 (head_of (cf := cf) (t := p.value) h1 h2 h3 h4) h5
  exact this

/-! ## what is read is right -/
theorem decL_high : ∀ (p r : L8), (∀ b ∈ p, 128 ≤ b.toNat) → decL (p ++ r) = p ++ decL r
  | [], r, _ => rfl
  | b :: p, r, h => by
    have hb := h b List.mem_cons_self
    show decL (b :: (p ++ r)) = _
    rw [decL_none (mtL_no (by rintro rfl; exact absurd hb (by decide))), decL_high p r fun x hx => h x (List.mem_cons_of_mem _ hx)]
    rfl
theorem mt_cases {c d : UInt8} {r : L8} {v : UInt8} (h : mtL (c :: d :: r) = some v) : c = 94 ∧ (d = 94 ∧ v = 94 ∨ d = 110 ∧ v = 10 ∨ d = 39 ∧ v = 34) := by
  simp only [mtL] at h
  split at h
  · rename_i hc
    refine ⟨hc, ?_⟩
    split at h
    · rename_i hd; injection h with h; exact .inl ⟨hd, h.symm⟩
    · split at h
      · rename_i hd; injection h with h; exact .inr (.inl ⟨hd, h.symm⟩)
      · split at h
        · rename_i hd; injection h with h; exact .inr (.inr ⟨hd, h.symm⟩)
        · cases h
  · cases h
theorem bad_decL : ∀ (n : Nat) (l : L8), l.length ≤ n → badL l = none → badL (decL l) = none := by
  intro n
  induction n with
  | zero =>
    intro l hl _
    have : l = [] := List.length_eq_zero_iff.1 (by omega)
    subst this; exact badL_nil
  | succ n ih =>
    intro l hl h
    cases l with
    | nil => exact badL_nil
    | cons c t =>
      simp only [List.length_cons] at hl
      cases hm : mtL (c :: t) with
      | some v =>
        have h2 := mtL_len hm
        cases t with
        | nil => simp at h2
        | cons d r =>
          simp only [List.length_cons] at hl
          obtain ⟨rfl, hd⟩ := mt_cases hm
          have hd1 : d.toNat < 128 ∧ v.toNat < 128 := by rcases hd with ⟨rfl, rfl⟩ | ⟨rfl, rfl⟩ | ⟨rfl, rfl⟩ <;> decide
          rw [decL_some hm]
          exact (bad_cons_none hd1.2).2 (ih r (by omega) ((bad_cons_none hd1.1).1 ((bad_cons_none (by decide)).1 h)))
      | none =>
        have hs : stepL (c :: t) ≠ 0 := fun e => by rw [badL_zero (by simp) e] at h; cases h
        have hdr : badL ((c :: t).drop (stepL (c :: t))) = none := by
          rw [badL_step hs] at h
          cases e : badL ((c :: t).drop (stepL (c :: t))) with
          | none => rfl
          | some z => rw [e] at h; cases h
        rcases step_high hs with ⟨h1, b, t', e, hb⟩ | hh
        · injection e with e1 e2
          subst e1; subst e2
          rw [decL_none hm]
          rw [h1] at hdr
          exact (bad_cons_none hb).2 (ih t (by omega) hdr)
        · have e : c :: t = (c :: t).take (stepL (c :: t)) ++ (c :: t).drop (stepL (c :: t)) := (List.take_append_drop _ _).symm
          rw [e, decL_high _ _ hh]
          exact bad_append_none (bad_take hs) (ih _ (by simp; omega) hdr)
theorem caret_high {p : L8} (h : ∀ b ∈ p, 128 ≤ b.toNat) : encL p = p := repl_same p fun c hc => by
  have := h c hc
  unfold caretF
  rw [if_neg (by rintro rfl; exact absurd this (by decide)), if_neg (by rintro rfl; exact absurd this (by decide)), if_neg (by rintro rfl; exact absurd this (by decide))]
theorem caret_small (c : UInt8) (h : c.toNat < 128) : ∀ b ∈ rep1 caretF c, b.toNat < 128 := by
  have key := byte_all (fun c => decide (c.toNat < 128 → ∀ b ∈ rep1 caretF c, b.toNat < 128)) (by decide +kernel) c
  exact (of_decide_eq_true key) h
theorem bad_encL : ∀ l, badL l = none → badL (encL l) = none := by
  refine text_ind ?_ ?_
  · exact badL_nil
  · intro l h ih
    have e : l = l.take (stepL l) ++ l.drop (stepL l) := (List.take_append_drop _ _).symm
    rcases step_high h with ⟨h1, b, t, rfl, hb⟩ | hh
    · rw [h1] at ih
      show badL (rep1 caretF b ++ encL t) = none
      exact bad_append_none (bad_ascii _ (caret_small b hb)) ih
    · rw [e, show encL (l.take (stepL l) ++ l.drop (stepL l)) = encL (l.take (stepL l)) ++ encL (l.drop (stepL l)) from replL_append _ _ _, caret_high hh]
      exact bad_append_none (bad_take h) ih
theorem dec_mem : ∀ (n : Nat) (l : L8), l.length ≤ n → ∀ c ∈ decL l, c ∈ l ∨ c = 94 ∨ c = 10 ∨ c = 34 := by
  intro n
  induction n with
  | zero =>
    intro l hl
    have : l = [] := List.length_eq_zero_iff.1 (by omega)
    subst this; intro c hc; cases hc
  | succ n ih =>
    intro l hl c hc
    cases l with
    | nil => cases hc
    | cons x t =>
      simp only [List.length_cons] at hl
      cases hm : mtL (x :: t) with
      | some v =>
        have h2 := mtL_len hm
        cases t with
        | nil => simp at h2
        | cons d r =>
          simp only [List.length_cons] at hl
          rw [decL_some hm] at hc
          obtain ⟨_, hd⟩ := mt_cases hm
          rcases List.mem_cons.1 hc with rfl | hc
          · right; rcases hd with ⟨_, rfl⟩ | ⟨_, rfl⟩ | ⟨_, rfl⟩ <;> simp
          · rcases ih r (by omega) c hc with h | h
            · exact .inl (by simp [h])
            · exact .inr h
      | none =>
        rw [decL_none hm] at hc
        rcases List.mem_cons.1 hc with rfl | hc
        · exact .inl List.mem_cons_self
        · rcases ih t (by omega) c hc with h | h
          · exact .inl (List.mem_cons_of_mem _ h)
          · exact .inr h
theorem txt_caret (c : UInt8) (h : txtP false c = true ∨ c = 10) : ∀ b ∈ rep1 caretF c, txtP false b = true := by
  have key := byte_all (fun c => decide ((txtP false c = true ∨ c = 10) → ∀ b ∈ rep1 caretF c, txtP false b = true)) (by decide +kernel) c
  exact (of_decide_eq_true key) h
theorem holdsP_read {cf : Bool} {v : L8} (h1 : holdsB v false = true) (h2 : (34 : UInt8) ∉ v) : holdsP cf (decV cf v) = true := by
  obtain ⟨a, b⟩ := holds_iff.1 h1
  cases cf with
  | false => exact holdsP_iff.2 ⟨h1, h2⟩
  | true =>
    refine holdsP_iff.2 ⟨holds_iff.2 ⟨fun c hc => ?_, bad_encL _ (bad_decL _ v (Nat.le_refl _) b)⟩, (enc_clean _).1⟩
    obtain ⟨x, hx, hc⟩ := List.mem_flatMap.1 hc
    refine txt_caret x ?_ c hc
    rcases dec_mem _ v (Nat.le_refl _) x hx with h | rfl | rfl | rfl
    · exact .inl (a x h)
    · exact .inl (by decide)
    · exact .inr rfl
    · exact .inl (by decide)
theorem value_read {cf : Bool} {l v t : L8} (h : valueP cf l = .ok (v, t)) (hb : badL l = none) : holdsP cf v = true ∧ badL t = none := by
  unfold valueP at h
  split at h
  · rename_i r hr
    obtain ⟨a, t2, h1, h2⟩ := next_ok.1 h
    have e := isB_some hr
    obtain ⟨e2, k, _⟩ := scan_spec h1
    split at h2
    · rename_i u hu
      have e3 := isB_some hu
      injection h2 with h2; injection h2 with h3 h4; subst h4; subst h3
      rw [e, e2, e3] at hb
      obtain ⟨b1, b2⟩ := bad_cut (by decide) ((bad_cons_none (by decide)).1 hb)
      refine ⟨holdsP_read (holds_iff.2 ⟨fun c hc => by have := (k c hc).2; unfold ctlB at this; simpa using this, b1⟩) (fun hc => ?_), b2⟩
      have := (k _ hc).1
      cases this
    · cases h2
  · obtain ⟨a, t2, h1, h2⟩ := next_ok.1 h
    injection h2 with h2; injection h2 with h3 h4; subst h4; subst h3
    obtain ⟨e2, k, ks⟩ := scan_spec h1
    have hbb : badL a = none ∧ badL t2 = none := by
      cases t2 with
      | nil => rw [e2, List.append_nil] at hb; exact ⟨hb, badL_nil⟩
      | cons c r =>
        have hc := ks c r rfl
        rw [e2] at hb
        refine bad_split ?_ _ _ (Nat.le_refl _) hb
        have key := byte_all (fun c => decide (endB false c = true → c.toNat < 128)) (by decide +kernel) c
        exact (of_decide_eq_true key) hc
    refine ⟨holdsP_read (holds_iff.2 ⟨fun c hc => by have := (k c hc).2; unfold ctlB at this; simpa using this, hbb.1⟩) (fun hc => ?_), hbb.2⟩
    have := (k _ hc).1
    cases this
theorem more_read {cf : Bool} : ∀ (n : Nat) {l t : L8} {vs : List L8}, l.length ≤ n → moreV cf l = .ok (vs, t) → badL l = none → vs.all (holdsP cf) = true ∧ badL t = none := by
  intro n
  induction n with
  | zero =>
    intro l t vs hl h hb
    have : l = [] := List.length_eq_zero_iff.1 (by omega)
    subst this
    rw [more_none rfl] at h
    injection h with h; injection h with h1 h; subst h; subst h1; exact ⟨rfl, hb⟩
  | succ n ih =>
    intro l t vs hl h hb
    cases hx : isB 44 l with
    | none =>
      rw [more_none hx] at h
      injection h with h; injection h with h1 h; subst h; subst h1; exact ⟨rfl, hb⟩
    | some r =>
      rw [more_some hx] at h
      obtain ⟨v, t1, h1, h2⟩ := next_ok.1 h
      obtain ⟨vs', u, h3, h4⟩ := next_ok.1 h2
      injection h4 with h4; injection h4 with h5 h4; subst h4; subst h5
      have e := isB_some hx
      rw [e] at hb
      obtain ⟨b1, b2⟩ := value_read h1 ((bad_cons_none (by decide)).1 hb)
      have l1 := value_len h1
      have hl' : l.length = r.length + 1 := by rw [e]; rfl
      obtain ⟨c1, c2⟩ := ih (by omega) h3 b2
      exact ⟨by rw [List.all_cons, b1, c1]; rfl, c2⟩
theorem word_read {l n t : L8} (h : wordP l = .ok (n, t)) (hb : badL l = none) : isNameL n = true ∧ badL t = none := by
  obtain ⟨e, hn, _⟩ := word_ok h
  refine ⟨hn, ?_⟩
  rw [e, bad_append (holds_iff.1 (name_holds hn)).2] at hb
  cases h : badL t with
  | none => rfl
  | some z => rw [h] at hb; cases hb
theorem pm_read {cf : Bool} {l t : L8} {p : Pm} (h : pmP cf l = .ok (p, t)) (hb : badL l = none) : pmR cf p = true ∧ badL t = none := by
  obtain ⟨n, t1, h1, h2⟩ := next_ok.1 h
  obtain ⟨hn, b1⟩ := word_read h1 hb
  split at h2
  · cases h2
  · rename_i r hr
    have e2 := isB_some hr
    obtain ⟨v, t2, h3, h4⟩ := next_ok.1 h2
    obtain ⟨vs, t3, h5, h6⟩ := next_ok.1 h4
    injection h6 with h6; injection h6 with h7 h6; subst h6; subst h7
    rw [e2] at b1
    obtain ⟨a1, a2⟩ := value_read h3 ((bad_cons_none (by decide)).1 b1)
    obtain ⟨c1, c2⟩ := more_read _ (Nat.le_refl _) h5 a2
    refine ⟨?_, c2⟩
    unfold pmR
    rw [hn, List.all_cons, a1, c1]; rfl
theorem params_read {cf : Bool} : ∀ (n k : Nat) {l t : L8} {ps : List Pm}, l.length ≤ n → k ≤ 20 → paramsP cf k l = .ok (ps, t) → badL l = none → ps.all (pmR cf) = true ∧ k + ps.length ≤ 20 ∧ badL t = none := by
  intro n
  induction n with
  | zero =>
    intro k l t vs hl hk h hb
    have : l = [] := List.length_eq_zero_iff.1 (by omega)
    subst this
    rw [params_none rfl] at h
    injection h with h; injection h with h1 h; subst h; subst h1; exact ⟨rfl, by simpa using hk, hb⟩
  | succ n ih =>
    intro k l t vs hl hk h hb
    cases hx : isB 59 l with
    | none =>
      rw [params_none hx] at h
      injection h with h; injection h with h1 h; subst h; subst h1; exact ⟨rfl, by simpa using hk, hb⟩
    | some r =>
      rw [params_some hx] at h
      obtain ⟨p, t1, h1, h2⟩ := next_ok.1 h
      split at h2
      · cases h2
      · rename_i hk2
        obtain ⟨ps', u, h3, h4⟩ := next_ok.1 h2
        injection h4 with h4; injection h4 with h5 h4; subst h4; subst h5
        have e := isB_some hx
        rw [e] at hb
        obtain ⟨b1, b2⟩ := pm_read h1 ((bad_cons_none (by decide)).1 hb)
        have l1 := pm_len h1
        have hl' : l.length = r.length + 1 := by rw [e]; rfl
        obtain ⟨c1, c2, c3⟩ := ih (k + 1) (by omega) (by omega) h3 b2
        refine ⟨by rw [List.all_cons, b1, c1]; rfl, ?_, c3⟩
        simp only [List.length_cons]; omega
theorem head_read {cf : Bool} {l t : L8} {h : Hd} (hh : headP cf l = .ok (h, t)) (hb : badL l = none) : isNameL h.name = true ∧ (h.group = [] ∨ isNameL h.group = true) ∧ h.params.length ≤ 20 ∧ h.params.all (pmR cf) = true ∧ badL t = none := by
  obtain ⟨n, t1, h1, h2⟩ := next_ok.1 hh
  obtain ⟨gn, t2, h3, h4⟩ := next_ok.1 h2
  obtain ⟨ps, t3, h5, h6⟩ := next_ok.1 h4
  obtain ⟨hn, b1⟩ := word_read h1 hb
  split at h6
  · cases h6
  · rename_i r hr
    have e := isB_some hr
    injection h6 with h6; injection h6 with h7 h6; subst h6; subst h7
    have key : isNameL gn.2 = true ∧ (gn.1 = [] ∨ isNameL gn.1 = true) ∧ badL t2 = none := by
      split at h3
      · rename_i r2 hr2
        have e2 := isB_some hr2
        obtain ⟨m, u, h8, h9⟩ := next_ok.1 h3
        injection h9 with h9; injection h9 with h10 h9; subst h9; subst h10
        rw [e2] at b1
        obtain ⟨hm, b3⟩ := word_read h8 ((bad_cons_none (by decide)).1 b1)
        exact ⟨hm, .inr hn, b3⟩
      · injection h3 with h3; injection h3 with h10 h9; subst h9; subst h10
        exact ⟨hn, .inl rfl, b1⟩
    obtain ⟨k1, k2, k3⟩ := key
    obtain ⟨c1, c2, c3⟩ := params_read _ 0 (Nat.le_refl _) (by omega) h5 k3
    rw [e] at c3
    exact ⟨k1, k2, by show ps.length ≤ 20; omega, c1, (bad_cons_none (by decide)).1 c3⟩
theorem parse_ok {cf : Bool} {s : L8} {p : Ln} (h : parseP cf s = .ok p) : badL s = none ∧ headP cf s = .ok (p.hd, p.value) ∧ p.value.findIdx? ctlB = none := by
  unfold parseP at h
  split at h
  · cases h
  · rename_i hb
    split at h
    · cases h
    · rename_i hd r hh
      split at h
      · cases h
      · rename_i hc
        injection h with h
        subst h
        exact ⟨hb, hh, hc⟩
/-- WHAT IS READ IS RIGHT -/
theorem right_read {cf : Bool} {s : L8} {p : Ln} (h : parseP cf s = .ok p) : rightB cf p = true := by
  obtain ⟨hb, hh, hc⟩ := parse_ok h
  obtain ⟨a, b, c, d, e⟩ := head_read hh hb
  have hv : holdsB p.value false = true := holds_iff.2 ⟨fun x hx => by
    have := List.findIdx?_eq_none_iff.1 hc x hx
    unfold ctlB at this; simpa using this, e⟩
  unfold rightB
  simp only [Bool.and_eq_true, Bool.or_eq_true, decide_eq_true_iff, List.isEmpty_iff]
  exact ⟨⟨⟨⟨a, b⟩, c⟩, d⟩, hv⟩

end Go.Proofs.YtccaknanagmmhaaGreat

namespace Go.Proofs.YtccaknanagmmhaaGreat
open Go.RowKit
set_option linter.unusedVariables false
set_option linter.unusedSimpArgs false

/-- read in the same way, whatever follows that begins with the same byte -/
def Loc {α : Type} (f : L8 → Except Er (α × L8)) (l : L8) (a : α) (t : L8) : Prop := ∃ h, l = h ++ t ∧ ∀ t' : L8, t'.head? = t.head? → f (h ++ t') = .ok (a, t')
theorem head_app {h t t' : L8} (e : t'.head? = t.head?) : (h ++ t').head? = (h ++ t).head? := by
  cases h with
  | nil => exact e
  | cons c h => rfl
theorem Loc.next {α β : Type} {f : L8 → Except Er (α × L8)} {g : α → L8 → Except Er (β × L8)} {l t u : L8} {a : α} {b : β} (hf : Loc f l a t) (hg : Loc (g a) t b u) : Loc (fun l => Rs.next (f l) g) l b u := by
  obtain ⟨h1, e1, k1⟩ := hf
  obtain ⟨h2, e2, k2⟩ := hg
  refine ⟨h1 ++ h2, by rw [e1, e2, List.append_assoc], fun u' hu => ?_⟩
  have := k1 (h2 ++ u') (by rw [e2]; exact head_app hu)
  show Rs.next (f (h1 ++ h2 ++ u')) g = _
  rw [List.append_assoc, this]
  exact k2 u' hu
theorem Loc.ret {α : Type} (a : α) (t : L8) : Loc (fun t => (.ok (a, t) : Except Er (α × L8))) t a t := ⟨[], rfl, fun _ _ => rfl⟩
theorem word_loc {l n t : L8} (h : wordP l = .ok (n, t)) : Loc wordP l n t := by
  obtain ⟨e, hn, k⟩ := word_ok h
  refine ⟨n, e, fun t' ht => word_of hn fun c r hc => ?_⟩
  rw [hc] at ht
  cases t with
  | nil => cases ht
  | cons d s =>
    injection ht with ht
    subst ht
    exact k c s rfl
theorem scan_loc {q : Bool} {l v t : L8} (h : scanP q l = .ok (v, t)) : Loc (scanP q) l v t := by
  obtain ⟨e, k, ks⟩ := scan_spec h
  refine ⟨v, e, fun t' ht => scan_of v t' k fun c r hc => ?_⟩
  rw [hc] at ht
  cases t with
  | nil => cases ht
  | cons d s =>
    injection ht with ht
    subst ht
    exact ks c s rfl
/-- behind a byte that was asked for -/
theorem loc_is {α : Type} {c : UInt8} {f : L8 → Except Er (α × L8)} {g : L8 → Except Er (α × L8)} {l r t : L8} {a : α} (h : isB c l = some r) (hf : Loc f r a t) (hg : ∀ r, g (c :: r) = f r) : Loc g l a t := by
  obtain ⟨h1, e1, k1⟩ := hf
  refine ⟨c :: h1, by rw [isB_some h, e1]; rfl, fun t' ht => ?_⟩
  show g (c :: (h1 ++ t')) = _
  rw [hg]; exact k1 t' ht
/-- where another byte stands -/
theorem loc_not {α : Type} {c : UInt8} {f : L8 → Except Er (α × L8)} {g : L8 → Except Er (α × L8)} {l t : L8} {a : α} (h : isB c l = none) (hf : Loc f l a t) (hg : ∀ l : L8, isB c l = none → g l = f l) : Loc g l a t := by
  obtain ⟨h1, e1, k1⟩ := hf
  refine ⟨h1, e1, fun t' ht => ?_⟩
  rw [hg _ (isB_not ?_)]
  · exact k1 t' ht
  · rw [head_app ht, ← e1]; exact isB_none h
theorem value_loc {cf : Bool} {l v t : L8} (h : valueP cf l = .ok (v, t)) : Loc (valueP cf) l v t := by
  unfold valueP at h
  split at h
  · rename_i r hr
    obtain ⟨a, t2, h1, h2⟩ := next_ok.1 h
    split at h2
    · rename_i u hu
      injection h2 with h2; injection h2 with h3 h4; subst h4; subst h3
      obtain ⟨g, e, k⟩ := scan_loc h1
      have e2 := isB_some hu
      refine ⟨34 :: (g ++ [34]), by rw [isB_some hr, e, e2]; simp, fun t' _ => ?_⟩
      have hs : scanP true (g ++ 34 :: t') = .ok (a, 34 :: t') := k (34 :: t') (by rw [e2]; rfl)
      have e3 : (34 :: (g ++ [34])) ++ t' = 34 :: (g ++ 34 :: t') := by simp
      unfold valueP
      simp only [e3, isB_cons, hs, next_pos]
    · cases h2
  · rename_i hr
    obtain ⟨a, t2, h1, h2⟩ := next_ok.1 h
    injection h2 with h2; injection h2 with h3 h4; subst h4; subst h3
    obtain ⟨g, e, k⟩ := scan_loc h1
    refine ⟨g, e, fun t' ht => ?_⟩
    have hn : isB 34 (g ++ t') = none := isB_not (by rw [head_app ht, ← e]; exact isB_none hr)
    unfold valueP
    simp only [hn, k t' ht, next_pos]
theorem more_loc {cf : Bool} : ∀ (n : Nat) {l t : L8} {vs : List L8}, l.length ≤ n → moreV cf l = .ok (vs, t) → Loc (moreV cf) l vs t := by
  intro n
  induction n with
  | zero =>
    intro l t vs hl h
    have : l = [] := List.length_eq_zero_iff.1 (by omega)
    subst this
    rw [more_none rfl] at h
    injection h with h; injection h with h1 h; subst h; subst h1
    exact loc_not (c := 44) rfl (Loc.ret [] []) (fun l hl => more_none hl)
  | succ n ih =>
    intro l t vs hl h
    cases hx : isB 44 l with
    | none =>
      rw [more_none hx] at h
      injection h with h; injection h with h1 h; subst h; subst h1
      exact loc_not hx (Loc.ret [] l) (fun l hl => more_none hl)
    | some r =>
      rw [more_some hx] at h
      obtain ⟨v, t1, h1, h2⟩ := next_ok.1 h
      obtain ⟨vs', u, h3, h4⟩ := next_ok.1 h2
      injection h4 with h4; injection h4 with h5 h4; subst h4; subst h5
      have l1 := value_len h1
      have hl' : l.length = r.length + 1 := by rw [isB_some hx]; rfl
      obtain ⟨g1, e1, k1⟩ := value_loc h1
      obtain ⟨g2, e2, k2⟩ := ih (by omega) h3
      refine ⟨44 :: (g1 ++ g2), by rw [isB_some hx, e1, e2]; simp, fun u' hu => ?_⟩
      have a1 := k1 (g2 ++ u') (by rw [e2]; exact head_app hu)
      show moreV cf (44 :: (g1 ++ g2 ++ u')) = _
      rw [more_some (isB_cons _ _), List.append_assoc, a1, next_pos, k2 u' hu, next_pos]
theorem pm_loc {cf : Bool} {l t : L8} {p : Pm} (h : pmP cf l = .ok (p, t)) : Loc (pmP cf) l p t := by
  obtain ⟨n, t1, h1, h2⟩ := next_ok.1 h
  split at h2
  · cases h2
  · rename_i r hr
    obtain ⟨v, t2, h3, h4⟩ := next_ok.1 h2
    obtain ⟨vs, t3, h5, h6⟩ := next_ok.1 h4
    injection h6 with h6; injection h6 with h7 h6; subst h6; subst h7
    obtain ⟨g1, e1, k1⟩ := word_loc h1
    obtain ⟨g2, e2, k2⟩ := value_loc h3
    obtain ⟨g3, e3, k3⟩ := more_loc _ (Nat.le_refl _) h5
    have er := isB_some hr
    refine ⟨g1 ++ 61 :: (g2 ++ g3), by rw [e1, er, e2, e3]; simp, fun u' hu => ?_⟩
    have a1 := k1 (61 :: (g2 ++ (g3 ++ u'))) (by rw [er]; rfl)
    have a2 := k2 (g3 ++ u') (by rw [e3]; exact head_app hu)
    have e4 : g1 ++ 61 :: (g2 ++ g3) ++ u' = g1 ++ 61 :: (g2 ++ (g3 ++ u')) := by simp
    unfold pmP
    rw [e4, a1]
    simp only [next_pos, isB_cons, a2, k3 u' hu]
theorem params_loc {cf : Bool} : ∀ (n k : Nat) {l t : L8} {ps : List Pm}, l.length ≤ n → paramsP cf k l = .ok (ps, t) → Loc (paramsP cf k) l ps t := by
  intro n
  induction n with
  | zero =>
    intro k l t vs hl h
    have : l = [] := List.length_eq_zero_iff.1 (by omega)
    subst this
    rw [params_none rfl] at h
    injection h with h; injection h with h1 h; subst h; subst h1
    exact loc_not (c := 59) rfl (Loc.ret [] []) (fun l hl => params_none hl)
  | succ n ih =>
    intro k l t vs hl h
    cases hx : isB 59 l with
    | none =>
      rw [params_none hx] at h
      injection h with h; injection h with h1 h; subst h; subst h1
      exact loc_not hx (Loc.ret [] l) (fun l hl => params_none hl)
    | some r =>
      rw [params_some hx] at h
      obtain ⟨p, t1, h1, h2⟩ := next_ok.1 h
      split at h2
      · cases h2
      · rename_i hk
        obtain ⟨ps', u, h3, h4⟩ := next_ok.1 h2
        injection h4 with h4; injection h4 with h5 h4; subst h4; subst h5
        have l1 := pm_len h1
        have hl' : l.length = r.length + 1 := by rw [isB_some hx]; rfl
        obtain ⟨g1, e1, k1⟩ := pm_loc h1
        obtain ⟨g2, e2, k2⟩ := ih (k + 1) (by omega) h3
        refine ⟨59 :: (g1 ++ g2), by rw [isB_some hx, e1, e2]; simp, fun u' hu => ?_⟩
        show paramsP cf k (59 :: (g1 ++ g2 ++ u')) = _
        rw [params_some (isB_cons _ _), List.append_assoc, k1 (g2 ++ u') (by rw [e2]; exact head_app hu)]
        show (if k = 20 then _ else Rs.next (paramsP cf (k + 1) (g2 ++ u')) _) = _
        rw [if_neg hk, k2 u' hu]
        rfl
/-- what precedes the colon, and whatever follows it -/
theorem head_loc {cf : Bool} {l t : L8} {h : Hd} (hh : headP cf l = .ok (h, t)) : ∃ g, l = g ++ 58 :: t ∧ ∀ t', headP cf (g ++ 58 :: t') = .ok (h, t') := by
  have hh0 := hh
  obtain ⟨n, t1, h1, h2⟩ := next_ok.1 hh
  obtain ⟨gn, t2, h3, h4⟩ := next_ok.1 h2
  obtain ⟨ps, t3, h5, h6⟩ := next_ok.1 h4
  split at h6
  · cases h6
  · rename_i r hr
    have e := isB_some hr
    injection h6 with h6; injection h6 with h7 h6; subst h6; subst h7
    have key : Loc (fun t => (match isB 46 t with
    | some r => Rs.next (wordP r) fun m u => .ok ((n, m), u)
    | none => .ok (([], n), t) : Rs (L8 × L8))) t1 gn t2 := by
      split at h3
      · rename_i r2 hr2
        obtain ⟨m, u, h8, h9⟩ := next_ok.1 h3
        injection h9 with h9; injection h9 with h10 h9; subst h9; subst h10
        obtain ⟨g, e9, k⟩ := word_loc h8
        refine ⟨46 :: g, by rw [isB_some hr2, e9]; rfl, fun t' ht => ?_⟩
        have e10 : (46 :: g) ++ t' = 46 :: (g ++ t') := rfl
        simp only [e10, isB_cons, k t' ht, next_pos]
      · rename_i hr2
        injection h3 with h3; injection h3 with h10 h9; subst h9; subst h10
        refine ⟨[], rfl, fun t' ht => ?_⟩
        have hn : isB 46 t' = none := isB_not (by rw [ht]; exact isB_none hr2)
        simp only [List.nil_append, hn]
    obtain ⟨g1, e1, k1⟩ := word_loc h1
    obtain ⟨g2, e2, k2⟩ := key
    obtain ⟨g3, e3, k3⟩ := params_loc _ 0 (Nat.le_refl _) h5
    refine ⟨g1 ++ (g2 ++ g3), by rw [e1, e2, e3, e]; simp, fun t' => ?_⟩
    have a3 := k3 (58 :: t') (by rw [e]; rfl)
    have a2 := k2 (g3 ++ 58 :: t') (by rw [e3, e]; exact head_app rfl)
    have a1 := k1 (g2 ++ (g3 ++ 58 :: t')) (by rw [e2, e3, e]; exact head_app (head_app rfl))
    simp only at a2
    unfold headP
    rw [show g1 ++ (g2 ++ g3) ++ 58 :: t' = g1 ++ (g2 ++ (g3 ++ 58 :: t')) from by simp, a1, next_pos]
    refine Eq.trans (congrArg (fun x => Rs.next x _) a2) ?_
    rw [next_pos, a3, next_pos]
    simp only [isB_cons]
/-- ANOTHER VALUE -/
theorem parse_value {cf : Bool} {s v : L8} {p : Ln} (h : parseP cf s = .ok p) (hv : holdsB v false = true) : ∃ g, s = g ++ 58 :: p.value ∧ parseP cf (g ++ 58 :: v) = .ok ⟨p.hd, v⟩ := by
  obtain ⟨hb, hh, hc⟩ := parse_ok h
  obtain ⟨g, e, k⟩ := head_loc hh
  refine ⟨g, e, parse_of ?_ (k v) hv⟩
  rw [e] at hb
  exact bad_append_none (bad_cut (by decide) hb).1 ((bad_cons_none (by decide)).2 (holds_iff.1 hv).2)
/-- NO BEGINNING OF WHAT PRECEDES THE COLON IS A LINE -/
theorem parse_cut {cf : Bool} {p : Ln} (h : rightB cf p = true) (t m : L8) (ht : headW cf p.hd = t ++ m) : ∃ e, parseP cf t = .error e := by
  cases hp : parseP cf t with
  | error e => exact ⟨e, rfl⟩
  | ok q =>
    exfalso
    obtain ⟨_, hh, _⟩ := parse_ok hp
    obtain ⟨g, e, k⟩ := head_loc hh
    obtain ⟨h1, h2, h3, h4, h5⟩ := right_parts h
    have a := head_of (cf := cf) (t := p.value) h1 h2 h3 h4
    have b := k (q.value ++ (m ++ 58 :: p.value))
    have e2 : headW cf p.hd ++ 58 :: p.value = g ++ 58 :: (q.value ++ (m ++ 58 :: p.value)) := by rw [ht, e]; simp
    rw [e2, b] at a
    injection a with a; injection a with _ a
    have := congrArg List.length a
    simp at this
    omega
/-- A VALUE THAT NEEDS NO QUOTATION MARKS IS THE SAME WITH THEM -/
theorem parse_quotes {cf : Bool} {s v : L8} (hs : isNameL s = true) (hv : holdsB v false = true) (hq : ∀ c ∈ v, c ≠ 44 ∧ c ≠ 59 ∧ c ≠ 58 ∧ c ≠ 34) :
    parseP cf ([88, 59] ++ s ++ [61] ++ v ++ [58, 49]) = .ok ⟨⟨[], [88], [(s, [decV cf v])]⟩, [49]⟩ ∧ parseP cf ([88, 59] ++ s ++ [61, 34] ++ v ++ [34, 58, 49]) = .ok ⟨⟨[], [88], [(s, [decV cf v])]⟩, [49]⟩ := by
  have hx : isNameL [88] = true := by decide
  have h34 : (34 : UInt8) ∉ v := fun h => (hq _ h).2.2.2 rfl
  have hn : needQ v = false := by
    unfold needQ
    rw [List.any_eq_false]
    intro c hc
    obtain ⟨a, b, d, _⟩ := hq c hc
    simp [a, b, d]
  have h1 : ∀ (q : L8), valueP cf (q ++ [58, 49]) = .ok (decV cf v, [58, 49]) → headP cf ([88] ++ 59 :: (s ++ 61 :: (q ++ [58, 49]))) = .ok (⟨[], [88], [(s, [decV cf v])]⟩, [49]) := fun q hq => by
    have hw1 : wordP ([88] ++ 59 :: (s ++ 61 :: (q ++ [58, 49]))) = .ok ([88], 59 :: (s ++ 61 :: (q ++ [58, 49]))) := word_of hx (fun c r hc => by injection hc with hc _; subst hc; rfl)
    have hw2 : wordP (s ++ 61 :: (q ++ [58, 49])) = .ok (s, 61 :: (q ++ [58, 49])) := word_of hs (fun c r hc => by injection hc with hc _; subst hc; rfl)
    have hn46 : isB 46 (59 :: (s ++ 61 :: (q ++ [58, 49]))) = none := isB_not (by simp)
    have hp : pmP cf (s ++ 61 :: (q ++ [58, 49])) = .ok ((s, [decV cf v]), [58, 49]) := by
      unfold pmP
      rw [hw2]
      simp only [next_pos, isB_cons, hq, more_none (show isB 44 ([58, 49] : L8) = none from rfl)]
    have hpp : paramsP cf 0 (59 :: (s ++ 61 :: (q ++ [58, 49]))) = .ok ([(s, [decV cf v])], [58, 49]) := by
      rw [params_some (isB_cons _ _), hp, next_pos, if_neg (by decide), params_none rfl, next_pos]
    unfold headP
    rw [hw1]
    simp only [next_pos, hn46, hpp, isB_cons]
  have b0 : holdsB ([88, 59] ++ s ++ [61] ++ v ++ [58, 49]) false = true := holds_append (holds_append (holds_append (holds_append (by decide +kernel) (name_holds hs)) (by decide +kernel)) hv) (by decide +kernel)
  have b1 : holdsB ([88, 59] ++ s ++ [61, 34] ++ v ++ [34, 58, 49]) false = true := holds_append (holds_append (holds_append (holds_append (by decide +kernel) (name_holds hs)) (by decide +kernel)) hv) (by decide +kernel)
  refine ⟨parse_of (holds_iff.1 b0).2 ?_ (by decide +kernel), parse_of (holds_iff.1 b1).2 ?_ (by decide +kernel)⟩
  · have := h1 v (value_plain hv h34 hn (fun c r hc => by injection hc with hc _; subst hc; exact .inr (.inr rfl)))
    simpa using this
  · have := h1 (34 :: (v ++ [34])) (by
      have := value_quoted (cf := cf) (t := [58, 49]) hv h34
      simpa using this)
    simpa using this
/-- ANOTHER PARAMETER -/
theorem print_param {cf : Bool} {g n : L8} {ps : List Pm} {v : L8} {q : Pm} (hq : q.2 ≠ []) : ∃ r, printW cf ⟨⟨g, n, ps ++ [q]⟩, v⟩ = headW cf ⟨g, n, ps⟩ ++ [59] ++ q.1 ++ [61] ++ r ++ 58 :: v := by
  obtain ⟨a, vs⟩ := q
  cases vs with
  | nil => exact absurd rfl hq
  | cons u us => exact ⟨valW cf u ++ us.flatMap fun u => 44 :: valW cf u, by simp [printW, headW, pmW, valsW]⟩
theorem right_less {cf : Bool} {g n : L8} {ps : List Pm} {v : L8} {q : Pm} (h : rightB cf ⟨⟨g, n, ps ++ [q]⟩, v⟩ = true) : rightB cf ⟨⟨g, n, ps⟩, v⟩ = true ∧ q.2 ≠ [] := by
  obtain ⟨h1, h2, h3, h4, h5⟩ := right_parts h
  simp only [List.all_append, Bool.and_eq_true, List.length_append, List.length_cons, List.length_nil] at h3 h4
  constructor
  · unfold rightB
    simp only [Bool.and_eq_true, Bool.or_eq_true, decide_eq_true_iff, List.isEmpty_iff]
    exact ⟨⟨⟨⟨h1, h2⟩, by omega⟩, h4.1⟩, h5⟩
  · have := h4.2
    rintro e
    unfold pmR at this
    rw [List.all_cons, e] at this
    simp at this

end Go.Proofs.YtccaknanagmmhaaGreat
