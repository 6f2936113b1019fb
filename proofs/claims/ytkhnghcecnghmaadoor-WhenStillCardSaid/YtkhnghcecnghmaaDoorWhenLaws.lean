/-
  What when.Parse computes (parseW), and that it reads what when.Print writes: plain.
-/
import Derived.Test.YtkhnghcecnghmaaDoorWhenShape
import Derived.Test.YtkhnghcecnghmaaDoorStrs
import Derived.Lib.LastIndexByte
import Derived.Lib.IndexBytes
namespace Go.Proofs.YtkhnghcecnghmaaDoor
open Go.RowKit
set_option linter.unusedVariables false
set_option linter.unusedSimpArgs false

def St0 : St := ⟨0, 0, 0, 0, 0, 0, false, 0⟩
def finW (x : St) : St × Int := if x.right = 0 then (x, 0) else (St0, x.right)
/-- where the zone of a time begins -/
def kAt (t : List UInt8) : Nat :=
  if 0 ≤ Lib.indexAny t [90, 43] then (Lib.indexAny t [90, 43]).toNat
  else if 2 ≤ Lib.lastIndexByte (S t) 45 then (Lib.lastIndexByte (S t) 45).toNat else t.length
def clockW (y m d : Int) (t : List UInt8) : St × Int :=
  match clockP (t.take (kAt t)) (-1) (-1) (-1) with
  | none => (St0, 3)
  | some (h, n, c) =>
    if kAt t < t.length then
      (if (parseZ (t.drop (kAt t))).2 = 0 then finW ⟨y, m, d, h, n, c, true, (parseZ (t.drop (kAt t))).1⟩ else (St0, (parseZ (t.drop (kAt t))).2))
    else finW ⟨y, m, d, h, n, c, false, 0⟩
def parseW (s : List UInt8) : St × Int :=
  match dateP (Lib.cut s [84]).1 (-1) (-1) (-1) with
  | none => (St0, 3)
  | some (y, m, d) =>
    if (Lib.cut s [84]).2.2 = true then (if (Lib.cut s [84]).2.1 = [] then (St0, 3) else clockW y m d (Lib.cut s [84]).2.1)
    else finW ⟨y, m, d, -1, -1, -1, false, 0⟩

/-! ## bounds of the place -/
theorem indexAny_lt (c : List UInt8) : ∀ l : List UInt8, Lib.indexAny l c < l.length
  | [] => by simp [Lib.indexAny]
  | b :: l => by
    have ih := indexAny_lt c l
    have hg := Lib.indexAny_ge c l
    unfold Lib.indexAny
    split
    · simp
    · split
      · simp; omega
      · simp; omega
theorem S_bang (t : List UInt8) (j : Nat) (h : j < t.length) : (S t).data[j]! = t[j] :=
  getElem!_pos t.toArray j (by simpa using h)
theorem last_lt (t : List UInt8) (c : Int) : Lib.lastIndexByte (S t) c < t.length := by
  rcases Lib.lastIndexByte_spec (S t) c with ⟨e, _⟩ | ⟨i, hi, e, _⟩
  · rw [e]; omega
  · rw [e]; simp at hi; omega
theorem kAt_le (t : List UInt8) : kAt t ≤ t.length := by
  unfold kAt
  have h1 := indexAny_lt [90, 43] t
  have h2 := last_lt t 45
  repeat' split
  all_goals omega
theorem cut_no {l : List UInt8} (h : (84 : UInt8) ∉ l) : Lib.cut l [84] = (l, [], false) := by
  unfold Lib.cut
  rw [Lib.index_one, indexByte_none l 84 h]
  rfl
theorem cut_yes {a r : List UInt8} (h : (84 : UInt8) ∉ a) : Lib.cut (a ++ 84 :: r) [84] = (a, r, true) := by
  unfold Lib.cut
  rw [Lib.index_one, indexByte_some a r 84 h, if_pos (by omega)]
  simp

/-! ## digits -/
theorem dig_toNat (n : Int) : (UInt8.ofNat (48 + n % 10).toNat).toNat = (48 + n % 10).toNat := by
  simp [UInt8.toNat_ofNat']; omega
theorem digL_dg : ∀ (k : Nat) (n : Int), ∀ b ∈ digL n k, dgB b = true
  | 0, n, b, h => by simp [digL] at h
  | k + 1, n, b, h => by
    rw [digL, List.mem_append] at h
    rcases h with h | h
    · exact digL_dg k _ b h
    · simp only [List.mem_singleton] at h
      subst h
      unfold dgB
      rw [dig_toNat]
      simp; omega
theorem val_digL : ∀ (k : Nat) (n : Int), 0 ≤ n → n < 10 ^ k → ((valL (digL n k) : Nat) : Int) = n
  | 0, n, h0, h1 => by simp at h1; have : n = 0 := by omega
                       subst this; rfl
  | k + 1, n, h0, h1 => by
    have ih := val_digL k (n / 10) (by omega) (by rw [Int.pow_succ] at h1; omega)
    rw [digL, valL_snoc, dig_toNat]
    omega
theorem dg_sh {l : List UInt8} (h : ∀ b ∈ l, dgB b = true) : l.map shB = List.replicate l.length 57 := by
  have e : l.map shB = l.map fun _ => (57 : UInt8) := List.map_congr_left fun b hb => by unfold shB; rw [h b hb]; rfl
  rw [e, List.map_const']
theorem dg_lt {b : UInt8} (h : dgB b = true) : 48 ≤ b.toNat ∧ b.toNat ≤ 57 := by
  unfold dgB at h
  simpa using h
theorem digL_sh (n : Int) (k : Nat) : (digL n k).map shB = List.replicate k 57 := by
  rw [dg_sh (digL_dg k n), digL_length]
theorem digL_asc (n : Int) (k : Nat) : ∀ b ∈ digL n k, b.toNat < 128 := fun b hb => by have := dg_lt (digL_dg k n b hb); omega
/-- the bytes of a date or a time: digits and dashes -/
def dd (b : UInt8) : Prop := dgB b = true ∨ b = 45
theorem dd_asc {b : UInt8} (h : dd b) : b.toNat < 128 := by
  rcases h with h | rfl
  · have := dg_lt h; omega
  · decide
theorem dd_ne {b c : UInt8} (h : dd b) (hc : c = 84 ∨ c = 90 ∨ c = 43) : b ≠ c := by
  rintro rfl
  rcases h with h | rfl
  · have := dg_lt h
    rcases hc with rfl | rfl | rfl <;> exact absurd this (by decide)
  · rcases hc with h | h | h <;> exact absurd h (by decide)
theorem numAt_mid (p q r : List UInt8) (a b : Nat) (ha : p.length = a) (hb : a + q.length = b) : numAt (p ++ (q ++ r)) a b = ((valL q : Nat) : Int) := by
  unfold numAt
  subst ha; subst hb
  rw [← List.append_assoc, List.take_left' (by simp), List.drop_left' rfl]
theorem numAt_dig (p : List UInt8) (n : Int) (k : Nat) (r : List UInt8) (a b : Nat) (ha : p.length = a) (hb : a + k = b) (h0 : 0 ≤ n) (h1 : n < 10 ^ k) : numAt (p ++ (digL n k ++ r)) a b = n := by
  rw [numAt_mid p (digL n k) r a b ha (by rw [digL_length]; exact hb), val_digL k n h0 h1]

/-! ## forms -/
/-- which numbers a date tells -/
def DForm (y m d : Int) : Prop :=
  (y = -1 ∧ m = -1 ∧ d = -1) ∨ (y ≠ -1 ∧ m = -1 ∧ d = -1) ∨ (y ≠ -1 ∧ m ≠ -1 ∧ d = -1) ∨ (y ≠ -1 ∧ m ≠ -1 ∧ d ≠ -1) ∨ (y = -1 ∧ m ≠ -1 ∧ d = -1) ∨ (y = -1 ∧ m ≠ -1 ∧ d ≠ -1) ∨ (y = -1 ∧ m = -1 ∧ d ≠ -1)
theorem dgF_or (n : Int) : n = -1 ∧ dgF n = 45 ∨ n ≠ -1 ∧ dgF n = 57 := by
  by_cases h : n = -1
  · exact .inl ⟨h, by rw [h]; rfl⟩
  · exact .inr ⟨h, dgF_yes h⟩
theorem datesOf_or (D T : List UInt8) : datesOf D T = datesA ∧ timesOf D T = datesA ∨ datesOf D T = datesB ∧ timesOf D T = timesB := by
  unfold datesOf timesOf
  split
  · exact .inr ⟨rfl, rfl⟩
  · exact .inl ⟨rfl, rfl⟩
theorem form_of {X : List UInt8} (hX : X = datesA ∨ X = datesB ∨ X = timesB) {y m d : Int} (h : Lib.contains X (32 :: (formL y m d ++ [32])) = true) : DForm y m d := by
  unfold formL at h
  unfold DForm
  rcases dgF_or y with ⟨a, e1⟩ | ⟨a, e1⟩ <;> rcases dgF_or m with ⟨b, e2⟩ | ⟨b, e2⟩ <;> rcases dgF_or d with ⟨c, e3⟩ | ⟨c, e3⟩ <;> rw [e1, e2, e3] at h
  · exact .inl ⟨a, b, c⟩
  · exact .inr (.inr (.inr (.inr (.inr (.inr ⟨a, b, c⟩)))))
  · exact .inr (.inr (.inr (.inr (.inl ⟨a, b, c⟩))))
  · exact .inr (.inr (.inr (.inr (.inr (.inl ⟨a, b, c⟩)))))
  · exact .inr (.inl ⟨a, b, c⟩)
  · rcases hX with rfl | rfl | rfl <;> exact absurd h (by decide +kernel)
  · exact .inr (.inr (.inl ⟨a, b, c⟩))
  · exact .inr (.inr (.inr (.inl ⟨a, b, c⟩)))
theorem bad_parts {t : St} (h : t.bad = false) : ¬ (formL t.y t.m t.d = [45, 45, 45] ∧ formL t.h t.n t.s = [45, 45, 45]) ∧ Lib.contains (datesOf (formL t.y t.m t.d) (formL t.h t.n t.s)) (32 :: (formL t.y t.m t.d ++ [32])) = true ∧ Lib.contains (timesOf (formL t.y t.m t.d) (formL t.h t.n t.s)) (32 :: (formL t.h t.n t.s ++ [32])) = true ∧ (t.zd = true → t.h ≠ -1) ∧ (t.zd = false → t.zn = 0) := by
  unfold St.bad at h
  simp only [Bool.or_eq_false_iff, Bool.and_eq_false_iff, Bool.not_eq_false', decide_eq_false_iff_not, Bool.not_eq_eq_eq_not, Bool.not_false, Bool.not_true, decide_eq_true_eq] at h
  obtain ⟨⟨⟨⟨h1, h2⟩, h3⟩, h4⟩, h5⟩ := h
  refine ⟨fun ⟨a, b⟩ => by rcases h1 with h | h; exact h a; exact h b, h2, h3, ?_, ?_⟩
  · intro hz e
    rcases h4 with h | h
    · rw [hz] at h; cases h
    · exact h e
  · intro hz
    rcases h5 with h | h
    · rw [hz] at h; cases h
    · exact h
theorem bad_forms {t : St} (h : t.bad = false) : DForm t.y t.m t.d ∧ DForm t.h t.n t.s ∧ ¬ ((t.y = -1 ∧ t.m = -1 ∧ t.d = -1) ∧ t.h = -1 ∧ t.n = -1 ∧ t.s = -1) := by
  obtain ⟨h1, h2, h3, _, _⟩ := bad_parts h
  refine ⟨?_, ?_, ?_⟩
  · rcases datesOf_or (formL t.y t.m t.d) (formL t.h t.n t.s) with ⟨a, b⟩ | ⟨a, b⟩
    · exact form_of (.inl a) h2
    · exact form_of (.inr (.inl a)) h2
  · rcases datesOf_or (formL t.y t.m t.d) (formL t.h t.n t.s) with ⟨a, b⟩ | ⟨a, b⟩
    · exact form_of (.inl b) h3
    · exact form_of (.inr (.inr b)) h3
  · rintro ⟨⟨a, b, c⟩, d, e, f⟩
    exact h1 ⟨by rw [a, b, c]; rfl, by rw [d, e, f]; rfl⟩

theorem dateP_text (x : St) (g : x.Good) (hf : DForm x.y x.m x.d) : dateP x.date (-1) (-1) (-1) = some (x.y, x.m, x.d) ∧ ∀ b ∈ x.date, dd b := by
  obtain ⟨y, m, d, h, n, s, zd, zn⟩ := x
  obtain ⟨gy, gm, gd, _, _, _, _⟩ := g
  simp only at gy gm gd hf ⊢
  have p4 : ((10 : Int) ^ 4) = 10000 := by decide
  have p2 : ((10 : Int) ^ 2) = 100 := by decide
  rcases hf with ⟨a, b, c⟩ | ⟨a, b, c⟩ | ⟨a, b, c⟩ | ⟨a, b, c⟩ | ⟨a, b, c⟩ | ⟨a, b, c⟩ | ⟨a, b, c⟩
  · subst a b c
    have e : (⟨-1, -1, -1, h, n, s, zd, zn⟩ : St).date = [] := by unfold St.date; simp
    rw [e]
    exact ⟨by decide +kernel, by intro b hb; simp at hb⟩
  · subst b c
    have e : (⟨y, -1, -1, h, n, s, zd, zn⟩ : St).date = [] ++ (digL y 4 ++ []) := by unfold St.date; simp [a]
    have hs : shapeL ([] ++ (digL y 4 ++ [])) = dk1 := by
      rw [shapeL_ascii _ (by simpa using digL_asc y 4)]; simp [digL_sh, dk1]
    rw [e]
    refine ⟨?_, fun b hb => .inl (digL_dg 4 y b (by simpa using hb))⟩
    unfold dateP
    rw [hs, if_neg (by decide), if_pos rfl, numAt_dig [] y 4 [] 0 4 rfl rfl (by omega) (by omega)]
  · subst c
    have e : (⟨y, m, -1, h, n, s, zd, zn⟩ : St).date = [] ++ (digL y 4 ++ (45 :: (digL m 2 ++ []))) := by unfold St.date; simp [a, b]
    have e2 : [] ++ (digL y 4 ++ (45 :: (digL m 2 ++ []))) = (digL y 4 ++ [45]) ++ (digL m 2 ++ []) := by simp
    have hd : ∀ b ∈ [] ++ (digL y 4 ++ (45 :: (digL m 2 ++ []))), dd b := by
      intro b hb
      simp at hb
      rcases hb with hb | hb | hb
      · exact .inl (digL_dg 4 y b hb)
      · exact .inr hb
      · exact .inl (digL_dg 2 m b hb)
    have hs : shapeL ([] ++ (digL y 4 ++ (45 :: (digL m 2 ++ [])))) = dk2 := by
      rw [shapeL_ascii _ (fun b hb => dd_asc (hd b hb))]; simp [digL_sh, dk2]; decide
    rw [e]
    refine ⟨?_, hd⟩
    unfold dateP
    rw [hs, if_neg (by decide), if_neg (by decide), if_pos rfl, numAt_dig [] y 4 _ 0 4 rfl rfl (by omega) (by omega), e2, numAt_dig _ m 2 [] 5 7 (by simp [digL_length]) rfl (by omega) (by omega)]
  · have e : (⟨y, m, d, h, n, s, zd, zn⟩ : St).date = [] ++ (digL y 4 ++ (digL m 2 ++ (digL d 2 ++ []))) := by unfold St.date; simp [a, b, c]
    have e2 : [] ++ (digL y 4 ++ (digL m 2 ++ (digL d 2 ++ []))) = digL y 4 ++ (digL m 2 ++ (digL d 2 ++ [])) := by simp
    have e3 : digL y 4 ++ (digL m 2 ++ (digL d 2 ++ [])) = (digL y 4 ++ digL m 2) ++ (digL d 2 ++ []) := by simp
    have hd : ∀ b ∈ [] ++ (digL y 4 ++ (digL m 2 ++ (digL d 2 ++ []))), dd b := by
      intro b hb
      simp at hb
      rcases hb with hb | hb | hb
      · exact .inl (digL_dg 4 y b hb)
      · exact .inl (digL_dg 2 m b hb)
      · exact .inl (digL_dg 2 d b hb)
    have hs : shapeL ([] ++ (digL y 4 ++ (digL m 2 ++ (digL d 2 ++ [])))) = dk3 := by
      rw [shapeL_ascii _ (fun b hb => dd_asc (hd b hb))]; simp [digL_sh, dk3]
    rw [e]
    refine ⟨?_, hd⟩
    unfold dateP
    rw [hs, if_neg (by decide), if_neg (by decide), if_neg (by decide), if_pos rfl, numAt_dig [] y 4 _ 0 4 rfl rfl (by omega) (by omega), e2, numAt_dig _ m 2 _ 4 6 (by simp [digL_length]) rfl (by omega) (by omega), e3, numAt_dig _ d 2 [] 6 8 (by simp [digL_length]) rfl (by omega) (by omega)]
  · subst a c
    have e : (⟨-1, m, -1, h, n, s, zd, zn⟩ : St).date = [45, 45] ++ (digL m 2 ++ []) := by unfold St.date; simp [b]
    have hd : ∀ b ∈ [45, 45] ++ (digL m 2 ++ []), dd b := by
      intro b hb
      simp at hb
      rcases hb with hb | hb
      · exact .inr hb
      · exact .inl (digL_dg 2 m b hb)
    have hs : shapeL ([45, 45] ++ (digL m 2 ++ [])) = dk4 := by
      rw [shapeL_ascii _ (fun b hb => dd_asc (hd b hb))]; simp [digL_sh, dk4]; decide
    rw [e]
    refine ⟨?_, hd⟩
    unfold dateP
    rw [hs, if_neg (by decide), if_neg (by decide), if_neg (by decide), if_neg (by decide), if_pos rfl, numAt_dig _ m 2 [] 2 4 rfl rfl (by omega) (by omega)]
  · subst a
    have e : (⟨-1, m, d, h, n, s, zd, zn⟩ : St).date = [45, 45] ++ (digL m 2 ++ (digL d 2 ++ [])) := by unfold St.date; simp [b, c]
    have e2 : [45, 45] ++ (digL m 2 ++ (digL d 2 ++ [])) = ([45, 45] ++ digL m 2) ++ (digL d 2 ++ []) := by simp
    have hd : ∀ b ∈ [45, 45] ++ (digL m 2 ++ (digL d 2 ++ [])), dd b := by
      intro b hb
      simp at hb
      rcases hb with hb | hb | hb
      · exact .inr hb
      · exact .inl (digL_dg 2 m b hb)
      · exact .inl (digL_dg 2 d b hb)
    have hs : shapeL ([45, 45] ++ (digL m 2 ++ (digL d 2 ++ []))) = dk5 := by
      rw [shapeL_ascii _ (fun b hb => dd_asc (hd b hb))]; simp [digL_sh, dk5]; decide
    rw [e]
    refine ⟨?_, hd⟩
    unfold dateP
    rw [hs, if_neg (by decide), if_neg (by decide), if_neg (by decide), if_neg (by decide), if_neg (by decide), if_pos rfl, numAt_dig _ m 2 _ 2 4 rfl rfl (by omega) (by omega), e2, numAt_dig _ d 2 [] 4 6 (by simp [digL_length]) rfl (by omega) (by omega)]
  · subst a b
    have e : (⟨-1, -1, d, h, n, s, zd, zn⟩ : St).date = [45, 45, 45] ++ (digL d 2 ++ []) := by unfold St.date; simp [c]
    have hd : ∀ b ∈ [45, 45, 45] ++ (digL d 2 ++ []), dd b := by
      intro b hb
      simp at hb
      rcases hb with hb | hb
      · exact .inr hb
      · exact .inl (digL_dg 2 d b hb)
    have hs : shapeL ([45, 45, 45] ++ (digL d 2 ++ [])) = dk6 := by
      rw [shapeL_ascii _ (fun b hb => dd_asc (hd b hb))]; simp [digL_sh, dk6]; decide
    rw [e]
    refine ⟨?_, hd⟩
    unfold dateP
    rw [hs, if_neg (by decide), if_neg (by decide), if_neg (by decide), if_neg (by decide), if_neg (by decide), if_neg (by decide), if_pos rfl, numAt_dig _ d 2 [] 3 5 rfl rfl (by omega) (by omega)]

end Go.Proofs.YtkhnghcecnghmaaDoor
