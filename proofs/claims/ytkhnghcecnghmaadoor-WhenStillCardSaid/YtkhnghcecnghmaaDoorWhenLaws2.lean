/-
  when.Parse reads what when.Print writes: the times, the zones, the whole. Plain.
-/
import Derived.Test.YtkhnghcecnghmaaDoorWhenLaws
namespace Go.Proofs.YtkhnghcecnghmaaDoor
open Go.RowKit
set_option linter.unusedVariables false
set_option linter.unusedSimpArgs false

/-- a time's text: read back; where its dashes are; how long it is -/
structure ClockText (x : St) : Prop where
  read : clockP x.clock (-1) (-1) (-1) = some (x.h, x.n, x.s)
  bytes : ∀ b ∈ x.clock, dd b
  dash : ∀ i (h : i < x.clock.length), x.clock[i] = 45 → i < 2
  long : 2 ≤ x.clock.length ∧ x.clock.length ≤ 6
  told : x.h ≠ -1 → ∀ b ∈ x.clock, dgB b = true
theorem dash_of {p q : List UInt8} (hp : p.length ≤ 2) (hq : ∀ b ∈ q, dgB b = true) : ∀ i (h : i < (p ++ q).length), (p ++ q)[i] = 45 → i < 2 := by
  intro i h e
  rcases Nat.lt_or_ge i p.length with hi | hi
  · omega
  · rw [List.getElem_append_right hi] at e
    have := hq _ (List.getElem_mem (by simp at h; omega : i - p.length < q.length))
    rw [e] at this
    exact absurd this (by decide)
theorem clock_text (x : St) (g : x.Good) (hf : DForm x.h x.n x.s) (ht : ¬ (x.h = -1 ∧ x.n = -1 ∧ x.s = -1)) : ClockText x := by
  obtain ⟨y, m, d, h, n, s, zd, zn⟩ := x
  obtain ⟨_, _, _, gh, gn, gs, _⟩ := g
  simp only at gh gn gs hf ht
  have p2 : ((10 : Int) ^ 2) = 100 := by decide
  rcases hf with ⟨a, b, c⟩ | ⟨a, b, c⟩ | ⟨a, b, c⟩ | ⟨a, b, c⟩ | ⟨a, b, c⟩ | ⟨a, b, c⟩ | ⟨a, b, c⟩
  · exact absurd ⟨a, b, c⟩ ht
  · subst b c
    have e : (⟨y, m, d, h, -1, -1, zd, zn⟩ : St).clock = [] ++ (digL h 2 ++ []) := by unfold St.clock; simp [a]
    have hq : ∀ b ∈ digL h 2 ++ [], dgB b = true := fun b hb => digL_dg 2 h b (by simpa using hb)
    have hs : shapeL ([] ++ (digL h 2 ++ [])) = ck0 := by
      rw [shapeL_ascii _ (by simpa using digL_asc h 2)]; simp [digL_sh, ck0]
    refine ⟨?_, ?_, ?_, ?_, ?_⟩
    · show clockP (St.clock _) _ _ _ = _
      rw [e]; unfold clockP
      rw [hs, if_pos rfl, numAt_dig [] h 2 [] 0 2 rfl rfl (by omega) (by omega)]
    · rw [e]; exact fun b hb => .inl (hq b (by simpa using hb))
    · rw [e]; exact dash_of (by decide) hq
    · rw [e]; simp [digL_length]
    · rw [e]; exact fun _ b hb => hq b (by simpa using hb)
  · subst c
    have e : (⟨y, m, d, h, n, -1, zd, zn⟩ : St).clock = [] ++ (digL h 2 ++ (digL n 2 ++ [])) := by unfold St.clock; simp [a, b]
    have e2 : [] ++ (digL h 2 ++ (digL n 2 ++ [])) = digL h 2 ++ (digL n 2 ++ []) := by simp
    have hq : ∀ b ∈ digL h 2 ++ (digL n 2 ++ []), dgB b = true := by
      intro b hb
      simp at hb
      rcases hb with hb | hb
      · exact digL_dg 2 h b hb
      · exact digL_dg 2 n b hb
    have hs : shapeL ([] ++ (digL h 2 ++ (digL n 2 ++ []))) = dk1 := by
      rw [shapeL_ascii _ (fun b hb => dd_asc (.inl (hq b (by simpa using hb))))]; simp [digL_sh, dk1]
    refine ⟨?_, ?_, ?_, ?_, ?_⟩
    · show clockP (St.clock _) _ _ _ = _
      rw [e]; unfold clockP
      rw [hs, if_neg (by decide), if_pos rfl, numAt_dig [] h 2 _ 0 2 rfl rfl (by omega) (by omega), e2, numAt_dig _ n 2 [] 2 4 (by simp [digL_length]) rfl (by omega) (by omega)]
    · rw [e]; exact fun b hb => .inl (hq b (by simpa using hb))
    · rw [e]; exact dash_of (by decide) hq
    · rw [e]; simp [digL_length]
    · rw [e]; exact fun _ b hb => hq b (by simpa using hb)
  · have e : (⟨y, m, d, h, n, s, zd, zn⟩ : St).clock = [] ++ (digL h 2 ++ (digL n 2 ++ (digL s 2 ++ []))) := by unfold St.clock; simp [a, b, c]
    have e2 : [] ++ (digL h 2 ++ (digL n 2 ++ (digL s 2 ++ []))) = digL h 2 ++ (digL n 2 ++ (digL s 2 ++ [])) := by simp
    have e3 : digL h 2 ++ (digL n 2 ++ (digL s 2 ++ [])) = (digL h 2 ++ digL n 2) ++ (digL s 2 ++ []) := by simp
    have hq : ∀ b ∈ digL h 2 ++ (digL n 2 ++ (digL s 2 ++ [])), dgB b = true := by
      intro b hb
      simp at hb
      rcases hb with hb | hb | hb
      · exact digL_dg 2 h b hb
      · exact digL_dg 2 n b hb
      · exact digL_dg 2 s b hb
    have hs : shapeL ([] ++ (digL h 2 ++ (digL n 2 ++ (digL s 2 ++ [])))) = ck2 := by
      rw [shapeL_ascii _ (fun b hb => dd_asc (.inl (hq b (by simpa using hb))))]; simp [digL_sh, ck2]
    refine ⟨?_, ?_, ?_, ?_, ?_⟩
    · show clockP (St.clock _) _ _ _ = _
      rw [e]; unfold clockP
      rw [hs, if_neg (by decide), if_neg (by decide), if_pos rfl, numAt_dig [] h 2 _ 0 2 rfl rfl (by omega) (by omega), e2, numAt_dig _ n 2 _ 2 4 (by simp [digL_length]) rfl (by omega) (by omega), e3, numAt_dig _ s 2 [] 4 6 (by simp [digL_length]) rfl (by omega) (by omega)]
    · rw [e]; exact fun b hb => .inl (hq b (by simpa using hb))
    · rw [e]; exact dash_of (by decide) hq
    · rw [e]; simp [digL_length]
    · rw [e]; exact fun _ b hb => hq b (by simpa using hb)
  · subst a c
    have e : (⟨y, m, d, -1, n, -1, zd, zn⟩ : St).clock = [45] ++ (digL n 2 ++ []) := by unfold St.clock; simp [b]
    have hq : ∀ b ∈ digL n 2 ++ [], dgB b = true := fun b hb => digL_dg 2 n b (by simpa using hb)
    have hd : ∀ b ∈ [45] ++ (digL n 2 ++ []), dd b := by
      intro b hb
      rcases List.mem_append.1 hb with hb | hb
      · exact .inr (by simpa using hb)
      · exact .inl (hq b hb)
    have hs : shapeL ([45] ++ (digL n 2 ++ [])) = ck3 := by
      rw [shapeL_ascii _ (fun b hb => dd_asc (hd b hb))]; simp [digL_sh, ck3]; decide
    refine ⟨?_, ?_, ?_, ?_, ?_⟩
    · show clockP (St.clock _) _ _ _ = _
      rw [e]; unfold clockP
      rw [hs, if_neg (by decide), if_neg (by decide), if_neg (by decide), if_pos rfl, numAt_dig _ n 2 [] 1 3 rfl rfl (by omega) (by omega)]
    · rw [e]; exact hd
    · rw [e]; exact dash_of (by decide) hq
    · rw [e]; simp [digL_length]
    · exact fun h => absurd rfl h
  · subst a
    have e : (⟨y, m, d, -1, n, s, zd, zn⟩ : St).clock = [45] ++ (digL n 2 ++ (digL s 2 ++ [])) := by unfold St.clock; simp [b, c]
    have e2 : [45] ++ (digL n 2 ++ (digL s 2 ++ [])) = ([45] ++ digL n 2) ++ (digL s 2 ++ []) := by simp
    have hq : ∀ b ∈ digL n 2 ++ (digL s 2 ++ []), dgB b = true := by
      intro b hb
      simp at hb
      rcases hb with hb | hb
      · exact digL_dg 2 n b hb
      · exact digL_dg 2 s b hb
    have hd : ∀ b ∈ [45] ++ (digL n 2 ++ (digL s 2 ++ [])), dd b := by
      intro b hb
      rcases List.mem_append.1 hb with hb | hb
      · exact .inr (by simpa using hb)
      · exact .inl (hq b hb)
    have hs : shapeL ([45] ++ (digL n 2 ++ (digL s 2 ++ []))) = ck4 := by
      rw [shapeL_ascii _ (fun b hb => dd_asc (hd b hb))]; simp [digL_sh, ck4]; decide
    refine ⟨?_, ?_, ?_, ?_, ?_⟩
    · show clockP (St.clock _) _ _ _ = _
      rw [e]; unfold clockP
      rw [hs, if_neg (by decide), if_neg (by decide), if_neg (by decide), if_neg (by decide), if_pos rfl, numAt_dig _ n 2 _ 1 3 rfl rfl (by omega) (by omega), e2, numAt_dig _ s 2 [] 3 5 (by simp [digL_length]) rfl (by omega) (by omega)]
    · rw [e]; exact hd
    · rw [e]; exact dash_of (by decide) hq
    · rw [e]; simp [digL_length]
    · exact fun h => absurd rfl h
  · subst a b
    have e : (⟨y, m, d, -1, -1, s, zd, zn⟩ : St).clock = [45, 45] ++ (digL s 2 ++ []) := by unfold St.clock; simp [c]
    have hq : ∀ b ∈ digL s 2 ++ [], dgB b = true := fun b hb => digL_dg 2 s b (by simpa using hb)
    have hd : ∀ b ∈ [45, 45] ++ (digL s 2 ++ []), dd b := by
      intro b hb
      rcases List.mem_append.1 hb with hb | hb
      · exact .inr (by simpa using hb)
      · exact .inl (hq b hb)
    have hs : shapeL ([45, 45] ++ (digL s 2 ++ [])) = dk4 := by
      rw [shapeL_ascii _ (fun b hb => dd_asc (hd b hb))]; simp [digL_sh, dk4]; decide
    refine ⟨?_, ?_, ?_, ?_, ?_⟩
    · show clockP (St.clock _) _ _ _ = _
      rw [e]; unfold clockP
      rw [hs, if_neg (by decide), if_neg (by decide), if_neg (by decide), if_neg (by decide), if_neg (by decide), if_pos rfl, numAt_dig _ s 2 [] 2 4 rfl rfl (by omega) (by omega)]
    · rw [e]; exact hd
    · rw [e]; exact dash_of (by decide) hq
    · rw [e]; simp [digL_length]
    · exact fun h => absurd rfl h

/-! ## where the zone begins -/
theorem indexAny_after {p : List UInt8} {c : UInt8} {r chars : List UInt8} (h : ∀ b ∈ p, chars.contains b = false) (hc : chars.contains c = true) : Lib.indexAny (p ++ c :: r) chars = p.length := by
  induction p with
  | nil => simp only [List.nil_append, Lib.indexAny, hc, if_true]; rfl
  | cons b p ih =>
    have ih := ih fun x hx => h x (List.mem_cons_of_mem _ hx)
    rw [List.cons_append, Lib.indexAny, h b List.mem_cons_self, ih]
    have : (((p.length : Int)) == -1) = false := beq_eq_false_iff_ne.2 (by omega)
    simp [this]
theorem indexAny_no {p chars : List UInt8} (h : ∀ b ∈ p, chars.contains b = false) : Lib.indexAny p chars = -1 := by
  induction p with
  | nil => rfl
  | cons b p ih =>
    rw [Lib.indexAny, h b List.mem_cons_self, ih fun x hx => h x (List.mem_cons_of_mem _ hx)]
    rfl
theorem dd_zp {b : UInt8} (h : dd b) : ([90, 43] : List UInt8).contains b = false := by
  have h1 := dd_ne h (c := 90) (.inr (.inl rfl))
  have h2 := dd_ne h (c := 43) (.inr (.inr rfl))
  simp [h1, h2]
theorem last_at {p : List UInt8} {r : List UInt8} (h : ∀ b ∈ r, b ≠ 45) : Lib.lastIndexByte (S (p ++ 45 :: r)) 45 = p.length := by
  rcases Lib.lastIndexByte_spec (S (p ++ 45 :: r)) 45 with ⟨_, hn⟩ | ⟨i, hi, e, hc, hn⟩
  · have := hn p.length (by simp)
    rw [S_bang _ _ (by simp)] at this
    simp at this
  · simp only [S_size] at hi hn
    rw [e]
    rcases Nat.lt_trichotomy i p.length with hl | hl | hl
    · have := hn p.length hl (by simp)
      rw [S_bang _ _ (by simp)] at this
      simp at this
    · rw [hl]
    · rw [S_bang _ _ hi, List.getElem_append_right (by omega)] at hc
      obtain ⟨k, hk⟩ : ∃ k, i - p.length = k + 1 := ⟨i - p.length - 1, by omega⟩
      simp only [hk, List.getElem_cons_succ] at hc
      have hm : r[k]'(by simp at hi; omega) ∈ r := List.getElem_mem _
      refine absurd ?_ (h _ hm)
      apply UInt8.toNat_inj.1
      have : (45 : UInt8).toNat = 45 := rfl
      omega
theorem last_small {p : List UInt8} (h : ∀ i (h : i < p.length), p[i] = 45 → i < 2) : ¬ 2 ≤ Lib.lastIndexByte (S p) 45 := by
  rcases Lib.lastIndexByte_spec (S p) 45 with ⟨e, hn⟩ | ⟨i, hi, e, hc, hn⟩
  · rw [e]; decide
  · simp only [S_size] at hi
    rw [S_bang _ _ hi] at hc
    have := h i hi (UInt8.toNat_inj.1 (by have : (45 : UInt8).toNat = 45 := rfl; omega))
    rw [e]; omega
theorem twoL_ne {n : Int} (h0 : 0 ≤ n) (h1 : n ≤ 99) : ∀ b ∈ twoL n, b ≠ 45 ∧ ([90, 43] : List UInt8).contains b = false := by
  intro b hb
  have key : ∀ k : Fin 100, (twoL (k.val : Int)).all (fun b => decide (b ≠ 45) && !([90, 43] : List UInt8).contains b) = true := by decide +kernel
  have h2 := key ⟨n.toNat, by omega⟩
  have e : ((n.toNat : Nat) : Int) = n := by omega
  simp only [e] at h2
  have := List.all_eq_true.1 h2 b hb
  simpa using this
theorem kAt_none {p : List UInt8} (hd : ∀ b ∈ p, dd b) (h : ∀ i (h : i < p.length), p[i] = 45 → i < 2) : kAt p = p.length := by
  unfold kAt
  rw [indexAny_no (fun b hb => dd_zp (hd b hb)), if_neg (by decide), if_neg (last_small h)]
theorem kAt_zone {p : List UInt8} {z : Int} (hd : ∀ b ∈ p, dgB b = true) (hl : 2 ≤ p.length) (hz : rightZ z = true) : kAt (p ++ printZ z) = p.length ∧ p.length < (p ++ printZ z).length := by
  have hr : -840 ≤ z ∧ z ≤ 840 := by unfold rightZ at hz; simpa using hz
  have hzp : ∀ b ∈ p, ([90, 43] : List UInt8).contains b = false := fun b hb => dd_zp (.inl (hd b hb))
  unfold printZ
  split
  · refine ⟨?_, by simp⟩
    unfold kAt
    rw [indexAny_after hzp (by decide), if_pos (by omega)]; rfl
  · split
    · refine ⟨?_, by simp⟩
      have h1 := twoL_ne (n := -z / 60) (by omega) (by omega)
      have h2 := twoL_ne (n := -z % 60) (by omega) (by omega)
      unfold kAt
      rw [indexAny_no (p := p ++ 45 :: (twoL (-z / 60) ++ twoL (-z % 60))), if_neg (by decide), last_at (by
        intro b hb
        rcases List.mem_append.1 hb with hb | hb
        · exact (h1 b hb).1
        · exact (h2 b hb).1), if_pos (by omega)]
      · rfl
      · intro b hb
        rcases List.mem_append.1 hb with hb | hb
        · exact hzp b hb
        · rcases List.mem_cons.1 hb with rfl | hb
          · decide
          · rcases List.mem_append.1 hb with hb | hb
            · exact (h1 b hb).2
            · exact (h2 b hb).2
    · refine ⟨?_, by simp⟩
      unfold kAt
      rw [indexAny_after hzp (by decide), if_pos (by omega)]; rfl

/-- WHAT IS WRITTEN IS READ AS IT WAS -/
theorem parse_text (x : St) (hr : x.right = 0) : parseW x.text = (x, 0) := by
  have g := St.good hr
  have hb := (St.right_zero hr).1
  obtain ⟨f1, f2, f3⟩ := bad_forms hb
  obtain ⟨_, _, _, hz1, hz2⟩ := bad_parts hb
  obtain ⟨hd, hdd⟩ := dateP_text x g f1
  have h84 : (84 : UInt8) ∉ x.date := fun h => dd_ne (hdd _ h) (.inl rfl) rfl
  unfold St.text parseW
  by_cases ht : x.h = -1 ∧ x.n = -1 ∧ x.s = -1
  · rw [if_pos ht, cut_no h84]
    simp only [hd]
    have hzd : x.zd = false := by
      cases e : x.zd with
      | false => rfl
      | true => exact absurd ht.1 (hz1 e)
    have : (⟨x.y, x.m, x.d, -1, -1, -1, false, 0⟩ : St) = x := by
      obtain ⟨a, b, c⟩ := ht
      have := hz2 hzd
      obtain ⟨y, m, d, h, n, s, zd, zn⟩ := x
      simp_all
    rw [this]
    simp [finW, hr]
  · rw [if_neg ht, cut_yes h84]
    simp only [hd, if_true]
    obtain ⟨c1, c2, c3, c4, c5⟩ := clock_text x g f2 ht
    have hne : ∀ z, x.clock ++ z ≠ [] := fun z e => by
      have := congrArg List.length e
      simp at this; have := c4.1; simp_all
    rw [if_neg (hne _)]
    unfold clockW
    cases hzd : x.zd with
    | true =>
      obtain ⟨k1, k2⟩ := kAt_zone (c5 (hz1 hzd)) c4.1 g.z
      simp only [if_true]
      rw [k1, List.take_left' rfl, c1]
      simp only
      rw [if_pos k2, List.drop_left' rfl, print_parse _ g.z]
      simp only [if_true]
      have : (⟨x.y, x.m, x.d, x.h, x.n, x.s, true, x.zn⟩ : St) = x := by
        obtain ⟨y, m, d, h, n, s, zd, zn⟩ := x
        simp_all
      rw [this]
      simp [finW, hr]
    | false =>
      have k1 := kAt_none c2 c3
      simp only [Bool.false_eq_true, if_false, List.append_nil]
      rw [k1, List.take_length, c1]
      simp only
      rw [if_neg (by omega)]
      have : (⟨x.y, x.m, x.d, x.h, x.n, x.s, false, 0⟩ : St) = x := by
        have := hz2 hzd
        obtain ⟨y, m, d, h, n, s, zd, zn⟩ := x
        simp_all
      rw [this]
      simp [finW, hr]
theorem text_len (x : St) (hr : x.right = 0) : x.text.length ≤ 20 := by
  have g := St.good hr
  have hb := (St.right_zero hr).1
  obtain ⟨f1, f2, f3⟩ := bad_forms hb
  have hd : x.date.length ≤ 8 := by
    unfold St.date
    repeat' split
    all_goals simp [digL_length]
  unfold St.text
  split
  · omega
  · rename_i ht
    have hc := (clock_text x g f2 ht).long
    have hp := printZ_le x.zn
    simp
    split
    · omega
    · simp; omega
/-- what is read is right, or nothing -/
theorem parseW_cases (s : List UInt8) : (parseW s).2 = 0 ∧ (parseW s).1.right = 0 ∨ (parseW s).2 ≠ 0 ∧ (parseW s).1 = St0 := by
  have fin : ∀ x, (finW x).2 = 0 ∧ (finW x).1.right = 0 ∨ (finW x).2 ≠ 0 ∧ (finW x).1 = St0 := by
    intro x
    unfold finW
    split
    · exact .inl ⟨rfl, by assumption⟩
    · exact .inr ⟨by assumption, rfl⟩
  unfold parseW
  split
  · exact .inr ⟨by decide, rfl⟩
  · split
    · split
      · exact .inr ⟨by decide, rfl⟩
      · unfold clockW
        split
        · exact .inr ⟨by decide, rfl⟩
        · split
          · split
            · exact fin _
            · exact .inr ⟨by assumption, rfl⟩
          · exact fin _
    · exact fin _

end Go.Proofs.YtkhnghcecnghmaaDoor
