/-
  WALKS of the laws TextLong, TextBack, TextParts, TextStill.
-/
import Derived.Test.YtaakkpkhkbhcmaaLists
import Derived.Test.YtaakkpkhkbhcmaaRowLists
import Derived.Test.YtaakkpkhkbhcmaaRowStr
namespace Go.Proofs.Ytaakkpkhkbhcmaa
open Go.RowKit
set_option linter.unusedVariables false
set_option linter.unusedSimpArgs false

theorem need_snoc (s : List UInt8) (k : Nat) (h : k < s.length) : needL (s.take (k + 1)) = needL (s.take k) + if ([92, 44, 59, 10] : List UInt8).contains s[k] = true then 1 else 0 := by
  unfold needL
  rw [List.take_succ_eq_append_getElem h, List.filter_append, List.length_append, List.filter_cons]
  split <;> simp
set_option maxRecDepth 100000 in
set_option maxHeartbeats 2000000 in
theorem textLong_walk (s : List UInt8) (w : World) (zs : s.length ≤ 140737488351232) : Gives 5 #[.string (S s)] w (.bool true) := by
  by_cases hbig : 500 < s.length
  · go_enter Try.func5, Try.ntmps5
    go_wp2_with fail
    refine (escaped_any _).use ?_; intro w1 g1
    go_wp2_with fail
    go_ret
    exact ⟨rfl, (by repeat (first | exact G.refl _ | assumption | apply G.drew | apply G.alloc | refine G.trans ?_ (by assumption)))⟩
  · have hl : s.length ≤ 500 := by omega
    have hEL := esc_len s
    have HEL := hid hEL
    clear hEL
    go_enter Try.func5, Try.ntmps5
    go_wp2_with fail
    refine (escaped_any _).use ?_; intro w1 g1
    have G1 := hid g1
    clear g1
    go_wp2_with fail
    go_loop [3, 12] (fun n i => ∃ k : Nat, k ≤ s.length ∧ i = .int .i64 k ∧ n = .int .i64 (needL (s.take k))) (fun _ i => s.length - (intOf i).toNat)
    case atStart => exact ⟨0, Nat.zero_le _, rfl, rfl⟩
    case round =>
      obtain ⟨k, hk, rfl, rfl⟩ := hrel
      have hnk : needL (s.take k) ≤ k := Nat.le_trans (List.length_filter_le _ _) (List.length_take_le _ _)
      by_cases hlt : k < s.length
      · have HN := hid (need_snoc s k hlt)
        obtain ⟨c, hc⟩ : ∃ c, s[k] = c := ⟨_, rfl⟩
        rw [hc] at HN
        cases hcon : ([92, 44, 59, 10] : List UInt8).contains c with
        | true =>
          have hix : 0 ≤ Lib.indexByte [92, 44, 59, 10] c := (idx_contains _ c).2 hcon
          have HC := hid hcon
          clear hcon
          go_wp2_with fail
          refine (indexByte_any [92, 44, 59, 10] c _).use ?_
          go_wp2_with fail
          go_round
          case rel => exact ⟨k + 1, by omega, by go_num, by rw [HN.out, if_pos HC.out]; go_num⟩
          case measure => simp [intOf]; omega
        | false =>
          have hix : Lib.indexByte [92, 44, 59, 10] c < 0 := by
            have h1 := (idx_contains [92, 44, 59, 10] c).1
            rcases Int.lt_or_le (Lib.indexByte [92, 44, 59, 10] c) 0 with h | h
            · exact h
            · rw [h1 h] at hcon; cases hcon
          have HC := hid hcon
          clear hcon
          go_wp2_with fail
          refine (indexByte_any [92, 44, 59, 10] c _).use ?_
          go_wp2_with fail
          go_round
          case rel => exact ⟨k + 1, by omega, by go_num, by rw [HN.out, if_neg (by rw [HC.out]; simp)]; rfl⟩
          case measure => simp [intOf]; omega
      · obtain rfl : k = s.length := by omega
        have hT : Hid (s.take s.length = s) := hid (List.take_length)
        rw [hT.out] at hnk
        rw [hT.out]
        go_wp2_with fail
        refine (escape_any s _ (by omega)).use ?_
        intro w2 g2
        go_wp2_with fail
        go_ret
        refine ⟨ret_bool ?_, G1.out.trans g2⟩
        have := HEL.out
        simp only [escL] at this
        simp [this]

theorem textBack_walk (s : List UInt8) (w : World) (zs : s.length ≤ 140737488351232) : Gives 6 #[.string (S s)] w (.bool true) := by
  by_cases hbig : 500 < s.length
  · go_enter Try.func6, Try.ntmps6
    go_wp2_with fail
    refine (escaped_any _).use ?_; intro w1 g1
    go_wp2_with fail
    go_ret
    exact ⟨rfl, (by repeat (first | exact G.refl _ | assumption | apply G.drew | apply G.alloc | refine G.trans ?_ (by assumption)))⟩
  · have hl : s.length ≤ 500 := by omega
    obtain ⟨t, ht⟩ : ∃ t, escL s = t := ⟨_, rfl⟩
    have htl : t.length ≤ 1000 := by have := escL_le s; rw [ht] at this; omega
    have key : ∀ a : List UInt8, (∀ c ∈ a, c = 44 ∨ c = 59) → piecesGo a t 0 [] [] [] = .good [s] [] := by
      intro a ha
      have := pieces_escL a ha s [] 0 [] [] []
      rw [List.append_nil, ht] at this
      rw [this, pieces_nil]; rfl
    have hu := fun w => unescape_any t w (by omega)
    have hl1 := fun w => list_any t w (by omega)
    have hp := fun w => parts_any t w (by omega)
    rw [key [] (by simp)] at hu
    rw [key [44] (by simp)] at hl1
    rw [key [44, 59] (by simp)] at hp
    have he := fun w => escape_any s w (by omega)
    rw [show replL escF s = t from ht] at he
    have h10 : Lib.indexByte t 10 < 0 := by
      have h1 := (idx_contains t 10).1
      rcases Int.lt_or_le (Lib.indexByte t 10) 0 with h | h
      · exact h
      · have h2 := esc_no10 s
        rw [ht] at h2
        exact absurd (by simpa using h1 h) h2
    have HU := hid hu
    have HL := hid hl1
    have HP := hid hp
    have HE := hid he
    have HK := hid key
    clear hu hl1 hp he key ht
    go_enter Try.func6, Try.ntmps6
    go_wp2_with fail
    refine (escaped_any _).use ?_; intro w1 g1
    go_wp2_with fail
    refine (HE.out _).use ?_
    intro w2 g2
    go_wp2_with fail
    refine (HU.out _).use ?_
    rintro v w3 rfl g3
    go_wp2_with fail
    refine (HL.out _).use ?_
    rintro v w4 ⟨lv, rfl, hlv⟩ g4
    have HLV := hid hlv
    clear hlv
    go_wp2_with fail
    refine (HP.out _).use ?_
    rintro v w5 ⟨pv, rfl, hpv⟩ g5
    have HPV := hid hpv
    clear hpv
    go_wp2_with fail
    refine (eqStrs_any ((HLV.out.grow g5).grow ((G.refl _).alloc _)) (IsStrs.lit w5 [s] 1 rfl (by simp)) (by simp) (by simp)).use ?_
    intro w6 g6
    have HPN := hid ((OwnParts.new w6 s).lists)
    go_wp2_with fail
    refine (sameLists_any ((HPV.out.grow (((G.refl w5).alloc (.cells #[.string (S s)] 9)).trans g6)).grow (((G.refl w6).alloc _).alloc _)) HPN.out (by simp [sumP, sumL, partsOf]; omega) (by simp [sumP, sumL]; omega)).use ?_
    intro w7 g7
    go_wp2_with fail
    refine (indexByte_any t 10 _).use ?_
    go_wp2_with fail
    go_ret
    exact ⟨ret_bool (by simp [partsOf, h10]), (by repeat (first | exact G.refl _ | assumption | apply G.drew | apply G.alloc | refine G.trans ?_ (by assumption)))⟩

theorem IsLists.cells {w : World} {v : Value} {ls : List (List (List UInt8))} (h : IsLists w v ls) : ∃ cells, IsRow 1 w v ls.length cells ∧ ∀ (i : Nat) (l : List (List UInt8)), ls[i]? = some l → ∃ sv, cells[i]? = some sv ∧ IsStrs w sv l := by
  obtain ⟨c, h1, _, h3⟩ := h; exact ⟨c, h1, h3⟩
theorem concat_any {q : Nat} {a b : Value} {xs ys : List (List (List UInt8))} {w : World} (h0 : w.cell? ⟨q, 0, none⟩ = some a) (h1 : w.cell? ⟨q, 1, none⟩ = some b) (hq : q < w.heap.size) (ha : IsLists w a xs) (hb : IsLists w b ys) (lx : xs.length ≤ 100000) (ly : ys.length ≤ 100000) :
    Makes 23 #[.slice (some ⟨q, 0, none⟩) 2 2] w (fun v w' => IsLists w' v (xs ++ ys)) := by
  obtain ⟨ca, a1, a2⟩ := ha.cells
  obtain ⟨cb, b1, b2⟩ := hb.cells
  refine (concat_lists h0 h1 hq a1 b1 lx ly).mono ?_
  rintro v w' g ⟨hown, _⟩
  have hal : ca.length = xs.length := by have := a1.1; omega
  refine ⟨ca ++ cb, ?_, cap_of_own hown, fun i l hl => ?_⟩
  · rw [List.length_append]
    refine row_of_own hown fun u hu => ?_
    rcases List.mem_append.1 hu with hu | hu
    · exact a1.2.1 u hu
    · exact b1.2.1 u hu
  · rcases Nat.lt_or_ge i xs.length with hi | hi
    · rw [List.getElem?_append_left hi] at hl
      obtain ⟨sv, h2, h3⟩ := a2 i l hl
      exact ⟨sv, by rw [List.getElem?_append_left (by omega)]; exact h2, h3.grow g⟩
    · rw [List.getElem?_append_right hi] at hl
      obtain ⟨sv, h2, h3⟩ := b2 _ l hl
      exact ⟨sv, by rw [List.getElem?_append_right (by omega), hal]; exact h2, h3.grow g⟩
theorem pieces_sum (a : List UInt8) : ∀ (n : Nat) (s : List UInt8), s.length ≤ n → ∀ (k : Nat) (cur : List UInt8) (ts : List (List UInt8)) (cs : List UInt8) (T : List (List UInt8)) (C : List UInt8), piecesGo a s k cur ts cs = .good T C → sumL T ≤ sumL ts + cur.length + 1 + s.length := by
  intro n
  induction n with
  | zero =>
    intro s hs k cur ts cs T C h
    have : s = [] := List.eq_nil_of_length_eq_zero (by omega)
    subst this
    rw [pieces_nil] at h
    injection h with h1 h2
    subst h1
    rw [sumL_append]; simp [sumL]; omega
  | succ n ih =>
    intro s hs k cur ts cs T C h
    match s, hs, h with
    | [], _, h =>
      rw [pieces_nil] at h
      injection h with h1 h2
      subst h1
      rw [sumL_append]; simp [sumL]; omega
    | c :: t, hs, h =>
      by_cases h92 : c = 92
      · subst h92
        match t, hs, h with
        | [], _, h => rw [pieces_end] at h; cases h
        | d :: t, hs, h =>
          cases hu : unescB d with
          | none => rw [pieces_none hu] at h; cases h
          | some x =>
            rw [pieces_esc hu] at h
            have := ih t (by simp at hs; omega) _ _ _ _ _ _ h
            simp at this ⊢; omega
      · cases hc : a.contains c with
        | true =>
          rw [pieces_cut h92 hc] at h
          have := ih t (by simp at hs; omega) _ _ _ _ _ _ h
          rw [sumL_append] at this
          simp [sumL] at this ⊢; omega
        | false =>
          rw [pieces_one h92 hc] at h
          have := ih t (by simp at hs; omega) _ _ _ _ _ _ h
          simp at this ⊢; omega
theorem parts_sum : ∀ (cs : List UInt8) (ts : List (List UInt8)) (cur : List (List UInt8)), sumP (partsOf cur cs ts) ≤ sumL cur + 1 + 2 * sumL ts := by
  intro cs
  induction cs with
  | nil => intro ts cur; simp [partsOf, sumP]
  | cons c cs ih =>
    intro ts cur
    cases ts with
    | nil => simp [partsOf, sumP]; try omega
    | cons t ts =>
      rw [partsOf_cons]
      have hc := sumL_cons t ts
      split
      · rw [sumP_cons]
        have := ih ts [t]
        have h1 : sumL [t] = t.length + 1 := by simp [sumL]
        omega
      · have := ih ts (cur ++ [t])
        rw [sumL_append] at this
        have h1 : sumL [t] = t.length + 1 := by simp [sumL]
        omega
theorem sumP_append (a b : List (List (List UInt8))) : sumP (a ++ b) = sumP a + sumP b := by simp [sumP]
/-- the answer of Parts, and how much it is -/
theorem parts_good {s : List UInt8} {T : List (List UInt8)} {C : List UInt8} (h : piecesGo [44, 59] s 0 [] [] [] = .good T C) : sumP (partsOf [T.headD []] C T.tail) ≤ 2 * s.length + 5 := by
  have h1 := pieces_sum [44, 59] s.length s (Nat.le_refl _) _ _ _ _ _ _ h
  have h2 := pieces_ne h
  have h3 := parts_sum C T.tail [T.headD []]
  cases T with
  | nil => simp at h2
  | cons t T =>
    rw [sumL_cons] at h1
    simp only [List.headD_cons, List.tail_cons] at h3 ⊢
    have h4 : sumL [t] = t.length + 1 := by simp [sumL]
    simp [sumL] at h1 h3 h4 ⊢
    omega
set_option maxRecDepth 100000 in
set_option maxHeartbeats 2000000 in
theorem textParts_walk (a b : List UInt8) (w : World) (za : a.length ≤ 140737488351232) (zb : b.length ≤ 140737488351232) : Gives 7 #[.string (S a), .string (S b)] w (.bool true) := by
  by_cases hbig : 500 < a.length + b.length
  · go_enter Try.func7, Try.ntmps7
    go_wp2_with fail
    refine (escaped_any _).use ?_; intro w1 g1
    go_wp2_with fail
    go_ret
    exact ⟨rfl, (by repeat (first | exact G.refl _ | assumption | apply G.drew | apply G.alloc | refine G.trans ?_ (by assumption)))⟩
  · have hla : a.length ≤ 500 := by omega
    have hlb : b.length ≤ 500 := by omega
    have hpa := fun w => parts_any a w (by omega)
    have hpb := fun w => parts_any b w (by omega)
    obtain ⟨ra, hra⟩ : ∃ r, piecesGo [44, 59] a 0 [] [] [] = r := ⟨_, rfl⟩
    obtain ⟨rb, hrb⟩ : ∃ r, piecesGo [44, 59] b 0 [] [] [] = r := ⟨_, rfl⟩
    rw [hra] at hpa
    rw [hrb] at hpb
    have HA := hid hpa
    have HB := hid hpb
    clear hpa hpb
    cases ra with
    | bad ec ep =>
      cases rb with
      | bad fc fp =>
        clear hra hrb
        go_enter Try.func7, Try.ntmps7
        go_wp2_with fail
        refine (escaped_any _).use ?_; intro w1 g1
        go_wp2_with fail
        refine (HA.out _).use ?_
        rintro v w2 ⟨e, rfl, he⟩ g2
        obtain ⟨b, rfl, -, -, -⟩ := he
        go_wp2_with fail
        refine (HB.out _).use ?_
        rintro v w3 ⟨e, rfl, he⟩ g3
        obtain ⟨b, rfl, -, -, -⟩ := he
        go_wp2_with fail
        go_ret
        exact ⟨rfl, (by repeat (first | exact G.refl _ | assumption | apply G.drew | apply G.alloc | refine G.trans ?_ (by assumption)))⟩
      | good T C =>
        clear hra hrb
        go_enter Try.func7, Try.ntmps7
        go_wp2_with fail
        refine (escaped_any _).use ?_; intro w1 g1
        go_wp2_with fail
        refine (HA.out _).use ?_
        rintro v w2 ⟨e, rfl, he⟩ g2
        obtain ⟨b, rfl, -, -, -⟩ := he
        go_wp2_with fail
        refine (HB.out _).use ?_
        rintro v w3 ⟨tv, rfl, ht⟩ g3
        clear ht
        go_wp2_with fail
        go_ret
        exact ⟨rfl, (by repeat (first | exact G.refl _ | assumption | apply G.drew | apply G.alloc | refine G.trans ?_ (by assumption)))⟩
    | good Ta Ca =>
      cases rb with
      | bad fc fp =>
        clear hra hrb
        go_enter Try.func7, Try.ntmps7
        go_wp2_with fail
        refine (escaped_any _).use ?_; intro w1 g1
        go_wp2_with fail
        refine (HA.out _).use ?_
        rintro v w2 ⟨tv, rfl, ht⟩ g2
        clear ht
        go_wp2_with fail
        refine (HB.out _).use ?_
        rintro v w3 ⟨e, rfl, he⟩ g3
        obtain ⟨b, rfl, -, -, -⟩ := he
        go_wp2_with fail
        go_ret
        exact ⟨rfl, (by repeat (first | exact G.refl _ | assumption | apply G.drew | apply G.alloc | refine G.trans ?_ (by assumption)))⟩
      | good Tb Cb =>
        have sa := parts_good hra
        have sb := parts_good hrb
        have na := pieces_ne hra
        have nb := pieces_ne hrb
        obtain ⟨ta, Ta, rfl⟩ : ∃ t T, Ta = t :: T := by cases Ta with | nil => simp at na | cons t T => exact ⟨t, T, rfl⟩
        obtain ⟨tb, Tb, rfl⟩ : ∃ t T, Tb = t :: T := by cases Tb with | nil => simp at nb | cons t T => exact ⟨t, T, rfl⟩
        simp only [List.headD_cons, List.tail_cons] at sa sb
        obtain ⟨k', hk'⟩ := pieces_append [44, 59] 59 (by decide) (by decide) b a.length a (Nat.le_refl _) 0 [] [] [] _ _ hra
        have hz : piecesGo [44, 59] (a ++ 59 :: b) 0 [] [] [] = .good (ta :: Ta ++ tb :: Tb) (Ca ++ 59 :: Cb) := by
          rw [hk']
          obtain ⟨T', C', e1, e2, e3, e4⟩ := pieces_acc [44, 59] b.length b (Nat.le_refl _) 0 [] [] [] _ _ hrb
          simp only [List.nil_append] at e1 e2
          rw [e4, ← e1, ← e2]; simp
        have hpz := fun w => parts_any (a ++ 59 :: b) w (by simp; omega)
        rw [hz] at hpz
        have hpp : partsOf [ta] (Ca ++ 59 :: Cb) (Ta ++ tb :: Tb) = partsOf [ta] Ca Ta ++ partsOf [tb] Cb Tb := parts_append Cb tb Tb Ca Ta [ta] (by simpa using na)
        have HZ := hid hpz
        have HPP := hid hpp
        have la := sumP_len (partsOf [ta] Ca Ta)
        have lb := sumP_len (partsOf [tb] Cb Tb)
        clear hra hrb hk' hz hpz hpp na nb
        go_enter Try.func7, Try.ntmps7
        go_wp2_with fail
        refine (escaped_any _).use ?_; intro w1 g1
        go_wp2_with fail
        refine (HA.out _).use ?_
        rintro v w2 ⟨xv, rfl, hx⟩ g2
        have HX := hid hx
        obtain ⟨xa, xc, hxv, -⟩ := hx.len
        subst hxv
        clear hx
        go_wp2_with fail
        refine (HB.out _).use ?_
        rintro v w3 ⟨yv, rfl, hy⟩ g3
        have HY := hid hy
        obtain ⟨ya, yc, hyv, -⟩ := hy.len
        subst hyv
        clear hy
        go_wp2_with fail
        refine (HZ.out _).use ?_
        rintro v w4 ⟨zv, rfl, hzv⟩ g4
        have HZV := hid hzv
        obtain ⟨zva, zc, hzv2, -⟩ := hzv.len
        subst hzv2
        clear hzv
        go_wp2_with fail
        refine (concat_any (by rw [World.cell?_alloc_new]; rfl) (by rw [World.cell?_alloc_new]; rfl) (by simp) (((HX.out.grow g3).grow g4).grow ((G.refl _).alloc _)) ((HY.out.grow g4).grow ((G.refl _).alloc _)) (by show (partsOf [ta] Ca Ta).length ≤ _; omega) (by show (partsOf [tb] Cb Tb).length ≤ _; omega)).use ?_
        intro v w5 hv g5
        have HV := hid hv
        obtain ⟨va, vc, hvv, -⟩ := hv.len
        subst hvv
        clear hv
        have HZ5 := hid ((HZV.out.grow ((G.refl _).alloc (.cells #[.slice xa (partsOf [ta] Ca Ta).length xc, .slice ya (partsOf [tb] Cb Tb).length yc] 34))).grow g5)
        have HV2 : Hid (IsLists w5 (.slice va ((partsOf [ta] Ca Ta).length + (partsOf [tb] Cb Tb).length) vc) (partsOf [ta] Ca Ta ++ partsOf [tb] Cb Tb)) := hid (by have := HV.out; rw [List.length_append] at this; exact this)
        have sz : sumP (partsOf [ta] (Ca ++ 59 :: Cb) (Ta ++ tb :: Tb)) ≤ 10000 := by rw [HPP.out, sumP_append]; omega
        have sv : sumP (partsOf [ta] Ca Ta ++ partsOf [tb] Cb Tb) ≤ 10000 := by rw [sumP_append]; omega
        go_wp2_with fail
        refine (sameLists_any HZ5.out HV2.out (by show sumP (partsOf [ta] (Ca ++ 59 :: Cb) (Ta ++ tb :: Tb)) ≤ _; omega) (by show sumP (partsOf [ta] Ca Ta ++ partsOf [tb] Cb Tb) ≤ _; omega)).use ?_
        intro w6 g6
        go_wp2_with fail
        go_ret
        exact ⟨ret_bool (decide_eq_true HPP.out), (by repeat (first | exact G.refl _ | assumption | apply G.drew | apply G.alloc | refine G.trans ?_ (by assumption)))⟩

end Go.Proofs.Ytaakkpkhkbhcmaa
