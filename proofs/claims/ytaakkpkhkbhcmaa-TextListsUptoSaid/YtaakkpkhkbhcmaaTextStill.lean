/-
  WALK of the law TextStill.
-/
import Derived.Test.YtaakkpkhkbhcmaaTextLaws
namespace Go.Proofs.Ytaakkpkhkbhcmaa
open Go.RowKit
set_option linter.unusedVariables false
set_option linter.unusedSimpArgs false

theorem parts_ne : ∀ (cs : List UInt8) (ts : List (List UInt8)) (cur : List (List UInt8)), cur ≠ [] → partsOf cur cs ts ≠ [] ∧ ∀ l ∈ partsOf cur cs ts, l ≠ [] := by
  intro cs
  induction cs with
  | nil => intro ts cur h; cases ts <;> simp [partsOf, h]
  | cons c cs ih =>
    intro ts cur h
    cases ts with
    | nil => simp [partsOf, h]
    | cons t ts =>
      rw [partsOf_cons]
      split
      · refine ⟨by simp, fun l hl => ?_⟩
        rcases List.mem_cons.1 hl with rfl | hl
        · exact h
        · exact (ih ts [t] (by simp)).2 l hl
      · exact ih ts (cur ++ [t]) (by simp)
theorem joinR_ne {ls : List (List UInt8)} (h : ls ≠ []) : joinR ls = .tuple #[.string (S (joinL ls)), .nilIface] := by unfold joinR; rw [if_neg h]
theorem joinPR_ne {ls : List (List (List UInt8))} {v : Value} {w : World} (h : joinPR ls v w) (h1 : ls ≠ []) (h2 : ∀ l ∈ ls, l ≠ []) : v = .tuple #[.string (S (joinP ls)), .nilIface] := by
  rcases h with ⟨h, _⟩ | ⟨_, _, h⟩ | ⟨k, e, h, _⟩
  · exact absurd h h1
  · exact h
  · exact absurd rfl (h2 _ (List.mem_of_getElem? h))
set_option maxRecDepth 100000 in
set_option maxHeartbeats 4000000 in
theorem textStill_walk (s : List UInt8) (w : World) (zs : s.length ≤ 140737488351232) : Gives 8 #[.string (S s)] w (.bool true) := by
  by_cases hbig : 500 < s.length
  · go_enter Try.func8, Try.ntmps8
    go_wp2_with fail
    refine (escaped_any _).use ?_; intro w1 g1
    go_wp2_with fail
    go_ret
    exact ⟨rfl, (by repeat (first | exact G.refl _ | assumption | apply G.drew | apply G.alloc | refine G.trans ?_ (by assumption)))⟩
  · have hl : s.length ≤ 500 := by omega
    have hu := fun w => unescape_any s w (by omega)
    have hl1 := fun w => list_any s w (by omega)
    have hp := fun w => parts_any s w (by omega)
    have c44 : ∀ c ∈ ([44] : List UInt8), c = 44 ∨ c = 59 := by simp
    have c4459 : ∀ c ∈ ([44, 59] : List UInt8), c = 44 ∨ c = 59 := by simp
    obtain ⟨r, hr⟩ : ∃ r, piecesGo [44] s 0 [] [] [] = r := ⟨_, rfl⟩
    cases r with
    | bad ec ep =>
      rw [pieces_bad [44] [] c44 (by simp) _ s (Nat.le_refl _) 0 [] [] [] [] [] [] ec ep hr] at hu
      rw [hr] at hl1
      rw [pieces_bad [44] [44, 59] c44 c4459 _ s (Nat.le_refl _) 0 [] [] [] [] [] [] ec ep hr] at hp
      have HU := hid hu
      have HL := hid hl1
      have HP := hid hp
      clear hu hl1 hp hr c44 c4459
      go_enter Try.func8, Try.ntmps8
      go_wp2_with fail
      refine (escaped_any _).use ?_; intro w1 g1
      go_wp2_with fail
      refine (HU.out _).use ?_
      rintro v w2 ⟨e, rfl, he⟩ g2
      obtain ⟨b, rfl, -, -, -⟩ := he
      go_wp2_with fail
      refine (HL.out _).use ?_
      rintro v w3 ⟨e, rfl, he⟩ g3
      obtain ⟨b, rfl, -, -, -⟩ := he
      go_wp2_with fail
      refine (HP.out _).use ?_
      rintro v w4 ⟨e, rfl, he⟩ g4
      obtain ⟨b, rfl, -, -, -⟩ := he
      go_wp2_with fail
      go_ret
      exact ⟨rfl, (by repeat (first | exact G.refl _ | assumption | apply G.drew | apply G.alloc | refine G.trans ?_ (by assumption)))⟩
    | good T C =>
      have nT := pieces_ne hr
      obtain ⟨t, T, rfl⟩ : ∃ t T', T = t :: T' := by cases T with | nil => simp at nT | cons t T => exact ⟨t, T, rfl⟩
      have sT := pieces_sum [44] s.length s (Nat.le_refl _) _ _ _ _ _ _ hr
      have lT := sumL_len (t :: T)
      have hu1 := pieces_text s.length s (Nat.le_refl _) 0 [] [] [] _ _ hr [] rfl
      rw [lib_join] at hu1
      obtain ⟨r2, hr2⟩ : ∃ r, piecesGo [44, 59] s 0 [] [] [] = r := ⟨_, rfl⟩
      cases r2 with
      | bad ec ep =>
        have := pieces_bad [44, 59] [44] c4459 c44 _ s (Nat.le_refl _) 0 [] [] [] [] [] [] ec ep hr2
        rw [hr] at this; cases this
      | good TP CP =>
        have nP := pieces_ne hr2
        obtain ⟨p, TP, rfl⟩ : ∃ t T', TP = t :: T' := by cases TP with | nil => simp at nP | cons t T => exact ⟨t, T, rfl⟩
        have sP := parts_good hr2
        simp only [List.headD_cons, List.tail_cons] at sP
        obtain ⟨L, hL⟩ : ∃ L, partsOf [p] CP TP = L := ⟨_, rfl⟩
        have hLn := parts_ne CP TP [p] (by simp)
        rw [hL] at hLn sP
        rw [hr] at hl1
        rw [hr2] at hp
        rw [hu1] at hu
        have hjl := joinL_le (t :: T)
        have hjp := joinP_le L
        have hlist := fun w => list_any (joinL (t :: T)) w (by simp [sumL] at sT hjl; simp [sumL] at lT; omega)
        rw [list_back] at hlist
        have hparts := fun w => parts_any (joinP L) w (by omega)
        obtain ⟨l0, LL, rfl⟩ : ∃ l LL, L = l :: LL := by cases L with | nil => exact absurd rfl hLn.1 | cons l LL => exact ⟨l, LL, rfl⟩
        obtain ⟨x, xs, CC, e1, e2, e3⟩ := parts_pieces LL l0 (hLn.2 l0 List.mem_cons_self) (fun m hm => hLn.2 m (List.mem_cons_of_mem _ hm)) 0 [] []
        simp only [List.nil_append] at e1
        rw [e1] at hparts
        have hjoin := fun (v : Value) (w : World) (h : IsStrs w v (t :: T)) => join_text v (t :: T) w h (by simp [sumL] at sT ⊢; omega)
        rw [joinR_ne (by simp)] at hjoin
        have hst := joinS_length [44] t T
        have hjs := fun (v : Value) (w : World) (h : IsStrs w v (t :: T)) => joinS_any v t T [44] w h (by simp at lT; simp [sumL] at sT lT; omega) (by
          rw [hst]
          have : (T.map fun q => ([44] : List UInt8).length + q.length) = T.map fun q => q.length + 1 := List.map_congr_left fun q _ => by simp; omega
          rw [this]
          simp [sumL] at sT; omega)
        have HU := hid hu
        have HL := hid hl1
        have HP := hid hp
        have HLI := hid hlist
        have HPA := hid hparts
        have HJ := hid hjoin
        have HJS := hid hjs
        have HLN := hid hLn
        have HE3 := hid e3
        have HLL := hid hL
        have lT2 : (t :: T).length ≤ 1000 := by simp [sumL] at sT lT ⊢; omega
        have HLT := hid lT2
        clear hu hl1 hp hr hr2 hu1 hlist hparts hjoin hjs hLn e1 e2 e3 hL hst nT nP lT sT hjl hjp lT2
        go_enter Try.func8, Try.ntmps8
        go_wp2_with fail
        refine (escaped_any _).use ?_; intro w1 g1
        go_wp2_with fail
        refine (HU.out _).use ?_
        rintro v w2 rfl g2
        go_wp2_with fail
        refine (HL.out _).use ?_
        rintro v w3 ⟨bv, rfl, hb⟩ g3
        have HB := hid hb
        clear hb
        go_wp2_with fail
        refine (HP.out _).use ?_
        rintro v w4 ⟨cv, rfl, hc⟩ g4
        have HC := hid hc
        clear hc
        simp only [List.headD_cons, List.tail_cons] at HC
        rw [HLL.out] at HC
        go_wp2_with fail
        refine (HJ.out _ _ (HB.out.grow g4)).use ?_
        intro w5 g5
        go_wp2_with fail
        refine (HLI.out _).use ?_
        rintro v w6 ⟨yv, rfl, hy⟩ g6
        have HY := hid hy
        clear hy
        go_wp2_with fail
        refine (joinParts_any _ _ _ ((HC.out.grow g5).grow g6) (by omega)).use ?_
        rintro v w7 hv g7
        have hv2 := joinPR_ne hv HLN.out.1 HLN.out.2
        subst hv2
        clear hv
        go_wp2_with fail
        refine (HPA.out _).use ?_
        rintro v w8 ⟨vv, rfl, hv⟩ g8
        have HV := hid hv
        clear hv
        simp only [List.headD_cons, List.tail_cons] at HV
        rw [HE3.out] at HV
        go_wp2_with fail
        refine (eqStrs_any ((((HB.out.grow (g4.trans g5)).grow g6).grow g7).grow g8) ((HY.out.grow g7).grow g8) (by have := HLT.out; omega) (by have := HLT.out; omega)).use ?_
        intro w9 g9
        go_wp2_with fail
        refine (sameLists_any ((((HC.out.grow (g5.trans g6)).grow g7).grow g8).grow g9) (HV.out.grow g9) (by omega) (by omega)).use ?_
        intro w10 g10
        go_wp2_with fail
        refine (HJS.out _ _ ((((((HB.out.grow (g4.trans g5)).grow g6).grow g7).grow g8).grow g9).grow g10)).use ?_
        intro w11 g11
        go_wp2_with fail
        go_ret
        exact ⟨ret_bool (by simp), (by repeat (first | exact G.refl _ | assumption | apply G.drew | apply G.alloc | refine G.trans ?_ (by assumption)))⟩

end Go.Proofs.Ytaakkpkhkbhcmaa
