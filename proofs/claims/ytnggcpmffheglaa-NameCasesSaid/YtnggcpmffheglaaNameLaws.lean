/-
  The walks of the laws NameCases and NameJoins: over all texts of at most 2 to the 47 bytes they return true.
-/
import Derived.Test.YtnggcpmffheglaaName
namespace Go.Proofs.Ytnggcpmffheglaa
open Go.RowKit
set_option linter.unusedVariables false
set_option linter.unusedSimpArgs false

theorem upper_to (l u : List UInt8) (w : World) (hs : l.length ≤ 1000) (hu : upperL l = u) :
    Calls Try.prog 6 #[.string (S l)] w fun e w' => e = .returned (.string (S u)) ∧ G w w' := by
  subst hu; exact upper_any l w (by omega)
theorem lower_to (l u : List UInt8) (w : World) (hs : l.length ≤ 1000) (hu : lowerL l = u) :
    Calls Try.prog 7 #[.string (S l)] w fun e w' => e = .returned (.string (S u)) ∧ G w w' := by
  subst hu; exact lower_any l w (by omega)
theorem is_to (l : List UInt8) (u : Bool) (w : World) (hs : l.length ≤ 1000) (hu : isNameL l = u) :
    Calls Try.prog 8 #[.string (S l)] w fun e w' => e = .returned (.bool u) ∧ w = w' := by
  subst hu; exact is_any l w (by omega)
theorem same_to (a b : List UInt8) (u : Bool) (w : World) (ha : a.length ≤ 1000) (hb : b.length ≤ 1000) (hu : sameL a b = u) :
    Calls Try.prog 9 #[.string (S a), .string (S b)] w fun e w' => e = .returned (.bool u) ∧ G w w' := by
  subst hu; exact same_any a b w (by omega) (by omega)

set_option maxHeartbeats 1000000 in
theorem lettered_any (w : World) :
    Calls Try.prog 5 #[] w fun e w' => e = .returned (.bool true) ∧ G w w' := by
  go_enter Try.func5, Try.ntmps5
  go_wp2_with fail
  refine (upper_to [0x61, 0x5a, 0x2d, 0x31, 0xe9] [0x41, 0x5a, 0x2d, 0x31, 0xe9] _ (by simp) (by decide)).mono ?_; rintro e w1 ⟨rfl, hb1⟩
  go_wp2_with fail
  refine (lower_to [0x61, 0x5a, 0x2d, 0x31] [0x61, 0x7a, 0x2d, 0x31] _ (by simp) (by decide)).mono ?_; rintro e w2 ⟨rfl, hb2⟩
  go_wp2_with fail
  refine (is_to [0x58, 0x2d, 0x61, 0x31] true _ (by simp) (by decide)).mono ?_; rintro e w3 ⟨rfl, rfl⟩
  go_wp2_with fail
  refine (is_to [0x61, 0x20, 0x62] false _ (by simp) (by decide)).mono ?_; rintro e w3 ⟨rfl, rfl⟩
  go_wp2_with fail
  refine (is_to [] false _ (by simp) (by decide)).mono ?_; rintro e w3 ⟨rfl, rfl⟩
  go_wp2_with fail
  refine (same_to [0x61, 0x42] [0x41, 0x62] true _ (by simp) (by simp) (by decide)).mono ?_; rintro e w4 ⟨rfl, hb4⟩
  go_wp2_with fail
  go_ret
  exact ⟨rfl, (hb1.trans hb2).trans hb4⟩

/-! ## the plain law -/
theorem upper_lower (l : List UInt8) : upperL (lowerL l) = upperL l := by
  unfold upperL lowerL
  rw [List.map_map]
  exact List.map_congr_left fun c _ => of_decide_eq_true (byte_all (fun c => decide ((turn1 97 122 (-32) ∘ turn1 65 90 32) c = turn1 97 122 (-32) c)) (by decide +kernel) c)
theorem lower_upper (l : List UInt8) : lowerL (upperL l) = lowerL l := by
  unfold upperL lowerL
  rw [List.map_map]
  exact List.map_congr_left fun c _ => of_decide_eq_true (byte_all (fun c => decide ((turn1 65 90 32 ∘ turn1 97 122 (-32)) c = turn1 65 90 32 c)) (by decide +kernel) c)
theorem upper_upper (l : List UInt8) : upperL (upperL l) = upperL l := by
  unfold upperL
  rw [List.map_map]
  exact List.map_congr_left fun c _ => of_decide_eq_true (byte_all (fun c => decide ((turn1 97 122 (-32) ∘ turn1 97 122 (-32)) c = turn1 97 122 (-32) c)) (by decide +kernel) c)
theorem isName_upper (l : List UInt8) : isNameL (upperL l) = isNameL l := by
  unfold isNameL upperL
  rw [List.all_map, List.length_map]
  have e : ((fun c : UInt8 => letterB c.toNat) ∘ turn1 97 122 (-32)) = fun c : UInt8 => letterB c.toNat := by
    funext c
    exact of_decide_eq_true (byte_all (fun c => decide (((fun c : UInt8 => letterB c.toNat) ∘ turn1 97 122 (-32)) c = letterB c.toNat)) (by decide +kernel) c)
  rw [e]; simp
theorem isName_lower (l : List UInt8) : isNameL (lowerL l) = isNameL l := by
  rw [← isName_upper (lowerL l), upper_lower, isName_upper]
theorem same_upper (l : List UInt8) : sameL l (upperL l) = true := by simp [sameL, upper_upper]
theorem same_lower (l : List UInt8) : sameL (lowerL l) l = true := by simp [sameL, upper_lower]
theorem same_comm (a b : List UInt8) : sameL a b = sameL b a := by unfold sameL; exact Bool.beq_comm
theorem same_iff_lower (a b : List UInt8) : sameL a b = (lowerL a == lowerL b) := by
  unfold sameL
  rw [Bool.eq_iff_iff]
  simp only [beq_iff_eq]
  constructor
  · intro h; rw [← lower_upper a, h, lower_upper]
  · intro h; rw [← upper_lower a, h, upper_lower]

set_option maxHeartbeats 1000000 in
theorem nameCases_walk (s t : List UInt8) (w : World) (zs : s.length ≤ 140737488351232) (zt : t.length ≤ 140737488351232) :
    Calls Try.prog 3 #[.string (S s), .string (S t)] w fun e w' => e = .returned (.bool true) ∧ G w w' := by
  by_cases hlen : s.length + t.length > 300
  · go_enter Try.func3, Try.ntmps3
    go_wp2_with fail
    refine (lettered_any _).mono ?_; rintro e w1 ⟨rfl, hb1⟩
    go_wp2_with fail
    go_ret
    exact ⟨rfl, hb1⟩
  · go_enter Try.func3, Try.ntmps3
    go_wp2_with fail
    refine (lettered_any _).mono ?_; rintro e w1 ⟨rfl, hb1⟩
    go_wp2_with fail
    refine (upper_any s _ (by omega)).mono ?_; rintro e w2 ⟨rfl, hb2⟩
    go_wp2_with fail
    refine (lower_any s _ (by omega)).mono ?_; rintro e w3 ⟨rfl, hb3⟩
    go_wp2_with fail
    refine (upper_any (lowerL s) _ (by simp; omega)).mono ?_; rw [upper_lower]; rintro e w4 ⟨rfl, hb4⟩
    go_wp2_with fail
    refine (lower_any (upperL s) _ (by simp; omega)).mono ?_; rw [lower_upper]; rintro e w5 ⟨rfl, hb5⟩
    go_wp2_with fail
    refine (upper_any (upperL s) _ (by simp; omega)).mono ?_; rw [upper_upper]; rintro e w6 ⟨rfl, hb6⟩
    go_wp2_with fail
    refine (is_any (upperL s) _ (by simp; omega)).mono ?_; rw [isName_upper]; rintro e w7 ⟨rfl, rfl⟩
    go_wp2_with fail
    refine (is_any s _ (by omega)).mono ?_; rintro e w7 ⟨rfl, rfl⟩
    go_wp2_with fail
    refine (is_any (lowerL s) _ (by simp; omega)).mono ?_; rw [isName_lower]; rintro e w7 ⟨rfl, rfl⟩
    go_wp2_with fail
    refine (is_any s _ (by omega)).mono ?_; rintro e w7 ⟨rfl, rfl⟩
    go_wp2_with fail
    refine (same_any s (upperL s) _ (by omega) (by simp; omega)).mono ?_; rw [same_upper]; rintro e w7 ⟨rfl, hb7⟩
    go_wp2_with fail
    refine (same_any (lowerL s) s _ (by simp; omega) (by omega)).mono ?_; rw [same_lower]; rintro e w8 ⟨rfl, hb8⟩
    go_wp2_with fail
    refine (same_any s t _ (by omega) (by omega)).mono ?_; rintro e w9 ⟨rfl, hb9⟩
    go_wp2_with fail
    refine (same_any t s _ (by omega) (by omega)).mono ?_; rw [same_comm t s]; rintro e w10 ⟨rfl, hb10⟩
    go_wp2_with fail
    refine (same_any s t _ (by omega) (by omega)).mono ?_; rintro e w11 ⟨rfl, hb11⟩
    go_wp2_with fail
    refine (lower_any t _ (by omega)).mono ?_; rintro e w12 ⟨rfl, hb12⟩
    go_wp2_with fail
    go_ret
    refine ⟨ret_bool (by rw [same_iff_lower]; simp), ?_⟩
    repeat (first | exact G.refl _ | assumption | refine G.trans ?_ (by assumption))

theorem isName_append (a b : List UInt8) : isNameL (a ++ b) = (((a.isEmpty || isNameL a) && (b.isEmpty || isNameL b)) && (!(a ++ b).isEmpty && decide ((a.length : Int) + b.length ≤ 40))) := by
  unfold isNameL
  rw [List.all_append, Bool.eq_iff_iff]
  have e : ((a ++ b).length : Int) = a.length + b.length := by simp
  rw [e]
  cases a <;> cases b
  · simp
  · simp
  · simp
  · rename_i x a y b
    generalize (x :: a).all _ = p
    generalize (y :: b).all _ = q
    cases p <;> cases q <;> simp <;> omega

set_option maxHeartbeats 2000000 in
theorem nameJoins_walk (a b : List UInt8) (w : World) (za : a.length ≤ 140737488351232) (zb : b.length ≤ 140737488351232) :
    Calls Try.prog 4 #[.string (S a), .string (S b)] w fun e w' => e = .returned (.bool true) ∧ G w w' := by
  by_cases hlen : a.length + b.length > 100
  · go_enter Try.func4, Try.ntmps4
    go_wp2_with fail
    refine (lettered_any _).mono ?_; rintro e w1 ⟨rfl, hb1⟩
    go_wp2_with fail
    go_ret
    exact ⟨rfl, hb1⟩
  · have HJ := hid (isName_append a b)
    by_cases ha : a = [] <;> by_cases hb : b = []
    · subst ha; subst hb
      go_enter Try.func4, Try.ntmps4
      go_wp2_with fail
      refine (lettered_any _).mono ?_; rintro e w1 ⟨rfl, hb1⟩
      go_wp2_with fail
      refine (is_to [] false _ (by simp) (by decide)).mono ?_; rintro e w2 ⟨rfl, rfl⟩
      go_wp2_with fail
      go_ret
      exact ⟨ret_bool rfl, hb1⟩
    · subst ha
      have hb2 : b.isEmpty = false := by simpa using hb
      go_enter Try.func4, Try.ntmps4
      go_wp2_with fail
      refine (lettered_any _).mono ?_; rintro e w1 ⟨rfl, hb1⟩
      go_wp2_with fail
      refine (is_any b _ (by omega)).mono ?_; rintro e w2 ⟨rfl, rfl⟩
      go_wp2_with fail
      refine (is_any b _ (by omega)).mono ?_; rintro e w2 ⟨rfl, rfl⟩
      go_wp2_with fail
      all_goals go_ret
      all_goals refine ⟨ret_bool ?_, hb1⟩
      all_goals have hj := HJ.out
      all_goals simp_all
    · subst hb
      have ha2 : a.isEmpty = false := by simpa using ha
      go_enter Try.func4, Try.ntmps4
      go_wp2_with fail
      refine (lettered_any _).mono ?_; rintro e w1 ⟨rfl, hb1⟩
      go_wp2_with fail
      refine (is_any a _ (by omega)).mono ?_; rintro e w2 ⟨rfl, rfl⟩
      go_wp2_with fail
      refine (is_any a _ (by omega)).mono ?_; rintro e w2 ⟨rfl, rfl⟩
      go_wp2_with fail
      all_goals go_ret
      all_goals refine ⟨ret_bool ?_, hb1⟩
      all_goals have hj := HJ.out
      all_goals simp_all
    · have hb2 : b.isEmpty = false := by simpa using hb
      have ha2 : a.isEmpty = false := by simpa using ha
      go_enter Try.func4, Try.ntmps4
      go_wp2_with fail
      refine (lettered_any _).mono ?_; rintro e w1 ⟨rfl, hb1⟩
      go_wp2_with fail
      refine (is_any (a ++ b) _ (by simp; omega)).mono ?_; rintro e w2 ⟨rfl, rfl⟩
      go_wp2_with fail
      refine (is_any a _ (by omega)).mono ?_; rintro e w2 ⟨rfl, rfl⟩
      cases hia : isNameL a
      · go_wp2_with fail
        go_ret
        refine ⟨ret_bool ?_, hb1⟩
        have hj := HJ.out
        simp_all
      · go_wp2_with fail
        refine (is_any b _ (by omega)).mono ?_; rintro e w2 ⟨rfl, rfl⟩
        go_wp2_with fail
        all_goals go_ret
        all_goals refine ⟨ret_bool ?_, hb1⟩
        all_goals have hj := HJ.out
        all_goals simp_all

end Go.Proofs.Ytnggcpmffheglaa
