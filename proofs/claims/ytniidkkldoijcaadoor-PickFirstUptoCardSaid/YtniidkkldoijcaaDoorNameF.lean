/-
  Contracts of name in the form that laws use, and the plain laws of letters.
-/
import Derived.Test.YtniidkkldoijcaaDoorMErr
namespace Go.Proofs.YtniidkkldoijcaaDoor
open Go.RowKit
set_option linter.unusedVariables false
set_option linter.unusedSimpArgs false

theorem upper_to (l u : List UInt8) (w : World) (hs : l.length ≤ 1000) (hu : upperL l = u) :
    Gives 34 #[.string (S l)] w (.string (S u)) := by
  subst hu; exact upper_any l w (by omega)
theorem lower_to (l u : List UInt8) (w : World) (hs : l.length ≤ 1000) (hu : lowerL l = u) :
    Gives 17 #[.string (S l)] w (.string (S u)) := by
  subst hu; exact lower_any l w (by omega)
theorem is_to (l : List UInt8) (u : Bool) (w : World) (hs : l.length ≤ 1000) (hu : isNameL l = u) :
    Pure 36 #[.string (S l)] w (.bool u) := by
  subst hu; exact is_any l w (by omega)
theorem same_to (a b : List UInt8) (u : Bool) (w : World) (ha : a.length ≤ 1000) (hb : b.length ≤ 1000) (hu : sameL a b = u) :
    Gives 13 #[.string (S a), .string (S b)] w (.bool u) := by
  subst hu; exact same_any a b w (by omega) (by omega)

set_option maxRecDepth 100000 in
set_option maxHeartbeats 1000000 in
theorem lettered_any (w : World) :
    Gives 9 #[] w (.bool true) := by
  go_enter Tryd.func9, Tryd.ntmps9
  go_wp2_with fail
  refine (upper_to [0x61, 0x5a, 0x2d, 0x31, 0xe9] [0x41, 0x5a, 0x2d, 0x31, 0xe9] _ (by simp) (by decide)).use ?_; intro w1 hb1
  go_wp2_with fail
  refine (lower_to [0x61, 0x5a, 0x2d, 0x31] [0x61, 0x7a, 0x2d, 0x31] _ (by simp) (by decide)).use ?_; intro w2 hb2
  go_wp2_with fail
  refine (is_to [0x58, 0x2d, 0x61, 0x31] true _ (by simp) (by decide)).use ?_
  go_wp2_with fail
  refine (is_to [0x61, 0x20, 0x62] false _ (by simp) (by decide)).use ?_
  go_wp2_with fail
  refine (is_to [] false _ (by simp) (by decide)).use ?_
  go_wp2_with fail
  refine (same_to [0x61, 0x42] [0x41, 0x62] true _ (by simp) (by simp) (by decide)).use ?_; intro w4 hb4
  go_wp2_with fail
  go_ret
  exact ⟨rfl, (hb1.trans hb2).trans hb4⟩

/-! ## the plain law -/
theorem upper_lower (l : List UInt8) : upperL (lowerL l) = upperL l := by
  unfold upperL lowerL
  rw [List.map_map]
  exact List.map_congr_left fun c _ => of_decide_eq_true (byte_all (fun c => decide ((turn1 97 122 (-32) ∘ turn1 65 90 32) c = turn1 97 122 (-32) c)) (by decide +kernel) c)
theorem lower_upper (l : List UInt8) : lowerL (upperL l) = lowerL l := by
  unfold upperL lowerL
  rw [List.map_map]
  exact List.map_congr_left fun c _ => of_decide_eq_true (byte_all (fun c => decide ((turn1 65 90 32 ∘ turn1 97 122 (-32)) c = turn1 65 90 32 c)) (by decide +kernel) c)
theorem upper_upper (l : List UInt8) : upperL (upperL l) = upperL l := by
  unfold upperL
  rw [List.map_map]
  exact List.map_congr_left fun c _ => of_decide_eq_true (byte_all (fun c => decide ((turn1 97 122 (-32) ∘ turn1 97 122 (-32)) c = turn1 97 122 (-32) c)) (by decide +kernel) c)
theorem isName_upper (l : List UInt8) : isNameL (upperL l) = isNameL l := by
  unfold isNameL upperL
  rw [List.all_map, List.length_map]
  have e : ((fun c : UInt8 => letterB c.toNat) ∘ turn1 97 122 (-32)) = fun c : UInt8 => letterB c.toNat := by
    funext c
    exact of_decide_eq_true (byte_all (fun c => decide (((fun c : UInt8 => letterB c.toNat) ∘ turn1 97 122 (-32)) c = letterB c.toNat)) (by decide +kernel) c)
  rw [e]; simp
theorem isName_lower (l : List UInt8) : isNameL (lowerL l) = isNameL l := by
  rw [← isName_upper (lowerL l), upper_lower, isName_upper]
theorem same_upper (l : List UInt8) : sameL l (upperL l) = true := by simp [sameL, upper_upper]
theorem same_lower (l : List UInt8) : sameL (lowerL l) l = true := by simp [sameL, upper_lower]
theorem same_comm (a b : List UInt8) : sameL a b = sameL b a := by unfold sameL; exact Bool.beq_comm
theorem same_iff_lower (a b : List UInt8) : sameL a b = (lowerL a == lowerL b) := by
  unfold sameL
  rw [Bool.eq_iff_iff]
  simp only [beq_iff_eq]
  constructor
  · intro h; rw [← lower_upper a, h, lower_upper]
  · intro h; rw [← upper_lower a, h, upper_lower]

theorem isName_append (a b : List UInt8) : isNameL (a ++ b) = (((a.isEmpty || isNameL a) && (b.isEmpty || isNameL b)) && (!(a ++ b).isEmpty && decide ((a.length : Int) + b.length ≤ 40))) := by
  unfold isNameL
  rw [List.all_append, Bool.eq_iff_iff]
  have e : ((a ++ b).length : Int) = a.length + b.length := by simp
  rw [e]
  cases a <;> cases b
  · simp
  · simp
  · simp
  · rename_i x a y b
    generalize (x :: a).all _ = p
    generalize (y :: b).all _ = q
    cases p <;> cases q <;> simp <;> omega


end Go.Proofs.YtniidkkldoijcaaDoor
