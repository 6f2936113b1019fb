/-
  The walk of the law UtfBack: for all numbers and texts it returns true, in every world that holds errors.errorType.
-/
import Derived.Test.YtaiehmahgejhdaaDoorUtfF
import Derived.Test.YtaiehmahgejhdaaDoorTell
namespace Go.Proofs.YtaiehmahgejhdaaDoor
open Go.RowKit
set_option linter.unusedVariables false
set_option linter.unusedSimpArgs false

set_option maxRecDepth 100000 in
set_option maxHeartbeats 1000000 in
theorem utfBack_walk (r : Int) (more : List UInt8) (w : World) (hr : -9223372036854775808 ≤ r ∧ r ≤ 9223372036854775807) (hm : more.length ≤ 140737488351232) (hE : LaidE w) : Gives 4 #[.int .i64 r, .string (S more)] w (.bool true) := by
  by_cases hl : more.length ≤ 100
  case neg =>
    go_enter Tryd.func4, Tryd.ntmps4
    go_wp2_with fail
    refine (pointed_any _).use ?_; intro w1 g1
    go_wp2_with fail
    go_ret
    exact ⟨rfl, (by repeat (first | exact G.refl _ | assumption | apply G.drew | apply G.alloc | refine G.trans ?_ (by assumption)))⟩
  cases hb : mayB r with
  | false =>
    have HB := hid hb
    clear hb
    go_enter Tryd.func4, Tryd.ntmps4
    go_wp2_with fail
    refine (pointed_any _).use ?_; intro w1 g1
    go_wp2_with fail
    refine (point_bad r _ HB.out).use ?_; intro w2 g2
    go_wp2_with fail
    refine (may_any r _).use ?_
    rw [HB.out]
    go_wp2_with fail
    refine (tell_eno 2 _ (hE.grow (by repeat (first | exact G.refl _ | assumption | apply G.drew | apply G.alloc | refine G.trans ?_ (by assumption))))).use ?_; intro w3 g3
    go_wp2_with fail
    go_ret
    exact ⟨rfl, (by repeat (first | exact G.refl _ | assumption | apply G.drew | apply G.alloc | refine G.trans ?_ (by assumption)))⟩
  | true =>
    have HB := hid hb
    have HN := hid (next_point hb more)
    have hp := pointL_len r
    clear hb
    obtain ⟨t, ht⟩ : ∃ t, pointL r = t := ⟨_, rfl⟩
    have HT := hid ht
    have hn := HN.out
    rw [ht] at hn hp
    have HN2 := hid hn
    clear hn HN ht
    go_enter Tryd.func4, Tryd.ntmps4
    go_wp2_with fail
    refine (pointed_any _).use ?_; intro w1 g1
    go_wp2_with fail
    refine (point_to r t _ HB.out HT.out).use ?_; intro w2 g2
    go_wp2_with fail
    refine (may_any r _).use ?_
    rw [HB.out]
    go_wp2_with fail
    refine (next_to (t ++ more) r t.length _ (by simp; omega) HN2.out).use ?_
    go_wp2_with fail
    go_ret
    exact ⟨ret_bool (by simp; try omega), (by repeat (first | exact G.refl _ | assumption | apply G.drew | apply G.alloc | refine G.trans ?_ (by assumption)))⟩

end Go.Proofs.YtaiehmahgejhdaaDoor
