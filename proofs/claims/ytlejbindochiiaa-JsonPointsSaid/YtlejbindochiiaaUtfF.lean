/-
  Contracts of utf in the form that laws use, and the fact that the laws of utf ask first.
-/
import Derived.Test.YtlejbindochiiaaUtfPlain
import Derived.Test.YtlejbindochiiaaIntsEq
import Derived.Test.YtlejbindochiiaaPick
namespace Go.Proofs.Ytlejbindochiiaa
open Go.RowKit
set_option linter.unusedVariables false
set_option linter.unusedSimpArgs false

theorem point_to (r : Int) (t : List UInt8) (w : World) (h : mayB r = true) (ht : pointL r = t) : Gives 29 #[.int .i64 r] w (.tuple #[.string (S t), .nilIface]) := by
  subst ht; exact point_any r w h
theorem next_to (l : List UInt8) (r n : Int) (w : World) (hl : l.length ≤ 1000) (h : nextL l = (r, n)) : Pure 30 #[.string (S l)] w (.tuple #[.int .i64 r, .int .i64 n]) := next_of h w (by omega)
theorem bad_to (l : List UInt8) (b : Option Nat) (w : World) (hl : l.length ≤ 1000000) (h : badL l = b) : Pure 22 #[.string (S l)] w (.int .i64 (badV b)) := by
  subst h; exact bad_any l w (by omega)
theorem pts_good (l : List UInt8) (w : World) (hl : l.length ≤ 1000000) (h : badL l = none) : Makes 14 #[.string (S l)] w (fun v w' => ∃ s, v = .tuple #[s, .nilIface] ∧ IsInts w' s (ptsL l)) :=
  (pts_any l w hl).mono fun v w' _ hq => by unfold PtsPost at hq; rw [h] at hq; exact hq
theorem pts_wrong (l : List UInt8) (k : Nat) (w : World) (hl : l.length ≤ 1000000) (h : badL l = some k) : Makes 14 #[.string (S l)] w (fun v w' => ∃ e, v = .tuple #[.slice none 0 0, e] ∧ IsAt w' e 3 k) :=
  (pts_any l w hl).mono fun v w' _ hq => by unfold PtsPost at hq; rw [h] at hq; exact hq
theorem IsInts.lit2 (w : World) (a b : Int) (t : TypeId) : IsInts (w.alloc (.cells #[.int .i64 a, .int .i64 b] t)) (.slice (some ⟨w.heap.size, 0, none⟩) 2 2) [a, b] :=
  Or.inr ⟨w.heap.size, 2, rfl, by simp, by simp, fun j hj => by
    rw [World.cell?_alloc_new]
    match j, hj with
    | 0, _ => rfl
    | 1, _ => rfl⟩
theorem ptsA : badL [97, 195, 169] = none ∧ ptsL [97, 195, 169] = [97, 233] := by
  have e1 : nextL [97, 195, 169] = (97, 1) := by decide
  have e2 : nextL [195, 169] = (233, 2) := by decide
  refine ⟨?_, ?_⟩
  · rw [badL_step (by unfold stepL; rw [e1]; decide)]
    have : stepL [97, 195, 169] = 1 := by unfold stepL; rw [e1]; decide
    rw [this]
    show (badL [195, 169]).map _ = _
    rw [badL_step (by unfold stepL; rw [e2]; decide)]
    have : stepL [195, 169] = 2 := by unfold stepL; rw [e2]; decide
    rw [this]
    show ((badL []).map _).map _ = _
    rw [badL_nil]; rfl
  · rw [ptsL_step (by unfold stepL; rw [e1]; decide), e1]
    have : stepL [97, 195, 169] = 1 := by unfold stepL; rw [e1]; decide
    rw [this]
    show _ :: ptsL [195, 169] = _
    rw [ptsL_step (by unfold stepL; rw [e2]; decide), e2]
    have : stepL [195, 169] = 2 := by unfold stepL; rw [e2]; decide
    rw [this]
    show _ :: _ :: ptsL [] = _
    rw [ptsL_nil]
theorem badA : badL [97, 255] = some 1 := by
  have e1 : nextL [97, 255] = (97, 1) := by decide
  have e2 : nextL [255] = (0, 0) := by decide
  rw [badL_step (by unfold stepL; rw [e1]; decide)]
  have : stepL [97, 255] = 1 := by unfold stepL; rw [e1]; decide
  rw [this]
  show (badL [255]).map _ = _
  rw [badL_zero (by simp) (by unfold stepL; rw [e2]; decide)]; rfl

set_option maxRecDepth 100000 in
set_option maxHeartbeats 1000000 in
theorem pointed_any (w : World) : Gives 13 #[] w (.bool true) := by
  go_enter Try.func13, Try.ntmps13
  go_wp2_with fail
  refine (point_to 0x20ac [0xe2, 0x82, 0xac] _ (by decide) (by decide)).use ?_; intro w1 g1
  go_wp2_with fail
  refine (next_to [0xf0, 0x9f, 0x98, 0x80, 0x78] 0x1f600 4 _ (by simp) (by decide)).use ?_
  go_wp2_with fail
  refine (pts_good [97, 195, 169] _ (by simp) ptsA.1).use ?_
  rintro v w2 ⟨s, rfl, hs⟩ g2
  rw [ptsA.2] at hs
  have Hs := hid hs
  clear hs
  go_wp2_with fail
  refine (intsEqual_any (Hs.out.grow ((G.refl _).alloc _)) (IsInts.lit2 w2 97 233 _) (by simp) (by simp)).use ?_; intro w3 g3
  go_wp2_with fail
  refine (bad_to [97, 255] (some 1) _ (by simp) badA).use ?_
  go_wp2_with fail
  go_ret
  refine ⟨ret_bool (by decide), (by repeat (first | exact G.refl _ | assumption | apply G.drew | apply G.drewN | apply G.alloc | refine G.trans ?_ (by assumption)))⟩

end Go.Proofs.Ytlejbindochiiaa
