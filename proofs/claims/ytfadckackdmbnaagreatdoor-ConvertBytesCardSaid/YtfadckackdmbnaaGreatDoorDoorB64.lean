/-
  The walks of the laws B64Back, B64Joins and B64Cut: for all texts and numbers they return true, in every world that holds errors.errorType.
-/
import Derived.Test.YtfadckackdmbnaaGreatDoorMA41
import Derived.Test.YtfadckackdmbnaaGreatDoorMA60
import Derived.Test.YtfadckackdmbnaaGreatDoorMA46
import Derived.Test.YtfadckackdmbnaaGreatDoorMTell
namespace Go.Proofs.YtfadckackdmbnaaGreatDoor
open Go.RowKit
set_option linter.unusedVariables false
set_option linter.unusedSimpArgs false
theorem dec_TWF : b64D [84, 87, 70, 61] = .error 2 := by
  have i0 : idxB 84 = 19 := by decide +kernel
  have i1 : idxB 87 = 22 := by decide +kernel
  have i2 : idxB 70 = 5 := by decide +kernel
  rw [decL_cons]
  have : decQ true 84 87 70 61 = .error 2 := by
    unfold decQ
    rw [i0, i1, i2, if_neg (by decide), if_neg (by decide), if_neg (by decide), if_neg (by decide), if_pos ⟨rfl, rfl⟩, if_neg (by decide)]
  simp only [List.isEmpty_nil]
  rw [this]
theorem encode_to (l t : List UInt8) (w : World) (hl : l.length ≤ 1099511627776) (h : b64E l = t) : Gives 44 #[.string (S l)] w (.string (S t)) := by
  subst h; exact b64encode_any l w hl
set_option maxRecDepth 100000 in
set_option maxHeartbeats 1000000 in
theorem based_any (w : World) (hE : LaidE w) : Gives 43 #[] w (.bool true) := by
  go_enter Tryz.func43, Tryz.ntmps43
  go_wp2_with fail
  refine (decode_ok [84, 87, 69, 61] [77, 97] _ (by simp) rfl (by have := b64_back [77, 97]; rwa [show b64E [77, 97] = [84, 87, 69, 61] by decide +kernel] at this)).use ?_; intro w1 g1
  go_wp2_with fail
  refine (decode_err [84, 87, 70, 61] 2 _ (by simp) rfl dec_TWF).use ?_
  rintro v w2 ⟨e, rfl, he⟩ g2
  have HE := hid he
  clear he
  go_wp2_with fail
  refine (tell_at 3 _ e _ (hE.grow (by repeat (first | exact G.refl _ | assumption | apply G.drew | apply G.drewN | apply G.alloc | refine G.trans ?_ (by assumption)))) HE.out).use ?_; intro w3 g3
  go_wp2_with fail
  refine (encode_to [77, 97, 110] [84, 87, 70, 117] _ (by simp) (by decide +kernel)).use ?_; intro w4 g4
  go_wp2_with fail
  go_ret
  exact ⟨rfl, (by repeat (first | exact G.refl _ | assumption | apply G.drew | apply G.drewN | apply G.alloc | refine G.trans ?_ (by assumption)))⟩
end Go.Proofs.YtfadckackdmbnaaGreatDoor
