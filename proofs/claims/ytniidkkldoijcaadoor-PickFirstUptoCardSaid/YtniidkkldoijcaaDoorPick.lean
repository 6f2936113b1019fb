/-
  CONTRACT of the statements' own function pick: one of n that a number stands for.
-/
import Derived.Test.YtniidkkldoijcaaDoorBase
namespace Go.Proofs.YtniidkkldoijcaaDoor
open Go.RowKit
set_option linter.unusedVariables false
set_option linter.unusedSimpArgs false

def pickV (a n : Int) : Nat := ((a % 18446744073709551616) % n).toNat
theorem pickV_lt (a : Int) {n : Int} (h : 1 ≤ n) : (pickV a n : Int) < n := by
  unfold pickV
  have h1 := Int.emod_nonneg (a % 18446744073709551616) (show n ≠ 0 by omega)
  have h2 := Int.emod_lt_of_pos (a % 18446744073709551616) (show 0 < n by omega)
  omega
set_option maxRecDepth 100000 in
set_option maxHeartbeats 400000 in
theorem pick_any (a n : Int) (w : World) (h1 : 1 ≤ n) (h2 : n ≤ 4611686018427387904) : Pure 25 #[.int .i64 a, .int .i64 n] w (.int .i64 (pickV a n)) := by
  go_enter Tryd.func25, Tryd.ntmps25
  go_wp2
  go_ret
  refine ⟨ret_int ?_, rfl⟩
  have hw : IntKind.u64.wrap a = a % 18446744073709551616 := IntKind.wrap_u64 a
  have h0 : 0 ≤ a % 18446744073709551616 := Int.emod_nonneg _ (by omega)
  rw [hw, Int.tmod_eq_emod_of_nonneg h0]
  have h3 := Int.emod_nonneg (a % 18446744073709551616) (show n ≠ 0 by omega)
  have h4 := Int.emod_lt_of_pos (a % 18446744073709551616) (show 0 < n by omega)
  unfold pickV
  rw [IntWalk.wrap64_in _ ⟨by omega, by omega⟩]
  omega
end Go.Proofs.YtniidkkldoijcaaDoor
