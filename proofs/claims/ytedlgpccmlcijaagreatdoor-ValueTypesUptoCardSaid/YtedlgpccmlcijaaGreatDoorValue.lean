/-
  CONTRACTS of package value: bare, only.
-/
import Derived.Test.YtedlgpccmlcijaaGreatDoorMVal
import Derived.Test.YtedlgpccmlcijaaGreatDoorMTell
namespace Go.Proofs.YtedlgpccmlcijaaGreatDoor
open Go.RowKit
set_option linter.unusedVariables false
set_option linter.unusedSimpArgs false

def Vl.v (x : Vl) (pv : Value) : Value := .agg #[.int .i64 x.ty, .string (S x.tx), pv, .int .i64 x.st.y, .int .i64 x.st.m, .int .i64 x.st.d, .int .i64 x.st.h, .int .i64 x.st.n, .int .i64 x.st.s, .bool x.st.zd, .int .i64 x.st.zn, .int .i64 x.n]
set_option maxRecDepth 100000 in
set_option maxHeartbeats 400000 in
theorem bare_nil (w : World) : Gives 25 #[.nilIface] w .nilIface := by
  go_enter Tryz.func25, Tryz.ntmps25
  go_wp2_with fail
  go_ret
  exact ⟨rfl, G.refl _⟩
set_option maxRecDepth 100000 in
set_option maxHeartbeats 400000 in
theorem bare_eno (c : Int) (w : World) (hE : LaidE w) : Gives 25 #[eno c] w (eno c) := by
  have h := tell_eno c w hE
  have H := hid h
  clear h
  go_enter Tryz.func25, Tryz.ntmps25
  go_wp2_with fail
  refine (H.out).use ?_
  intro w1 g1
  go_wp2_with fail
  go_ret
  exact ⟨rfl, g1⟩
set_option maxRecDepth 100000 in
set_option maxHeartbeats 400000 in
theorem bare_at (v : Value) (c p : Int) (w : World) (hE : LaidE w) (hv : IsAt w v c p) : Gives 25 #[v] w (eno c) := by
  have h := tell_at c p v w hE hv
  have H := hid h
  obtain ⟨b, rfl, _⟩ := hv
  clear h
  go_enter Tryz.func25, Tryz.ntmps25
  go_wp2_with fail
  refine (H.out).use ?_
  intro w1 g1
  go_wp2_with fail
  go_ret
  exact ⟨rfl, g1⟩

set_option maxRecDepth 100000 in
set_option maxHeartbeats 4000000 in
theorem only_any (x : Vl) (a : Option Addr) (cap : Nat) (w : World) (hk : 1 ≤ x.ty ∧ x.ty < 9) : Gives 24 #[x.v (.slice a x.ps.length cap)] w (.bool x.only) := by
  obtain ⟨ty, tx, ps, st, n⟩ := x
  obtain ⟨y, m, d, h, nn, s, zd, zn⟩ := st
  simp only at hk
  simp only [Vl.v]
  have hty : ty = 1 ∨ ty = 2 ∨ ty = 3 ∨ ty = 4 ∨ ty = 5 ∨ ty = 6 ∨ ty = 7 ∨ ty = 8 := by omega
  clear hk
  rcases hty with rfl | rfl | rfl | rfl | rfl | rfl | rfl | rfl
  all_goals
    go_enter Tryz.func24, Tryz.ntmps24
    go_wp2_with fail
    all_goals (go_ret; refine ⟨ret_bool ?_, (G.refl _).alloc _⟩; simp_all [Vl.only, isT, isL, St.isZero]; (try rfl))

end Go.Proofs.YtedlgpccmlcijaaGreatDoor
