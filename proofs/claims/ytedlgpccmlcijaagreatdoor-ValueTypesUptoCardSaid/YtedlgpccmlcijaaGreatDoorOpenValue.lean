/-
  An api.Value as an argument, opened. Plain.
-/
import Derived.Test.YtedlgpccmlcijaaGreatDoorOpenLists
import Derived.Test.YtedlgpccmlcijaaGreatDoorValue
import Derived.ChangeArms
import Derived.ChangeSame
import Derived.WideShapes
import Derived.ChangeMaps5
import Derived.Carry
namespace Go.Proofs.YtedlgpccmlcijaaGreatDoor
open Go.RowKit Go.ChangeShapes Go.WideShapes
set_option linter.unusedVariables false
set_option linter.unusedSimpArgs false

theorem inI_ofV {n : Int} (h : (Lit.int .i64 n).wf = true) : -9223372036854775808 ≤ n ∧ n ≤ 9223372036854775807 := by
  simpa [Lit.wf, IntKind.min, IntKind.max, IntKind.signed, IntKind.bits] using h
set_option maxRecDepth 100000 in
set_option maxHeartbeats 1000000 in
theorem open_value {H : Type} {enc : TypeId × Value → H} {W : World} {r : Reach} {b0 : Nat} {v : Value} {d : DataW H} {ps : List MemPlace}
    (hval : Value.okWide Tryz.prog W r b0 26 v) (hd : DataW.Trod enc Tryz.prog W 0 (fun _ => true) true 26 v d ps) :
    ∃ (x : Vl) (a : Option Addr) (ca : Nat), v = x.v (.slice a x.ps.length ca) ∧ IsLists W (.slice a x.ps.length ca) x.ps ∧ x.tx.length + sumP x.ps ≤ Rows.uptoBulk d ∧ (-9223372036854775808 ≤ x.st.y ∧ x.st.y ≤ 9223372036854775807) ∧ (-9223372036854775808 ≤ x.ty ∧ x.ty ≤ 9223372036854775807) := by
  obtain ⟨cs, rfl, hcs⟩ := okWide_struct Tryz.underlying26 hval
  obtain ⟨fuel, hf⟩ := hd
  obtain ⟨xs, n, _, hx, hl, hlen, hfs⟩ := DataW.trod_struct Tryz.underlying26 hf
  have h12 : cs.size = 12 := hcs.trans (by kernel_rfl)
  have hxl : xs.length = 5 := hlen
  obtain ⟨cs⟩ := cs
  simp only [List.size_toArray] at h12
  match cs, h12 with
  | [c0, c1, c2, c3, c4, c5, c6, c7, c8, c9, c10, c11], _ =>
  match xs, hxl with
  | [x0, x1, x2, x3, x4], _ =>
  have k0 := hfs 0 _ rfl
  have k1 := hfs 1 _ rfl
  have k2 := hfs 2 _ rfl
  have k3 := hfs 3 _ rfl
  have k4 := hfs 4 _ rfl
  obtain ⟨a0, e0, f0, w0⟩ := DataW.trod_int Tryz.underlying3 k0
  obtain ⟨l, e1, z1⟩ := open_str Tryz.underlying9 k1
  obtain ⟨pv, ls, e2, hL, z2⟩ := open_lists Tryz.underlying22 Tryz.underlying42 Tryz.underlying9 (by kernel_rfl) (by kernel_rfl) k2
  obtain ⟨ys, n', _, hy, hl', hlen', hgs⟩ := DataW.trod_struct Tryz.underlying24 k3
  obtain ⟨a4, e4, f4, w4⟩ := DataW.trod_int Tryz.underlying3 k4
  have hyl : ys.length = 8 := hlen'
  match ys, hyl with
  | [y0, y1, y2, y3, y4, y5, y6, y7], _ =>
  have q0 := hgs 0 _ rfl
  have q1 := hgs 1 _ rfl
  have q2 := hgs 2 _ rfl
  have q3 := hgs 3 _ rfl
  have q4 := hgs 4 _ rfl
  have q5 := hgs 5 _ rfl
  have q6 := hgs 6 _ rfl
  have q7 := hgs 7 _ rfl
  obtain ⟨b0', m0, _, v0⟩ := DataW.trod_int Tryz.underlying3 q0
  obtain ⟨b1, m1, _, _⟩ := DataW.trod_int Tryz.underlying3 q1
  obtain ⟨b2, m2, _, _⟩ := DataW.trod_int Tryz.underlying3 q2
  obtain ⟨b3, m3, _, _⟩ := DataW.trod_int Tryz.underlying3 q3
  obtain ⟨b4, m4, _, _⟩ := DataW.trod_int Tryz.underlying3 q4
  obtain ⟨b5, m5, _, _⟩ := DataW.trod_int Tryz.underlying3 q5
  obtain ⟨b6, m6, _⟩ := DataW.trod_bool Tryz.underlying4 q6
  obtain ⟨b7, m7, _, _⟩ := DataW.trod_int Tryz.underlying3 q7
  have g0 : c0 = .int .i64 a0 := (List.cons.inj e0).1
  have g1 : c1 = .string (S l) := (List.cons.inj e1).1
  have g2 : c2 = pv := (List.cons.inj e2).1
  have g3 : c3 = .int .i64 b0' := (List.cons.inj m0).1
  have g4 : c4 = .int .i64 b1 := (List.cons.inj m1).1
  have g5 : c5 = .int .i64 b2 := (List.cons.inj m2).1
  have g6 : c6 = .int .i64 b3 := (List.cons.inj m3).1
  have g7 : c7 = .int .i64 b4 := (List.cons.inj m4).1
  have g8 : c8 = .int .i64 b5 := (List.cons.inj m5).1
  have g9 : c9 = .bool b6 := (List.cons.inj m6).1
  have g10 : c10 = .int .i64 b7 := (List.cons.inj m7).1
  have g11 : c11 = .int .i64 a4 := (List.cons.inj e4).1
  obtain ⟨a, ca, hpv, _⟩ := hL.len
  subst hpv
  subst g0 g1 g2 g3 g4 g5 g6 g7 g8 g9 g10 g11
  have hd : d = .agg [x0.1, x1.1, x2.1, x3.1, x4.1] := (Prod.mk.injEq _ _ _ _ ▸ hx).1
  refine ⟨⟨a0, l, ls, ⟨b0', b1, b2, b3, b4, b5, b6, b7⟩, a4⟩, a, ca, rfl, hL, ?_, inI_ofV v0, inI_ofV w0⟩
  rw [hd]
  simp only [Rows.uptoBulk, Rows.uptoBulkAll]
  omega

end Go.Proofs.YtedlgpccmlcijaaGreatDoor
