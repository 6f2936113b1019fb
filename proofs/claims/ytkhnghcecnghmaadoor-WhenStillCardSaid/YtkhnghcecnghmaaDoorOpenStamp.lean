/-
  A Stamp as an argument, opened. Plain.
-/
import Derived.Test.YtkhnghcecnghmaaDoorWhenPrint
import Derived.ChangeArms
import Derived.ChangeSame
import Derived.WideShapes
import Derived.ChangeMaps5
import Derived.Carry
namespace Go.Proofs.YtkhnghcecnghmaaDoor
open Go.RowKit Go.ChangeShapes Go.WideShapes
set_option linter.unusedVariables false
set_option linter.unusedSimpArgs false

def inI (n : Int) : Prop := -9223372036854775808 ≤ n ∧ n ≤ 9223372036854775807
theorem inI_of {n : Int} (h : (Lit.int .i64 n).wf = true) : -9223372036854775808 ≤ n ∧ n ≤ 9223372036854775807 := by
  simpa [Lit.wf, IntKind.min, IntKind.max, IntKind.signed, IntKind.bits] using h
/-- the numbers of a stamp are ints -/
structure St.In (x : St) : Prop where
  y : -9223372036854775808 ≤ x.y ∧ x.y ≤ 9223372036854775807
  m : -9223372036854775808 ≤ x.m ∧ x.m ≤ 9223372036854775807
  d : -9223372036854775808 ≤ x.d ∧ x.d ≤ 9223372036854775807
  h : -9223372036854775808 ≤ x.h ∧ x.h ≤ 9223372036854775807
  n : -9223372036854775808 ≤ x.n ∧ x.n ≤ 9223372036854775807
  s : -9223372036854775808 ≤ x.s ∧ x.s ≤ 9223372036854775807
  z : -9223372036854775808 ≤ x.zn ∧ x.zn ≤ 9223372036854775807
set_option maxRecDepth 100000 in
set_option maxHeartbeats 400000 in
theorem open_stamp {H : Type} {enc : TypeId × Value → H} {w W : World} {r : Reach} {b0 base : Nat} {sp : Nat → Bool} {held : Bool} {v : Value} {d : DataW H} {ps : List MemPlace}
    (hval : Value.okWide Tryd.prog W r b0 23 v) (hd : DataW.Trod enc Tryd.prog w base sp held 23 v d ps) : ∃ x : St, v = x.v ∧ ps = [] ∧ x.In := by
  obtain ⟨cs, rfl, hcs⟩ := okWide_struct Tryd.underlying23 hval
  obtain ⟨fuel, hf⟩ := hd
  obtain ⟨xs, n, _, hx, hl, hlen, hfs⟩ := DataW.trod_struct Tryd.underlying23 hf
  have h8 : cs.size = 8 := hcs.trans (by kernel_rfl)
  have hxl : xs.length = 8 := hlen
  obtain ⟨cs⟩ := cs
  simp only [List.size_toArray] at h8
  match cs, h8 with
  | [c0, c1, c2, c3, c4, c5, c6, c7], _ =>
  match xs, hxl with
  | [x0, x1, x2, x3, x4, x5, x6, x7], _ =>
  have k0 := hfs 0 _ rfl
  have k1 := hfs 1 _ rfl
  have k2 := hfs 2 _ rfl
  have k3 := hfs 3 _ rfl
  have k4 := hfs 4 _ rfl
  have k5 := hfs 5 _ rfl
  have k6 := hfs 6 _ rfl
  have k7 := hfs 7 _ rfl
  obtain ⟨a0, e0, f0, w0⟩ := DataW.trod_int Tryd.underlying3 k0
  obtain ⟨a1, e1, f1, w1⟩ := DataW.trod_int Tryd.underlying3 k1
  obtain ⟨a2, e2, f2, w2⟩ := DataW.trod_int Tryd.underlying3 k2
  obtain ⟨a3, e3, f3, w3⟩ := DataW.trod_int Tryd.underlying3 k3
  obtain ⟨a4, e4, f4, w4⟩ := DataW.trod_int Tryd.underlying3 k4
  obtain ⟨a5, e5, f5, w5⟩ := DataW.trod_int Tryd.underlying3 k5
  obtain ⟨a6, e6, f6⟩ := DataW.trod_bool Tryd.underlying4 k6
  obtain ⟨a7, e7, f7, w7⟩ := DataW.trod_int Tryd.underlying3 k7
  have g0 : c0 = .int .i64 a0 := (List.cons.inj e0).1
  have g1 : c1 = .int .i64 a1 := (List.cons.inj e1).1
  have g2 : c2 = .int .i64 a2 := (List.cons.inj e2).1
  have g3 : c3 = .int .i64 a3 := (List.cons.inj e3).1
  have g4 : c4 = .int .i64 a4 := (List.cons.inj e4).1
  have g5 : c5 = .int .i64 a5 := (List.cons.inj e5).1
  have g6 : c6 = .bool a6 := (List.cons.inj e6).1
  have g7 : c7 = .int .i64 a7 := (List.cons.inj e7).1
  subst g0 g1 g2 g3 g4 g5 g6 g7
  have hp : ps = [] := by
    have := (Prod.mk.injEq _ _ _ _ ▸ hx).2
    simp only [f0, f1, f2, f3, f4, f5, f6, f7] at this
    simpa using this
  exact ⟨⟨a0, a1, a2, a3, a4, a5, a6, a7⟩, rfl, hp, ⟨inI_of w0, inI_of w1, inI_of w2, inI_of w3, inI_of w4, inI_of w5, inI_of w7⟩⟩

end Go.Proofs.YtkhnghcecnghmaaDoor
