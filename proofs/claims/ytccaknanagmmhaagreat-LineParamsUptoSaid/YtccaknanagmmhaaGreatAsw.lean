/-
  CONTRACTS of strings.appendSliceWriter's WriteString, of getStringWriter.
-/
import Derived.Test.YtccaknanagmmhaaGreatBuilder
import Derived.RangeFuncBox
import Derived.Stop.Asserts
import Derived.Lib.BufferMore
namespace Go.Proofs.YtccaknanagmmhaaGreat
open Go.RowKit
set_option linter.unusedVariables false
set_option linter.unusedSimpArgs false

/-- a writer's box and what has been written -/
structure Buf (w0 w : World) (Bx : Nat) (bs : List UInt8) : Prop where
  bl : w0.heap.size ≤ Bx
  g : G w0 w
  row : ∃ v, v ≠ .slice none 0 0 ∧ Boxed w Bx 172 v ∧ w.ownsRow w0.heap.size 5 1 v bs.length (Lib.byteCells bs)
theorem Buf.grow {w0 w w' : World} {Bx : Nat} {bs : List UInt8} (h : Buf w0 w Bx bs) (g : G w w') : Buf w0 w' Bx bs := by
  obtain ⟨v, hv0, hv, hr⟩ := h.row
  refine ⟨h.bl, h.g.trans g, v, hv0, (g.below.block Bx hv.lt).trans hv, hr.1, hr.2.imp id ?_⟩
  rintro ⟨b, cap, cur, e1, e2, e3, r⟩
  exact ⟨b, cap, cur, e1, e2, (g.below.block b (Array.getElem?_eq_some_iff.1 e3).1).trans e3, r⟩
set_option maxRecDepth 100000 in
set_option maxHeartbeats 2000000 in
theorem asw_any (w0 w : World) (Bx : Nat) (bs s : List UInt8) (h : Buf w0 w Bx bs) (hl : bs.length + s.length ≤ 1000000) : Calls Tryz.prog 136 #[.pointer (some ⟨Bx, 0, none⟩), .string (S s)] w fun e w' => e = .returned (.tuple #[.int .i64 s.length, .nilIface]) ∧ Buf w0 w' Bx (bs ++ s) := by
  obtain ⟨i0, hi, hz0, hz1, hz2⟩ := info_parts infoByte
  obtain ⟨hbl, hg, v, hv0, hv, hr⟩ := h
  have HV0 := hid hv0
  clear hv0
  have hc := hv.cell
  have HV := hid hv
  have HR := hid hr
  have HG := hid hg
  have hgs := hg.size
  clear hv hr hg
  go_enter Tryz.func136, Tryz.ntmps136
  go_wp2_with (at_builtin; refine Lib.wpList_append_own_string _ rfl _ _ 172 9 rfl w0.heap.size 5 i0 Tryz.underlying172 Tryz.underlying9 hi hz0 hz1 hz2 _ _ _ rfl HR.out (S s) rfl ?c3 ?c4 ?c5 ?_)
  case c3 => simp; unfold maxLen; omega
  case c4 => simp; omega
  case c5 => omega
  intro v' w1 hown hgrow hnil
  have HN : Hid (v' ≠ .slice none 0 0) := hid (fun e => HV0.out (hnil.1 e).1)
  clear hnil
  have hv1 : Boxed w1 Bx 172 v := HV.out.kept hgrow (HV.out.not_row (by decide) HR.out)
  have d0 := hv1.cell
  have f0 := hv1.frozen
  obtain ⟨ao, n', cap, rfl⟩ : ∃ ao n' cap, v' = .slice ao n' cap := by
    rcases hown.2 with ⟨hv, _⟩ | ⟨q, cap, cur, hv, _⟩
    · exact ⟨_, _, _, hv⟩
    · exact ⟨_, _, _, hv⟩
  have HV1 := hid hv1
  have HOWN := hid hown
  have HGR := hid hgrow
  clear hv1 hown hgrow hc
  go_wp2_with fail
  go_ret2
  refine ⟨by simp, hbl, ?_, _, HN.out, HV1.out.set _, ?_⟩
  · exact ((HG.out.below.grown HGR.out (by omega) (fun k hk => (HR.out.lt k hk).1)).setCell (p := ⟨Bx, 0, none⟩) hbl _)
  · have e : Lib.byteCells (bs ++ s) = Lib.byteCells bs ++ Lib.strCells (S s) := by simp [Lib.byteCells, Lib.strCells]
    rw [e]
    have := HOWN.out.kept (grownBy_setCell' w1 Bx (.slice ao n' cap)) (.inr (HV1.out.not_row (by decide) HOWN.out).symm)
    simpa using this
theorem getsw_assert (v : Value) (w : World) : (Instr.typeAssert (.iface 173 v) 175 177 true).run Tryz.prog w = .ok (.tuple #[.iface 173 v, .bool true]) w := run_typeAssert_hasB Tryz.underlying177 (by kernel_rfl) v 175 w
set_option maxRecDepth 100000 in
set_option maxHeartbeats 400000 in
theorem getsw_any (Bx : Nat) (w : World) : Pure 121 #[.iface 173 (.pointer (some ⟨Bx, 0, none⟩))] w (.iface 173 (.pointer (some ⟨Bx, 0, none⟩))) := by
  have h := getsw_assert
  go_enter Tryz.func121, Tryz.ntmps121
  go_wp2_with fail
  go_ret
  exact ⟨rfl, rfl⟩
theorem asw_method (a : Addr) (w : World) : (method 287 173 (.pointer (some a)) "WriteString").run Tryz.prog w = .ok (136, .pointer (some a)) w := by kernel_rfl
theorem asw_ahead (a : Addr) (w : World) : (nilAhead 287 173 (.pointer (some a)) "WriteString").run Tryz.prog w = .ok (some false) w := by kernel_rfl

end Go.Proofs.YtccaknanagmmhaaGreat
