/-
  when.clock at texts of one shape. (written by gen_whendate.py)
-/
import Derived.Test.YtkhnghcecnghmaaDoorWhenDate
namespace Go.Proofs.YtkhnghcecnghmaaDoor
open Go.RowKit
set_option linter.unusedVariables false
set_option linter.unusedSimpArgs false



set_option maxRecDepth 100000 in
set_option maxHeartbeats 4000000 in
theorem clock_no (s : List UInt8) (base q : Nat) (x0 x1 x2 x3 x4 x5 : Int) (x6 : Bool) (x7 : Int) (w : World) (hU : HasU w) (hs : s.length ≤ 1000) (hn : Instr.findNow .string (.string (S (shapeL s))) (clockMap).toList 0 = some none) (hbase : base ≤ q) (hrow : w.heap[q]? = some (.cells #[.int .i64 x0, .int .i64 x1, .int .i64 x2, .int .i64 x3, .int .i64 x4, .int .i64 x5, .bool x6, .int .i64 x7] 23 (0, 0))) :
    Calls Tryd.prog 27 #[.string (S s), .pointer (some ⟨q, 0, none⟩)] w fun e w' => e = .returned (.bool false) ∧ Below base w w' ∧ w'.heap[q]? = some (.cells #[.int .i64 x0, .int .i64 x1, .int .i64 x2, .int .i64 x3, .int .i64 x4, .int .i64 x5, .bool x6, .int .i64 x7] 23 (0, 0)) := by
  have hq : q < w.heap.size := lt_of_row hrow
  have HROW := hid hrow
  have HN := hid hn
  have HU1 := hid (hU.grow ((G.refl w).alloc (.map clockMap 6)))
  clear hU hn hrow
  have hmm := @run_makeMap Tryd.prog
  have m0 := clock_put0
  have m1 := clock_put1
  have m2 := clock_put2
  have m3 := clock_put3
  have m4 := clock_put4
  have m5 := clock_put5
  go_enter Tryd.func27, Tryd.ntmps27
  go_wp2_with fail
  clear m0 m1 m2 m3 m4 m5
  refine (shape_any s _ HU1.out (by omega)).use ?_
  intro w1 g1
  have hb : w1.heap[w.heap.size]? = some (.map #[{ key := .string ⟨#[57, 57]⟩, val := .agg #[.int .i64 0, .int .i64 (-1), .int .i64 (-1)], born := 0 }, { key := .string ⟨#[57, 57, 57, 57]⟩, val := .agg #[.int .i64 0, .int .i64 2, .int .i64 (-1)], born := 1 }, { key := .string ⟨#[57, 57, 57, 57, 57, 57]⟩, val := .agg #[.int .i64 0, .int .i64 2, .int .i64 4], born := 2 }, { key := .string ⟨#[45, 57, 57]⟩, val := .agg #[.int .i64 (-1), .int .i64 1, .int .i64 (-1)], born := 3 }, { key := .string ⟨#[45, 57, 57, 57, 57]⟩, val := .agg #[.int .i64 (-1), .int .i64 1, .int .i64 3], born := 4 }, { key := .string ⟨#[45, 45, 57, 57]⟩, val := .agg #[.int .i64 (-1), .int .i64 (-1), .int .i64 2], born := 5 }] 6) := by rw [g1.below.block w.heap.size (by simp)]; exact (MapKept.heap_alloc w _).1
  have hlook := run_look_none (P := Tryd.prog) w1 _ _ _ _ Tryd.underlying59 Tryd.underlying9 _ _ _ hb (k := .string (S (shapeL s))) trivial (.agg #[.int .i64 0, .int .i64 0, .int .i64 0]) (fun _ => by kernel_rfl) HN.out
  have hrow1 : w1.heap[q]? = some (.cells #[.int .i64 x0, .int .i64 x1, .int .i64 x2, .int .i64 x3, .int .i64 x4, .int .i64 x5, .bool x6, .int .i64 x7] 23 (0, 0)) := by rw [g1.below.block q (by simp; omega), Lib.alloc_old _ _ _ hq]; exact HROW.out
  have hq1 : q < w1.heap.size := lt_of_row hrow1
  have HBW : Hid (Below base w w1) := hid (Below.mono (((G.refl w).alloc _).trans g1) (by omega))
  have HBQ := hid hbase
  have HROW1 := hid hrow1
  clear hb hrow1 g1
  go_wp2_with fail
  go_ret
  refine ⟨rfl, ?_, ?_⟩
  · repeat (first | (with_reducible exact HBW.out) | (with_reducible refine Below.drew ?_) | (with_reducible refine Below.setCell ?_ ?_ _) | (with_reducible refine Below.alloc ?_ ?_ _))
    all_goals (first | exact HBQ.out | omega | (simp; done) | (simp; omega))
  · repeat (first | (with_reducible exact HROW1.out) | (with_reducible refine row_drew ?_) | (with_reducible apply row_setE) | (with_reducible refine row_alloc ?_ ?_))
    all_goals (first | rfl | omega | (simp; done) | (simp; omega))

end Go.Proofs.YtkhnghcecnghmaaDoor

