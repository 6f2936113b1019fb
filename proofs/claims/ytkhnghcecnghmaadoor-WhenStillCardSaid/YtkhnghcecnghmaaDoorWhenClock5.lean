/-
  when.clock at texts of one shape. (written by gen_whendate.py)
-/
import Derived.Test.YtkhnghcecnghmaaDoorWhenDate
namespace Go.Proofs.YtkhnghcecnghmaaDoor
open Go.RowKit
set_option linter.unusedVariables false
set_option linter.unusedSimpArgs false

set_option maxRecDepth 100000 in
set_option maxHeartbeats 4000000 in
theorem clock_at5 (s : List UInt8) (base q : Nat) (x0 x1 x2 x3 x4 x5 : Int) (x6 : Bool) (x7 : Int) (w : World) (hU : HasU w) (hl : s.length = 4) (hsh : shapeL s = [45, 45, 57, 57]) (hd : ∀ (a b : Nat) (c : UInt8), c ∈ (s.take b).drop a → (∀ i, a ≤ i → i < b → ([45, 45, 57, 57] : List UInt8)[i]? = some 57) → dgB c = true) (hbase : base ≤ q) (hrow : w.heap[q]? = some (.cells #[.int .i64 x0, .int .i64 x1, .int .i64 x2, .int .i64 x3, .int .i64 x4, .int .i64 x5, .bool x6, .int .i64 x7] 23 (0, 0))) :
    Calls Tryd.prog 27 #[.string (S s), .pointer (some ⟨q, 0, none⟩)] w fun e w' => e = .returned (.bool true) ∧ Below base w w' ∧ w'.heap[q]? = some (.cells #[.int .i64 x0, .int .i64 x1, .int .i64 x2, .int .i64 x3, .int .i64 x4, .int .i64 (valL ((s.take 4).drop 2) : Nat), .bool x6, .int .i64 x7] 23 (0, 0)) := by
  have hq : q < w.heap.size := lt_of_row hrow
  have HROW := hid hrow
  have HSH := hid hsh
  have HDG := hid hd
  have HU1 := hid (hU.grow ((G.refl w).alloc (.map clockMap 6)))
  clear hU hsh hd hrow
  have hmm := @run_makeMap Tryd.prog
  have m0 := clock_put0
  have m1 := clock_put1
  have m2 := clock_put2
  have m3 := clock_put3
  have m4 := clock_put4
  have m5 := clock_put5
  go_enter Tryd.func27, Tryd.ntmps27
  go_wp2_with fail
  clear m0 m1 m2 m3 m4 m5
  refine (shape_any s _ HU1.out (by omega)).use ?_
  intro w1 g1
  rw [HSH.out]
  have hb : w1.heap[w.heap.size]? = some (.map #[{ key := .string ⟨#[57, 57]⟩, val := .agg #[.int .i64 0, .int .i64 (-1), .int .i64 (-1)], born := 0 }, { key := .string ⟨#[57, 57, 57, 57]⟩, val := .agg #[.int .i64 0, .int .i64 2, .int .i64 (-1)], born := 1 }, { key := .string ⟨#[57, 57, 57, 57, 57, 57]⟩, val := .agg #[.int .i64 0, .int .i64 2, .int .i64 4], born := 2 }, { key := .string ⟨#[45, 57, 57]⟩, val := .agg #[.int .i64 (-1), .int .i64 1, .int .i64 (-1)], born := 3 }, { key := .string ⟨#[45, 57, 57, 57, 57]⟩, val := .agg #[.int .i64 (-1), .int .i64 1, .int .i64 3], born := 4 }, { key := .string ⟨#[45, 45, 57, 57]⟩, val := .agg #[.int .i64 (-1), .int .i64 (-1), .int .i64 2], born := 5 }] 6) := by rw [g1.below.block w.heap.size (by simp)]; exact (MapKept.heap_alloc w _).1
  have hlook := run_look w1 _ _ _ _ Tryd.underlying59 Tryd.underlying9 _ _ _ hb (k := .string (S [45, 45, 57, 57])) trivial 5 (.agg #[.int .i64 (-1), .int .i64 (-1), .int .i64 2]) true (by kernel_rfl)
  simp only [if_true] at hlook
  have hrow1 : w1.heap[q]? = some (.cells #[.int .i64 x0, .int .i64 x1, .int .i64 x2, .int .i64 x3, .int .i64 x4, .int .i64 x5, .bool x6, .int .i64 x7] 23 (0, 0)) := by rw [g1.below.block q (by simp; omega), Lib.alloc_old _ _ _ hq]; exact HROW.out
  have hq1 : q < w1.heap.size := lt_of_row hrow1
  have hqn : ¬ q = w1.heap.size := by omega
  have hqn1 : ¬ q = w1.heap.size + 1 := by omega
  have hqn2 : ¬ q = w1.heap.size + 1 + 1 := by omega
  have hqn3 : ¬ q = w1.heap.size + 1 + 1 + 1 := by omega
  have hqn4 : ¬ q = w1.heap.size + 1 + 1 + 1 + 1 := by omega
  have fz0 := fun (W : World) (o : Obj) (h : ¬ q = W.heap.size) => World.frozen?_alloc_old W o ⟨q, 3, none⟩ h
  have cz0 := fun (W : World) (o : Obj) (h : ¬ q = W.heap.size) => cell_alloc_ne W o q 3 h
  have fz1 := fun (W : World) (o : Obj) (h : ¬ q = W.heap.size) => World.frozen?_alloc_old W o ⟨q, 4, none⟩ h
  have cz1 := fun (W : World) (o : Obj) (h : ¬ q = W.heap.size) => cell_alloc_ne W o q 4 h
  have fz2 := fun (W : World) (o : Obj) (h : ¬ q = W.heap.size) => World.frozen?_alloc_old W o ⟨q, 5, none⟩ h
  have cz2 := fun (W : World) (o : Obj) (h : ¬ q = W.heap.size) => cell_alloc_ne W o q 5 h
  have c0 : w1.cell? ⟨q, 3, none⟩ = some (.int .i64 x3) := by rw [cell_of_row w1 q 3 _ _ _ hrow1]; rfl
  have z0 : w1.frozen? ⟨q, 3, none⟩ = false := frozen_of_row w1 q 3 _ _ hrow1
  have c1 : w1.cell? ⟨q, 4, none⟩ = some (.int .i64 x4) := by rw [cell_of_row w1 q 4 _ _ _ hrow1]; rfl
  have z1 : w1.frozen? ⟨q, 4, none⟩ = false := frozen_of_row w1 q 4 _ _ hrow1
  have c2 : w1.cell? ⟨q, 5, none⟩ = some (.int .i64 x5) := by rw [cell_of_row w1 q 5 _ _ _ hrow1]; rfl
  have z2 : w1.frozen? ⟨q, 5, none⟩ = false := frozen_of_row w1 q 5 _ _ hrow1
  have HBW : Hid (Below base w w1) := hid (Below.mono (((G.refl w).alloc _).trans g1) (by omega))
  have HBQ := hid hbase
  have ca := fun (W : World) (cs : Array Value) (t : TypeId) (i : Nat) (h : w1.heap.size = W.heap.size) => cell_alloc_at W cs t w1.heap.size i h
  have cb := fun (W : World) (cs : Array Value) (t : TypeId) (i : Nat) (h : w1.heap.size + 1 = W.heap.size) => cell_alloc_at W cs t (w1.heap.size + 1) i h
  have HROW1 := hid hrow1
  have HG1 : Hid (G w w1) := hid (((G.refl w).alloc _).trans g1)
  clear hb hrow1 g1
  go_wp2_with fail
  go_region
  go_wp2_with fail
  refine wp_loop_rounds 4 ?_
  rw [rounds_succ]
  go_wp2_with fail
  rw [rounds_succ]
  go_wp2_with fail
  rw [rounds_succ]
  go_wp2_with fail
  have hd2 : ∀ c ∈ (s.take 4).drop 2, dgB c = true := fun c hc => HDG.out 2 4 c hc (by intro i h1 h2; have h3 : i = 2 ∨ i = 3 := (by omega); rcases h3 with rfl | rfl <;> rfl)
  have HD2 := hid hd2
  clear hd2
  have wr2 : IntKind.i64.wrap (2 + 2) = 4 := by decide
  have wq2 : IntKind.i64.wrap 4 = 4 := by decide
  go_region_held3 (fun w' => w'.cell? ⟨w1.heap.size, 2, none⟩ = some (.int .i64 2)) (go_keep)
    (first | (go_at_call 34; (with_reducible refine (number_c _ _ ?_ ?_).mono ?_); (· (exact HD2.out)); (· (simp; try omega)); rintro e w' ⟨rfl, rfl⟩))
  go_wp2_with fail
  rw [rounds_succ]
  go_wp2_with fail
  go_ret
  refine ⟨rfl, ?_, ?_⟩
  · repeat (first | (with_reducible exact HBW.out) | (with_reducible refine Below.drew ?_) | (with_reducible refine Below.setCell ?_ ?_ _) | (with_reducible refine Below.alloc ?_ ?_ _))
    all_goals (first | exact HBQ.out | omega | (simp; done) | (simp; omega))
  · repeat (first | (with_reducible exact HROW1.out) | (with_reducible refine row_drew ?_) | (with_reducible apply row_setE) | (with_reducible refine row_alloc ?_ ?_))
    all_goals (first | rfl | omega | (simp; done) | (simp; omega))

end Go.Proofs.YtkhnghcecnghmaaDoor

