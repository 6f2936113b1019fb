/-
  Texts merged into one: WhenClock0, WhenClock1, WhenClock2, WhenClock3, WhenClock4, WhenClock5, WhenClockN.
-/
import Derived.Test.YtedlgpccmlcijaaGreatDoorWhenDate
namespace Go.Proofs.YtedlgpccmlcijaaGreatDoor
open Go.RowKit
set_option linter.unusedVariables false
set_option linter.unusedSimpArgs false

set_option maxRecDepth 100000 in
set_option maxHeartbeats 4000000 in
theorem clock_at0 (s : List UInt8) (base q : Nat) (x0 x1 x2 x3 x4 x5 : Int) (x6 : Bool) (x7 : Int) (w : World) (hU : HasU w) (hl : s.length = 2) (hsh : shapeL s = [57, 57]) (hd : ∀ (a b : Nat) (c : UInt8), c ∈ (s.take b).drop a → (∀ i, a ≤ i → i < b → ([57, 57] : List UInt8)[i]? = some 57) → dgB c = true) (hbase : base ≤ q) (hrow : w.heap[q]? = some (.cells #[.int .i64 x0, .int .i64 x1, .int .i64 x2, .int .i64 x3, .int .i64 x4, .int .i64 x5, .bool x6, .int .i64 x7] 24 (0, 0))) :
    Calls Tryz.prog 56 #[.string (S s), .pointer (some ⟨q, 0, none⟩)] w fun e w' => e = .returned (.bool true) ∧ Below base w w' ∧ w'.heap[q]? = some (.cells #[.int .i64 x0, .int .i64 x1, .int .i64 x2, .int .i64 (valL ((s.take 2).drop 0) : Nat), .int .i64 x4, .int .i64 x5, .bool x6, .int .i64 x7] 24 (0, 0)) := by
  have hq : q < w.heap.size := lt_of_row hrow
  have HROW := hid hrow
  have HSH := hid hsh
  have HDG := hid hd
  have HU1 := hid (hU.grow ((G.refl w).alloc (.map clockMap 6)))
  clear hU hsh hd hrow
  have hmm := @run_makeMap Tryz.prog
  have m0 := clock_put0
  have m1 := clock_put1
  have m2 := clock_put2
  have m3 := clock_put3
  have m4 := clock_put4
  have m5 := clock_put5
  go_enter Tryz.func56, Tryz.ntmps56
  go_wp2_with fail
  clear m0 m1 m2 m3 m4 m5
  refine (shape_any s _ HU1.out (by omega)).use ?_
  intro w1 g1
  rw [HSH.out]
  have hb : w1.heap[w.heap.size]? = some (.map #[{ key := .string ⟨#[57, 57]⟩, val := .agg #[.int .i64 0, .int .i64 (-1), .int .i64 (-1)], born := 0 }, { key := .string ⟨#[57, 57, 57, 57]⟩, val := .agg #[.int .i64 0, .int .i64 2, .int .i64 (-1)], born := 1 }, { key := .string ⟨#[57, 57, 57, 57, 57, 57]⟩, val := .agg #[.int .i64 0, .int .i64 2, .int .i64 4], born := 2 }, { key := .string ⟨#[45, 57, 57]⟩, val := .agg #[.int .i64 (-1), .int .i64 1, .int .i64 (-1)], born := 3 }, { key := .string ⟨#[45, 57, 57, 57, 57]⟩, val := .agg #[.int .i64 (-1), .int .i64 1, .int .i64 3], born := 4 }, { key := .string ⟨#[45, 45, 57, 57]⟩, val := .agg #[.int .i64 (-1), .int .i64 (-1), .int .i64 2], born := 5 }] 6) := by rw [g1.below.block w.heap.size (by simp)]; exact (MapKept.heap_alloc w _).1
  have hlook := run_look w1 _ _ _ _ Tryz.underlying120 Tryz.underlying9 _ _ _ hb (k := .string (S [57, 57])) trivial 0 (.agg #[.int .i64 0, .int .i64 (-1), .int .i64 (-1)]) true (by kernel_rfl)
  simp only [if_true] at hlook
  have hrow1 : w1.heap[q]? = some (.cells #[.int .i64 x0, .int .i64 x1, .int .i64 x2, .int .i64 x3, .int .i64 x4, .int .i64 x5, .bool x6, .int .i64 x7] 24 (0, 0)) := by rw [g1.below.block q (by simp; omega), Lib.alloc_old _ _ _ hq]; exact HROW.out
  have hq1 : q < w1.heap.size := lt_of_row hrow1
  have hqn : ¬ q = w1.heap.size := by omega
  have hqn1 : ¬ q = w1.heap.size + 1 := by omega
  have hqn2 : ¬ q = w1.heap.size + 1 + 1 := by omega
  have hqn3 : ¬ q = w1.heap.size + 1 + 1 + 1 := by omega
  have hqn4 : ¬ q = w1.heap.size + 1 + 1 + 1 + 1 := by omega
  have fz0 := fun (W : World) (o : Obj) (h : ¬ q = W.heap.size) => World.frozen?_alloc_old W o ⟨q, 3, none⟩ h
  have cz0 := fun (W : World) (o : Obj) (h : ¬ q = W.heap.size) => cell_alloc_ne W o q 3 h
  have fz1 := fun (W : World) (o : Obj) (h : ¬ q = W.heap.size) => World.frozen?_alloc_old W o ⟨q, 4, none⟩ h
  have cz1 := fun (W : World) (o : Obj) (h : ¬ q = W.heap.size) => cell_alloc_ne W o q 4 h
  have fz2 := fun (W : World) (o : Obj) (h : ¬ q = W.heap.size) => World.frozen?_alloc_old W o ⟨q, 5, none⟩ h
  have cz2 := fun (W : World) (o : Obj) (h : ¬ q = W.heap.size) => cell_alloc_ne W o q 5 h
  have c0 : w1.cell? ⟨q, 3, none⟩ = some (.int .i64 x3) := by rw [cell_of_row w1 q 3 _ _ _ hrow1]; rfl
  have z0 : w1.frozen? ⟨q, 3, none⟩ = false := frozen_of_row w1 q 3 _ _ hrow1
  have c1 : w1.cell? ⟨q, 4, none⟩ = some (.int .i64 x4) := by rw [cell_of_row w1 q 4 _ _ _ hrow1]; rfl
  have z1 : w1.frozen? ⟨q, 4, none⟩ = false := frozen_of_row w1 q 4 _ _ hrow1
  have c2 : w1.cell? ⟨q, 5, none⟩ = some (.int .i64 x5) := by rw [cell_of_row w1 q 5 _ _ _ hrow1]; rfl
  have z2 : w1.frozen? ⟨q, 5, none⟩ = false := frozen_of_row w1 q 5 _ _ hrow1
  have HBW : Hid (Below base w w1) := hid (Below.mono (((G.refl w).alloc _).trans g1) (by omega))
  have HBQ := hid hbase
  have ca := fun (W : World) (cs : Array Value) (t : TypeId) (i : Nat) (h : w1.heap.size = W.heap.size) => cell_alloc_at W cs t w1.heap.size i h
  have cb := fun (W : World) (cs : Array Value) (t : TypeId) (i : Nat) (h : w1.heap.size + 1 = W.heap.size) => cell_alloc_at W cs t (w1.heap.size + 1) i h
  have HROW1 := hid hrow1
  have HG1 : Hid (G w w1) := hid (((G.refl w).alloc _).trans g1)
  clear hb hrow1 g1
  go_wp2_with fail
  go_region
  go_wp2_with fail
  refine wp_loop_rounds 4 ?_
  rw [rounds_succ]
  go_wp2_with fail
  have hd0 : ∀ c ∈ (s.take 2).drop 0, dgB c = true := fun c hc => HDG.out 0 2 c hc (by intro i h1 h2; have h3 : i = 0 ∨ i = 1 := (by omega); rcases h3 with rfl | rfl <;> rfl)
  have HD0 := hid hd0
  clear hd0
  have wr0 : IntKind.i64.wrap (0 + 2) = 2 := by decide
  have wq0 : IntKind.i64.wrap 2 = 2 := by decide
  go_region_held3 (fun w' => w'.cell? ⟨w1.heap.size, 0, none⟩ = some (.int .i64 0)) (go_keep)
    (first | (go_at_call 71; (with_reducible refine (number_c _ _ ?_ ?_).mono ?_); (· (exact HD0.out)); (· (simp; try omega)); rintro e w' ⟨rfl, rfl⟩))
  go_wp2_with fail
  rw [rounds_succ]
  go_wp2_with fail
  rw [rounds_succ]
  go_wp2_with fail
  rw [rounds_succ]
  go_wp2_with fail
  go_ret
  refine ⟨rfl, ?_, ?_⟩
  · repeat (first | (with_reducible exact HBW.out) | (with_reducible refine Below.drew ?_) | (with_reducible refine Below.setCell ?_ ?_ _) | (with_reducible refine Below.alloc ?_ ?_ _))
    all_goals (first | exact HBQ.out | omega | (simp; done) | (simp; omega))
  · repeat (first | (with_reducible exact HROW1.out) | (with_reducible refine row_drew ?_) | (with_reducible apply row_setE) | (with_reducible refine row_alloc ?_ ?_))
    all_goals (first | rfl | omega | (simp; done) | (simp; omega))

end Go.Proofs.YtedlgpccmlcijaaGreatDoor


namespace Go.Proofs.YtedlgpccmlcijaaGreatDoor
open Go.RowKit
set_option linter.unusedVariables false
set_option linter.unusedSimpArgs false

set_option maxRecDepth 100000 in
set_option maxHeartbeats 4000000 in
theorem clock_at1 (s : List UInt8) (base q : Nat) (x0 x1 x2 x3 x4 x5 : Int) (x6 : Bool) (x7 : Int) (w : World) (hU : HasU w) (hl : s.length = 4) (hsh : shapeL s = [57, 57, 57, 57]) (hd : ∀ (a b : Nat) (c : UInt8), c ∈ (s.take b).drop a → (∀ i, a ≤ i → i < b → ([57, 57, 57, 57] : List UInt8)[i]? = some 57) → dgB c = true) (hbase : base ≤ q) (hrow : w.heap[q]? = some (.cells #[.int .i64 x0, .int .i64 x1, .int .i64 x2, .int .i64 x3, .int .i64 x4, .int .i64 x5, .bool x6, .int .i64 x7] 24 (0, 0))) :
    Calls Tryz.prog 56 #[.string (S s), .pointer (some ⟨q, 0, none⟩)] w fun e w' => e = .returned (.bool true) ∧ Below base w w' ∧ w'.heap[q]? = some (.cells #[.int .i64 x0, .int .i64 x1, .int .i64 x2, .int .i64 (valL ((s.take 2).drop 0) : Nat), .int .i64 (valL ((s.take 4).drop 2) : Nat), .int .i64 x5, .bool x6, .int .i64 x7] 24 (0, 0)) := by
  have hq : q < w.heap.size := lt_of_row hrow
  have HROW := hid hrow
  have HSH := hid hsh
  have HDG := hid hd
  have HU1 := hid (hU.grow ((G.refl w).alloc (.map clockMap 6)))
  clear hU hsh hd hrow
  have hmm := @run_makeMap Tryz.prog
  have m0 := clock_put0
  have m1 := clock_put1
  have m2 := clock_put2
  have m3 := clock_put3
  have m4 := clock_put4
  have m5 := clock_put5
  go_enter Tryz.func56, Tryz.ntmps56
  go_wp2_with fail
  clear m0 m1 m2 m3 m4 m5
  refine (shape_any s _ HU1.out (by omega)).use ?_
  intro w1 g1
  rw [HSH.out]
  have hb : w1.heap[w.heap.size]? = some (.map #[{ key := .string ⟨#[57, 57]⟩, val := .agg #[.int .i64 0, .int .i64 (-1), .int .i64 (-1)], born := 0 }, { key := .string ⟨#[57, 57, 57, 57]⟩, val := .agg #[.int .i64 0, .int .i64 2, .int .i64 (-1)], born := 1 }, { key := .string ⟨#[57, 57, 57, 57, 57, 57]⟩, val := .agg #[.int .i64 0, .int .i64 2, .int .i64 4], born := 2 }, { key := .string ⟨#[45, 57, 57]⟩, val := .agg #[.int .i64 (-1), .int .i64 1, .int .i64 (-1)], born := 3 }, { key := .string ⟨#[45, 57, 57, 57, 57]⟩, val := .agg #[.int .i64 (-1), .int .i64 1, .int .i64 3], born := 4 }, { key := .string ⟨#[45, 45, 57, 57]⟩, val := .agg #[.int .i64 (-1), .int .i64 (-1), .int .i64 2], born := 5 }] 6) := by rw [g1.below.block w.heap.size (by simp)]; exact (MapKept.heap_alloc w _).1
  have hlook := run_look w1 _ _ _ _ Tryz.underlying120 Tryz.underlying9 _ _ _ hb (k := .string (S [57, 57, 57, 57])) trivial 1 (.agg #[.int .i64 0, .int .i64 2, .int .i64 (-1)]) true (by kernel_rfl)
  simp only [if_true] at hlook
  have hrow1 : w1.heap[q]? = some (.cells #[.int .i64 x0, .int .i64 x1, .int .i64 x2, .int .i64 x3, .int .i64 x4, .int .i64 x5, .bool x6, .int .i64 x7] 24 (0, 0)) := by rw [g1.below.block q (by simp; omega), Lib.alloc_old _ _ _ hq]; exact HROW.out
  have hq1 : q < w1.heap.size := lt_of_row hrow1
  have hqn : ¬ q = w1.heap.size := by omega
  have hqn1 : ¬ q = w1.heap.size + 1 := by omega
  have hqn2 : ¬ q = w1.heap.size + 1 + 1 := by omega
  have hqn3 : ¬ q = w1.heap.size + 1 + 1 + 1 := by omega
  have hqn4 : ¬ q = w1.heap.size + 1 + 1 + 1 + 1 := by omega
  have fz0 := fun (W : World) (o : Obj) (h : ¬ q = W.heap.size) => World.frozen?_alloc_old W o ⟨q, 3, none⟩ h
  have cz0 := fun (W : World) (o : Obj) (h : ¬ q = W.heap.size) => cell_alloc_ne W o q 3 h
  have fz1 := fun (W : World) (o : Obj) (h : ¬ q = W.heap.size) => World.frozen?_alloc_old W o ⟨q, 4, none⟩ h
  have cz1 := fun (W : World) (o : Obj) (h : ¬ q = W.heap.size) => cell_alloc_ne W o q 4 h
  have fz2 := fun (W : World) (o : Obj) (h : ¬ q = W.heap.size) => World.frozen?_alloc_old W o ⟨q, 5, none⟩ h
  have cz2 := fun (W : World) (o : Obj) (h : ¬ q = W.heap.size) => cell_alloc_ne W o q 5 h
  have c0 : w1.cell? ⟨q, 3, none⟩ = some (.int .i64 x3) := by rw [cell_of_row w1 q 3 _ _ _ hrow1]; rfl
  have z0 : w1.frozen? ⟨q, 3, none⟩ = false := frozen_of_row w1 q 3 _ _ hrow1
  have c1 : w1.cell? ⟨q, 4, none⟩ = some (.int .i64 x4) := by rw [cell_of_row w1 q 4 _ _ _ hrow1]; rfl
  have z1 : w1.frozen? ⟨q, 4, none⟩ = false := frozen_of_row w1 q 4 _ _ hrow1
  have c2 : w1.cell? ⟨q, 5, none⟩ = some (.int .i64 x5) := by rw [cell_of_row w1 q 5 _ _ _ hrow1]; rfl
  have z2 : w1.frozen? ⟨q, 5, none⟩ = false := frozen_of_row w1 q 5 _ _ hrow1
  have HBW : Hid (Below base w w1) := hid (Below.mono (((G.refl w).alloc _).trans g1) (by omega))
  have HBQ := hid hbase
  have ca := fun (W : World) (cs : Array Value) (t : TypeId) (i : Nat) (h : w1.heap.size = W.heap.size) => cell_alloc_at W cs t w1.heap.size i h
  have cb := fun (W : World) (cs : Array Value) (t : TypeId) (i : Nat) (h : w1.heap.size + 1 = W.heap.size) => cell_alloc_at W cs t (w1.heap.size + 1) i h
  have HROW1 := hid hrow1
  have HG1 : Hid (G w w1) := hid (((G.refl w).alloc _).trans g1)
  clear hb hrow1 g1
  go_wp2_with fail
  go_region
  go_wp2_with fail
  refine wp_loop_rounds 4 ?_
  rw [rounds_succ]
  go_wp2_with fail
  have hd0 : ∀ c ∈ (s.take 2).drop 0, dgB c = true := fun c hc => HDG.out 0 2 c hc (by intro i h1 h2; have h3 : i = 0 ∨ i = 1 := (by omega); rcases h3 with rfl | rfl <;> rfl)
  have HD0 := hid hd0
  clear hd0
  have wr0 : IntKind.i64.wrap (0 + 2) = 2 := by decide
  have wq0 : IntKind.i64.wrap 2 = 2 := by decide
  go_region_held3 (fun w' => w'.cell? ⟨w1.heap.size, 0, none⟩ = some (.int .i64 0)) (go_keep)
    (first | (go_at_call 71; (with_reducible refine (number_c _ _ ?_ ?_).mono ?_); (· (exact HD0.out)); (· (simp; try omega)); rintro e w' ⟨rfl, rfl⟩))
  go_wp2_with fail
  rw [rounds_succ]
  go_wp2_with fail
  have hd1 : ∀ c ∈ (s.take 4).drop 2, dgB c = true := fun c hc => HDG.out 2 4 c hc (by intro i h1 h2; have h3 : i = 2 ∨ i = 3 := (by omega); rcases h3 with rfl | rfl <;> rfl)
  have HD1 := hid hd1
  clear hd1
  have wr1 : IntKind.i64.wrap (2 + 2) = 4 := by decide
  have wq1 : IntKind.i64.wrap 4 = 4 := by decide
  go_region_held3 (fun w' => w'.cell? ⟨w1.heap.size, 1, none⟩ = some (.int .i64 2)) (go_keep)
    (first | (go_at_call 71; (with_reducible refine (number_c _ _ ?_ ?_).mono ?_); (· (exact HD1.out)); (· (simp; try omega)); rintro e w' ⟨rfl, rfl⟩))
  go_wp2_with fail
  rw [rounds_succ]
  go_wp2_with fail
  rw [rounds_succ]
  go_wp2_with fail
  go_ret
  refine ⟨rfl, ?_, ?_⟩
  · repeat (first | (with_reducible exact HBW.out) | (with_reducible refine Below.drew ?_) | (with_reducible refine Below.setCell ?_ ?_ _) | (with_reducible refine Below.alloc ?_ ?_ _))
    all_goals (first | exact HBQ.out | omega | (simp; done) | (simp; omega))
  · repeat (first | (with_reducible exact HROW1.out) | (with_reducible refine row_drew ?_) | (with_reducible apply row_setE) | (with_reducible refine row_alloc ?_ ?_))
    all_goals (first | rfl | omega | (simp; done) | (simp; omega))

end Go.Proofs.YtedlgpccmlcijaaGreatDoor


namespace Go.Proofs.YtedlgpccmlcijaaGreatDoor
open Go.RowKit
set_option linter.unusedVariables false
set_option linter.unusedSimpArgs false

set_option maxRecDepth 100000 in
set_option maxHeartbeats 4000000 in
theorem clock_at2 (s : List UInt8) (base q : Nat) (x0 x1 x2 x3 x4 x5 : Int) (x6 : Bool) (x7 : Int) (w : World) (hU : HasU w) (hl : s.length = 6) (hsh : shapeL s = [57, 57, 57, 57, 57, 57]) (hd : ∀ (a b : Nat) (c : UInt8), c ∈ (s.take b).drop a → (∀ i, a ≤ i → i < b → ([57, 57, 57, 57, 57, 57] : List UInt8)[i]? = some 57) → dgB c = true) (hbase : base ≤ q) (hrow : w.heap[q]? = some (.cells #[.int .i64 x0, .int .i64 x1, .int .i64 x2, .int .i64 x3, .int .i64 x4, .int .i64 x5, .bool x6, .int .i64 x7] 24 (0, 0))) :
    Calls Tryz.prog 56 #[.string (S s), .pointer (some ⟨q, 0, none⟩)] w fun e w' => e = .returned (.bool true) ∧ Below base w w' ∧ w'.heap[q]? = some (.cells #[.int .i64 x0, .int .i64 x1, .int .i64 x2, .int .i64 (valL ((s.take 2).drop 0) : Nat), .int .i64 (valL ((s.take 4).drop 2) : Nat), .int .i64 (valL ((s.take 6).drop 4) : Nat), .bool x6, .int .i64 x7] 24 (0, 0)) := by
  have hq : q < w.heap.size := lt_of_row hrow
  have HROW := hid hrow
  have HSH := hid hsh
  have HDG := hid hd
  have HU1 := hid (hU.grow ((G.refl w).alloc (.map clockMap 6)))
  clear hU hsh hd hrow
  have hmm := @run_makeMap Tryz.prog
  have m0 := clock_put0
  have m1 := clock_put1
  have m2 := clock_put2
  have m3 := clock_put3
  have m4 := clock_put4
  have m5 := clock_put5
  go_enter Tryz.func56, Tryz.ntmps56
  go_wp2_with fail
  clear m0 m1 m2 m3 m4 m5
  refine (shape_any s _ HU1.out (by omega)).use ?_
  intro w1 g1
  rw [HSH.out]
  have hb : w1.heap[w.heap.size]? = some (.map #[{ key := .string ⟨#[57, 57]⟩, val := .agg #[.int .i64 0, .int .i64 (-1), .int .i64 (-1)], born := 0 }, { key := .string ⟨#[57, 57, 57, 57]⟩, val := .agg #[.int .i64 0, .int .i64 2, .int .i64 (-1)], born := 1 }, { key := .string ⟨#[57, 57, 57, 57, 57, 57]⟩, val := .agg #[.int .i64 0, .int .i64 2, .int .i64 4], born := 2 }, { key := .string ⟨#[45, 57, 57]⟩, val := .agg #[.int .i64 (-1), .int .i64 1, .int .i64 (-1)], born := 3 }, { key := .string ⟨#[45, 57, 57, 57, 57]⟩, val := .agg #[.int .i64 (-1), .int .i64 1, .int .i64 3], born := 4 }, { key := .string ⟨#[45, 45, 57, 57]⟩, val := .agg #[.int .i64 (-1), .int .i64 (-1), .int .i64 2], born := 5 }] 6) := by rw [g1.below.block w.heap.size (by simp)]; exact (MapKept.heap_alloc w _).1
  have hlook := run_look w1 _ _ _ _ Tryz.underlying120 Tryz.underlying9 _ _ _ hb (k := .string (S [57, 57, 57, 57, 57, 57])) trivial 2 (.agg #[.int .i64 0, .int .i64 2, .int .i64 4]) true (by kernel_rfl)
  simp only [if_true] at hlook
  have hrow1 : w1.heap[q]? = some (.cells #[.int .i64 x0, .int .i64 x1, .int .i64 x2, .int .i64 x3, .int .i64 x4, .int .i64 x5, .bool x6, .int .i64 x7] 24 (0, 0)) := by rw [g1.below.block q (by simp; omega), Lib.alloc_old _ _ _ hq]; exact HROW.out
  have hq1 : q < w1.heap.size := lt_of_row hrow1
  have hqn : ¬ q = w1.heap.size := by omega
  have hqn1 : ¬ q = w1.heap.size + 1 := by omega
  have hqn2 : ¬ q = w1.heap.size + 1 + 1 := by omega
  have hqn3 : ¬ q = w1.heap.size + 1 + 1 + 1 := by omega
  have hqn4 : ¬ q = w1.heap.size + 1 + 1 + 1 + 1 := by omega
  have fz0 := fun (W : World) (o : Obj) (h : ¬ q = W.heap.size) => World.frozen?_alloc_old W o ⟨q, 3, none⟩ h
  have cz0 := fun (W : World) (o : Obj) (h : ¬ q = W.heap.size) => cell_alloc_ne W o q 3 h
  have fz1 := fun (W : World) (o : Obj) (h : ¬ q = W.heap.size) => World.frozen?_alloc_old W o ⟨q, 4, none⟩ h
  have cz1 := fun (W : World) (o : Obj) (h : ¬ q = W.heap.size) => cell_alloc_ne W o q 4 h
  have fz2 := fun (W : World) (o : Obj) (h : ¬ q = W.heap.size) => World.frozen?_alloc_old W o ⟨q, 5, none⟩ h
  have cz2 := fun (W : World) (o : Obj) (h : ¬ q = W.heap.size) => cell_alloc_ne W o q 5 h
  have c0 : w1.cell? ⟨q, 3, none⟩ = some (.int .i64 x3) := by rw [cell_of_row w1 q 3 _ _ _ hrow1]; rfl
  have z0 : w1.frozen? ⟨q, 3, none⟩ = false := frozen_of_row w1 q 3 _ _ hrow1
  have c1 : w1.cell? ⟨q, 4, none⟩ = some (.int .i64 x4) := by rw [cell_of_row w1 q 4 _ _ _ hrow1]; rfl
  have z1 : w1.frozen? ⟨q, 4, none⟩ = false := frozen_of_row w1 q 4 _ _ hrow1
  have c2 : w1.cell? ⟨q, 5, none⟩ = some (.int .i64 x5) := by rw [cell_of_row w1 q 5 _ _ _ hrow1]; rfl
  have z2 : w1.frozen? ⟨q, 5, none⟩ = false := frozen_of_row w1 q 5 _ _ hrow1
  have HBW : Hid (Below base w w1) := hid (Below.mono (((G.refl w).alloc _).trans g1) (by omega))
  have HBQ := hid hbase
  have ca := fun (W : World) (cs : Array Value) (t : TypeId) (i : Nat) (h : w1.heap.size = W.heap.size) => cell_alloc_at W cs t w1.heap.size i h
  have cb := fun (W : World) (cs : Array Value) (t : TypeId) (i : Nat) (h : w1.heap.size + 1 = W.heap.size) => cell_alloc_at W cs t (w1.heap.size + 1) i h
  have HROW1 := hid hrow1
  have HG1 : Hid (G w w1) := hid (((G.refl w).alloc _).trans g1)
  clear hb hrow1 g1
  go_wp2_with fail
  go_region
  go_wp2_with fail
  refine wp_loop_rounds 4 ?_
  rw [rounds_succ]
  go_wp2_with fail
  have hd0 : ∀ c ∈ (s.take 2).drop 0, dgB c = true := fun c hc => HDG.out 0 2 c hc (by intro i h1 h2; have h3 : i = 0 ∨ i = 1 := (by omega); rcases h3 with rfl | rfl <;> rfl)
  have HD0 := hid hd0
  clear hd0
  have wr0 : IntKind.i64.wrap (0 + 2) = 2 := by decide
  have wq0 : IntKind.i64.wrap 2 = 2 := by decide
  go_region_held3 (fun w' => w'.cell? ⟨w1.heap.size, 0, none⟩ = some (.int .i64 0)) (go_keep)
    (first | (go_at_call 71; (with_reducible refine (number_c _ _ ?_ ?_).mono ?_); (· (exact HD0.out)); (· (simp; try omega)); rintro e w' ⟨rfl, rfl⟩))
  go_wp2_with fail
  rw [rounds_succ]
  go_wp2_with fail
  have hd1 : ∀ c ∈ (s.take 4).drop 2, dgB c = true := fun c hc => HDG.out 2 4 c hc (by intro i h1 h2; have h3 : i = 2 ∨ i = 3 := (by omega); rcases h3 with rfl | rfl <;> rfl)
  have HD1 := hid hd1
  clear hd1
  have wr1 : IntKind.i64.wrap (2 + 2) = 4 := by decide
  have wq1 : IntKind.i64.wrap 4 = 4 := by decide
  go_region_held3 (fun w' => w'.cell? ⟨w1.heap.size, 1, none⟩ = some (.int .i64 2)) (go_keep)
    (first | (go_at_call 71; (with_reducible refine (number_c _ _ ?_ ?_).mono ?_); (· (exact HD1.out)); (· (simp; try omega)); rintro e w' ⟨rfl, rfl⟩))
  go_wp2_with fail
  rw [rounds_succ]
  go_wp2_with fail
  have hd2 : ∀ c ∈ (s.take 6).drop 4, dgB c = true := fun c hc => HDG.out 4 6 c hc (by intro i h1 h2; have h3 : i = 4 ∨ i = 5 := (by omega); rcases h3 with rfl | rfl <;> rfl)
  have HD2 := hid hd2
  clear hd2
  have wr2 : IntKind.i64.wrap (4 + 2) = 6 := by decide
  have wq2 : IntKind.i64.wrap 6 = 6 := by decide
  go_region_held3 (fun w' => w'.cell? ⟨w1.heap.size, 2, none⟩ = some (.int .i64 4)) (go_keep)
    (first | (go_at_call 71; (with_reducible refine (number_c _ _ ?_ ?_).mono ?_); (· (exact HD2.out)); (· (simp; try omega)); rintro e w' ⟨rfl, rfl⟩))
  go_wp2_with fail
  rw [rounds_succ]
  go_wp2_with fail
  go_ret
  refine ⟨rfl, ?_, ?_⟩
  · repeat (first | (with_reducible exact HBW.out) | (with_reducible refine Below.drew ?_) | (with_reducible refine Below.setCell ?_ ?_ _) | (with_reducible refine Below.alloc ?_ ?_ _))
    all_goals (first | exact HBQ.out | omega | (simp; done) | (simp; omega))
  · repeat (first | (with_reducible exact HROW1.out) | (with_reducible refine row_drew ?_) | (with_reducible apply row_setE) | (with_reducible refine row_alloc ?_ ?_))
    all_goals (first | rfl | omega | (simp; done) | (simp; omega))

end Go.Proofs.YtedlgpccmlcijaaGreatDoor


namespace Go.Proofs.YtedlgpccmlcijaaGreatDoor
open Go.RowKit
set_option linter.unusedVariables false
set_option linter.unusedSimpArgs false

set_option maxRecDepth 100000 in
set_option maxHeartbeats 4000000 in
theorem clock_at3 (s : List UInt8) (base q : Nat) (x0 x1 x2 x3 x4 x5 : Int) (x6 : Bool) (x7 : Int) (w : World) (hU : HasU w) (hl : s.length = 3) (hsh : shapeL s = [45, 57, 57]) (hd : ∀ (a b : Nat) (c : UInt8), c ∈ (s.take b).drop a → (∀ i, a ≤ i → i < b → ([45, 57, 57] : List UInt8)[i]? = some 57) → dgB c = true) (hbase : base ≤ q) (hrow : w.heap[q]? = some (.cells #[.int .i64 x0, .int .i64 x1, .int .i64 x2, .int .i64 x3, .int .i64 x4, .int .i64 x5, .bool x6, .int .i64 x7] 24 (0, 0))) :
    Calls Tryz.prog 56 #[.string (S s), .pointer (some ⟨q, 0, none⟩)] w fun e w' => e = .returned (.bool true) ∧ Below base w w' ∧ w'.heap[q]? = some (.cells #[.int .i64 x0, .int .i64 x1, .int .i64 x2, .int .i64 x3, .int .i64 (valL ((s.take 3).drop 1) : Nat), .int .i64 x5, .bool x6, .int .i64 x7] 24 (0, 0)) := by
  have hq : q < w.heap.size := lt_of_row hrow
  have HROW := hid hrow
  have HSH := hid hsh
  have HDG := hid hd
  have HU1 := hid (hU.grow ((G.refl w).alloc (.map clockMap 6)))
  clear hU hsh hd hrow
  have hmm := @run_makeMap Tryz.prog
  have m0 := clock_put0
  have m1 := clock_put1
  have m2 := clock_put2
  have m3 := clock_put3
  have m4 := clock_put4
  have m5 := clock_put5
  go_enter Tryz.func56, Tryz.ntmps56
  go_wp2_with fail
  clear m0 m1 m2 m3 m4 m5
  refine (shape_any s _ HU1.out (by omega)).use ?_
  intro w1 g1
  rw [HSH.out]
  have hb : w1.heap[w.heap.size]? = some (.map #[{ key := .string ⟨#[57, 57]⟩, val := .agg #[.int .i64 0, .int .i64 (-1), .int .i64 (-1)], born := 0 }, { key := .string ⟨#[57, 57, 57, 57]⟩, val := .agg #[.int .i64 0, .int .i64 2, .int .i64 (-1)], born := 1 }, { key := .string ⟨#[57, 57, 57, 57, 57, 57]⟩, val := .agg #[.int .i64 0, .int .i64 2, .int .i64 4], born := 2 }, { key := .string ⟨#[45, 57, 57]⟩, val := .agg #[.int .i64 (-1), .int .i64 1, .int .i64 (-1)], born := 3 }, { key := .string ⟨#[45, 57, 57, 57, 57]⟩, val := .agg #[.int .i64 (-1), .int .i64 1, .int .i64 3], born := 4 }, { key := .string ⟨#[45, 45, 57, 57]⟩, val := .agg #[.int .i64 (-1), .int .i64 (-1), .int .i64 2], born := 5 }] 6) := by rw [g1.below.block w.heap.size (by simp)]; exact (MapKept.heap_alloc w _).1
  have hlook := run_look w1 _ _ _ _ Tryz.underlying120 Tryz.underlying9 _ _ _ hb (k := .string (S [45, 57, 57])) trivial 3 (.agg #[.int .i64 (-1), .int .i64 1, .int .i64 (-1)]) true (by kernel_rfl)
  simp only [if_true] at hlook
  have hrow1 : w1.heap[q]? = some (.cells #[.int .i64 x0, .int .i64 x1, .int .i64 x2, .int .i64 x3, .int .i64 x4, .int .i64 x5, .bool x6, .int .i64 x7] 24 (0, 0)) := by rw [g1.below.block q (by simp; omega), Lib.alloc_old _ _ _ hq]; exact HROW.out
  have hq1 : q < w1.heap.size := lt_of_row hrow1
  have hqn : ¬ q = w1.heap.size := by omega
  have hqn1 : ¬ q = w1.heap.size + 1 := by omega
  have hqn2 : ¬ q = w1.heap.size + 1 + 1 := by omega
  have hqn3 : ¬ q = w1.heap.size + 1 + 1 + 1 := by omega
  have hqn4 : ¬ q = w1.heap.size + 1 + 1 + 1 + 1 := by omega
  have fz0 := fun (W : World) (o : Obj) (h : ¬ q = W.heap.size) => World.frozen?_alloc_old W o ⟨q, 3, none⟩ h
  have cz0 := fun (W : World) (o : Obj) (h : ¬ q = W.heap.size) => cell_alloc_ne W o q 3 h
  have fz1 := fun (W : World) (o : Obj) (h : ¬ q = W.heap.size) => World.frozen?_alloc_old W o ⟨q, 4, none⟩ h
  have cz1 := fun (W : World) (o : Obj) (h : ¬ q = W.heap.size) => cell_alloc_ne W o q 4 h
  have fz2 := fun (W : World) (o : Obj) (h : ¬ q = W.heap.size) => World.frozen?_alloc_old W o ⟨q, 5, none⟩ h
  have cz2 := fun (W : World) (o : Obj) (h : ¬ q = W.heap.size) => cell_alloc_ne W o q 5 h
  have c0 : w1.cell? ⟨q, 3, none⟩ = some (.int .i64 x3) := by rw [cell_of_row w1 q 3 _ _ _ hrow1]; rfl
  have z0 : w1.frozen? ⟨q, 3, none⟩ = false := frozen_of_row w1 q 3 _ _ hrow1
  have c1 : w1.cell? ⟨q, 4, none⟩ = some (.int .i64 x4) := by rw [cell_of_row w1 q 4 _ _ _ hrow1]; rfl
  have z1 : w1.frozen? ⟨q, 4, none⟩ = false := frozen_of_row w1 q 4 _ _ hrow1
  have c2 : w1.cell? ⟨q, 5, none⟩ = some (.int .i64 x5) := by rw [cell_of_row w1 q 5 _ _ _ hrow1]; rfl
  have z2 : w1.frozen? ⟨q, 5, none⟩ = false := frozen_of_row w1 q 5 _ _ hrow1
  have HBW : Hid (Below base w w1) := hid (Below.mono (((G.refl w).alloc _).trans g1) (by omega))
  have HBQ := hid hbase
  have ca := fun (W : World) (cs : Array Value) (t : TypeId) (i : Nat) (h : w1.heap.size = W.heap.size) => cell_alloc_at W cs t w1.heap.size i h
  have cb := fun (W : World) (cs : Array Value) (t : TypeId) (i : Nat) (h : w1.heap.size + 1 = W.heap.size) => cell_alloc_at W cs t (w1.heap.size + 1) i h
  have HROW1 := hid hrow1
  have HG1 : Hid (G w w1) := hid (((G.refl w).alloc _).trans g1)
  clear hb hrow1 g1
  go_wp2_with fail
  go_region
  go_wp2_with fail
  refine wp_loop_rounds 4 ?_
  rw [rounds_succ]
  go_wp2_with fail
  rw [rounds_succ]
  go_wp2_with fail
  have hd1 : ∀ c ∈ (s.take 3).drop 1, dgB c = true := fun c hc => HDG.out 1 3 c hc (by intro i h1 h2; have h3 : i = 1 ∨ i = 2 := (by omega); rcases h3 with rfl | rfl <;> rfl)
  have HD1 := hid hd1
  clear hd1
  have wr1 : IntKind.i64.wrap (1 + 2) = 3 := by decide
  have wq1 : IntKind.i64.wrap 3 = 3 := by decide
  go_region_held3 (fun w' => w'.cell? ⟨w1.heap.size, 1, none⟩ = some (.int .i64 1)) (go_keep)
    (first | (go_at_call 71; (with_reducible refine (number_c _ _ ?_ ?_).mono ?_); (· (first | exact HD1.out | simpa using HD1.out)); (· (simp; try omega)); rintro e w' ⟨rfl, rfl⟩))
  go_wp2_with fail
  rw [rounds_succ]
  go_wp2_with fail
  rw [rounds_succ]
  go_wp2_with fail
  go_ret
  refine ⟨rfl, ?_, ?_⟩
  · repeat (first | (with_reducible exact HBW.out) | (with_reducible refine Below.drew ?_) | (with_reducible refine Below.setCell ?_ ?_ _) | (with_reducible refine Below.alloc ?_ ?_ _))
    all_goals (first | exact HBQ.out | omega | (simp; done) | (simp; omega))
  · repeat (first | (with_reducible exact HROW1.out) | (with_reducible refine row_drew ?_) | (with_reducible apply row_setE) | (with_reducible refine row_alloc ?_ ?_))
    all_goals (first | rfl | omega | (simp; done) | (simp; omega))

end Go.Proofs.YtedlgpccmlcijaaGreatDoor


namespace Go.Proofs.YtedlgpccmlcijaaGreatDoor
open Go.RowKit
set_option linter.unusedVariables false
set_option linter.unusedSimpArgs false

set_option maxRecDepth 100000 in
set_option maxHeartbeats 4000000 in
theorem clock_at4 (s : List UInt8) (base q : Nat) (x0 x1 x2 x3 x4 x5 : Int) (x6 : Bool) (x7 : Int) (w : World) (hU : HasU w) (hl : s.length = 5) (hsh : shapeL s = [45, 57, 57, 57, 57]) (hd : ∀ (a b : Nat) (c : UInt8), c ∈ (s.take b).drop a → (∀ i, a ≤ i → i < b → ([45, 57, 57, 57, 57] : List UInt8)[i]? = some 57) → dgB c = true) (hbase : base ≤ q) (hrow : w.heap[q]? = some (.cells #[.int .i64 x0, .int .i64 x1, .int .i64 x2, .int .i64 x3, .int .i64 x4, .int .i64 x5, .bool x6, .int .i64 x7] 24 (0, 0))) :
    Calls Tryz.prog 56 #[.string (S s), .pointer (some ⟨q, 0, none⟩)] w fun e w' => e = .returned (.bool true) ∧ Below base w w' ∧ w'.heap[q]? = some (.cells #[.int .i64 x0, .int .i64 x1, .int .i64 x2, .int .i64 x3, .int .i64 (valL ((s.take 3).drop 1) : Nat), .int .i64 (valL ((s.take 5).drop 3) : Nat), .bool x6, .int .i64 x7] 24 (0, 0)) := by
  have hq : q < w.heap.size := lt_of_row hrow
  have HROW := hid hrow
  have HSH := hid hsh
  have HDG := hid hd
  have HU1 := hid (hU.grow ((G.refl w).alloc (.map clockMap 6)))
  clear hU hsh hd hrow
  have hmm := @run_makeMap Tryz.prog
  have m0 := clock_put0
  have m1 := clock_put1
  have m2 := clock_put2
  have m3 := clock_put3
  have m4 := clock_put4
  have m5 := clock_put5
  go_enter Tryz.func56, Tryz.ntmps56
  go_wp2_with fail
  clear m0 m1 m2 m3 m4 m5
  refine (shape_any s _ HU1.out (by omega)).use ?_
  intro w1 g1
  rw [HSH.out]
  have hb : w1.heap[w.heap.size]? = some (.map #[{ key := .string ⟨#[57, 57]⟩, val := .agg #[.int .i64 0, .int .i64 (-1), .int .i64 (-1)], born := 0 }, { key := .string ⟨#[57, 57, 57, 57]⟩, val := .agg #[.int .i64 0, .int .i64 2, .int .i64 (-1)], born := 1 }, { key := .string ⟨#[57, 57, 57, 57, 57, 57]⟩, val := .agg #[.int .i64 0, .int .i64 2, .int .i64 4], born := 2 }, { key := .string ⟨#[45, 57, 57]⟩, val := .agg #[.int .i64 (-1), .int .i64 1, .int .i64 (-1)], born := 3 }, { key := .string ⟨#[45, 57, 57, 57, 57]⟩, val := .agg #[.int .i64 (-1), .int .i64 1, .int .i64 3], born := 4 }, { key := .string ⟨#[45, 45, 57, 57]⟩, val := .agg #[.int .i64 (-1), .int .i64 (-1), .int .i64 2], born := 5 }] 6) := by rw [g1.below.block w.heap.size (by simp)]; exact (MapKept.heap_alloc w _).1
  have hlook := run_look w1 _ _ _ _ Tryz.underlying120 Tryz.underlying9 _ _ _ hb (k := .string (S [45, 57, 57, 57, 57])) trivial 4 (.agg #[.int .i64 (-1), .int .i64 1, .int .i64 3]) true (by kernel_rfl)
  simp only [if_true] at hlook
  have hrow1 : w1.heap[q]? = some (.cells #[.int .i64 x0, .int .i64 x1, .int .i64 x2, .int .i64 x3, .int .i64 x4, .int .i64 x5, .bool x6, .int .i64 x7] 24 (0, 0)) := by rw [g1.below.block q (by simp; omega), Lib.alloc_old _ _ _ hq]; exact HROW.out
  have hq1 : q < w1.heap.size := lt_of_row hrow1
  have hqn : ¬ q = w1.heap.size := by omega
  have hqn1 : ¬ q = w1.heap.size + 1 := by omega
  have hqn2 : ¬ q = w1.heap.size + 1 + 1 := by omega
  have hqn3 : ¬ q = w1.heap.size + 1 + 1 + 1 := by omega
  have hqn4 : ¬ q = w1.heap.size + 1 + 1 + 1 + 1 := by omega
  have fz0 := fun (W : World) (o : Obj) (h : ¬ q = W.heap.size) => World.frozen?_alloc_old W o ⟨q, 3, none⟩ h
  have cz0 := fun (W : World) (o : Obj) (h : ¬ q = W.heap.size) => cell_alloc_ne W o q 3 h
  have fz1 := fun (W : World) (o : Obj) (h : ¬ q = W.heap.size) => World.frozen?_alloc_old W o ⟨q, 4, none⟩ h
  have cz1 := fun (W : World) (o : Obj) (h : ¬ q = W.heap.size) => cell_alloc_ne W o q 4 h
  have fz2 := fun (W : World) (o : Obj) (h : ¬ q = W.heap.size) => World.frozen?_alloc_old W o ⟨q, 5, none⟩ h
  have cz2 := fun (W : World) (o : Obj) (h : ¬ q = W.heap.size) => cell_alloc_ne W o q 5 h
  have c0 : w1.cell? ⟨q, 3, none⟩ = some (.int .i64 x3) := by rw [cell_of_row w1 q 3 _ _ _ hrow1]; rfl
  have z0 : w1.frozen? ⟨q, 3, none⟩ = false := frozen_of_row w1 q 3 _ _ hrow1
  have c1 : w1.cell? ⟨q, 4, none⟩ = some (.int .i64 x4) := by rw [cell_of_row w1 q 4 _ _ _ hrow1]; rfl
  have z1 : w1.frozen? ⟨q, 4, none⟩ = false := frozen_of_row w1 q 4 _ _ hrow1
  have c2 : w1.cell? ⟨q, 5, none⟩ = some (.int .i64 x5) := by rw [cell_of_row w1 q 5 _ _ _ hrow1]; rfl
  have z2 : w1.frozen? ⟨q, 5, none⟩ = false := frozen_of_row w1 q 5 _ _ hrow1
  have HBW : Hid (Below base w w1) := hid (Below.mono (((G.refl w).alloc _).trans g1) (by omega))
  have HBQ := hid hbase
  have ca := fun (W : World) (cs : Array Value) (t : TypeId) (i : Nat) (h : w1.heap.size = W.heap.size) => cell_alloc_at W cs t w1.heap.size i h
  have cb := fun (W : World) (cs : Array Value) (t : TypeId) (i : Nat) (h : w1.heap.size + 1 = W.heap.size) => cell_alloc_at W cs t (w1.heap.size + 1) i h
  have HROW1 := hid hrow1
  have HG1 : Hid (G w w1) := hid (((G.refl w).alloc _).trans g1)
  clear hb hrow1 g1
  go_wp2_with fail
  go_region
  go_wp2_with fail
  refine wp_loop_rounds 4 ?_
  rw [rounds_succ]
  go_wp2_with fail
  rw [rounds_succ]
  go_wp2_with fail
  have hd1 : ∀ c ∈ (s.take 3).drop 1, dgB c = true := fun c hc => HDG.out 1 3 c hc (by intro i h1 h2; have h3 : i = 1 ∨ i = 2 := (by omega); rcases h3 with rfl | rfl <;> rfl)
  have HD1 := hid hd1
  clear hd1
  have wr1 : IntKind.i64.wrap (1 + 2) = 3 := by decide
  have wq1 : IntKind.i64.wrap 3 = 3 := by decide
  go_region_held3 (fun w' => w'.cell? ⟨w1.heap.size, 1, none⟩ = some (.int .i64 1)) (go_keep)
    (first | (go_at_call 71; (with_reducible refine (number_c _ _ ?_ ?_).mono ?_); (· (first | exact HD1.out | simpa using HD1.out)); (· (simp; try omega)); rintro e w' ⟨rfl, rfl⟩))
  go_wp2_with fail
  rw [rounds_succ]
  go_wp2_with fail
  have hd2 : ∀ c ∈ (s.take 5).drop 3, dgB c = true := fun c hc => HDG.out 3 5 c hc (by intro i h1 h2; have h3 : i = 3 ∨ i = 4 := (by omega); rcases h3 with rfl | rfl <;> rfl)
  have HD2 := hid hd2
  clear hd2
  have wr2 : IntKind.i64.wrap (3 + 2) = 5 := by decide
  have wq2 : IntKind.i64.wrap 5 = 5 := by decide
  go_region_held3 (fun w' => w'.cell? ⟨w1.heap.size, 2, none⟩ = some (.int .i64 3)) (go_keep)
    (first | (go_at_call 71; (with_reducible refine (number_c _ _ ?_ ?_).mono ?_); (· (first | exact HD2.out | simpa using HD2.out)); (· (simp; try omega)); rintro e w' ⟨rfl, rfl⟩))
  go_wp2_with fail
  rw [rounds_succ]
  go_wp2_with fail
  go_ret
  refine ⟨rfl, ?_, ?_⟩
  · repeat (first | (with_reducible exact HBW.out) | (with_reducible refine Below.drew ?_) | (with_reducible refine Below.setCell ?_ ?_ _) | (with_reducible refine Below.alloc ?_ ?_ _))
    all_goals (first | exact HBQ.out | omega | (simp; done) | (simp; omega))
  · repeat (first | (with_reducible exact HROW1.out) | (with_reducible refine row_drew ?_) | (with_reducible apply row_setE) | (with_reducible refine row_alloc ?_ ?_))
    all_goals (first | rfl | omega | (simp; done) | (simp; omega))

end Go.Proofs.YtedlgpccmlcijaaGreatDoor


namespace Go.Proofs.YtedlgpccmlcijaaGreatDoor
open Go.RowKit
set_option linter.unusedVariables false
set_option linter.unusedSimpArgs false

set_option maxRecDepth 100000 in
set_option maxHeartbeats 4000000 in
theorem clock_at5 (s : List UInt8) (base q : Nat) (x0 x1 x2 x3 x4 x5 : Int) (x6 : Bool) (x7 : Int) (w : World) (hU : HasU w) (hl : s.length = 4) (hsh : shapeL s = [45, 45, 57, 57]) (hd : ∀ (a b : Nat) (c : UInt8), c ∈ (s.take b).drop a → (∀ i, a ≤ i → i < b → ([45, 45, 57, 57] : List UInt8)[i]? = some 57) → dgB c = true) (hbase : base ≤ q) (hrow : w.heap[q]? = some (.cells #[.int .i64 x0, .int .i64 x1, .int .i64 x2, .int .i64 x3, .int .i64 x4, .int .i64 x5, .bool x6, .int .i64 x7] 24 (0, 0))) :
    Calls Tryz.prog 56 #[.string (S s), .pointer (some ⟨q, 0, none⟩)] w fun e w' => e = .returned (.bool true) ∧ Below base w w' ∧ w'.heap[q]? = some (.cells #[.int .i64 x0, .int .i64 x1, .int .i64 x2, .int .i64 x3, .int .i64 x4, .int .i64 (valL ((s.take 4).drop 2) : Nat), .bool x6, .int .i64 x7] 24 (0, 0)) := by
  have hq : q < w.heap.size := lt_of_row hrow
  have HROW := hid hrow
  have HSH := hid hsh
  have HDG := hid hd
  have HU1 := hid (hU.grow ((G.refl w).alloc (.map clockMap 6)))
  clear hU hsh hd hrow
  have hmm := @run_makeMap Tryz.prog
  have m0 := clock_put0
  have m1 := clock_put1
  have m2 := clock_put2
  have m3 := clock_put3
  have m4 := clock_put4
  have m5 := clock_put5
  go_enter Tryz.func56, Tryz.ntmps56
  go_wp2_with fail
  clear m0 m1 m2 m3 m4 m5
  refine (shape_any s _ HU1.out (by omega)).use ?_
  intro w1 g1
  rw [HSH.out]
  have hb : w1.heap[w.heap.size]? = some (.map #[{ key := .string ⟨#[57, 57]⟩, val := .agg #[.int .i64 0, .int .i64 (-1), .int .i64 (-1)], born := 0 }, { key := .string ⟨#[57, 57, 57, 57]⟩, val := .agg #[.int .i64 0, .int .i64 2, .int .i64 (-1)], born := 1 }, { key := .string ⟨#[57, 57, 57, 57, 57, 57]⟩, val := .agg #[.int .i64 0, .int .i64 2, .int .i64 4], born := 2 }, { key := .string ⟨#[45, 57, 57]⟩, val := .agg #[.int .i64 (-1), .int .i64 1, .int .i64 (-1)], born := 3 }, { key := .string ⟨#[45, 57, 57, 57, 57]⟩, val := .agg #[.int .i64 (-1), .int .i64 1, .int .i64 3], born := 4 }, { key := .string ⟨#[45, 45, 57, 57]⟩, val := .agg #[.int .i64 (-1), .int .i64 (-1), .int .i64 2], born := 5 }] 6) := by rw [g1.below.block w.heap.size (by simp)]; exact (MapKept.heap_alloc w _).1
  have hlook := run_look w1 _ _ _ _ Tryz.underlying120 Tryz.underlying9 _ _ _ hb (k := .string (S [45, 45, 57, 57])) trivial 5 (.agg #[.int .i64 (-1), .int .i64 (-1), .int .i64 2]) true (by kernel_rfl)
  simp only [if_true] at hlook
  have hrow1 : w1.heap[q]? = some (.cells #[.int .i64 x0, .int .i64 x1, .int .i64 x2, .int .i64 x3, .int .i64 x4, .int .i64 x5, .bool x6, .int .i64 x7] 24 (0, 0)) := by rw [g1.below.block q (by simp; omega), Lib.alloc_old _ _ _ hq]; exact HROW.out
  have hq1 : q < w1.heap.size := lt_of_row hrow1
  have hqn : ¬ q = w1.heap.size := by omega
  have hqn1 : ¬ q = w1.heap.size + 1 := by omega
  have hqn2 : ¬ q = w1.heap.size + 1 + 1 := by omega
  have hqn3 : ¬ q = w1.heap.size + 1 + 1 + 1 := by omega
  have hqn4 : ¬ q = w1.heap.size + 1 + 1 + 1 + 1 := by omega
  have fz0 := fun (W : World) (o : Obj) (h : ¬ q = W.heap.size) => World.frozen?_alloc_old W o ⟨q, 3, none⟩ h
  have cz0 := fun (W : World) (o : Obj) (h : ¬ q = W.heap.size) => cell_alloc_ne W o q 3 h
  have fz1 := fun (W : World) (o : Obj) (h : ¬ q = W.heap.size) => World.frozen?_alloc_old W o ⟨q, 4, none⟩ h
  have cz1 := fun (W : World) (o : Obj) (h : ¬ q = W.heap.size) => cell_alloc_ne W o q 4 h
  have fz2 := fun (W : World) (o : Obj) (h : ¬ q = W.heap.size) => World.frozen?_alloc_old W o ⟨q, 5, none⟩ h
  have cz2 := fun (W : World) (o : Obj) (h : ¬ q = W.heap.size) => cell_alloc_ne W o q 5 h
  have c0 : w1.cell? ⟨q, 3, none⟩ = some (.int .i64 x3) := by rw [cell_of_row w1 q 3 _ _ _ hrow1]; rfl
  have z0 : w1.frozen? ⟨q, 3, none⟩ = false := frozen_of_row w1 q 3 _ _ hrow1
  have c1 : w1.cell? ⟨q, 4, none⟩ = some (.int .i64 x4) := by rw [cell_of_row w1 q 4 _ _ _ hrow1]; rfl
  have z1 : w1.frozen? ⟨q, 4, none⟩ = false := frozen_of_row w1 q 4 _ _ hrow1
  have c2 : w1.cell? ⟨q, 5, none⟩ = some (.int .i64 x5) := by rw [cell_of_row w1 q 5 _ _ _ hrow1]; rfl
  have z2 : w1.frozen? ⟨q, 5, none⟩ = false := frozen_of_row w1 q 5 _ _ hrow1
  have HBW : Hid (Below base w w1) := hid (Below.mono (((G.refl w).alloc _).trans g1) (by omega))
  have HBQ := hid hbase
  have ca := fun (W : World) (cs : Array Value) (t : TypeId) (i : Nat) (h : w1.heap.size = W.heap.size) => cell_alloc_at W cs t w1.heap.size i h
  have cb := fun (W : World) (cs : Array Value) (t : TypeId) (i : Nat) (h : w1.heap.size + 1 = W.heap.size) => cell_alloc_at W cs t (w1.heap.size + 1) i h
  have HROW1 := hid hrow1
  have HG1 : Hid (G w w1) := hid (((G.refl w).alloc _).trans g1)
  clear hb hrow1 g1
  go_wp2_with fail
  go_region
  go_wp2_with fail
  refine wp_loop_rounds 4 ?_
  rw [rounds_succ]
  go_wp2_with fail
  rw [rounds_succ]
  go_wp2_with fail
  rw [rounds_succ]
  go_wp2_with fail
  have hd2 : ∀ c ∈ (s.take 4).drop 2, dgB c = true := fun c hc => HDG.out 2 4 c hc (by intro i h1 h2; have h3 : i = 2 ∨ i = 3 := (by omega); rcases h3 with rfl | rfl <;> rfl)
  have HD2 := hid hd2
  clear hd2
  have wr2 : IntKind.i64.wrap (2 + 2) = 4 := by decide
  have wq2 : IntKind.i64.wrap 4 = 4 := by decide
  go_region_held3 (fun w' => w'.cell? ⟨w1.heap.size, 2, none⟩ = some (.int .i64 2)) (go_keep)
    (first | (go_at_call 71; (with_reducible refine (number_c _ _ ?_ ?_).mono ?_); (· (exact HD2.out)); (· (simp; try omega)); rintro e w' ⟨rfl, rfl⟩))
  go_wp2_with fail
  rw [rounds_succ]
  go_wp2_with fail
  go_ret
  refine ⟨rfl, ?_, ?_⟩
  · repeat (first | (with_reducible exact HBW.out) | (with_reducible refine Below.drew ?_) | (with_reducible refine Below.setCell ?_ ?_ _) | (with_reducible refine Below.alloc ?_ ?_ _))
    all_goals (first | exact HBQ.out | omega | (simp; done) | (simp; omega))
  · repeat (first | (with_reducible exact HROW1.out) | (with_reducible refine row_drew ?_) | (with_reducible apply row_setE) | (with_reducible refine row_alloc ?_ ?_))
    all_goals (first | rfl | omega | (simp; done) | (simp; omega))

end Go.Proofs.YtedlgpccmlcijaaGreatDoor


namespace Go.Proofs.YtedlgpccmlcijaaGreatDoor
open Go.RowKit
set_option linter.unusedVariables false
set_option linter.unusedSimpArgs false



set_option maxRecDepth 100000 in
set_option maxHeartbeats 4000000 in
theorem clock_no (s : List UInt8) (base q : Nat) (x0 x1 x2 x3 x4 x5 : Int) (x6 : Bool) (x7 : Int) (w : World) (hU : HasU w) (hs : s.length ≤ 1000) (hn : Instr.findNow .string (.string (S (shapeL s))) (clockMap).toList 0 = some none) (hbase : base ≤ q) (hrow : w.heap[q]? = some (.cells #[.int .i64 x0, .int .i64 x1, .int .i64 x2, .int .i64 x3, .int .i64 x4, .int .i64 x5, .bool x6, .int .i64 x7] 24 (0, 0))) :
    Calls Tryz.prog 56 #[.string (S s), .pointer (some ⟨q, 0, none⟩)] w fun e w' => e = .returned (.bool false) ∧ Below base w w' ∧ w'.heap[q]? = some (.cells #[.int .i64 x0, .int .i64 x1, .int .i64 x2, .int .i64 x3, .int .i64 x4, .int .i64 x5, .bool x6, .int .i64 x7] 24 (0, 0)) := by
  have hq : q < w.heap.size := lt_of_row hrow
  have HROW := hid hrow
  have HN := hid hn
  have HU1 := hid (hU.grow ((G.refl w).alloc (.map clockMap 6)))
  clear hU hn hrow
  have hmm := @run_makeMap Tryz.prog
  have m0 := clock_put0
  have m1 := clock_put1
  have m2 := clock_put2
  have m3 := clock_put3
  have m4 := clock_put4
  have m5 := clock_put5
  go_enter Tryz.func56, Tryz.ntmps56
  go_wp2_with fail
  clear m0 m1 m2 m3 m4 m5
  refine (shape_any s _ HU1.out (by omega)).use ?_
  intro w1 g1
  have hb : w1.heap[w.heap.size]? = some (.map #[{ key := .string ⟨#[57, 57]⟩, val := .agg #[.int .i64 0, .int .i64 (-1), .int .i64 (-1)], born := 0 }, { key := .string ⟨#[57, 57, 57, 57]⟩, val := .agg #[.int .i64 0, .int .i64 2, .int .i64 (-1)], born := 1 }, { key := .string ⟨#[57, 57, 57, 57, 57, 57]⟩, val := .agg #[.int .i64 0, .int .i64 2, .int .i64 4], born := 2 }, { key := .string ⟨#[45, 57, 57]⟩, val := .agg #[.int .i64 (-1), .int .i64 1, .int .i64 (-1)], born := 3 }, { key := .string ⟨#[45, 57, 57, 57, 57]⟩, val := .agg #[.int .i64 (-1), .int .i64 1, .int .i64 3], born := 4 }, { key := .string ⟨#[45, 45, 57, 57]⟩, val := .agg #[.int .i64 (-1), .int .i64 (-1), .int .i64 2], born := 5 }] 6) := by rw [g1.below.block w.heap.size (by simp)]; exact (MapKept.heap_alloc w _).1
  have hlook := run_look_none (P := Tryz.prog) w1 _ _ _ _ Tryz.underlying120 Tryz.underlying9 _ _ _ hb (k := .string (S (shapeL s))) trivial (.agg #[.int .i64 0, .int .i64 0, .int .i64 0]) (fun _ => by kernel_rfl) HN.out
  have hrow1 : w1.heap[q]? = some (.cells #[.int .i64 x0, .int .i64 x1, .int .i64 x2, .int .i64 x3, .int .i64 x4, .int .i64 x5, .bool x6, .int .i64 x7] 24 (0, 0)) := by rw [g1.below.block q (by simp; omega), Lib.alloc_old _ _ _ hq]; exact HROW.out
  have hq1 : q < w1.heap.size := lt_of_row hrow1
  have HBW : Hid (Below base w w1) := hid (Below.mono (((G.refl w).alloc _).trans g1) (by omega))
  have HBQ := hid hbase
  have HROW1 := hid hrow1
  clear hb hrow1 g1
  go_wp2_with fail
  go_ret
  refine ⟨rfl, ?_, ?_⟩
  · repeat (first | (with_reducible exact HBW.out) | (with_reducible refine Below.drew ?_) | (with_reducible refine Below.setCell ?_ ?_ _) | (with_reducible refine Below.alloc ?_ ?_ _))
    all_goals (first | exact HBQ.out | omega | (simp; done) | (simp; omega))
  · repeat (first | (with_reducible exact HROW1.out) | (with_reducible refine row_drew ?_) | (with_reducible apply row_setE) | (with_reducible refine row_alloc ?_ ?_))
    all_goals (first | rfl | omega | (simp; done) | (simp; omega))

end Go.Proofs.YtedlgpccmlcijaaGreatDoor

