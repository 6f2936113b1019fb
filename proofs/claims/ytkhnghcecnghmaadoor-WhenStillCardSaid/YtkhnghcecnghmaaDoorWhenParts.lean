/-
  WALK of the law WhenParts.
-/
import Derived.Test.YtkhnghcecnghmaaDoorWhenPartsL
import Derived.Test.YtkhnghcecnghmaaDoorOpenStamp
import Derived.Test.YtkhnghcecnghmaaDoorWhenDated
import Derived.Test.YtkhnghcecnghmaaDoorStrs
namespace Go.Proofs.YtkhnghcecnghmaaDoor
open Go.RowKit
set_option linter.unusedVariables false
set_option linter.unusedSimpArgs false

theorem print_gen (t : St) (w : World) (hm : HasM w) (hy0 : -9223372036854775808 ≤ t.y) (hy1 : t.y ≤ 9223372036854775807) : Gives 10 #[t.v] w (.tuple #[.string (S t.out), errV t.right]) := by
  unfold St.out
  by_cases h : t.right = 0
  · have := print_any t w hm h
    rw [if_pos h, h]; exact this
  · have := print_bad t w hm hy0 hy1 t.right rfl h
    rw [if_neg h]; unfold errV; rw [if_neg h]; exact this

theorem out_len (t : St) : t.out.length ≤ 20 := by
  unfold St.out
  split
  · exact text_len t (by assumption)
  · simp
set_option maxRecDepth 100000 in
set_option maxHeartbeats 8000000 in
theorem whenParts_walk (a b : St) (w : World) (za : a.In) (zb : b.In) (hm : HasM w) (hU : HasU w) : Gives 8 #[a.v, b.v] w (.bool true) := by
  have lA := out_len (dateOf a)
  have lB := out_len (timeOf b)
  obtain ⟨A, hA⟩ : ∃ x, (dateOf a).out = x := ⟨_, rfl⟩
  obtain ⟨B, hB⟩ : ∃ x, (timeOf b).out = x := ⟨_, rfl⟩
  obtain ⟨C, hC⟩ : ∃ x, (bothOf a b).out = x := ⟨_, rfl⟩
  obtain ⟨ca, hca⟩ : ∃ x, (dateOf a).right = x := ⟨_, rfl⟩
  obtain ⟨cb, hcb⟩ : ∃ x, (timeOf b).right = x := ⟨_, rfl⟩
  obtain ⟨cc, hcc⟩ : ∃ x, (bothOf a b).right = x := ⟨_, rfl⟩
  have r1 := fun W hm => print_gen (dateOf a) W hm za.y.1 za.y.2
  have r2 := fun W hm => print_gen (timeOf b) W hm (show (-9223372036854775808 : Int) ≤ -1 by decide) (show (-1 : Int) ≤ 9223372036854775807 by decide)
  have r3 := fun W hm => print_gen (bothOf a b) W hm za.y.1 za.y.2
  have L1 : Hid (a.y = -1 ∧ a.m = -1 ∧ a.d = -1 → C = B ∧ cc = cb) := hid (by
    rintro ⟨x, y, z⟩
    have : bothOf a b = timeOf b := by unfold bothOf timeOf; rw [x, y, z]
    rw [← hB, ← hC, ← hcb, ← hcc, this]; exact ⟨rfl, rfl⟩)
  have L2 : Hid (b.h = -1 ∧ b.n = -1 ∧ b.s = -1 → cc = 0 → ca = 0 ∧ C = A) := hid (by
    intro h hz
    have := both_date a b h (hcc.trans hz)
    rw [← hA, ← hC, ← hca, ← this]; exact ⟨hcc.trans hz, rfl⟩)
  have L3 : Hid (¬ (a.y = -1 ∧ a.m = -1 ∧ a.d = -1) → ¬ (b.h = -1 ∧ b.n = -1 ∧ b.s = -1) → cc = 0 → ca = 0 ∧ cb = 0 ∧ C = A ++ B ∧ hasP B [84] = true) := hid (by
    intro h1 h2 hz
    obtain ⟨q1, q2, q3, r, q4⟩ := both_parts a b h1 h2 (hcc.trans hz)
    refine ⟨hca ▸ q1, hcb ▸ q2, ?_, ?_⟩
    · rw [← hA, ← hB, ← hC]; unfold St.out; rw [if_pos q1, if_pos q2, if_pos (hcc.trans hz), q3]
    · rw [← hB]; unfold St.out; rw [if_pos q2, q4]; exact hasP_append [84] r)
  rw [hA] at lA
  rw [hB] at lB
  rw [hA, hca] at r1
  rw [hB, hcb] at r2
  rw [hC, hcc] at r3
  have R1 := hid r1
  have R2 := hid r2
  have R3 := hid r3
  have HM := hid hm
  have HU := hid hU
  clear r1 r2 r3 hm hU hA hB hC hca hcb hcc za zb
  obtain ⟨y, m, d, u1, u2, u3, u4, u5⟩ := a
  obtain ⟨v1, v2, v3, h, n, s, zd, zn⟩ := b
  simp only [St.v, dateOf, timeOf, bothOf] at R1 R2 R3 L1 L2 L3 ⊢
  go_enter Tryd.func8, Tryd.ntmps8
  go_wp2_with fail
  have g0 : G w ((w.alloc (.cells #[.int .i64 y, .int .i64 m, .int .i64 d, .int .i64 u1, .int .i64 u2, .int .i64 u3, .bool u4, .int .i64 u5] 23)).alloc (.cells #[.int .i64 v1, .int .i64 v2, .int .i64 v3, .int .i64 h, .int .i64 n, .int .i64 s, .bool zd, .int .i64 zn] 23)) := ((G.refl w).alloc _).alloc _
  have G0 := hid g0
  clear g0
  refine (dated_any _ (HM.out.grow G0.out) (HU.out.grow G0.out)).use ?_
  intro w1 g1
  have hd1 : Hid (w1.heap[w.heap.size]? = some (.cells #[.int .i64 y, .int .i64 m, .int .i64 d, .int .i64 u1, .int .i64 u2, .int .i64 u3, .bool u4, .int .i64 u5] 23 (0, 0))) := hid (by
    rw [g1.below.block w.heap.size (by simp; omega), Lib.alloc_old _ _ _ (by simp)]
    exact heap_alloc_new w _)
  have ht1 : Hid (w1.heap[w.heap.size + 1]? = some (.cells #[.int .i64 v1, .int .i64 v2, .int .i64 v3, .int .i64 h, .int .i64 n, .int .i64 s, .bool zd, .int .i64 zn] 23 (0, 0))) := hid (by
    rw [g1.below.block (w.heap.size + 1) (by simp)]
    have := heap_alloc_new (w.alloc (.cells #[.int .i64 y, .int .i64 m, .int .i64 d, .int .i64 u1, .int .i64 u2, .int .i64 u3, .bool u4, .int .i64 u5] 23)) (.cells #[.int .i64 v1, .int .i64 v2, .int .i64 v3, .int .i64 h, .int .i64 n, .int .i64 s, .bool zd, .int .i64 zn] 23)
    simpa using this)
  have G1 : Hid (G w w1) := hid (G0.out.trans g1)
  clear g1
  have a0 : w1.cell? ⟨w.heap.size, 0, none⟩ = some (.int .i64 y) := by rw [cell_of_row w1 (w.heap.size) 0 _ _ _ hd1.out]; rfl
  have b0 : w1.frozen? ⟨w.heap.size, 0, none⟩ = false := frozen_of_row w1 (w.heap.size) 0 _ _ hd1.out
  have a1 : w1.cell? ⟨w.heap.size, 1, none⟩ = some (.int .i64 m) := by rw [cell_of_row w1 (w.heap.size) 1 _ _ _ hd1.out]; rfl
  have b1 : w1.frozen? ⟨w.heap.size, 1, none⟩ = false := frozen_of_row w1 (w.heap.size) 1 _ _ hd1.out
  have a2 : w1.cell? ⟨w.heap.size, 2, none⟩ = some (.int .i64 d) := by rw [cell_of_row w1 (w.heap.size) 2 _ _ _ hd1.out]; rfl
  have b2 : w1.frozen? ⟨w.heap.size, 2, none⟩ = false := frozen_of_row w1 (w.heap.size) 2 _ _ hd1.out
  have a3 : w1.cell? ⟨w.heap.size, 3, none⟩ = some (.int .i64 u1) := by rw [cell_of_row w1 (w.heap.size) 3 _ _ _ hd1.out]; rfl
  have b3 : w1.frozen? ⟨w.heap.size, 3, none⟩ = false := frozen_of_row w1 (w.heap.size) 3 _ _ hd1.out
  have a4 : w1.cell? ⟨w.heap.size, 4, none⟩ = some (.int .i64 u2) := by rw [cell_of_row w1 (w.heap.size) 4 _ _ _ hd1.out]; rfl
  have b4 : w1.frozen? ⟨w.heap.size, 4, none⟩ = false := frozen_of_row w1 (w.heap.size) 4 _ _ hd1.out
  have a5 : w1.cell? ⟨w.heap.size, 5, none⟩ = some (.int .i64 u3) := by rw [cell_of_row w1 (w.heap.size) 5 _ _ _ hd1.out]; rfl
  have b5 : w1.frozen? ⟨w.heap.size, 5, none⟩ = false := frozen_of_row w1 (w.heap.size) 5 _ _ hd1.out
  have a6 : w1.cell? ⟨w.heap.size, 6, none⟩ = some (.bool u4) := by rw [cell_of_row w1 (w.heap.size) 6 _ _ _ hd1.out]; rfl
  have b6 : w1.frozen? ⟨w.heap.size, 6, none⟩ = false := frozen_of_row w1 (w.heap.size) 6 _ _ hd1.out
  have a7 : w1.cell? ⟨w.heap.size, 7, none⟩ = some (.int .i64 u5) := by rw [cell_of_row w1 (w.heap.size) 7 _ _ _ hd1.out]; rfl
  have b7 : w1.frozen? ⟨w.heap.size, 7, none⟩ = false := frozen_of_row w1 (w.heap.size) 7 _ _ hd1.out
  have c0 : w1.cell? ⟨w.heap.size + 1, 0, none⟩ = some (.int .i64 v1) := by rw [cell_of_row w1 (w.heap.size + 1) 0 _ _ _ ht1.out]; rfl
  have e0 : w1.frozen? ⟨w.heap.size + 1, 0, none⟩ = false := frozen_of_row w1 (w.heap.size + 1) 0 _ _ ht1.out
  have c1 : w1.cell? ⟨w.heap.size + 1, 1, none⟩ = some (.int .i64 v2) := by rw [cell_of_row w1 (w.heap.size + 1) 1 _ _ _ ht1.out]; rfl
  have e1 : w1.frozen? ⟨w.heap.size + 1, 1, none⟩ = false := frozen_of_row w1 (w.heap.size + 1) 1 _ _ ht1.out
  have c2 : w1.cell? ⟨w.heap.size + 1, 2, none⟩ = some (.int .i64 v3) := by rw [cell_of_row w1 (w.heap.size + 1) 2 _ _ _ ht1.out]; rfl
  have e2 : w1.frozen? ⟨w.heap.size + 1, 2, none⟩ = false := frozen_of_row w1 (w.heap.size + 1) 2 _ _ ht1.out
  have c3 : w1.cell? ⟨w.heap.size + 1, 3, none⟩ = some (.int .i64 h) := by rw [cell_of_row w1 (w.heap.size + 1) 3 _ _ _ ht1.out]; rfl
  have e3 : w1.frozen? ⟨w.heap.size + 1, 3, none⟩ = false := frozen_of_row w1 (w.heap.size + 1) 3 _ _ ht1.out
  have c4 : w1.cell? ⟨w.heap.size + 1, 4, none⟩ = some (.int .i64 n) := by rw [cell_of_row w1 (w.heap.size + 1) 4 _ _ _ ht1.out]; rfl
  have e4 : w1.frozen? ⟨w.heap.size + 1, 4, none⟩ = false := frozen_of_row w1 (w.heap.size + 1) 4 _ _ ht1.out
  have c5 : w1.cell? ⟨w.heap.size + 1, 5, none⟩ = some (.int .i64 s) := by rw [cell_of_row w1 (w.heap.size + 1) 5 _ _ _ ht1.out]; rfl
  have e5 : w1.frozen? ⟨w.heap.size + 1, 5, none⟩ = false := frozen_of_row w1 (w.heap.size + 1) 5 _ _ ht1.out
  have c6 : w1.cell? ⟨w.heap.size + 1, 6, none⟩ = some (.bool zd) := by rw [cell_of_row w1 (w.heap.size + 1) 6 _ _ _ ht1.out]; rfl
  have e6 : w1.frozen? ⟨w.heap.size + 1, 6, none⟩ = false := frozen_of_row w1 (w.heap.size + 1) 6 _ _ ht1.out
  have c7 : w1.cell? ⟨w.heap.size + 1, 7, none⟩ = some (.int .i64 zn) := by rw [cell_of_row w1 (w.heap.size + 1) 7 _ _ _ ht1.out]; rfl
  have e7 : w1.frozen? ⟨w.heap.size + 1, 7, none⟩ = false := frozen_of_row w1 (w.heap.size + 1) 7 _ _ ht1.out
  have hdA : Hid ((((((w1.setCell ⟨w.heap.size, 3, none⟩ (.int .i64 (-1))).setCell ⟨w.heap.size, 4, none⟩ (.int .i64 (-1))).setCell ⟨w.heap.size, 5, none⟩ (.int .i64 (-1))).setCell ⟨w.heap.size, 6, none⟩ (.bool false)).setCell ⟨w.heap.size, 7, none⟩ (.int .i64 0)).heap[w.heap.size]? = some (.cells #[.int .i64 y, .int .i64 m, .int .i64 d, .int .i64 (-1), .int .i64 (-1), .int .i64 (-1), .bool false, .int .i64 0] 23 (0, 0))) := hid (row_setE (row_setE (row_setE (row_setE (row_setE hd1.out rfl) rfl) rfl) rfl) rfl)
  have htA : Hid ((((((w1.setCell ⟨w.heap.size, 3, none⟩ (.int .i64 (-1))).setCell ⟨w.heap.size, 4, none⟩ (.int .i64 (-1))).setCell ⟨w.heap.size, 5, none⟩ (.int .i64 (-1))).setCell ⟨w.heap.size, 6, none⟩ (.bool false)).setCell ⟨w.heap.size, 7, none⟩ (.int .i64 0)).heap[w.heap.size + 1]? = some (.cells #[.int .i64 v1, .int .i64 v2, .int .i64 v3, .int .i64 h, .int .i64 n, .int .i64 s, .bool zd, .int .i64 zn] 23 (0, 0))) := hid (by rw [Below.heap_setCell _ _ _ _ (by simp), Below.heap_setCell _ _ _ _ (by simp), Below.heap_setCell _ _ _ _ (by simp), Below.heap_setCell _ _ _ _ (by simp), Below.heap_setCell _ _ _ _ (by simp), ht1.out])
  have hdB : Hid (((((((((w1.setCell ⟨w.heap.size, 3, none⟩ (.int .i64 (-1))).setCell ⟨w.heap.size, 4, none⟩ (.int .i64 (-1))).setCell ⟨w.heap.size, 5, none⟩ (.int .i64 (-1))).setCell ⟨w.heap.size, 6, none⟩ (.bool false)).setCell ⟨w.heap.size, 7, none⟩ (.int .i64 0)).setCell ⟨w.heap.size + 1, 0, none⟩ (.int .i64 (-1))).setCell ⟨w.heap.size + 1, 1, none⟩ (.int .i64 (-1))).setCell ⟨w.heap.size + 1, 2, none⟩ (.int .i64 (-1))).heap[w.heap.size]? = some (.cells #[.int .i64 y, .int .i64 m, .int .i64 d, .int .i64 (-1), .int .i64 (-1), .int .i64 (-1), .bool false, .int .i64 0] 23 (0, 0))) := hid (by rw [Below.heap_setCell _ _ _ _ (by simp), Below.heap_setCell _ _ _ _ (by simp), Below.heap_setCell _ _ _ _ (by simp), hdA.out])
  have htB : Hid (((((((((w1.setCell ⟨w.heap.size, 3, none⟩ (.int .i64 (-1))).setCell ⟨w.heap.size, 4, none⟩ (.int .i64 (-1))).setCell ⟨w.heap.size, 5, none⟩ (.int .i64 (-1))).setCell ⟨w.heap.size, 6, none⟩ (.bool false)).setCell ⟨w.heap.size, 7, none⟩ (.int .i64 0)).setCell ⟨w.heap.size + 1, 0, none⟩ (.int .i64 (-1))).setCell ⟨w.heap.size + 1, 1, none⟩ (.int .i64 (-1))).setCell ⟨w.heap.size + 1, 2, none⟩ (.int .i64 (-1))).heap[w.heap.size + 1]? = some (.cells #[.int .i64 (-1), .int .i64 (-1), .int .i64 (-1), .int .i64 h, .int .i64 n, .int .i64 s, .bool zd, .int .i64 zn] 23 (0, 0))) := hid (row_setE (row_setE (row_setE htA.out rfl) rfl) rfl)
  have GB : Hid (G w ((((((((w1.setCell ⟨w.heap.size, 3, none⟩ (.int .i64 (-1))).setCell ⟨w.heap.size, 4, none⟩ (.int .i64 (-1))).setCell ⟨w.heap.size, 5, none⟩ (.int .i64 (-1))).setCell ⟨w.heap.size, 6, none⟩ (.bool false)).setCell ⟨w.heap.size, 7, none⟩ (.int .i64 0)).setCell ⟨w.heap.size + 1, 0, none⟩ (.int .i64 (-1))).setCell ⟨w.heap.size + 1, 1, none⟩ (.int .i64 (-1))).setCell ⟨w.heap.size + 1, 2, none⟩ (.int .i64 (-1)))) := hid (Below.setCell (p := ⟨w.heap.size + 1, 2, none⟩) (Below.setCell (p := ⟨w.heap.size + 1, 1, none⟩) (Below.setCell (p := ⟨w.heap.size + 1, 0, none⟩) (Below.setCell (p := ⟨w.heap.size, 7, none⟩) (Below.setCell (p := ⟨w.heap.size, 6, none⟩) (Below.setCell (p := ⟨w.heap.size, 5, none⟩) (Below.setCell (p := ⟨w.heap.size, 4, none⟩) (Below.setCell (p := ⟨w.heap.size, 3, none⟩) G1.out.below (by simp) (.int .i64 (-1))) (by simp) (.int .i64 (-1))) (by simp) (.int .i64 (-1))) (by simp) (.bool false)) (by simp) (.int .i64 0)) (by simp) (.int .i64 (-1))) (by simp) (.int .i64 (-1))) (by simp) (.int .i64 (-1)))
  go_wp2_with fail
  refine (R1.out _ (HM.out.grow GB.out)).use ?_
  intro w2 g2
  have hd2 : Hid (w2.heap[w.heap.size]? = some (.cells #[.int .i64 y, .int .i64 m, .int .i64 d, .int .i64 (-1), .int .i64 (-1), .int .i64 (-1), .bool false, .int .i64 0] 23 (0, 0))) := hid (by rw [g2.below.block _ (lt_of_row hdB.out)]; exact hdB.out)
  have ht2 : Hid (w2.heap[w.heap.size + 1]? = some (.cells #[.int .i64 (-1), .int .i64 (-1), .int .i64 (-1), .int .i64 h, .int .i64 n, .int .i64 s, .bool zd, .int .i64 zn] 23 (0, 0))) := hid (by rw [g2.below.block _ (lt_of_row htB.out)]; exact htB.out)
  have G2 : Hid (G w w2) := hid (GB.out.trans g2)
  clear g2 a0 a1 a2 a3 a4 a5 a6 a7 b0 b1 b2 b3 b4 b5 b6 b7 c0 c1 c2 c3 c4 c5 c6 c7 e0 e1 e2 e3 e4 e5 e6 e7 hdA htA hdB htB GB
  have c0 : w2.cell? ⟨w.heap.size + 1, 0, none⟩ = some (.int .i64 (-1)) := by rw [cell_of_row w2 (w.heap.size + 1) 0 _ _ _ ht2.out]; rfl
  have c1 : w2.cell? ⟨w.heap.size + 1, 1, none⟩ = some (.int .i64 (-1)) := by rw [cell_of_row w2 (w.heap.size + 1) 1 _ _ _ ht2.out]; rfl
  have c2 : w2.cell? ⟨w.heap.size + 1, 2, none⟩ = some (.int .i64 (-1)) := by rw [cell_of_row w2 (w.heap.size + 1) 2 _ _ _ ht2.out]; rfl
  have c3 : w2.cell? ⟨w.heap.size + 1, 3, none⟩ = some (.int .i64 h) := by rw [cell_of_row w2 (w.heap.size + 1) 3 _ _ _ ht2.out]; rfl
  have c4 : w2.cell? ⟨w.heap.size + 1, 4, none⟩ = some (.int .i64 n) := by rw [cell_of_row w2 (w.heap.size + 1) 4 _ _ _ ht2.out]; rfl
  have c5 : w2.cell? ⟨w.heap.size + 1, 5, none⟩ = some (.int .i64 s) := by rw [cell_of_row w2 (w.heap.size + 1) 5 _ _ _ ht2.out]; rfl
  have c6 : w2.cell? ⟨w.heap.size + 1, 6, none⟩ = some (.bool zd) := by rw [cell_of_row w2 (w.heap.size + 1) 6 _ _ _ ht2.out]; rfl
  have c7 : w2.cell? ⟨w.heap.size + 1, 7, none⟩ = some (.int .i64 zn) := by rw [cell_of_row w2 (w.heap.size + 1) 7 _ _ _ ht2.out]; rfl
  go_wp2_with fail
  refine (R2.out _ (HM.out.grow G2.out)).use ?_
  intro w3 g3
  have hd3 : Hid (w3.heap[w.heap.size]? = some (.cells #[.int .i64 y, .int .i64 m, .int .i64 d, .int .i64 (-1), .int .i64 (-1), .int .i64 (-1), .bool false, .int .i64 0] 23 (0, 0))) := hid (by rw [g3.below.block _ (lt_of_row hd2.out)]; exact hd2.out)
  have ht3 : Hid (w3.heap[w.heap.size + 1]? = some (.cells #[.int .i64 (-1), .int .i64 (-1), .int .i64 (-1), .int .i64 h, .int .i64 n, .int .i64 s, .bool zd, .int .i64 zn] 23 (0, 0))) := hid (by rw [g3.below.block _ (lt_of_row ht2.out)]; exact ht2.out)
  have G3 : Hid (G w w3) := hid (G2.out.trans g3)
  have hB3 : w.heap.size < w3.heap.size ∧ w.heap.size + 1 < w3.heap.size := ⟨lt_of_row hd3.out, lt_of_row ht3.out⟩
  obtain ⟨hB30, hB31⟩ := hB3
  clear g3 c0 c1 c2 c3 c4 c5 c6 c7 hd2 ht2 G2
  have c0 : w3.cell? ⟨w.heap.size + 1, 0, none⟩ = some (.int .i64 (-1)) := by rw [cell_of_row w3 (w.heap.size + 1) 0 _ _ _ ht3.out]; rfl
  have c1 : w3.cell? ⟨w.heap.size + 1, 1, none⟩ = some (.int .i64 (-1)) := by rw [cell_of_row w3 (w.heap.size + 1) 1 _ _ _ ht3.out]; rfl
  have c2 : w3.cell? ⟨w.heap.size + 1, 2, none⟩ = some (.int .i64 (-1)) := by rw [cell_of_row w3 (w.heap.size + 1) 2 _ _ _ ht3.out]; rfl
  have c3 : w3.cell? ⟨w.heap.size + 1, 3, none⟩ = some (.int .i64 h) := by rw [cell_of_row w3 (w.heap.size + 1) 3 _ _ _ ht3.out]; rfl
  have c4 : w3.cell? ⟨w.heap.size + 1, 4, none⟩ = some (.int .i64 n) := by rw [cell_of_row w3 (w.heap.size + 1) 4 _ _ _ ht3.out]; rfl
  have c5 : w3.cell? ⟨w.heap.size + 1, 5, none⟩ = some (.int .i64 s) := by rw [cell_of_row w3 (w.heap.size + 1) 5 _ _ _ ht3.out]; rfl
  have c6 : w3.cell? ⟨w.heap.size + 1, 6, none⟩ = some (.bool zd) := by rw [cell_of_row w3 (w.heap.size + 1) 6 _ _ _ ht3.out]; rfl
  have c7 : w3.cell? ⟨w.heap.size + 1, 7, none⟩ = some (.int .i64 zn) := by rw [cell_of_row w3 (w.heap.size + 1) 7 _ _ _ ht3.out]; rfl
  have a0 : w3.cell? ⟨w.heap.size, 0, none⟩ = some (.int .i64 y) := by rw [cell_of_row w3 (w.heap.size) 0 _ _ _ hd3.out]; rfl
  have a1 : w3.cell? ⟨w.heap.size, 1, none⟩ = some (.int .i64 m) := by rw [cell_of_row w3 (w.heap.size) 1 _ _ _ hd3.out]; rfl
  have a2 : w3.cell? ⟨w.heap.size, 2, none⟩ = some (.int .i64 d) := by rw [cell_of_row w3 (w.heap.size) 2 _ _ _ hd3.out]; rfl
  have a3 : w3.cell? ⟨w.heap.size, 3, none⟩ = some (.int .i64 (-1)) := by rw [cell_of_row w3 (w.heap.size) 3 _ _ _ hd3.out]; rfl
  have a4 : w3.cell? ⟨w.heap.size, 4, none⟩ = some (.int .i64 (-1)) := by rw [cell_of_row w3 (w.heap.size) 4 _ _ _ hd3.out]; rfl
  have a5 : w3.cell? ⟨w.heap.size, 5, none⟩ = some (.int .i64 (-1)) := by rw [cell_of_row w3 (w.heap.size) 5 _ _ _ hd3.out]; rfl
  have a6 : w3.cell? ⟨w.heap.size, 6, none⟩ = some (.bool false) := by rw [cell_of_row w3 (w.heap.size) 6 _ _ _ hd3.out]; rfl
  have a7 : w3.cell? ⟨w.heap.size, 7, none⟩ = some (.int .i64 0) := by rw [cell_of_row w3 (w.heap.size) 7 _ _ _ hd3.out]; rfl
  go_wp2_with fail
  clear a0 a1 a2 a3 a4 a5 a6 a7 c0 c1 c2 c3 c4 c5 c6 c7
  have hd4 : Hid ((w3.alloc (.cells #[.int .i64 (-1), .int .i64 (-1), .int .i64 (-1), .int .i64 h, .int .i64 n, .int .i64 s, .bool zd, .int .i64 zn] 23)).heap[w.heap.size]? = some (.cells #[.int .i64 y, .int .i64 m, .int .i64 d, .int .i64 (-1), .int .i64 (-1), .int .i64 (-1), .bool false, .int .i64 0] 23 (0, 0))) := hid (by rw [Lib.alloc_old _ _ _ hB30]; exact hd3.out)
  have ht4 : Hid ((w3.alloc (.cells #[.int .i64 (-1), .int .i64 (-1), .int .i64 (-1), .int .i64 h, .int .i64 n, .int .i64 s, .bool zd, .int .i64 zn] 23)).heap[w.heap.size + 1]? = some (.cells #[.int .i64 (-1), .int .i64 (-1), .int .i64 (-1), .int .i64 h, .int .i64 n, .int .i64 s, .bool zd, .int .i64 zn] 23 (0, 0))) := hid (by rw [Lib.alloc_old _ _ _ hB31]; exact ht3.out)
  have hb4 : Hid ((w3.alloc (.cells #[.int .i64 (-1), .int .i64 (-1), .int .i64 (-1), .int .i64 h, .int .i64 n, .int .i64 s, .bool zd, .int .i64 zn] 23)).heap[w3.heap.size]? = some (.cells #[.int .i64 (-1), .int .i64 (-1), .int .i64 (-1), .int .i64 h, .int .i64 n, .int .i64 s, .bool zd, .int .i64 zn] 23 (0, 0))) := hid (heap_alloc_new w3 _)
  have G4 : Hid (G w (w3.alloc (.cells #[.int .i64 (-1), .int .i64 (-1), .int .i64 (-1), .int .i64 h, .int .i64 n, .int .i64 s, .bool zd, .int .i64 zn] 23))) := hid (G3.out.alloc _)
  have hGB : Hid (w.heap.size ≤ w3.heap.size) := hid G3.out.size
  obtain ⟨w4, hw4⟩ : ∃ W, w3.alloc (.cells #[.int .i64 (-1), .int .i64 (-1), .int .i64 (-1), .int .i64 h, .int .i64 n, .int .i64 s, .bool zd, .int .i64 zn] 23) = W := ⟨_, rfl⟩
  obtain ⟨q, hq⟩ : ∃ q, w3.heap.size = q := ⟨_, rfl⟩
  rw [hw4] at hd4 ht4 hb4 G4 ⊢
  rw [hq] at hb4 hB30 hB31 hGB ⊢
  clear hw4 hq hd3 ht3 G3
  have hn0 : ¬ w.heap.size = q := by omega
  have hn1 : ¬ w.heap.size + 1 = q := by omega
  have a0 : w4.cell? ⟨w.heap.size, 0, none⟩ = some (.int .i64 y) := by rw [cell_of_row w4 (w.heap.size) 0 _ _ _ hd4.out]; rfl
  have a1 : w4.cell? ⟨w.heap.size, 1, none⟩ = some (.int .i64 m) := by rw [cell_of_row w4 (w.heap.size) 1 _ _ _ hd4.out]; rfl
  have a2 : w4.cell? ⟨w.heap.size, 2, none⟩ = some (.int .i64 d) := by rw [cell_of_row w4 (w.heap.size) 2 _ _ _ hd4.out]; rfl
  have a3 : w4.cell? ⟨w.heap.size, 3, none⟩ = some (.int .i64 (-1)) := by rw [cell_of_row w4 (w.heap.size) 3 _ _ _ hd4.out]; rfl
  have a4 : w4.cell? ⟨w.heap.size, 4, none⟩ = some (.int .i64 (-1)) := by rw [cell_of_row w4 (w.heap.size) 4 _ _ _ hd4.out]; rfl
  have a5 : w4.cell? ⟨w.heap.size, 5, none⟩ = some (.int .i64 (-1)) := by rw [cell_of_row w4 (w.heap.size) 5 _ _ _ hd4.out]; rfl
  have a6 : w4.cell? ⟨w.heap.size, 6, none⟩ = some (.bool false) := by rw [cell_of_row w4 (w.heap.size) 6 _ _ _ hd4.out]; rfl
  have a7 : w4.cell? ⟨w.heap.size, 7, none⟩ = some (.int .i64 0) := by rw [cell_of_row w4 (w.heap.size) 7 _ _ _ hd4.out]; rfl
  have c0 : w4.cell? ⟨q, 0, none⟩ = some (.int .i64 (-1)) := by rw [cell_of_row w4 (q) 0 _ _ _ hb4.out]; rfl
  have e0 : w4.frozen? ⟨q, 0, none⟩ = false := frozen_of_row w4 (q) 0 _ _ hb4.out
  have c1 : w4.cell? ⟨q, 1, none⟩ = some (.int .i64 (-1)) := by rw [cell_of_row w4 (q) 1 _ _ _ hb4.out]; rfl
  have e1 : w4.frozen? ⟨q, 1, none⟩ = false := frozen_of_row w4 (q) 1 _ _ hb4.out
  have c2 : w4.cell? ⟨q, 2, none⟩ = some (.int .i64 (-1)) := by rw [cell_of_row w4 (q) 2 _ _ _ hb4.out]; rfl
  have e2 : w4.frozen? ⟨q, 2, none⟩ = false := frozen_of_row w4 (q) 2 _ _ hb4.out
  have c3 : w4.cell? ⟨q, 3, none⟩ = some (.int .i64 h) := by rw [cell_of_row w4 (q) 3 _ _ _ hb4.out]; rfl
  have e3 : w4.frozen? ⟨q, 3, none⟩ = false := frozen_of_row w4 (q) 3 _ _ hb4.out
  have c4 : w4.cell? ⟨q, 4, none⟩ = some (.int .i64 n) := by rw [cell_of_row w4 (q) 4 _ _ _ hb4.out]; rfl
  have e4 : w4.frozen? ⟨q, 4, none⟩ = false := frozen_of_row w4 (q) 4 _ _ hb4.out
  have c5 : w4.cell? ⟨q, 5, none⟩ = some (.int .i64 s) := by rw [cell_of_row w4 (q) 5 _ _ _ hb4.out]; rfl
  have e5 : w4.frozen? ⟨q, 5, none⟩ = false := frozen_of_row w4 (q) 5 _ _ hb4.out
  have c6 : w4.cell? ⟨q, 6, none⟩ = some (.bool zd) := by rw [cell_of_row w4 (q) 6 _ _ _ hb4.out]; rfl
  have e6 : w4.frozen? ⟨q, 6, none⟩ = false := frozen_of_row w4 (q) 6 _ _ hb4.out
  have c7 : w4.cell? ⟨q, 7, none⟩ = some (.int .i64 zn) := by rw [cell_of_row w4 (q) 7 _ _ _ hb4.out]; rfl
  have e7 : w4.frozen? ⟨q, 7, none⟩ = false := frozen_of_row w4 (q) 7 _ _ hb4.out
  go_region
  have hb5 : Hid ((((w4.setCell ⟨q, 0, none⟩ (.int .i64 y)).setCell ⟨q, 1, none⟩ (.int .i64 m)).setCell ⟨q, 2, none⟩ (.int .i64 d)).drew.heap[q]? = some (.cells #[.int .i64 y, .int .i64 m, .int .i64 d, .int .i64 h, .int .i64 n, .int .i64 s, .bool zd, .int .i64 zn] 23 (0, 0))) := hid (row_drew (row_setE (row_setE (row_setE hb4.out rfl) rfl) rfl))
  have hd5 : Hid ((((w4.setCell ⟨q, 0, none⟩ (.int .i64 y)).setCell ⟨q, 1, none⟩ (.int .i64 m)).setCell ⟨q, 2, none⟩ (.int .i64 d)).drew.heap[w.heap.size]? = some (.cells #[.int .i64 y, .int .i64 m, .int .i64 d, .int .i64 (-1), .int .i64 (-1), .int .i64 (-1), .bool false, .int .i64 0] 23 (0, 0))) := hid (row_drew (by rw [Below.heap_setCell _ _ _ _ (by simpa using hn0), Below.heap_setCell _ _ _ _ (by simpa using hn0), Below.heap_setCell _ _ _ _ (by simpa using hn0)]; exact hd4.out))
  have ht5 : Hid ((((w4.setCell ⟨q, 0, none⟩ (.int .i64 y)).setCell ⟨q, 1, none⟩ (.int .i64 m)).setCell ⟨q, 2, none⟩ (.int .i64 d)).drew.heap[w.heap.size + 1]? = some (.cells #[.int .i64 (-1), .int .i64 (-1), .int .i64 (-1), .int .i64 h, .int .i64 n, .int .i64 s, .bool zd, .int .i64 zn] 23 (0, 0))) := hid (row_drew (by rw [Below.heap_setCell _ _ _ _ (by simpa using hn1), Below.heap_setCell _ _ _ _ (by simpa using hn1), Below.heap_setCell _ _ _ _ (by simpa using hn1)]; exact ht4.out))
  have G5 : Hid (G w (((w4.setCell ⟨q, 0, none⟩ (.int .i64 y)).setCell ⟨q, 1, none⟩ (.int .i64 m)).setCell ⟨q, 2, none⟩ (.int .i64 d)).drew) := hid (G.drew (Below.setCell (p := ⟨q, 2, none⟩) (Below.setCell (p := ⟨q, 1, none⟩) (Below.setCell (p := ⟨q, 0, none⟩) G4.out.below hGB.out _) hGB.out _) hGB.out _))
  clear a0 a1 a2 a3 a4 a5 a6 a7 c0 c1 c2 c3 c4 c5 c6 c7 e0 e1 e2 e3 e4 e5 e6 e7 hd4 ht4 hb4 G4
  obtain ⟨w5, hw5⟩ : ∃ W, (((w4.setCell ⟨q, 0, none⟩ (.int .i64 y)).setCell ⟨q, 1, none⟩ (.int .i64 m)).setCell ⟨q, 2, none⟩ (.int .i64 d)).drew = W := ⟨_, rfl⟩
  rw [hw5] at hb5 hd5 ht5 G5 ⊢
  clear hw5
  have c0 : w5.cell? ⟨q, 0, none⟩ = some (.int .i64 y) := by rw [cell_of_row w5 (q) 0 _ _ _ hb5.out]; rfl
  have c1 : w5.cell? ⟨q, 1, none⟩ = some (.int .i64 m) := by rw [cell_of_row w5 (q) 1 _ _ _ hb5.out]; rfl
  have c2 : w5.cell? ⟨q, 2, none⟩ = some (.int .i64 d) := by rw [cell_of_row w5 (q) 2 _ _ _ hb5.out]; rfl
  have c3 : w5.cell? ⟨q, 3, none⟩ = some (.int .i64 h) := by rw [cell_of_row w5 (q) 3 _ _ _ hb5.out]; rfl
  have c4 : w5.cell? ⟨q, 4, none⟩ = some (.int .i64 n) := by rw [cell_of_row w5 (q) 4 _ _ _ hb5.out]; rfl
  have c5 : w5.cell? ⟨q, 5, none⟩ = some (.int .i64 s) := by rw [cell_of_row w5 (q) 5 _ _ _ hb5.out]; rfl
  have c6 : w5.cell? ⟨q, 6, none⟩ = some (.bool zd) := by rw [cell_of_row w5 (q) 6 _ _ _ hb5.out]; rfl
  have c7 : w5.cell? ⟨q, 7, none⟩ = some (.int .i64 zn) := by rw [cell_of_row w5 (q) 7 _ _ _ hb5.out]; rfl
  go_wp2_with fail
  refine (R3.out _ (HM.out.grow G5.out)).use ?_
  intro w6 g6
  have hd6 : Hid (w6.heap[w.heap.size]? = some (.cells #[.int .i64 y, .int .i64 m, .int .i64 d, .int .i64 (-1), .int .i64 (-1), .int .i64 (-1), .bool false, .int .i64 0] 23 (0, 0))) := hid (by rw [g6.below.block _ (lt_of_row hd5.out)]; exact hd5.out)
  have ht6 : Hid (w6.heap[w.heap.size + 1]? = some (.cells #[.int .i64 (-1), .int .i64 (-1), .int .i64 (-1), .int .i64 h, .int .i64 n, .int .i64 s, .bool zd, .int .i64 zn] 23 (0, 0))) := hid (by rw [g6.below.block _ (lt_of_row ht5.out)]; exact ht5.out)
  have G6 : Hid (G w w6) := hid (G5.out.trans g6)
  clear g6 c0 c1 c2 c3 c4 c5 c6 c7 hd5 ht5 hb5 G5
  have a0 : w6.cell? ⟨w.heap.size, 0, none⟩ = some (.int .i64 y) := by rw [cell_of_row w6 (w.heap.size) 0 _ _ _ hd6.out]; rfl
  have a1 : w6.cell? ⟨w.heap.size, 1, none⟩ = some (.int .i64 m) := by rw [cell_of_row w6 (w.heap.size) 1 _ _ _ hd6.out]; rfl
  have a2 : w6.cell? ⟨w.heap.size, 2, none⟩ = some (.int .i64 d) := by rw [cell_of_row w6 (w.heap.size) 2 _ _ _ hd6.out]; rfl
  have c3 : w6.cell? ⟨w.heap.size + 1, 3, none⟩ = some (.int .i64 h) := by rw [cell_of_row w6 (w.heap.size + 1) 3 _ _ _ ht6.out]; rfl
  have c4 : w6.cell? ⟨w.heap.size + 1, 4, none⟩ = some (.int .i64 n) := by rw [cell_of_row w6 (w.heap.size + 1) 4 _ _ _ ht6.out]; rfl
  have c5 : w6.cell? ⟨w.heap.size + 1, 5, none⟩ = some (.int .i64 s) := by rw [cell_of_row w6 (w.heap.size + 1) 5 _ _ _ ht6.out]; rfl
  have nb : ∀ {x : Int}, x ≠ -1 → (x == -1) = false := fun h => by simpa using h
  have nz : ∀ {x : Int}, x ≠ 0 → errV x = eno x := fun h => by unfold errV; rw [if_neg h]
  have n0 : errV 0 = .nilIface := rfl
  by_cases hD : y = -1 ∧ m = -1 ∧ d = -1
  · obtain ⟨rfl, rfl⟩ := L1.out hD
    obtain ⟨rfl, rfl, rfl⟩ := hD
    by_cases hz : cc = 0
    · subst hz
      rw [n0]
      go_wp2_with fail
      go_region
      go_wp2_with fail
      go_ret
      exact ⟨ret_bool (by simp), by repeat (first | exact G6.out | apply G.drew)⟩
    · rw [nz hz]
      clear hz nz
      go_wp2_with fail
      go_region
      go_wp2_with fail
      go_ret
      exact ⟨ret_bool (by simp), by repeat (first | exact G6.out | apply G.drew)⟩
  · have HD : ((y == -1) = false) ∨ (y = -1 ∧ (m == -1) = false) ∨ (y = -1 ∧ m = -1 ∧ (d == -1) = false) := by
      by_cases h1 : y = -1
      · by_cases h2 : m = -1
        · exact .inr (.inr ⟨h1, h2, nb fun h3 => hD ⟨h1, h2, h3⟩⟩)
        · exact .inr (.inl ⟨h1, nb h2⟩)
      · exact .inl (nb h1)
    by_cases hT : h = -1 ∧ n = -1 ∧ s = -1
    · have l2 := L2.out hT
      have hcase : cc = 0 ∧ ca = 0 ∧ C = A ∨ errV cc = eno cc := by
        by_cases hz : cc = 0
        · exact .inl ⟨hz, l2 hz⟩
        · exact .inr (nz hz)
      obtain ⟨rfl, rfl, rfl⟩ := hT
      clear l2 nz nb hD L1 L2 L3 R1 R2 R3
      rcases hcase with ⟨rfl, rfl, rfl⟩ | he
      · rw [n0]
        rcases HD with h1 | ⟨rfl, h1⟩ | ⟨rfl, rfl, h1⟩
        all_goals
          go_wp2_with fail
          go_ret
          exact ⟨ret_bool (by simp), G6.out⟩
      · rw [he]
        clear he
        rcases HD with h1 | ⟨rfl, h1⟩ | ⟨rfl, rfl, h1⟩
        all_goals
          go_wp2_with fail
          go_ret
          exact ⟨ret_bool (by simp), G6.out⟩
    · have l3 := L3.out hD hT
      have hcase : cc = 0 ∧ ca = 0 ∧ cb = 0 ∧ C = A ++ B ∧ hasP B [84] = true ∨ errV cc = eno cc := by
        by_cases hz : cc = 0
        · exact .inl ⟨hz, l3 hz⟩
        · exact .inr (nz hz)
      have HT : ((h == -1) = false) ∨ (h = -1 ∧ (n == -1) = false) ∨ (h = -1 ∧ n = -1 ∧ (s == -1) = false) := by
        by_cases h1 : h = -1
        · by_cases h2 : n = -1
          · exact .inr (.inr ⟨h1, h2, nb fun h3 => hT ⟨h1, h2, h3⟩⟩)
          · exact .inr (.inl ⟨h1, nb h2⟩)
        · exact .inl (nb h1)
      clear l3 nz nb hD hT L1 L2 L3 R1 R2 R3
      rcases hcase with ⟨rfl, rfl, rfl, rfl, hp⟩ | he
      · rw [n0]
        have HP := hid hp
        clear hp
        rcases HD with h1 | ⟨rfl, h1⟩ | ⟨rfl, rfl, h1⟩ <;> rcases HT with h2 | ⟨rfl, h2⟩ | ⟨rfl, rfl, h2⟩
        all_goals
          go_wp2_with fail
          refine (hasPrefix_any B [84] _).use ?_
          rw [HP.out]
          go_wp2_with fail
          go_ret
          exact ⟨ret_bool (by simp), G6.out⟩
      · rw [he]
        clear he
        rcases HD with h1 | ⟨rfl, h1⟩ | ⟨rfl, rfl, h1⟩ <;> rcases HT with h2 | ⟨rfl, h2⟩ | ⟨rfl, rfl, h2⟩
        all_goals
          go_wp2_with fail
          go_ret
          exact ⟨ret_bool (by simp), G6.out⟩

end Go.Proofs.YtkhnghcecnghmaaDoor
