/-
  when.Parse at one text; the fact 'dated'.
-/
import Derived.Test.YtedlgpccmlcijaaGreatDoorMDates
import Derived.Test.YtedlgpccmlcijaaGreatDoorMClocks
namespace Go.Proofs.YtedlgpccmlcijaaGreatDoor
open Go.RowKit
set_option linter.unusedVariables false
set_option linter.unusedSimpArgs false

def datedD : List UInt8 := [45, 45, 48, 50, 50, 57]
def datedS : List UInt8 := [45, 45, 48, 50, 50, 57, 84, 49, 48, 45, 48, 53]
theorem stringsCut_any (s sep : List UInt8) (w : World) (hm : HasM w) (hs : s.length ≤ 1000000) : Gives 52 #[.string (S s), .string (S sep)] w (.tuple #[.string (S (Lib.cut s sep).1), .string (S (Lib.cut s sep).2.1), .bool (Lib.cut s sep).2.2]) := by
  obtain ⟨m, hm⟩ := hm
  refine (Tryz.strings_Cut (S s) (S sep) m w (by simp; omega) hm).mono ?_
  rintro e w' ⟨rfl, q, rfl⟩
  exact ⟨rfl, (G.refl w).drewN q⟩
theorem dated_cut : Lib.cut datedS [84] = (datedD, [49, 48, 45, 48, 53], true) := by decide +kernel
theorem dated_shape : shapeL datedD = [45, 45, 57, 57, 57, 57] := by decide +kernel
theorem dated_shape2 : shapeL [49, 48] = [57, 57] := by decide +kernel
theorem dated_right : (⟨-1, 2, 29, 10, -1, -1, true, -300⟩ : St).right = 0 := by decide +kernel
theorem dated_zone : parseZ [45, 48, 53] = (-300, 0) := by decide +kernel
theorem dated_any_idx : Lib.indexAny [49, 48, 45, 48, 53] [90, 43] = -1 := by decide +kernel
theorem dated_last : Lib.lastIndexByte (S [49, 48, 45, 48, 53]) 45 = 2 := by decide +kernel
theorem dated_text : (⟨1985, 4, 12, 23, 20, 50, false, 0⟩ : St).text = [49, 57, 56, 53, 48, 52, 49, 50, 84, 50, 51, 50, 48, 53, 48] := by decide +kernel
theorem dated_right2 : (⟨1985, 4, 12, 23, 20, 50, false, 0⟩ : St).right = 0 := by decide +kernel
theorem digits_of {s key : List UInt8} (h : ∀ i, i < s.length → key[i]? = some 57 → dgB (s.getD i 0) = true) : ∀ (a b : Nat) (c : UInt8), c ∈ (s.take b).drop a → (∀ i, a ≤ i → i < b → key[i]? = some 57) → dgB c = true := by
  intro a b c hc hk
  obtain ⟨j, hj, rfl⟩ := List.getElem_of_mem hc
  simp at hj
  have h1 : ((s.take b).drop a)[j] = s[a + j]'(by omega) := by simp
  rw [h1]
  have := h (a + j) (by omega) (hk (a + j) (by omega) (by omega))
  rwa [List.getD_eq_getElem?_getD, List.getElem?_eq_getElem (by omega)] at this
theorem asc : ∀ (j : Nat) b, ([49, 48, 45, 48, 53] : List UInt8)[j]? = some b → b.toNat < 128 := by
  intro j b hj
  have := List.mem_of_getElem? hj
  simp at this
  rcases this with rfl | rfl | rfl | rfl | rfl <;> decide
set_option maxRecDepth 100000 in
set_option maxHeartbeats 4000000 in
theorem parse_dated (w : World) (hm : HasM w) (hU : HasU w) : Gives 33 #[.string (S datedS)] w (.tuple #[.agg #[.int .i64 (-1), .int .i64 2, .int .i64 29, .int .i64 10, .int .i64 (-1), .int .i64 (-1), .bool true, .int .i64 (-300)], .nilIface]) := by
  have HM := hid hm
  have HU := hid hU
  clear hm hU
  have g0 : G w ((w.alloc (.cells #[.int .i64 0, .int .i64 0, .int .i64 0, .int .i64 0, .int .i64 0, .int .i64 0, .bool false, .int .i64 0] 24)).alloc (.cells #[.int .i64 (-1), .int .i64 (-1), .int .i64 (-1), .int .i64 (-1), .int .i64 (-1), .int .i64 (-1), .bool false, .int .i64 0] 24)) := ((G.refl w).alloc _).alloc _
  have hcut := fun w hm => stringsCut_any datedS [84] w hm (by decide)
  rw [dated_cut] at hcut
  have HC := hid hcut
  have G0 := hid g0
  clear hcut g0
  go_enter Tryz.func33, Tryz.ntmps33
  go_wp2_with fail
  refine (HC.out _ (HM.out.grow G0.out)).use ?_
  intro w1 g1
  have hrow1 : w1.heap[w.heap.size + 1]? = some (.cells #[.int .i64 (-1), .int .i64 (-1), .int .i64 (-1), .int .i64 (-1), .int .i64 (-1), .int .i64 (-1), .bool false, .int .i64 0] 24 (0, 0)) := by
    rw [g1.below.block (w.heap.size + 1) (by simp)]
    have := heap_alloc_new (w.alloc (.cells #[.int .i64 0, .int .i64 0, .int .i64 0, .int .i64 0, .int .i64 0, .int .i64 0, .bool false, .int .i64 0] 24)) (.cells #[.int .i64 (-1), .int .i64 (-1), .int .i64 (-1), .int .i64 (-1), .int .i64 (-1), .int .i64 (-1), .bool false, .int .i64 0] 24)
    simpa using this
  have rz1 : Hid (w1.heap[w.heap.size]? = some (.cells #[.int .i64 0, .int .i64 0, .int .i64 0, .int .i64 0, .int .i64 0, .int .i64 0, .bool false, .int .i64 0] 24 (0, 0))) := hid (by
    rw [g1.below.block w.heap.size (by simp; omega), Lib.alloc_old _ _ _ (by simp)]
    exact heap_alloc_new w _)
  have G1 := hid (G0.out.trans g1)
  have hw1 : w.heap.size + 1 + 1 ≤ w1.heap.size := by have := g1.size; simp at this; omega
  have HR1 := hid hrow1
  clear hrow1 g1
  go_wp2_with fail
  refine (date_at5 datedD (w.heap.size + 1) (w.heap.size + 1) (-1) (-1) (-1) (-1) (-1) (-1) false 0 w1 (HU.out.grow G1.out) rfl dated_shape (digits_of (by decide)) (by omega) HR1.out).mono ?_
  rintro e w2 ⟨rfl, hb2, hr2⟩
  rw [show valL ((datedD.take 4).drop 2) = 2 from by decide, show valL ((datedD.take 6).drop 4) = 29 from by decide] at hr2
  have rz2 : Hid (w2.heap[w.heap.size]? = some (.cells #[.int .i64 0, .int .i64 0, .int .i64 0, .int .i64 0, .int .i64 0, .int .i64 0, .bool false, .int .i64 0] 24 (0, 0))) := hid (by rw [hb2.block _ (by omega)]; exact rz1.out)
  have G2 : Hid (Below w.heap.size w w2) := hid (Below.trans G1.out.below (hb2.mono (by omega)))
  have HR2 := hid hr2
  clear hb2 hr2
  go_wp2_with fail
  refine (Tryz.strings_IndexAny_short (S [49, 48, 45, 48, 53]) (S [90, 43]) _ (by simp) (by simp) (by intro j b hj; exact asc j b hj)).mono ?_
  rintro e w3 ⟨rfl, pos, rfl⟩
  rw [show Lib.indexAny (S [49, 48, 45, 48, 53]).data.toList (S [90, 43]).data.toList = -1 from dated_any_idx]
  go_wp2_with fail
  refine (Tryz.strings_LastIndexByte (S [49, 48, 45, 48, 53]) 45 (by simp) _).mono ?_
  rintro e w4 ⟨rfl, rfl⟩
  rw [dated_last]
  have hr3 : (w2.iter (S [49, 48, 45, 48, 53]) pos).heap[w.heap.size + 1]? = some (.cells #[.int .i64 (-1), .int .i64 2, .int .i64 29, .int .i64 (-1), .int .i64 (-1), .int .i64 (-1), .bool false, .int .i64 0] 24 (0, 0)) := by
    unfold World.iter
    rw [Lib.alloc_old w2 _ _ (lt_of_row HR2.out)]; exact HR2.out
  have G3 : Hid (Below w.heap.size w (w2.iter (S [49, 48, 45, 48, 53]) pos)) := hid (Below.alloc G2.out G2.out.size _)
  have rz3 : Hid ((w2.iter (S [49, 48, 45, 48, 53]) pos).heap[w.heap.size]? = some (.cells #[.int .i64 0, .int .i64 0, .int .i64 0, .int .i64 0, .int .i64 0, .int .i64 0, .bool false, .int .i64 0] 24 (0, 0))) := hid (by unfold World.iter; rw [Lib.alloc_old w2 _ _ (lt_of_row rz2.out)]; exact rz2.out)
  have HR3 := hid hr3
  clear hr3
  obtain ⟨w5, hw5⟩ : ∃ w5, w2.iter (S [49, 48, 45, 48, 53]) pos = w5 := ⟨_, rfl⟩
  rw [hw5] at G3 HR3 rz3 ⊢
  clear hw5
  go_wp2_with fail
  refine (clock_at0 [49, 48] (w.heap.size + 1) (w.heap.size + 1) (-1) 2 29 (-1) (-1) (-1) false 0 w5 (HU.out.grow (G3.out)) rfl dated_shape2 (digits_of (by decide)) (by omega) HR3.out).mono ?_
  rintro e w6 ⟨rfl, hb6, hr6⟩
  rw [show valL ((([49, 48] : List UInt8).take 2).drop 0) = 10 from by decide] at hr6
  have rz6 : Hid (w6.heap[w.heap.size]? = some (.cells #[.int .i64 0, .int .i64 0, .int .i64 0, .int .i64 0, .int .i64 0, .int .i64 0, .bool false, .int .i64 0] 24 (0, 0))) := hid (by rw [hb6.block _ (by omega)]; exact rz3.out)
  have G6 : Hid (G w w6) := hid (Below.trans G3.out (hb6.mono (by omega)))
  have HR6 := hid hr6
  have d6 : w6.cell? ⟨w.heap.size + 1, 6, none⟩ = some (.bool false) := by rw [cell_of_row w6 (w.heap.size + 1) 6 _ _ _ hr6]; rfl
  have d7 : w6.cell? ⟨w.heap.size + 1, 7, none⟩ = some (.int .i64 0) := by rw [cell_of_row w6 (w.heap.size + 1) 7 _ _ _ hr6]; rfl
  have y6 : w6.frozen? ⟨w.heap.size + 1, 6, none⟩ = false := frozen_of_row w6 (w.heap.size + 1) 6 _ _ hr6
  have y7 : w6.frozen? ⟨w.heap.size + 1, 7, none⟩ = false := frozen_of_row w6 (w.heap.size + 1) 7 _ _ hr6
  have hq6 : w.heap.size + 1 < w6.heap.size := lt_of_row hr6
  have hz := zoneParse_to [45, 48, 53] (-300) w6 (by decide) dated_zone
  have HZ := hid hz
  clear hb6 hr6 hz d6 d7 y6 y7
  go_wp2_with fail
  refine (HZ.out).use ?_
  intro w7 g7
  have hr7 : w7.heap[w.heap.size + 1]? = some (.cells #[.int .i64 (-1), .int .i64 2, .int .i64 29, .int .i64 10, .int .i64 (-1), .int .i64 (-1), .bool false, .int .i64 0] 24 (0, 0)) := by rw [g7.below.block _ hq6]; exact HR6.out
  have G7 : Hid (G w w7) := hid (G6.out.trans g7)
  have d6 : w7.cell? ⟨w.heap.size + 1, 6, none⟩ = some (.bool false) := by rw [cell_of_row w7 (w.heap.size + 1) 6 _ _ _ hr7]; rfl
  have d7 : w7.cell? ⟨w.heap.size + 1, 7, none⟩ = some (.int .i64 0) := by rw [cell_of_row w7 (w.heap.size + 1) 7 _ _ _ hr7]; rfl
  have y6 : w7.frozen? ⟨w.heap.size + 1, 6, none⟩ = false := frozen_of_row w7 (w.heap.size + 1) 6 _ _ hr7
  have y7 : w7.frozen? ⟨w.heap.size + 1, 7, none⟩ = false := frozen_of_row w7 (w.heap.size + 1) 7 _ _ hr7
  have hr8 : ((w7.setCell ⟨w.heap.size + 1, 6, none⟩ (.bool true)).setCell ⟨w.heap.size + 1, 7, none⟩ (.int .i64 (-300))).heap[w.heap.size + 1]? = some (.cells #[.int .i64 (-1), .int .i64 2, .int .i64 29, .int .i64 10, .int .i64 (-1), .int .i64 (-1), .bool true, .int .i64 (-300)] 24 (0, 0)) := row_setE (row_setE hr7 rfl) rfl
  have HR8 := hid hr8
  have G8 : Hid (G w ((w7.setCell ⟨w.heap.size + 1, 6, none⟩ (.bool true)).setCell ⟨w.heap.size + 1, 7, none⟩ (.int .i64 (-300)))) := hid ((Below.setCell (p := ⟨w.heap.size + 1, 6, none⟩) G7.out.below (by simp) _).setCell (p := ⟨w.heap.size + 1, 7, none⟩) (by simp) _)
  have rz8 : Hid (((w7.setCell ⟨w.heap.size + 1, 6, none⟩ (.bool true)).setCell ⟨w.heap.size + 1, 7, none⟩ (.int .i64 (-300))).heap[w.heap.size]? = some (.cells #[.int .i64 0, .int .i64 0, .int .i64 0, .int .i64 0, .int .i64 0, .int .i64 0, .bool false, .int .i64 0] 24 (0, 0))) := hid (by
    rw [Below.heap_setCell _ _ _ _ (by simp), Below.heap_setCell _ _ _ _ (by simp), g7.below.block _ (by omega)]
    exact rz6.out)
  have e0 : ((w7.setCell ⟨w.heap.size + 1, 6, none⟩ (.bool true)).setCell ⟨w.heap.size + 1, 7, none⟩ (.int .i64 (-300))).cell? ⟨w.heap.size + 1, 0, none⟩ = some (.int .i64 (-1)) := by rw [cell_of_row _ (w.heap.size + 1) 0 _ _ _ hr8]; rfl
  have e1 : ((w7.setCell ⟨w.heap.size + 1, 6, none⟩ (.bool true)).setCell ⟨w.heap.size + 1, 7, none⟩ (.int .i64 (-300))).cell? ⟨w.heap.size + 1, 1, none⟩ = some (.int .i64 2) := by rw [cell_of_row _ (w.heap.size + 1) 1 _ _ _ hr8]; rfl
  have e2 : ((w7.setCell ⟨w.heap.size + 1, 6, none⟩ (.bool true)).setCell ⟨w.heap.size + 1, 7, none⟩ (.int .i64 (-300))).cell? ⟨w.heap.size + 1, 2, none⟩ = some (.int .i64 29) := by rw [cell_of_row _ (w.heap.size + 1) 2 _ _ _ hr8]; rfl
  have e3 : ((w7.setCell ⟨w.heap.size + 1, 6, none⟩ (.bool true)).setCell ⟨w.heap.size + 1, 7, none⟩ (.int .i64 (-300))).cell? ⟨w.heap.size + 1, 3, none⟩ = some (.int .i64 10) := by rw [cell_of_row _ (w.heap.size + 1) 3 _ _ _ hr8]; rfl
  have e4 : ((w7.setCell ⟨w.heap.size + 1, 6, none⟩ (.bool true)).setCell ⟨w.heap.size + 1, 7, none⟩ (.int .i64 (-300))).cell? ⟨w.heap.size + 1, 4, none⟩ = some (.int .i64 (-1)) := by rw [cell_of_row _ (w.heap.size + 1) 4 _ _ _ hr8]; rfl
  have e5 : ((w7.setCell ⟨w.heap.size + 1, 6, none⟩ (.bool true)).setCell ⟨w.heap.size + 1, 7, none⟩ (.int .i64 (-300))).cell? ⟨w.heap.size + 1, 5, none⟩ = some (.int .i64 (-1)) := by rw [cell_of_row _ (w.heap.size + 1) 5 _ _ _ hr8]; rfl
  have e6 : ((w7.setCell ⟨w.heap.size + 1, 6, none⟩ (.bool true)).setCell ⟨w.heap.size + 1, 7, none⟩ (.int .i64 (-300))).cell? ⟨w.heap.size + 1, 6, none⟩ = some (.bool true) := by rw [cell_of_row _ (w.heap.size + 1) 6 _ _ _ hr8]; rfl
  have e7 : ((w7.setCell ⟨w.heap.size + 1, 6, none⟩ (.bool true)).setCell ⟨w.heap.size + 1, 7, none⟩ (.int .i64 (-300))).cell? ⟨w.heap.size + 1, 7, none⟩ = some (.int .i64 (-300)) := by rw [cell_of_row _ (w.heap.size + 1) 7 _ _ _ hr8]; rfl
  clear hr7 hr8 g7
  have hR := fun W hm => whenRight_any ⟨-1, 2, 29, 10, -1, -1, true, -300⟩ W hm (by decide) (by decide)
  rw [dated_right] at hR
  have HRG := hid hR
  clear hR
  go_wp2_with fail
  refine (HRG.out _ (HM.out.grow G8.out)).use ?_
  intro w9 g9
  rw [show errV 0 = .nilIface from rfl]
  have hr9 : w9.heap[w.heap.size + 1]? = some (.cells #[.int .i64 (-1), .int .i64 2, .int .i64 29, .int .i64 10, .int .i64 (-1), .int .i64 (-1), .bool true, .int .i64 (-300)] 24 (0, 0)) := by rw [g9.below.block _ (lt_of_row HR8.out)]; exact HR8.out
  have rz9 : w9.heap[w.heap.size]? = some (.cells #[.int .i64 0, .int .i64 0, .int .i64 0, .int .i64 0, .int .i64 0, .int .i64 0, .bool false, .int .i64 0] 24 (0, 0)) := by rw [g9.below.block _ (lt_of_row rz8.out)]; exact rz8.out
  clear e0 e1 e2 e3 e4 e5 e6 e7 d6 d7 y6 y7
  have e0 : w9.cell? ⟨w.heap.size + 1, 0, none⟩ = some (.int .i64 (-1)) := by rw [cell_of_row w9 (w.heap.size + 1) 0 _ _ _ hr9]; rfl
  have e1 : w9.cell? ⟨w.heap.size + 1, 1, none⟩ = some (.int .i64 2) := by rw [cell_of_row w9 (w.heap.size + 1) 1 _ _ _ hr9]; rfl
  have e2 : w9.cell? ⟨w.heap.size + 1, 2, none⟩ = some (.int .i64 29) := by rw [cell_of_row w9 (w.heap.size + 1) 2 _ _ _ hr9]; rfl
  have e3 : w9.cell? ⟨w.heap.size + 1, 3, none⟩ = some (.int .i64 10) := by rw [cell_of_row w9 (w.heap.size + 1) 3 _ _ _ hr9]; rfl
  have e4 : w9.cell? ⟨w.heap.size + 1, 4, none⟩ = some (.int .i64 (-1)) := by rw [cell_of_row w9 (w.heap.size + 1) 4 _ _ _ hr9]; rfl
  have e5 : w9.cell? ⟨w.heap.size + 1, 5, none⟩ = some (.int .i64 (-1)) := by rw [cell_of_row w9 (w.heap.size + 1) 5 _ _ _ hr9]; rfl
  have e6 : w9.cell? ⟨w.heap.size + 1, 6, none⟩ = some (.bool true) := by rw [cell_of_row w9 (w.heap.size + 1) 6 _ _ _ hr9]; rfl
  have e7 : w9.cell? ⟨w.heap.size + 1, 7, none⟩ = some (.int .i64 (-300)) := by rw [cell_of_row w9 (w.heap.size + 1) 7 _ _ _ hr9]; rfl
  have t0 : w9.cell? ⟨w.heap.size, 0, none⟩ = some (.int .i64 0) := by rw [cell_of_row w9 w.heap.size 0 _ _ _ rz9]; rfl
  have v0 : w9.frozen? ⟨w.heap.size, 0, none⟩ = false := frozen_of_row w9 w.heap.size 0 _ _ rz9
  have t1 : w9.cell? ⟨w.heap.size, 1, none⟩ = some (.int .i64 0) := by rw [cell_of_row w9 w.heap.size 1 _ _ _ rz9]; rfl
  have v1 : w9.frozen? ⟨w.heap.size, 1, none⟩ = false := frozen_of_row w9 w.heap.size 1 _ _ rz9
  have t2 : w9.cell? ⟨w.heap.size, 2, none⟩ = some (.int .i64 0) := by rw [cell_of_row w9 w.heap.size 2 _ _ _ rz9]; rfl
  have v2 : w9.frozen? ⟨w.heap.size, 2, none⟩ = false := frozen_of_row w9 w.heap.size 2 _ _ rz9
  have t3 : w9.cell? ⟨w.heap.size, 3, none⟩ = some (.int .i64 0) := by rw [cell_of_row w9 w.heap.size 3 _ _ _ rz9]; rfl
  have v3 : w9.frozen? ⟨w.heap.size, 3, none⟩ = false := frozen_of_row w9 w.heap.size 3 _ _ rz9
  have t4 : w9.cell? ⟨w.heap.size, 4, none⟩ = some (.int .i64 0) := by rw [cell_of_row w9 w.heap.size 4 _ _ _ rz9]; rfl
  have v4 : w9.frozen? ⟨w.heap.size, 4, none⟩ = false := frozen_of_row w9 w.heap.size 4 _ _ rz9
  have t5 : w9.cell? ⟨w.heap.size, 5, none⟩ = some (.int .i64 0) := by rw [cell_of_row w9 w.heap.size 5 _ _ _ rz9]; rfl
  have v5 : w9.frozen? ⟨w.heap.size, 5, none⟩ = false := frozen_of_row w9 w.heap.size 5 _ _ rz9
  have t6 : w9.cell? ⟨w.heap.size, 6, none⟩ = some (.bool false) := by rw [cell_of_row w9 w.heap.size 6 _ _ _ rz9]; rfl
  have v6 : w9.frozen? ⟨w.heap.size, 6, none⟩ = false := frozen_of_row w9 w.heap.size 6 _ _ rz9
  have t7 : w9.cell? ⟨w.heap.size, 7, none⟩ = some (.int .i64 0) := by rw [cell_of_row w9 w.heap.size 7 _ _ _ rz9]; rfl
  have v7 : w9.frozen? ⟨w.heap.size, 7, none⟩ = false := frozen_of_row w9 w.heap.size 7 _ _ rz9
  have G9 : Hid (G w w9) := hid (G8.out.trans g9)
  have rf : Hid (((((((((w9.setCell ⟨w.heap.size, 0, none⟩ (.int .i64 (-1))).setCell ⟨w.heap.size, 1, none⟩ (.int .i64 2)).setCell ⟨w.heap.size, 2, none⟩ (.int .i64 29)).setCell ⟨w.heap.size, 3, none⟩ (.int .i64 10)).setCell ⟨w.heap.size, 4, none⟩ (.int .i64 (-1))).setCell ⟨w.heap.size, 5, none⟩ (.int .i64 (-1))).setCell ⟨w.heap.size, 6, none⟩ (.bool true)).setCell ⟨w.heap.size, 7, none⟩ (.int .i64 (-300))).heap[w.heap.size]? = some (.cells #[.int .i64 (-1), .int .i64 2, .int .i64 29, .int .i64 10, .int .i64 (-1), .int .i64 (-1), .bool true, .int .i64 (-300)] 24 (0, 0))) := hid (row_setE (row_setE (row_setE (row_setE (row_setE (row_setE (row_setE (row_setE rz9 rfl) rfl) rfl) rfl) rfl) rfl) rfl) rfl)
  have GF : Hid (G w ((((((((w9.setCell ⟨w.heap.size, 0, none⟩ (.int .i64 (-1))).setCell ⟨w.heap.size, 1, none⟩ (.int .i64 2)).setCell ⟨w.heap.size, 2, none⟩ (.int .i64 29)).setCell ⟨w.heap.size, 3, none⟩ (.int .i64 10)).setCell ⟨w.heap.size, 4, none⟩ (.int .i64 (-1))).setCell ⟨w.heap.size, 5, none⟩ (.int .i64 (-1))).setCell ⟨w.heap.size, 6, none⟩ (.bool true)).setCell ⟨w.heap.size, 7, none⟩ (.int .i64 (-300)))) := hid (Below.setCell (p := ⟨w.heap.size, 7, none⟩) (Below.setCell (p := ⟨w.heap.size, 6, none⟩) (Below.setCell (p := ⟨w.heap.size, 5, none⟩) (Below.setCell (p := ⟨w.heap.size, 4, none⟩) (Below.setCell (p := ⟨w.heap.size, 3, none⟩) (Below.setCell (p := ⟨w.heap.size, 2, none⟩) (Below.setCell (p := ⟨w.heap.size, 1, none⟩) (Below.setCell (p := ⟨w.heap.size, 0, none⟩) G9.out.below (Nat.le_refl _) (.int .i64 (-1))) (Nat.le_refl _) (.int .i64 2)) (Nat.le_refl _) (.int .i64 29)) (Nat.le_refl _) (.int .i64 10)) (Nat.le_refl _) (.int .i64 (-1))) (Nat.le_refl _) (.int .i64 (-1))) (Nat.le_refl _) (.bool true)) (Nat.le_refl _) (.int .i64 (-300)))
  clear hr9 rz9 g9
  go_wp2_with fail
  obtain ⟨WF, hWF⟩ : ∃ WF, ((((((((w9.setCell ⟨w.heap.size, 0, none⟩ (.int .i64 (-1))).setCell ⟨w.heap.size, 1, none⟩ (.int .i64 2)).setCell ⟨w.heap.size, 2, none⟩ (.int .i64 29)).setCell ⟨w.heap.size, 3, none⟩ (.int .i64 10)).setCell ⟨w.heap.size, 4, none⟩ (.int .i64 (-1))).setCell ⟨w.heap.size, 5, none⟩ (.int .i64 (-1))).setCell ⟨w.heap.size, 6, none⟩ (.bool true)).setCell ⟨w.heap.size, 7, none⟩ (.int .i64 (-300))) = WF := ⟨_, rfl⟩
  rw [hWF] at rf GF ⊢
  clear hWF e0 e1 e2 e3 e4 e5 e6 e7 t0 t1 t2 t3 t4 t5 t6 t7 v0 v1 v2 v3 v4 v5 v6 v7
  have e0 : WF.cell? ⟨w.heap.size, 0, none⟩ = some (.int .i64 (-1)) := by rw [cell_of_row WF w.heap.size 0 _ _ _ rf.out]; rfl
  have e1 : WF.cell? ⟨w.heap.size, 1, none⟩ = some (.int .i64 2) := by rw [cell_of_row WF w.heap.size 1 _ _ _ rf.out]; rfl
  have e2 : WF.cell? ⟨w.heap.size, 2, none⟩ = some (.int .i64 29) := by rw [cell_of_row WF w.heap.size 2 _ _ _ rf.out]; rfl
  have e3 : WF.cell? ⟨w.heap.size, 3, none⟩ = some (.int .i64 10) := by rw [cell_of_row WF w.heap.size 3 _ _ _ rf.out]; rfl
  have e4 : WF.cell? ⟨w.heap.size, 4, none⟩ = some (.int .i64 (-1)) := by rw [cell_of_row WF w.heap.size 4 _ _ _ rf.out]; rfl
  have e5 : WF.cell? ⟨w.heap.size, 5, none⟩ = some (.int .i64 (-1)) := by rw [cell_of_row WF w.heap.size 5 _ _ _ rf.out]; rfl
  have e6 : WF.cell? ⟨w.heap.size, 6, none⟩ = some (.bool true) := by rw [cell_of_row WF w.heap.size 6 _ _ _ rf.out]; rfl
  have e7 : WF.cell? ⟨w.heap.size, 7, none⟩ = some (.int .i64 (-300)) := by rw [cell_of_row WF w.heap.size 7 _ _ _ rf.out]; rfl
  exact bodyPost_ret (v := .tuple #[.agg #[.int .i64 (-1), .int .i64 2, .int .i64 29, .int .i64 10, .int .i64 (-1), .int .i64 (-1), .bool true, .int .i64 (-300)], .nilIface]) (by simp [results, Tryz.results33, go_sem, e0, e1, e2, e3, e4, e5, e6, e7]) rfl ⟨rfl, GF.out⟩

end Go.Proofs.YtedlgpccmlcijaaGreatDoor
