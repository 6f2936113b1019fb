/-
  WALK of the law WhenOrder.
-/
import Derived.Test.YtkhnghcecnghmaaDoorWhenFull
namespace Go.Proofs.YtkhnghcecnghmaaDoor
open Go.RowKit
set_option linter.unusedVariables false
set_option linter.unusedSimpArgs false
set_option maxRecDepth 100000 in
set_option maxHeartbeats 4000000 in
theorem whenOrder_walk (a b c d : Int) (w : World) (za : -9223372036854775808 ≤ a ∧ a ≤ 9223372036854775807) (zb : -9223372036854775808 ≤ b ∧ b ≤ 9223372036854775807) (zc : -9223372036854775808 ≤ c ∧ c ≤ 9223372036854775807) (zd : -9223372036854775808 ≤ d ∧ d ≤ 9223372036854775807) (hm : HasM w) (hU : HasU w) : Gives 6 #[.int .i64 a, .int .i64 b, .int .i64 c, .int .i64 d] w (.bool true) := by
  have ha := pickV_lt a (n := 3360000) (by decide)
  have hb := pickV_lt b (n := 86400) (by decide)
  have hc := pickV_lt c (n := 3360000) (by decide)
  have hd := pickV_lt d (n := 86400) (by decide)
  have h1 := fun W => pick_any a 3360000 W (by decide) (by decide)
  have h2 := fun W => pick_any b 86400 W (by decide) (by decide)
  have h3 := fun W => pick_any c 3360000 W (by decide) (by decide)
  have h4 := fun W => pick_any d 86400 W (by decide) (by decide)
  have f1 := fun W => full_any a b W
  have f2 := fun W => full_any c d W
  obtain ⟨p, hp⟩ : ∃ x, pickV a 3360000 = x := ⟨_, rfl⟩
  obtain ⟨q, hq⟩ : ∃ x, pickV b 86400 = x := ⟨_, rfl⟩
  obtain ⟨r, hr⟩ : ∃ x, pickV c 3360000 = x := ⟨_, rfl⟩
  obtain ⟨s, hs⟩ : ∃ x, pickV d 86400 = x := ⟨_, rfl⟩
  rw [hp] at ha h1 f1
  rw [hq] at hb h2 f1
  rw [hr] at hc h3 f2
  rw [hs] at hd h4 f2
  clear hp hq hr hs
  have ord := fullS_ord p q r s (by omega) (by omega) (by omega) (by omega)
  have len := fullS_len p q (by omega) (by omega)
  have r1 := fun W hm => print_any (fullS p q) W hm (fullS_right p q (by omega) (by omega))
  have r2 := fun W hm => print_any (fullS r s) W hm (fullS_right r s (by omega) (by omega))
  obtain ⟨x, hx⟩ : ∃ x, fullS p q = x := ⟨_, rfl⟩
  obtain ⟨y, hy⟩ : ∃ x, fullS r s = x := ⟨_, rfl⟩
  rw [hx] at f1 r1 ord len
  rw [hy] at f2 r2 ord
  clear hx hy
  obtain ⟨X, hX⟩ : ∃ X, x.text = X := ⟨_, rfl⟩
  obtain ⟨Y, hY⟩ : ∃ X, y.text = X := ⟨_, rfl⟩
  rw [hX] at r1 ord len
  rw [hY] at r2 ord
  clear hX hY
  obtain ⟨x0, x1, x2, x3, x4, x5, x6, x7⟩ := x
  obtain ⟨y0, y1, y2, y3, y4, y5, y6, y7⟩ := y
  simp only [St.v] at f1 f2 r1 r2
  have OE : Hid ((decide (X = Y)) = decide ((p : Int) * 86400 + q = (r : Int) * 86400 + s)) := hid (by rw [Bool.eq_iff_iff]; simp only [decide_eq_true_eq]; exact ord.eq)
  have OL : Hid (Op.bytesLess X Y = decide ((p : Int) * 86400 + q < (r : Int) * 86400 + s)) := hid ord.less
  have LEN := hid len
  have H1 := hid h1
  have H2 := hid h2
  have H3 := hid h3
  have H4 := hid h4
  have F1 := hid f1
  have F2 := hid f2
  have R1 := hid r1
  have R2 := hid r2
  have HM := hid hm
  have HU := hid hU
  clear h1 h2 h3 h4 f1 f2 r1 r2 ord len hm hU
  go_enter Tryd.func6, Tryd.ntmps6
  go_wp2_with fail
  refine (dated_any _ HM.out HU.out).use ?_; intro w1 g1
  have G1 := hid g1
  clear g1
  go_wp2_with fail
  refine (F1.out _).use ?_
  intro w2 g2
  have G2 := hid g2
  clear g2
  go_wp2_with fail
  refine (F2.out _).use ?_
  intro w3 g3
  have G3 := hid g3
  clear g3
  go_wp2_with fail
  refine (R1.out _ (HM.out.grow ((((G1.out.trans G2.out).trans G3.out).alloc _).alloc _))).use ?_
  intro w4 g4
  have G4 := hid (((((G1.out.trans G2.out).trans G3.out).alloc _).alloc _).trans g4)
  have hr : w4.heap[w3.heap.size + 1]? = some (.cells #[.int .i64 y0, .int .i64 y1, .int .i64 y2, .int .i64 y3, .int .i64 y4, .int .i64 y5, .bool y6, .int .i64 y7] 23 (0, 0)) := by
    rw [g4.below.block _ (by simp)]
    have := heap_alloc_new (w3.alloc (.cells #[.int .i64 x0, .int .i64 x1, .int .i64 x2, .int .i64 x3, .int .i64 x4, .int .i64 x5, .bool x6, .int .i64 x7] 23)) (.cells #[.int .i64 y0, .int .i64 y1, .int .i64 y2, .int .i64 y3, .int .i64 y4, .int .i64 y5, .bool y6, .int .i64 y7] 23)
    rw [show (w3.alloc (.cells #[.int .i64 x0, .int .i64 x1, .int .i64 x2, .int .i64 x3, .int .i64 x4, .int .i64 x5, .bool x6, .int .i64 x7] 23)).heap.size = w3.heap.size + 1 by simp] at this
    exact this
  have e0 : w4.cell? ⟨w3.heap.size + 1, 0, none⟩ = some (Value.int .i64 y0) := by rw [cell_of_row w4 (w3.heap.size + 1) 0 _ _ _ hr]; rfl
  have e1 : w4.cell? ⟨w3.heap.size + 1, 1, none⟩ = some (Value.int .i64 y1) := by rw [cell_of_row w4 (w3.heap.size + 1) 1 _ _ _ hr]; rfl
  have e2 : w4.cell? ⟨w3.heap.size + 1, 2, none⟩ = some (Value.int .i64 y2) := by rw [cell_of_row w4 (w3.heap.size + 1) 2 _ _ _ hr]; rfl
  have e3 : w4.cell? ⟨w3.heap.size + 1, 3, none⟩ = some (Value.int .i64 y3) := by rw [cell_of_row w4 (w3.heap.size + 1) 3 _ _ _ hr]; rfl
  have e4 : w4.cell? ⟨w3.heap.size + 1, 4, none⟩ = some (Value.int .i64 y4) := by rw [cell_of_row w4 (w3.heap.size + 1) 4 _ _ _ hr]; rfl
  have e5 : w4.cell? ⟨w3.heap.size + 1, 5, none⟩ = some (Value.int .i64 y5) := by rw [cell_of_row w4 (w3.heap.size + 1) 5 _ _ _ hr]; rfl
  have e6 : w4.cell? ⟨w3.heap.size + 1, 6, none⟩ = some (Value.bool y6) := by rw [cell_of_row w4 (w3.heap.size + 1) 6 _ _ _ hr]; rfl
  have e7 : w4.cell? ⟨w3.heap.size + 1, 7, none⟩ = some (Value.int .i64 y7) := by rw [cell_of_row w4 (w3.heap.size + 1) 7 _ _ _ hr]; rfl
  clear hr g4
  go_wp2_with fail
  refine (R2.out _ (HM.out.grow G4.out)).use ?_
  intro w5 g5
  have G5 := hid (G4.out.trans g5)
  clear g5 e0 e1 e2 e3 e4 e5 e6 e7
  go_wp2_with fail
  refine (H1.out _).use ?_
  go_wp2_with fail
  refine (H2.out _).use ?_
  go_wp2_with fail
  refine (H3.out _).use ?_
  go_wp2_with fail
  refine (H4.out _).use ?_
  have e1 := OL.out
  have e2 : (X == Y) = ((p : Int) * 86400 + q == (r : Int) * 86400 + s) := by
    have := OE.out
    rw [Bool.eq_iff_iff] at this ⊢
    simpa using this
  have e3 := LEN.out
  go_wp2_with fail
  go_ret
  exact ⟨rfl, G5.out⟩

end Go.Proofs.YtkhnghcecnghmaaDoor
