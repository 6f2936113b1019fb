/-
  WALK of the law WhenShort.
-/
import Derived.Test.YtkhnghcecnghmaaDoorWhenFull
namespace Go.Proofs.YtkhnghcecnghmaaDoor
open Go.RowKit
set_option linter.unusedVariables false
set_option linter.unusedSimpArgs false
theorem short_right (t : St) (a b : Nat) (ha : a < 3360000) (hb : b < 86400) (e0 : t.y = (a : Int) / 336) (e1 : t.m = 1 + (a : Int) / 28 % 12) (e2 : t.d = 1 + (a : Int) % 28) (e3 : t.h = -1 ∧ t.n = -1 ∨ t.h = (b : Int) / 3600 ∧ t.n = -1 ∨ t.h = (b : Int) / 3600 ∧ t.n = (b : Int) / 60 % 60) (e5 : t.s = -1) (e6 : t.zd = false) (e7 : t.zn = 0) : t.right = 0 := by
  have hf : t.fits = true := fullS_fits _ a b ha hb e0 e1 e2 (by omega) (by omega) (.inl e5) e7
  have hb : t.bad = false := by
    have f1 : formL t.y t.m t.d = [57, 57, 57] := by
      unfold formL; rw [dgF_nn (by omega), dgF_nn (by omega), dgF_nn (by omega)]
    have f2 : t.h = -1 ∧ formL t.h t.n t.s = [45, 45, 45] ∨ formL t.h t.n t.s = [57, 45, 45] ∨ formL t.h t.n t.s = [57, 57, 45] := by
      unfold formL
      rcases e3 with ⟨x, y⟩ | ⟨x, y⟩ | ⟨x, y⟩
      · left; refine ⟨x, ?_⟩; rw [x, y, e5]; rfl
      · right; left; rw [y, e5, dgF_nn (n := t.h) (by omega)]; rfl
      · right; right; rw [e5, dgF_nn (n := t.h) (by omega), dgF_nn (n := t.n) (by omega)]; rfl
    unfold St.bad
    rcases f2 with ⟨_, f2⟩ | f2 | f2
    · simp only [f1, f2, e6, e7]; rfl
    · simp only [f1, f2, e6, e7]; rfl
    · simp only [f1, f2, e6, e7]; rfl
  unfold St.right
  rw [hb, hf]; rfl
def dateS (a : Nat) : List UInt8 := digL ((a : Int) / 336) 4 ++ (digL (1 + (a : Int) / 28 % 12) 2 ++ digL (1 + (a : Int) % 28) 2)
theorem dateS_len (a : Nat) : (dateS a).length = 8 := by simp [dateS, digL_length]
theorem short_date (t : St) (a : Nat) (ha : a < 3360000) (e0 : t.y = (a : Int) / 336) (e1 : t.m = 1 + (a : Int) / 28 % 12) (e2 : t.d = 1 + (a : Int) % 28) : t.date = dateS a := by
  unfold St.date
  rw [if_neg (by omega), if_neg (by omega), if_neg (by omega), e0, e1, e2]
  rfl
theorem full_text2 (a b : Nat) (ha : a < 3360000) (hb : b < 86400) : (fullS a b).text = (dateS a ++ 84 :: (digL ((b : Int) / 3600) 2 ++ digL ((b : Int) / 60 % 60) 2)) ++ digL ((b : Int) % 60) 2 := by
  rw [fullS_text a b ha hb]; unfold dateS; simp
theorem take_left {α} (x y : List α) (n : Nat) (h : x.length = n) : (x ++ y).take n = x := by subst h; simp
theorem short13 (t : St) (a b : Nat) (ha : a < 3360000) (hb : b < 86400) (e0 : t.y = (a : Int) / 336) (e1 : t.m = 1 + (a : Int) / 28 % 12) (e2 : t.d = 1 + (a : Int) % 28) (e3 : t.h = (b : Int) / 3600) (e4 : t.n = (b : Int) / 60 % 60) (e5 : t.s = -1) (e6 : t.zd = false) : t.text = (fullS a b).text.take 13 := by
  rw [full_text2 a b ha hb, take_left _ _ 13 (by simp [dateS_len, digL_length])]
  unfold St.text St.clock
  rw [if_neg (by omega), if_neg (by omega), if_neg (by omega), if_pos e5, if_neg (by omega), short_date t a ha e0 e1 e2, e3, e4, e6]
  simp
theorem short11 (t : St) (a b : Nat) (ha : a < 3360000) (hb : b < 86400) (e0 : t.y = (a : Int) / 336) (e1 : t.m = 1 + (a : Int) / 28 % 12) (e2 : t.d = 1 + (a : Int) % 28) (e3 : t.h = (b : Int) / 3600) (e4 : t.n = -1) (e5 : t.s = -1) (e6 : t.zd = false) : t.text = (fullS a b).text.take 11 := by
  rw [full_text2 a b ha hb, show (dateS a ++ 84 :: (digL ((b : Int) / 3600) 2 ++ digL ((b : Int) / 60 % 60) 2)) ++ digL ((b : Int) % 60) 2 = (dateS a ++ 84 :: digL ((b : Int) / 3600) 2) ++ (digL ((b : Int) / 60 % 60) 2 ++ digL ((b : Int) % 60) 2) by simp, take_left _ _ 11 (by simp [dateS_len, digL_length])]
  unfold St.text St.clock
  rw [if_neg (by omega), if_neg (by omega), if_pos e4, if_neg (by omega), if_pos e5, if_neg (by omega), short_date t a ha e0 e1 e2, e3, e6]
  simp
theorem short8 (t : St) (a b : Nat) (ha : a < 3360000) (hb : b < 86400) (e0 : t.y = (a : Int) / 336) (e1 : t.m = 1 + (a : Int) / 28 % 12) (e2 : t.d = 1 + (a : Int) % 28) (e3 : t.h = -1) (e4 : t.n = -1) (e5 : t.s = -1) : t.text = (fullS a b).text.take 8 := by
  rw [full_text2 a b ha hb, List.append_assoc, take_left _ _ 8 (dateS_len a)]
  unfold St.text
  rw [if_pos ⟨e3, e4, e5⟩, short_date t a ha e0 e1 e2]

set_option maxRecDepth 100000 in
set_option maxHeartbeats 4000000 in
theorem whenShort_walk (a b : Int) (w : World) (za : -9223372036854775808 ≤ a ∧ a ≤ 9223372036854775807) (zb : -9223372036854775808 ≤ b ∧ b ≤ 9223372036854775807) (hm : HasM w) (hU : HasU w) : Gives 7 #[.int .i64 a, .int .i64 b] w (.bool true) := by
  have ha := pickV_lt a (n := 3360000) (by decide)
  have hb := pickV_lt b (n := 86400) (by decide)
  have f1 := fun W => full_any a b W
  obtain ⟨p, hp⟩ : ∃ x, pickV a 3360000 = x := ⟨_, rfl⟩
  obtain ⟨q, hq⟩ : ∃ x, pickV b 86400 = x := ⟨_, rfl⟩
  rw [hp] at ha f1
  rw [hq] at hb f1
  clear hp hq
  have len := fullS_len p q (by omega) (by omega)
  have r1 := fun W hm => print_any (fullS p q) W hm (fullS_right p q (by omega) (by omega))
  have r2 := fun W hm => print_any ⟨(p : Int) / 336, 1 + (p : Int) / 28 % 12, 1 + (p : Int) % 28, (q : Int) / 3600, (q : Int) / 60 % 60, -1, false, 0⟩ W hm (short_right _ p q (by omega) (by omega) rfl rfl rfl (.inr (.inr ⟨rfl, rfl⟩)) rfl rfl rfl)
  have r3 := fun W hm => print_any ⟨(p : Int) / 336, 1 + (p : Int) / 28 % 12, 1 + (p : Int) % 28, (q : Int) / 3600, -1, -1, false, 0⟩ W hm (short_right _ p q (by omega) (by omega) rfl rfl rfl (.inr (.inl ⟨rfl, rfl⟩)) rfl rfl rfl)
  have r4 := fun W hm => print_any ⟨(p : Int) / 336, 1 + (p : Int) / 28 % 12, 1 + (p : Int) % 28, -1, -1, -1, false, 0⟩ W hm (short_right _ p q (by omega) (by omega) rfl rfl rfl (.inl ⟨rfl, rfl⟩) rfl rfl rfl)
  rw [short13 _ p q (by omega) (by omega) rfl rfl rfl rfl rfl rfl rfl] at r2
  rw [short11 _ p q (by omega) (by omega) rfl rfl rfl rfl rfl rfl rfl] at r3
  rw [short8 _ p q (by omega) (by omega) rfl rfl rfl rfl rfl rfl] at r4
  obtain ⟨X, hX⟩ : ∃ X, (fullS p q).text = X := ⟨_, rfl⟩
  rw [hX] at r1 r2 r3 r4 len
  clear hX
  simp only [St.v, fullS] at f1 r1 r2 r3 r4
  obtain ⟨x0, h0⟩ : ∃ x, (p : Int) / 336 = x := ⟨_, rfl⟩
  obtain ⟨x1, h1⟩ : ∃ x, 1 + (p : Int) / 28 % 12 = x := ⟨_, rfl⟩
  obtain ⟨x2, h2⟩ : ∃ x, 1 + (p : Int) % 28 = x := ⟨_, rfl⟩
  obtain ⟨x3, h3⟩ : ∃ x, (q : Int) / 3600 = x := ⟨_, rfl⟩
  obtain ⟨x4, h4⟩ : ∃ x, (q : Int) / 60 % 60 = x := ⟨_, rfl⟩
  obtain ⟨x5, h5⟩ : ∃ x, (q : Int) % 60 = x := ⟨_, rfl⟩
  rw [h0, h1, h2, h3, h4, h5] at f1 r1
  rw [h0, h1, h2, h3, h4] at r2
  rw [h0, h1, h2, h3] at r3
  rw [h0, h1, h2] at r4
  have LEN := hid len
  have F1 := hid f1
  have R1 := hid r1
  have R2 := hid r2
  have R3 := hid r3
  have R4 := hid r4
  have HM := hid hm
  have HU := hid hU
  clear h0 h1 h2 h3 h4 h5 ha hb f1 r1 r2 r3 r4 len hm hU
  go_enter Tryd.func7, Tryd.ntmps7
  go_wp2_with fail
  refine (dated_any _ HM.out HU.out).use ?_; intro w1 g1
  have G1 := hid g1
  clear g1
  go_wp2_with fail
  refine (F1.out _).use ?_
  intro w2 g2
  have G2 := hid (G1.out.trans g2)
  clear g2
  go_wp2_with fail
  refine (R1.out _ (HM.out.grow (G2.out.alloc _))).use ?_
  intro w3 g3
  have hr : w3.heap[w2.heap.size]? = some (.cells #[.int .i64 x0, .int .i64 x1, .int .i64 x2, .int .i64 x3, .int .i64 x4, .int .i64 x5, .bool false, .int .i64 0] 23 (0, 0)) := by
    rw [g3.below.block _ (by simp)]
    exact heap_alloc_new w2 _
  have G3 := hid ((G2.out.alloc _).trans g3)
  have HR := hid hr
  have HB : Hid (w.heap.size ≤ w2.heap.size) := hid G2.out.size
  have e0 : w3.cell? ⟨w2.heap.size, 0, none⟩ = some (.int .i64 x0) := by rw [cell_of_row w3 w2.heap.size 0 _ _ _ HR.out]; rfl
  have e1 : w3.cell? ⟨w2.heap.size, 1, none⟩ = some (.int .i64 x1) := by rw [cell_of_row w3 w2.heap.size 1 _ _ _ HR.out]; rfl
  have e2 : w3.cell? ⟨w2.heap.size, 2, none⟩ = some (.int .i64 x2) := by rw [cell_of_row w3 w2.heap.size 2 _ _ _ HR.out]; rfl
  have e3 : w3.cell? ⟨w2.heap.size, 3, none⟩ = some (.int .i64 x3) := by rw [cell_of_row w3 w2.heap.size 3 _ _ _ HR.out]; rfl
  have e4 : w3.cell? ⟨w2.heap.size, 4, none⟩ = some (.int .i64 x4) := by rw [cell_of_row w3 w2.heap.size 4 _ _ _ HR.out]; rfl
  have e5 : w3.cell? ⟨w2.heap.size, 5, none⟩ = some (.int .i64 x5) := by rw [cell_of_row w3 w2.heap.size 5 _ _ _ HR.out]; rfl
  have e6 : w3.cell? ⟨w2.heap.size, 6, none⟩ = some (.bool false) := by rw [cell_of_row w3 w2.heap.size 6 _ _ _ HR.out]; rfl
  have e7 : w3.cell? ⟨w2.heap.size, 7, none⟩ = some (.int .i64 0) := by rw [cell_of_row w3 w2.heap.size 7 _ _ _ HR.out]; rfl
  have y5 : w3.frozen? ⟨w2.heap.size, 5, none⟩ = false := frozen_of_row w3 w2.heap.size 5 _ _ HR.out
  clear hr g3
  have hs : (w3.setCell ⟨w2.heap.size, 5, none⟩ (.int .i64 (-1))).heap[w2.heap.size]? = some (.cells #[.int .i64 x0, .int .i64 x1, .int .i64 x2, .int .i64 x3, .int .i64 x4, .int .i64 (-1), .bool false, .int .i64 0] 23 (0, 0)) := row_setE HR.out rfl
  have GS : Hid (G w (w3.setCell ⟨w2.heap.size, 5, none⟩ (.int .i64 (-1)))) := hid (Below.setCell (p := ⟨w2.heap.size, 5, none⟩) G3.out.below HB.out _)
  have HS := hid hs
  clear hs HR
  go_wp2_with fail
  refine (R2.out _ (HM.out.grow GS.out)).use ?_
  intro w4 g4
  have hr : w4.heap[w2.heap.size]? = some (.cells #[.int .i64 x0, .int .i64 x1, .int .i64 x2, .int .i64 x3, .int .i64 x4, .int .i64 (-1), .bool false, .int .i64 0] 23 (0, 0)) := by
    rw [g4.below.block _ (lt_of_row HS.out)]; exact HS.out
  have G4 := hid (GS.out.trans g4)
  have HR := hid hr
  clear e0 e1 e2 e3 e4 e5 e6 e7 y5 GS HS G3
  have e0 : w4.cell? ⟨w2.heap.size, 0, none⟩ = some (.int .i64 x0) := by rw [cell_of_row w4 w2.heap.size 0 _ _ _ HR.out]; rfl
  have e1 : w4.cell? ⟨w2.heap.size, 1, none⟩ = some (.int .i64 x1) := by rw [cell_of_row w4 w2.heap.size 1 _ _ _ HR.out]; rfl
  have e2 : w4.cell? ⟨w2.heap.size, 2, none⟩ = some (.int .i64 x2) := by rw [cell_of_row w4 w2.heap.size 2 _ _ _ HR.out]; rfl
  have e3 : w4.cell? ⟨w2.heap.size, 3, none⟩ = some (.int .i64 x3) := by rw [cell_of_row w4 w2.heap.size 3 _ _ _ HR.out]; rfl
  have e4 : w4.cell? ⟨w2.heap.size, 4, none⟩ = some (.int .i64 x4) := by rw [cell_of_row w4 w2.heap.size 4 _ _ _ HR.out]; rfl
  have e5 : w4.cell? ⟨w2.heap.size, 5, none⟩ = some (.int .i64 (-1)) := by rw [cell_of_row w4 w2.heap.size 5 _ _ _ HR.out]; rfl
  have e6 : w4.cell? ⟨w2.heap.size, 6, none⟩ = some (.bool false) := by rw [cell_of_row w4 w2.heap.size 6 _ _ _ HR.out]; rfl
  have e7 : w4.cell? ⟨w2.heap.size, 7, none⟩ = some (.int .i64 0) := by rw [cell_of_row w4 w2.heap.size 7 _ _ _ HR.out]; rfl
  have y4 : w4.frozen? ⟨w2.heap.size, 4, none⟩ = false := frozen_of_row w4 w2.heap.size 4 _ _ HR.out
  clear hr g4
  have hs : (w4.setCell ⟨w2.heap.size, 4, none⟩ (.int .i64 (-1))).heap[w2.heap.size]? = some (.cells #[.int .i64 x0, .int .i64 x1, .int .i64 x2, .int .i64 x3, .int .i64 (-1), .int .i64 (-1), .bool false, .int .i64 0] 23 (0, 0)) := row_setE HR.out rfl
  have GS : Hid (G w (w4.setCell ⟨w2.heap.size, 4, none⟩ (.int .i64 (-1)))) := hid (Below.setCell (p := ⟨w2.heap.size, 4, none⟩) G4.out.below HB.out _)
  have HS := hid hs
  clear hs HR
  go_wp2_with fail
  refine (R3.out _ (HM.out.grow GS.out)).use ?_
  intro w5 g5
  have hr : w5.heap[w2.heap.size]? = some (.cells #[.int .i64 x0, .int .i64 x1, .int .i64 x2, .int .i64 x3, .int .i64 (-1), .int .i64 (-1), .bool false, .int .i64 0] 23 (0, 0)) := by
    rw [g5.below.block _ (lt_of_row HS.out)]; exact HS.out
  have G5 := hid (GS.out.trans g5)
  have HR := hid hr
  clear e0 e1 e2 e3 e4 e5 e6 e7 y4 GS HS G4
  have e0 : w5.cell? ⟨w2.heap.size, 0, none⟩ = some (.int .i64 x0) := by rw [cell_of_row w5 w2.heap.size 0 _ _ _ HR.out]; rfl
  have e1 : w5.cell? ⟨w2.heap.size, 1, none⟩ = some (.int .i64 x1) := by rw [cell_of_row w5 w2.heap.size 1 _ _ _ HR.out]; rfl
  have e2 : w5.cell? ⟨w2.heap.size, 2, none⟩ = some (.int .i64 x2) := by rw [cell_of_row w5 w2.heap.size 2 _ _ _ HR.out]; rfl
  have e3 : w5.cell? ⟨w2.heap.size, 3, none⟩ = some (.int .i64 x3) := by rw [cell_of_row w5 w2.heap.size 3 _ _ _ HR.out]; rfl
  have e4 : w5.cell? ⟨w2.heap.size, 4, none⟩ = some (.int .i64 (-1)) := by rw [cell_of_row w5 w2.heap.size 4 _ _ _ HR.out]; rfl
  have e5 : w5.cell? ⟨w2.heap.size, 5, none⟩ = some (.int .i64 (-1)) := by rw [cell_of_row w5 w2.heap.size 5 _ _ _ HR.out]; rfl
  have e6 : w5.cell? ⟨w2.heap.size, 6, none⟩ = some (.bool false) := by rw [cell_of_row w5 w2.heap.size 6 _ _ _ HR.out]; rfl
  have e7 : w5.cell? ⟨w2.heap.size, 7, none⟩ = some (.int .i64 0) := by rw [cell_of_row w5 w2.heap.size 7 _ _ _ HR.out]; rfl
  have y3 : w5.frozen? ⟨w2.heap.size, 3, none⟩ = false := frozen_of_row w5 w2.heap.size 3 _ _ HR.out
  clear hr g5
  have hs : (w5.setCell ⟨w2.heap.size, 3, none⟩ (.int .i64 (-1))).heap[w2.heap.size]? = some (.cells #[.int .i64 x0, .int .i64 x1, .int .i64 x2, .int .i64 (-1), .int .i64 (-1), .int .i64 (-1), .bool false, .int .i64 0] 23 (0, 0)) := row_setE HR.out rfl
  have GS : Hid (G w (w5.setCell ⟨w2.heap.size, 3, none⟩ (.int .i64 (-1)))) := hid (Below.setCell (p := ⟨w2.heap.size, 3, none⟩) G5.out.below HB.out _)
  have HS := hid hs
  clear hs HR
  go_wp2_with fail
  refine (R4.out _ (HM.out.grow GS.out)).use ?_
  intro w6 g6
  have hr : w6.heap[w2.heap.size]? = some (.cells #[.int .i64 x0, .int .i64 x1, .int .i64 x2, .int .i64 (-1), .int .i64 (-1), .int .i64 (-1), .bool false, .int .i64 0] 23 (0, 0)) := by
    rw [g6.below.block _ (lt_of_row HS.out)]; exact HS.out
  have G6 := hid (GS.out.trans g6)
  have HR := hid hr
  clear e0 e1 e2 e3 e4 e5 e6 e7 y3 GS HS G5
  clear hr g6
  have e9 := LEN.out
  go_wp2_with fail
  go_ret
  exact ⟨rfl, G6.out⟩

end Go.Proofs.YtkhnghcecnghmaaDoor
