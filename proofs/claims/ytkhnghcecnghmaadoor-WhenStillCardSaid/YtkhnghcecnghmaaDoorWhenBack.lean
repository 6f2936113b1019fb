/-
  WALKS of the laws WhenBack, WhenStill. (written by gen_whenback.py)
-/
import Derived.Test.YtkhnghcecnghmaaDoorWhenParse
import Derived.Test.YtkhnghcecnghmaaDoorWhenParts
namespace Go.Proofs.YtkhnghcecnghmaaDoor
open Go.RowKit
set_option linter.unusedVariables false
set_option linter.unusedSimpArgs false

set_option maxRecDepth 100000 in
set_option maxHeartbeats 4000000 in
theorem whenBack_walk (a : St) (w : World) (za : a.In) (hm : HasM w) (hU : HasU w) : Gives 3 #[a.v] w (.bool true) := by
  have r1 := fun W hm => print_gen a W hm za.y.1 za.y.2
  have r2 := fun W hm => whenRight_any a W hm za.y.1 za.y.2
  have HM := hid hm
  have HU := hid hU
  by_cases hr : a.right = 0
  · have hl := text_len a hr
    have r3 := fun W hm hU => parse_any a.text W hm hU (by omega)
    have ho : a.out = a.text := if_pos hr
    rw [parse_text a hr] at r3
    rw [hr, show errV 0 = .nilIface from rfl] at r1 r2
    rw [show errV (a, (0 : Int)).2 = .nilIface from rfl] at r3
    rw [ho] at r1
    obtain ⟨X, hX⟩ : ∃ X, a.text = X := ⟨_, rfl⟩
    rw [hX] at r1 r3 hl
    have R1 := hid r1
    have R2 := hid r2
    have R3 := hid r3
    clear r1 r2 r3 ho hX hr za hm hU
    obtain ⟨y, m, d, h, n, c, zd, zn⟩ := a
    simp only [St.v] at R1 R2 R3 ⊢
    have g0 : G w (w.alloc (.cells #[.int .i64 y, .int .i64 m, .int .i64 d, .int .i64 h, .int .i64 n, .int .i64 c, .bool zd, .int .i64 zn] 23)) := (G.refl w).alloc _
    have G0 := hid g0
    clear g0
    go_enter Tryd.func3, Tryd.ntmps3
    go_wp2_with fail
    refine (dated_any _ (HM.out.grow G0.out) (HU.out.grow G0.out)).use ?_
    intro w1 g1
    have r1 : Hid (w1.heap[w.heap.size]? = some (.cells #[.int .i64 y, .int .i64 m, .int .i64 d, .int .i64 h, .int .i64 n, .int .i64 c, .bool zd, .int .i64 zn] 23 (0, 0))) := hid (by rw [g1.below.block w.heap.size (by simp)]; exact heap_alloc_new w _)
    have G1 : Hid (G w w1) := hid (G0.out.trans g1)
    clear g1
    have e0 : w1.cell? ⟨w.heap.size, 0, none⟩ = some (.int .i64 y) := by rw [cell_of_row w1 (w.heap.size) 0 _ _ _ r1.out]; rfl
    have e1 : w1.cell? ⟨w.heap.size, 1, none⟩ = some (.int .i64 m) := by rw [cell_of_row w1 (w.heap.size) 1 _ _ _ r1.out]; rfl
    have e2 : w1.cell? ⟨w.heap.size, 2, none⟩ = some (.int .i64 d) := by rw [cell_of_row w1 (w.heap.size) 2 _ _ _ r1.out]; rfl
    have e3 : w1.cell? ⟨w.heap.size, 3, none⟩ = some (.int .i64 h) := by rw [cell_of_row w1 (w.heap.size) 3 _ _ _ r1.out]; rfl
    have e4 : w1.cell? ⟨w.heap.size, 4, none⟩ = some (.int .i64 n) := by rw [cell_of_row w1 (w.heap.size) 4 _ _ _ r1.out]; rfl
    have e5 : w1.cell? ⟨w.heap.size, 5, none⟩ = some (.int .i64 c) := by rw [cell_of_row w1 (w.heap.size) 5 _ _ _ r1.out]; rfl
    have e6 : w1.cell? ⟨w.heap.size, 6, none⟩ = some (.bool zd) := by rw [cell_of_row w1 (w.heap.size) 6 _ _ _ r1.out]; rfl
    have e7 : w1.cell? ⟨w.heap.size, 7, none⟩ = some (.int .i64 zn) := by rw [cell_of_row w1 (w.heap.size) 7 _ _ _ r1.out]; rfl
    go_wp2_with fail
    refine (R1.out _ (HM.out.grow G1.out)).use ?_
    intro w2 g2
    have r2 : Hid (w2.heap[w.heap.size]? = some (.cells #[.int .i64 y, .int .i64 m, .int .i64 d, .int .i64 h, .int .i64 n, .int .i64 c, .bool zd, .int .i64 zn] 23 (0, 0))) := hid (by rw [g2.below.block _ (lt_of_row r1.out)]; exact r1.out)
    have G2 : Hid (G w w2) := hid (G1.out.trans g2)
    clear g2 e0 e1 e2 e3 e4 e5 e6 e7
    have e0 : w2.cell? ⟨w.heap.size, 0, none⟩ = some (.int .i64 y) := by rw [cell_of_row w2 (w.heap.size) 0 _ _ _ r2.out]; rfl
    have e1 : w2.cell? ⟨w.heap.size, 1, none⟩ = some (.int .i64 m) := by rw [cell_of_row w2 (w.heap.size) 1 _ _ _ r2.out]; rfl
    have e2 : w2.cell? ⟨w.heap.size, 2, none⟩ = some (.int .i64 d) := by rw [cell_of_row w2 (w.heap.size) 2 _ _ _ r2.out]; rfl
    have e3 : w2.cell? ⟨w.heap.size, 3, none⟩ = some (.int .i64 h) := by rw [cell_of_row w2 (w.heap.size) 3 _ _ _ r2.out]; rfl
    have e4 : w2.cell? ⟨w.heap.size, 4, none⟩ = some (.int .i64 n) := by rw [cell_of_row w2 (w.heap.size) 4 _ _ _ r2.out]; rfl
    have e5 : w2.cell? ⟨w.heap.size, 5, none⟩ = some (.int .i64 c) := by rw [cell_of_row w2 (w.heap.size) 5 _ _ _ r2.out]; rfl
    have e6 : w2.cell? ⟨w.heap.size, 6, none⟩ = some (.bool zd) := by rw [cell_of_row w2 (w.heap.size) 6 _ _ _ r2.out]; rfl
    have e7 : w2.cell? ⟨w.heap.size, 7, none⟩ = some (.int .i64 zn) := by rw [cell_of_row w2 (w.heap.size) 7 _ _ _ r2.out]; rfl
    go_wp2_with fail
    refine (R2.out _ (HM.out.grow G2.out)).use ?_
    intro w3 g3
    have r3 : Hid (w3.heap[w.heap.size]? = some (.cells #[.int .i64 y, .int .i64 m, .int .i64 d, .int .i64 h, .int .i64 n, .int .i64 c, .bool zd, .int .i64 zn] 23 (0, 0))) := hid (by rw [g3.below.block _ (lt_of_row r2.out)]; exact r2.out)
    have G3 : Hid (G w w3) := hid (G2.out.trans g3)
    clear g3 e0 e1 e2 e3 e4 e5 e6 e7
    go_wp2_with fail
    refine (R3.out _ (HM.out.grow G3.out) (HU.out.grow G3.out)).use ?_
    intro w4 g4
    have r4 : Hid (w4.heap[w.heap.size]? = some (.cells #[.int .i64 y, .int .i64 m, .int .i64 d, .int .i64 h, .int .i64 n, .int .i64 c, .bool zd, .int .i64 zn] 23 (0, 0))) := hid (by rw [g4.below.block _ (lt_of_row r3.out)]; exact r3.out)
    have G4 : Hid (G w w4) := hid (G3.out.trans g4)
    have hq : w.heap.size < w4.heap.size := lt_of_row r4.out
    clear g4
    have e0 : w4.cell? ⟨w.heap.size, 0, none⟩ = some (.int .i64 y) := by rw [cell_of_row w4 (w.heap.size) 0 _ _ _ r4.out]; rfl
    have e1 : w4.cell? ⟨w.heap.size, 1, none⟩ = some (.int .i64 m) := by rw [cell_of_row w4 (w.heap.size) 1 _ _ _ r4.out]; rfl
    have e2 : w4.cell? ⟨w.heap.size, 2, none⟩ = some (.int .i64 d) := by rw [cell_of_row w4 (w.heap.size) 2 _ _ _ r4.out]; rfl
    have e3 : w4.cell? ⟨w.heap.size, 3, none⟩ = some (.int .i64 h) := by rw [cell_of_row w4 (w.heap.size) 3 _ _ _ r4.out]; rfl
    have e4 : w4.cell? ⟨w.heap.size, 4, none⟩ = some (.int .i64 n) := by rw [cell_of_row w4 (w.heap.size) 4 _ _ _ r4.out]; rfl
    have e5 : w4.cell? ⟨w.heap.size, 5, none⟩ = some (.int .i64 c) := by rw [cell_of_row w4 (w.heap.size) 5 _ _ _ r4.out]; rfl
    have e6 : w4.cell? ⟨w.heap.size, 6, none⟩ = some (.bool zd) := by rw [cell_of_row w4 (w.heap.size) 6 _ _ _ r4.out]; rfl
    have e7 : w4.cell? ⟨w.heap.size, 7, none⟩ = some (.int .i64 zn) := by rw [cell_of_row w4 (w.heap.size) 7 _ _ _ r4.out]; rfl
    go_wp2_with fail
    go_ret
    exact ⟨ret_bool (by simp; omega), by repeat (first | exact G4.out | apply G.drew | apply G.alloc)⟩
  · have ho : a.out = [] := if_neg hr
    obtain ⟨cr, hc⟩ : ∃ c, a.right = c := ⟨_, rfl⟩
    rw [hc] at r1 r2 hr
    rw [ho] at r1
    have he : errV cr = eno cr := by unfold errV; rw [if_neg hr]
    rw [he] at r1 r2
    have R1 := hid r1
    have R2 := hid r2
    clear r1 r2 ho hr za hm hU hc he
    obtain ⟨y, m, d, h, n, c, zd, zn⟩ := a
    simp only [St.v] at R1 R2 ⊢
    have g0 : G w (w.alloc (.cells #[.int .i64 y, .int .i64 m, .int .i64 d, .int .i64 h, .int .i64 n, .int .i64 c, .bool zd, .int .i64 zn] 23)) := (G.refl w).alloc _
    have G0 := hid g0
    clear g0
    go_enter Tryd.func3, Tryd.ntmps3
    go_wp2_with fail
    refine (dated_any _ (HM.out.grow G0.out) (HU.out.grow G0.out)).use ?_
    intro w1 g1
    have r1 : Hid (w1.heap[w.heap.size]? = some (.cells #[.int .i64 y, .int .i64 m, .int .i64 d, .int .i64 h, .int .i64 n, .int .i64 c, .bool zd, .int .i64 zn] 23 (0, 0))) := hid (by rw [g1.below.block w.heap.size (by simp)]; exact heap_alloc_new w _)
    have G1 : Hid (G w w1) := hid (G0.out.trans g1)
    clear g1
    have e0 : w1.cell? ⟨w.heap.size, 0, none⟩ = some (.int .i64 y) := by rw [cell_of_row w1 (w.heap.size) 0 _ _ _ r1.out]; rfl
    have e1 : w1.cell? ⟨w.heap.size, 1, none⟩ = some (.int .i64 m) := by rw [cell_of_row w1 (w.heap.size) 1 _ _ _ r1.out]; rfl
    have e2 : w1.cell? ⟨w.heap.size, 2, none⟩ = some (.int .i64 d) := by rw [cell_of_row w1 (w.heap.size) 2 _ _ _ r1.out]; rfl
    have e3 : w1.cell? ⟨w.heap.size, 3, none⟩ = some (.int .i64 h) := by rw [cell_of_row w1 (w.heap.size) 3 _ _ _ r1.out]; rfl
    have e4 : w1.cell? ⟨w.heap.size, 4, none⟩ = some (.int .i64 n) := by rw [cell_of_row w1 (w.heap.size) 4 _ _ _ r1.out]; rfl
    have e5 : w1.cell? ⟨w.heap.size, 5, none⟩ = some (.int .i64 c) := by rw [cell_of_row w1 (w.heap.size) 5 _ _ _ r1.out]; rfl
    have e6 : w1.cell? ⟨w.heap.size, 6, none⟩ = some (.bool zd) := by rw [cell_of_row w1 (w.heap.size) 6 _ _ _ r1.out]; rfl
    have e7 : w1.cell? ⟨w.heap.size, 7, none⟩ = some (.int .i64 zn) := by rw [cell_of_row w1 (w.heap.size) 7 _ _ _ r1.out]; rfl
    go_wp2_with fail
    refine (R1.out _ (HM.out.grow G1.out)).use ?_
    intro w2 g2
    have r2 : Hid (w2.heap[w.heap.size]? = some (.cells #[.int .i64 y, .int .i64 m, .int .i64 d, .int .i64 h, .int .i64 n, .int .i64 c, .bool zd, .int .i64 zn] 23 (0, 0))) := hid (by rw [g2.below.block _ (lt_of_row r1.out)]; exact r1.out)
    have G2 : Hid (G w w2) := hid (G1.out.trans g2)
    clear g2 e0 e1 e2 e3 e4 e5 e6 e7
    have e0 : w2.cell? ⟨w.heap.size, 0, none⟩ = some (.int .i64 y) := by rw [cell_of_row w2 (w.heap.size) 0 _ _ _ r2.out]; rfl
    have e1 : w2.cell? ⟨w.heap.size, 1, none⟩ = some (.int .i64 m) := by rw [cell_of_row w2 (w.heap.size) 1 _ _ _ r2.out]; rfl
    have e2 : w2.cell? ⟨w.heap.size, 2, none⟩ = some (.int .i64 d) := by rw [cell_of_row w2 (w.heap.size) 2 _ _ _ r2.out]; rfl
    have e3 : w2.cell? ⟨w.heap.size, 3, none⟩ = some (.int .i64 h) := by rw [cell_of_row w2 (w.heap.size) 3 _ _ _ r2.out]; rfl
    have e4 : w2.cell? ⟨w.heap.size, 4, none⟩ = some (.int .i64 n) := by rw [cell_of_row w2 (w.heap.size) 4 _ _ _ r2.out]; rfl
    have e5 : w2.cell? ⟨w.heap.size, 5, none⟩ = some (.int .i64 c) := by rw [cell_of_row w2 (w.heap.size) 5 _ _ _ r2.out]; rfl
    have e6 : w2.cell? ⟨w.heap.size, 6, none⟩ = some (.bool zd) := by rw [cell_of_row w2 (w.heap.size) 6 _ _ _ r2.out]; rfl
    have e7 : w2.cell? ⟨w.heap.size, 7, none⟩ = some (.int .i64 zn) := by rw [cell_of_row w2 (w.heap.size) 7 _ _ _ r2.out]; rfl
    go_wp2_with fail
    refine (R2.out _ (HM.out.grow G2.out)).use ?_
    intro w3 g3
    have r3 : Hid (w3.heap[w.heap.size]? = some (.cells #[.int .i64 y, .int .i64 m, .int .i64 d, .int .i64 h, .int .i64 n, .int .i64 c, .bool zd, .int .i64 zn] 23 (0, 0))) := hid (by rw [g3.below.block _ (lt_of_row r2.out)]; exact r2.out)
    have G3 : Hid (G w w3) := hid (G2.out.trans g3)
    clear g3 e0 e1 e2 e3 e4 e5 e6 e7
    go_wp2_with fail
    go_ret
    exact ⟨ret_bool (by simp), by repeat (first | exact G3.out | apply G.drew | apply G.alloc)⟩

set_option maxRecDepth 100000 in
set_option maxHeartbeats 4000000 in
theorem whenStill_walk (s : List UInt8) (w : World) (zs : s.length ≤ 140737488351232) (hm : HasM w) (hU : HasU w) : Gives 4 #[.string (S s)] w (.bool true) := by
  have HM := hid hm
  have HU := hid hU
  clear hm hU
  by_cases hs : s.length ≤ 60
  · have r1 := fun W hm hU => parse_any s W hm hU (by omega)
    rcases parseW_cases s with ⟨h0, hr⟩ | ⟨h0, hz⟩
    · obtain ⟨a, ha⟩ : ∃ a, (parseW s).1 = a := ⟨_, rfl⟩
      rw [ha, h0, show errV 0 = .nilIface from rfl] at r1
      rw [ha] at hr
      have hg := St.good hr
      have r2 := fun W hm => print_any a W hm hr
      have hl := text_len a hr
      have r3 := fun W hm hU => parse_any a.text W hm hU (by omega)
      have r4 := fun W hm => whenRight_any a W hm (by rcases hg.y with e | e <;> omega) (by rcases hg.y with e | e <;> omega)
      rw [parse_text a hr] at r3
      rw [show errV (a, (0 : Int)).2 = .nilIface from rfl] at r3
      rw [hr, show errV 0 = .nilIface from rfl] at r4
      have R1 := hid r1
      have R2 := hid r2
      have R3 := hid r3
      have R4 := hid r4
      obtain ⟨X, hX⟩ : ∃ X, a.text = X := ⟨_, rfl⟩
      rw [hX] at R2 R3
      clear r1 r2 r3 r4 hg hl h0 ha hr hX
      obtain ⟨y, m, d, h, n, c, zd, zn⟩ := a
      simp only [St.v] at R1 R2 R3 R4 ⊢
      go_enter Tryd.func4, Tryd.ntmps4
      go_wp2_with fail
      refine (dated_any _ HM.out HU.out).use ?_; intro w1 g1
      have G1 := hid g1
      clear g1
      go_wp2_with fail
      refine (R1.out _ (HM.out.grow G1.out) (HU.out.grow G1.out)).use ?_; intro w2 g2
      have G2 := hid (G1.out.trans g2)
      clear g2
      go_wp2_with fail
      have r2 : Hid ((w2.alloc (.cells #[.int .i64 y, .int .i64 m, .int .i64 d, .int .i64 h, .int .i64 n, .int .i64 c, .bool zd, .int .i64 zn] 23)).heap[w2.heap.size]? = some (.cells #[.int .i64 y, .int .i64 m, .int .i64 d, .int .i64 h, .int .i64 n, .int .i64 c, .bool zd, .int .i64 zn] 23 (0, 0))) := hid (heap_alloc_new w2 _)
      have GA : Hid (G w (w2.alloc (.cells #[.int .i64 y, .int .i64 m, .int .i64 d, .int .i64 h, .int .i64 n, .int .i64 c, .bool zd, .int .i64 zn] 23))) := hid (G2.out.alloc _)
      refine (R2.out _ (HM.out.grow GA.out)).use ?_
      intro w3 g3
      have r3 : Hid (w3.heap[w2.heap.size]? = some (.cells #[.int .i64 y, .int .i64 m, .int .i64 d, .int .i64 h, .int .i64 n, .int .i64 c, .bool zd, .int .i64 zn] 23 (0, 0))) := hid (by rw [g3.below.block _ (lt_of_row r2.out)]; exact r2.out)
      have G3 : Hid (G w w3) := hid (GA.out.trans g3)
      clear g3 r2 GA
      go_wp2_with fail
      refine (R3.out _ (HM.out.grow G3.out) (HU.out.grow G3.out)).use ?_
      intro w4 g4
      have r4 : Hid (w4.heap[w2.heap.size]? = some (.cells #[.int .i64 y, .int .i64 m, .int .i64 d, .int .i64 h, .int .i64 n, .int .i64 c, .bool zd, .int .i64 zn] 23 (0, 0))) := hid (by rw [g4.below.block _ (lt_of_row r3.out)]; exact r3.out)
      have G4 : Hid (G w w4) := hid (G3.out.trans g4)
      have hq : w2.heap.size < w4.heap.size := lt_of_row r4.out
      clear g4 r3
      have e0 : w4.cell? ⟨w2.heap.size, 0, none⟩ = some (.int .i64 y) := by rw [cell_of_row w4 (w2.heap.size) 0 _ _ _ r4.out]; rfl
      have e1 : w4.cell? ⟨w2.heap.size, 1, none⟩ = some (.int .i64 m) := by rw [cell_of_row w4 (w2.heap.size) 1 _ _ _ r4.out]; rfl
      have e2 : w4.cell? ⟨w2.heap.size, 2, none⟩ = some (.int .i64 d) := by rw [cell_of_row w4 (w2.heap.size) 2 _ _ _ r4.out]; rfl
      have e3 : w4.cell? ⟨w2.heap.size, 3, none⟩ = some (.int .i64 h) := by rw [cell_of_row w4 (w2.heap.size) 3 _ _ _ r4.out]; rfl
      have e4 : w4.cell? ⟨w2.heap.size, 4, none⟩ = some (.int .i64 n) := by rw [cell_of_row w4 (w2.heap.size) 4 _ _ _ r4.out]; rfl
      have e5 : w4.cell? ⟨w2.heap.size, 5, none⟩ = some (.int .i64 c) := by rw [cell_of_row w4 (w2.heap.size) 5 _ _ _ r4.out]; rfl
      have e6 : w4.cell? ⟨w2.heap.size, 6, none⟩ = some (.bool zd) := by rw [cell_of_row w4 (w2.heap.size) 6 _ _ _ r4.out]; rfl
      have e7 : w4.cell? ⟨w2.heap.size, 7, none⟩ = some (.int .i64 zn) := by rw [cell_of_row w4 (w2.heap.size) 7 _ _ _ r4.out]; rfl
      go_wp2_with fail
      refine (R4.out _ (HM.out.grow (by repeat (first | exact G4.out | apply G.drew | apply G.alloc)))).use ?_
      intro w5 g5
      have G5 : Hid (G w w5) := hid (G.trans (by repeat (first | exact G4.out | apply G.drew | apply G.alloc)) g5)
      clear g5
      go_wp2_with fail
      go_ret
      exact ⟨ret_bool (by simp), by repeat (first | exact G5.out | apply G.drew | apply G.alloc)⟩
    · obtain ⟨c, hc⟩ : ∃ c, (parseW s).2 = c := ⟨_, rfl⟩
      rw [hz, hc] at r1
      rw [hc] at h0
      have he : errV c = eno c := by unfold errV; rw [if_neg h0]
      rw [he] at r1
      have R1 := hid r1
      clear r1 he h0 hz hc
      simp only [St.v, St0] at R1
      go_enter Tryd.func4, Tryd.ntmps4
      go_wp2_with fail
      refine (dated_any _ HM.out HU.out).use ?_; intro w1 g1
      have G1 := hid g1
      clear g1
      go_wp2_with fail
      refine (R1.out _ (HM.out.grow G1.out) (HU.out.grow G1.out)).use ?_; intro w2 g2
      have G2 := hid (G1.out.trans g2)
      clear g2
      go_wp2_with fail
      go_ret
      exact ⟨ret_bool (by simp), by repeat (first | exact G2.out | apply G.drew | apply G.alloc)⟩
  · go_enter Tryd.func4, Tryd.ntmps4
    go_wp2_with fail
    refine (dated_any _ HM.out HU.out).use ?_; intro w1 g1
    go_wp2_with fail
    go_ret
    exact ⟨rfl, g1⟩

end Go.Proofs.YtkhnghcecnghmaaDoor
