/-
  CONTRACT of when.Parse at a text with a time. (written by gen_whenparse.py)
-/
import Derived.Test.YtedlgpccmlcijaaGreatDoorWhenDateAny
import Derived.Test.YtedlgpccmlcijaaGreatDoorMLaws
import Derived.Test.YtedlgpccmlcijaaGreatDoorWhenDated
import Derived.Test.YtedlgpccmlcijaaGreatDoorMAny
namespace Go.Proofs.YtedlgpccmlcijaaGreatDoor
open Go.RowKit
set_option linter.unusedVariables false
set_option linter.unusedSimpArgs false


set_option maxRecDepth 100000 in
set_option maxHeartbeats 8000000 in
theorem parse_timed2 (s d : List UInt8) (t : List UInt8) (y m dd : Int) (ht : t.length ≤ 1000) (hC : Lib.cut s [84] = (d, t, true)) (hne : (t == []) = false) (hD : dateP d (-1) (-1) (-1) = some (y, m, dd)) (hy : -1 ≤ y ∧ y ≤ 9999) (h0 : ¬ 0 ≤ Lib.indexAny t [90, 43]) (h2 : 2 ≤ Lib.lastIndexByte (S t) 45) (w : World) (hm : HasM w) (hU : HasU w) (hs : s.length ≤ 1000) (hd : d.length ≤ 1000) :
    Gives 33 #[.string (S s)] w (.tuple #[(clockW y m dd t).1.v, errV (clockW y m dd t).2]) := by
  have HK : Hid (Lib.lastIndexByte (S t) 45 = ((kAt t : Nat) : Int)) := hid (by unfold kAt; rw [if_neg h0, if_pos h2]; omega)
  have hkl : kAt t < t.length := by have := last_lt t 45; have := HK.out; omega
  obtain ⟨k, hk⟩ : ∃ k, kAt t = k := ⟨_, rfl⟩
  have HCW : Hid (clockW y m dd t = match clockP (t.take k) (-1) (-1) (-1) with | none => (St0, 3) | some (h, n, c) => if (parseZ (t.drop k)).2 = 0 then finW ⟨y, m, dd, h, n, c, true, (parseZ (t.drop k)).1⟩ else (St0, (parseZ (t.drop k)).2)) := hid (by unfold clockW; simp only [if_pos hkl]; rw [hk]; rfl)
  rw [hk] at HK hkl
  have hia := fun W => indexAny_any t [90, 43] W (by omega) (by decide) (by decide) (by intro c hc; simp at hc; rcases hc with rfl | rfl <;> decide)
  have hlb := fun W => Tryz.strings_LastIndexByte (S t) 45 (by simp; omega) W
  obtain ⟨I, hI⟩ : ∃ I, Lib.indexAny t [90, 43] = I := ⟨_, rfl⟩
  rw [hI] at hia h0
  have HIA := hid hia
  clear hia hI
  obtain ⟨J, hJ⟩ : ∃ J, Lib.lastIndexByte (S t) 45 = J := ⟨_, rfl⟩
  rw [hJ] at hlb h2 HK
  have HLB := hid hlb
  clear hlb hJ
  clear hk
  obtain rfl := HK.out
  have g0 : G w ((w.alloc (.cells #[.int .i64 0, .int .i64 0, .int .i64 0, .int .i64 0, .int .i64 0, .int .i64 0, .bool false, .int .i64 0] 24)).alloc (.cells #[.int .i64 (-1), .int .i64 (-1), .int .i64 (-1), .int .i64 (-1), .int .i64 (-1), .int .i64 (-1), .bool false, .int .i64 0] 24)) := ((G.refl w).alloc _).alloc _
  have hcut := fun w hm => stringsCut_any s [84] w hm (by omega)
  rw [hC] at hcut
  have HC := hid hcut
  have G0 := hid g0
  have HM := hid hm
  have HU := hid hU
  clear hcut g0 hC hm hU
  go_enter Tryz.func33, Tryz.ntmps33
  go_wp2_with fail
  refine (HC.out _ (HM.out.grow G0.out)).use ?_
  intro w1 g1
  have hrow1 : w1.heap[w.heap.size + 1]? = some (.cells #[.int .i64 (-1), .int .i64 (-1), .int .i64 (-1), .int .i64 (-1), .int .i64 (-1), .int .i64 (-1), .bool false, .int .i64 0] 24 (0, 0)) := by
    rw [g1.below.block (w.heap.size + 1) (by simp)]
    have := heap_alloc_new (w.alloc (.cells #[.int .i64 0, .int .i64 0, .int .i64 0, .int .i64 0, .int .i64 0, .int .i64 0, .bool false, .int .i64 0] 24)) (.cells #[.int .i64 (-1), .int .i64 (-1), .int .i64 (-1), .int .i64 (-1), .int .i64 (-1), .int .i64 (-1), .bool false, .int .i64 0] 24)
    simpa using this
  have rz1 : Hid (w1.heap[w.heap.size]? = some (.cells #[.int .i64 0, .int .i64 0, .int .i64 0, .int .i64 0, .int .i64 0, .int .i64 0, .bool false, .int .i64 0] 24 (0, 0))) := hid (by
    rw [g1.below.block w.heap.size (by simp; omega), Lib.alloc_old _ _ _ (by simp)]
    exact heap_alloc_new w _)
  have G1 := hid (G0.out.trans g1)
  have hw1 : w.heap.size + 1 + 1 ≤ w1.heap.size := by have := g1.size; simp at this; omega
  have HR1 := hid hrow1
  clear hrow1 g1
  go_wp2_with fail
  refine (date_any d (w.heap.size + 1) (w.heap.size + 1) (-1) (-1) (-1) (-1) (-1) (-1) false 0 w1 (HU.out.grow G1.out) hd (by omega) HR1.out).mono ?_
  rintro e w2 ⟨rfl, hb2, hr2⟩
  rw [hD] at hr2 ⊢
  simp only [Option.isSome_some, Option.isSome_none, Option.getD_some, Option.getD_none] at hr2 ⊢
  have rz2 : Hid (w2.heap[w.heap.size]? = some (.cells #[.int .i64 0, .int .i64 0, .int .i64 0, .int .i64 0, .int .i64 0, .int .i64 0, .bool false, .int .i64 0] 24 (0, 0))) := hid (by rw [hb2.block _ (by omega)]; exact rz1.out)
  have G2 : Hid (G w w2) := hid (Below.trans G1.out.below (hb2.mono (by omega)))
  have HR2 := hid hr2
  clear hb2 hr2
  go_wp2_with fail
  refine (HIA.out _).use ?_
  intro w3 g3
  have rz3 : Hid (w3.heap[w.heap.size]? = some (.cells #[.int .i64 0, .int .i64 0, .int .i64 0, .int .i64 0, .int .i64 0, .int .i64 0, .bool false, .int .i64 0] 24 (0, 0))) := hid (by rw [g3.below.block _ (lt_of_row rz2.out)]; exact rz2.out)
  have HR3 : Hid (w3.heap[w.heap.size + 1]? = some (.cells #[.int .i64 y, .int .i64 m, .int .i64 dd, .int .i64 (-1), .int .i64 (-1), .int .i64 (-1), .bool false, .int .i64 0] 24 (0, 0))) := hid (by rw [g3.below.block _ (lt_of_row HR2.out)]; exact HR2.out)
  have G3 : Hid (G w w3) := hid (G2.out.trans g3)
  have hwc : w.heap.size + 1 < w3.heap.size := lt_of_row HR3.out
  clear g3
  go_wp2_with fail
  refine (HLB.out _).mono ?_
  rintro e w3x ⟨rfl, hq3⟩
  rw [hq3]
  clear hq3
  go_wp2_with fail
  refine (clock_any (t.take k) (w.heap.size + 1) (w.heap.size + 1) y m dd (-1) (-1) (-1) false 0 w3 (HU.out.grow G3.out) (by simp; omega) (by omega) HR3.out).mono ?_
  rintro e w4 ⟨rfl, hb4, hr4⟩
  have rz4 : Hid (w4.heap[w.heap.size]? = some (.cells #[.int .i64 0, .int .i64 0, .int .i64 0, .int .i64 0, .int .i64 0, .int .i64 0, .bool false, .int .i64 0] 24 (0, 0))) := hid (by rw [hb4.block _ (by omega)]; exact rz3.out)
  have G4 : Hid (G w w4) := hid (Below.trans G3.out.below (hb4.mono (by omega)))
  clear hb4
  cases hP : clockP (t.take k) (-1) (-1) (-1) with
  | none =>
    have HRES : Hid (clockW y m dd t = (St0, 3)) := hid (by rw [HCW.out, hP])
    rw [hP] at hr4
    simp only [Option.isSome_some, Option.isSome_none, Option.getD_some, Option.getD_none] at hr4 ⊢
    have HR4 := hid hr4
    clear hr4 hP HCW
    have t0 : w4.cell? ⟨w.heap.size, 0, none⟩ = some (.int .i64 0) := by rw [cell_of_row w4 (w.heap.size) 0 _ _ _ rz4.out]; rfl
    have v0 : w4.frozen? ⟨w.heap.size, 0, none⟩ = false := frozen_of_row w4 (w.heap.size) 0 _ _ rz4.out
    have t1 : w4.cell? ⟨w.heap.size, 1, none⟩ = some (.int .i64 0) := by rw [cell_of_row w4 (w.heap.size) 1 _ _ _ rz4.out]; rfl
    have v1 : w4.frozen? ⟨w.heap.size, 1, none⟩ = false := frozen_of_row w4 (w.heap.size) 1 _ _ rz4.out
    have t2 : w4.cell? ⟨w.heap.size, 2, none⟩ = some (.int .i64 0) := by rw [cell_of_row w4 (w.heap.size) 2 _ _ _ rz4.out]; rfl
    have v2 : w4.frozen? ⟨w.heap.size, 2, none⟩ = false := frozen_of_row w4 (w.heap.size) 2 _ _ rz4.out
    have t3 : w4.cell? ⟨w.heap.size, 3, none⟩ = some (.int .i64 0) := by rw [cell_of_row w4 (w.heap.size) 3 _ _ _ rz4.out]; rfl
    have v3 : w4.frozen? ⟨w.heap.size, 3, none⟩ = false := frozen_of_row w4 (w.heap.size) 3 _ _ rz4.out
    have t4 : w4.cell? ⟨w.heap.size, 4, none⟩ = some (.int .i64 0) := by rw [cell_of_row w4 (w.heap.size) 4 _ _ _ rz4.out]; rfl
    have v4 : w4.frozen? ⟨w.heap.size, 4, none⟩ = false := frozen_of_row w4 (w.heap.size) 4 _ _ rz4.out
    have t5 : w4.cell? ⟨w.heap.size, 5, none⟩ = some (.int .i64 0) := by rw [cell_of_row w4 (w.heap.size) 5 _ _ _ rz4.out]; rfl
    have v5 : w4.frozen? ⟨w.heap.size, 5, none⟩ = false := frozen_of_row w4 (w.heap.size) 5 _ _ rz4.out
    have t6 : w4.cell? ⟨w.heap.size, 6, none⟩ = some (.bool false) := by rw [cell_of_row w4 (w.heap.size) 6 _ _ _ rz4.out]; rfl
    have v6 : w4.frozen? ⟨w.heap.size, 6, none⟩ = false := frozen_of_row w4 (w.heap.size) 6 _ _ rz4.out
    have t7 : w4.cell? ⟨w.heap.size, 7, none⟩ = some (.int .i64 0) := by rw [cell_of_row w4 (w.heap.size) 7 _ _ _ rz4.out]; rfl
    have v7 : w4.frozen? ⟨w.heap.size, 7, none⟩ = false := frozen_of_row w4 (w.heap.size) 7 _ _ rz4.out
    have rf : Hid (((((((((w4.setCell ⟨w.heap.size, 0, none⟩ (.int .i64 0)).setCell ⟨w.heap.size, 1, none⟩ (.int .i64 0)).setCell ⟨w.heap.size, 2, none⟩ (.int .i64 0)).setCell ⟨w.heap.size, 3, none⟩ (.int .i64 0)).setCell ⟨w.heap.size, 4, none⟩ (.int .i64 0)).setCell ⟨w.heap.size, 5, none⟩ (.int .i64 0)).setCell ⟨w.heap.size, 6, none⟩ (.bool false)).setCell ⟨w.heap.size, 7, none⟩ (.int .i64 0)).heap[w.heap.size]? = some (.cells #[.int .i64 0, .int .i64 0, .int .i64 0, .int .i64 0, .int .i64 0, .int .i64 0, .bool false, .int .i64 0] 24 (0, 0))) := hid (row_setE (row_setE (row_setE (row_setE (row_setE (row_setE (row_setE (row_setE rz4.out rfl) rfl) rfl) rfl) rfl) rfl) rfl) rfl)
    have GF : Hid (G w ((((((((w4.setCell ⟨w.heap.size, 0, none⟩ (.int .i64 0)).setCell ⟨w.heap.size, 1, none⟩ (.int .i64 0)).setCell ⟨w.heap.size, 2, none⟩ (.int .i64 0)).setCell ⟨w.heap.size, 3, none⟩ (.int .i64 0)).setCell ⟨w.heap.size, 4, none⟩ (.int .i64 0)).setCell ⟨w.heap.size, 5, none⟩ (.int .i64 0)).setCell ⟨w.heap.size, 6, none⟩ (.bool false)).setCell ⟨w.heap.size, 7, none⟩ (.int .i64 0))) := hid (Below.setCell (p := ⟨w.heap.size, 7, none⟩) (Below.setCell (p := ⟨w.heap.size, 6, none⟩) (Below.setCell (p := ⟨w.heap.size, 5, none⟩) (Below.setCell (p := ⟨w.heap.size, 4, none⟩) (Below.setCell (p := ⟨w.heap.size, 3, none⟩) (Below.setCell (p := ⟨w.heap.size, 2, none⟩) (Below.setCell (p := ⟨w.heap.size, 1, none⟩) (Below.setCell (p := ⟨w.heap.size, 0, none⟩) G4.out.below (Nat.le_refl _) (.int .i64 0)) (Nat.le_refl _) (.int .i64 0)) (Nat.le_refl _) (.int .i64 0)) (Nat.le_refl _) (.int .i64 0)) (Nat.le_refl _) (.int .i64 0)) (Nat.le_refl _) (.int .i64 0)) (Nat.le_refl _) (.bool false)) (Nat.le_refl _) (.int .i64 0))
    go_wp2_with fail
    obtain ⟨WF, hWF⟩ : ∃ WF, ((((((((w4.setCell ⟨w.heap.size, 0, none⟩ (.int .i64 0)).setCell ⟨w.heap.size, 1, none⟩ (.int .i64 0)).setCell ⟨w.heap.size, 2, none⟩ (.int .i64 0)).setCell ⟨w.heap.size, 3, none⟩ (.int .i64 0)).setCell ⟨w.heap.size, 4, none⟩ (.int .i64 0)).setCell ⟨w.heap.size, 5, none⟩ (.int .i64 0)).setCell ⟨w.heap.size, 6, none⟩ (.bool false)).setCell ⟨w.heap.size, 7, none⟩ (.int .i64 0)) = WF := ⟨_, rfl⟩
    rw [hWF] at rf GF ⊢
    clear hWF t0 t1 t2 t3 t4 t5 t6 t7 v0 v1 v2 v3 v4 v5 v6 v7
    have e0 : WF.cell? ⟨w.heap.size, 0, none⟩ = some (.int .i64 0) := by rw [cell_of_row WF (w.heap.size) 0 _ _ _ rf.out]; rfl
    have e1 : WF.cell? ⟨w.heap.size, 1, none⟩ = some (.int .i64 0) := by rw [cell_of_row WF (w.heap.size) 1 _ _ _ rf.out]; rfl
    have e2 : WF.cell? ⟨w.heap.size, 2, none⟩ = some (.int .i64 0) := by rw [cell_of_row WF (w.heap.size) 2 _ _ _ rf.out]; rfl
    have e3 : WF.cell? ⟨w.heap.size, 3, none⟩ = some (.int .i64 0) := by rw [cell_of_row WF (w.heap.size) 3 _ _ _ rf.out]; rfl
    have e4 : WF.cell? ⟨w.heap.size, 4, none⟩ = some (.int .i64 0) := by rw [cell_of_row WF (w.heap.size) 4 _ _ _ rf.out]; rfl
    have e5 : WF.cell? ⟨w.heap.size, 5, none⟩ = some (.int .i64 0) := by rw [cell_of_row WF (w.heap.size) 5 _ _ _ rf.out]; rfl
    have e6 : WF.cell? ⟨w.heap.size, 6, none⟩ = some (.bool false) := by rw [cell_of_row WF (w.heap.size) 6 _ _ _ rf.out]; rfl
    have e7 : WF.cell? ⟨w.heap.size, 7, none⟩ = some (.int .i64 0) := by rw [cell_of_row WF (w.heap.size) 7 _ _ _ rf.out]; rfl
    exact bodyPost_ret (v := .tuple #[.agg #[.int .i64 0, .int .i64 0, .int .i64 0, .int .i64 0, .int .i64 0, .int .i64 0, .bool false, .int .i64 0], eno 3]) (by simp [results, Tryz.results33, go_sem, e0, e1, e2, e3, e4, e5, e6, e7]) rfl ⟨by rw [HRES.out]; rfl, GF.out⟩
  | some q =>
    obtain ⟨h, n, c⟩ := q
    rw [hP] at hr4
    simp only [Option.isSome_some, Option.isSome_none, Option.getD_some, Option.getD_none] at hr4 ⊢
    have HR4 := hid hr4
    obtain ⟨zn, hzn⟩ : ∃ z, (parseZ (t.drop k)).1 = z := ⟨_, rfl⟩
    obtain ⟨zc, hzc⟩ : ∃ z, (parseZ (t.drop k)).2 = z := ⟨_, rfl⟩
    have hz := fun W => zoneParse_any (t.drop k) W (by simp; omega)
    rw [hzn, hzc] at hz
    have HZP := hid hz
    have HCY : Hid (clockW y m dd t = if zc = 0 then finW ⟨y, m, dd, h, n, c, true, zn⟩ else (St0, zc)) := hid (by rw [HCW.out, hP]; simp only [hzn, hzc])
    clear hz hzn hzc hr4 hP HCW
    go_wp2_with fail
    refine (HZP.out _).use ?_
    intro w5 g5
    have HR5 : Hid (w5.heap[w.heap.size + 1]? = some (.cells #[.int .i64 y, .int .i64 m, .int .i64 dd, .int .i64 h, .int .i64 n, .int .i64 c, .bool false, .int .i64 0] 24 (0, 0))) := hid (by rw [g5.below.block _ (lt_of_row HR4.out)]; exact HR4.out)
    have rz5 : Hid (w5.heap[w.heap.size]? = some (.cells #[.int .i64 0, .int .i64 0, .int .i64 0, .int .i64 0, .int .i64 0, .int .i64 0, .bool false, .int .i64 0] 24 (0, 0))) := hid (by rw [g5.below.block _ (lt_of_row rz4.out)]; exact rz4.out)
    have G5 : Hid (G w w5) := hid (G4.out.trans g5)
    clear g5
    by_cases hz : zc = 0
    · subst hz
      rw [show errV 0 = .nilIface from rfl]
      have HRES : Hid (clockW y m dd t = finW ⟨y, m, dd, h, n, c, true, zn⟩) := hid (by rw [HCY.out, if_pos rfl])
      have d6 : w5.cell? ⟨w.heap.size + 1, 6, none⟩ = some (.bool false) := by rw [cell_of_row w5 (w.heap.size + 1) 6 _ _ _ HR5.out]; rfl
      have f6 : w5.frozen? ⟨w.heap.size + 1, 6, none⟩ = false := frozen_of_row w5 (w.heap.size + 1) 6 _ _ HR5.out
      have d7 : w5.cell? ⟨w.heap.size + 1, 7, none⟩ = some (.int .i64 0) := by rw [cell_of_row w5 (w.heap.size + 1) 7 _ _ _ HR5.out]; rfl
      have f7 : w5.frozen? ⟨w.heap.size + 1, 7, none⟩ = false := frozen_of_row w5 (w.heap.size + 1) 7 _ _ HR5.out
      have HR8 : Hid (((w5.setCell ⟨w.heap.size + 1, 6, none⟩ (.bool true)).setCell ⟨w.heap.size + 1, 7, none⟩ (.int .i64 zn)).heap[w.heap.size + 1]? = some (.cells #[.int .i64 y, .int .i64 m, .int .i64 dd, .int .i64 h, .int .i64 n, .int .i64 c, .bool true, .int .i64 zn] 24 (0, 0))) := hid (row_setE (row_setE HR5.out rfl) rfl)
      have G8 : Hid (G w ((w5.setCell ⟨w.heap.size + 1, 6, none⟩ (.bool true)).setCell ⟨w.heap.size + 1, 7, none⟩ (.int .i64 zn))) := hid ((Below.setCell (p := ⟨w.heap.size + 1, 6, none⟩) G5.out.below (by simp) _).setCell (p := ⟨w.heap.size + 1, 7, none⟩) (by simp) _)
      have rz8 : Hid (((w5.setCell ⟨w.heap.size + 1, 6, none⟩ (.bool true)).setCell ⟨w.heap.size + 1, 7, none⟩ (.int .i64 zn)).heap[w.heap.size]? = some (.cells #[.int .i64 0, .int .i64 0, .int .i64 0, .int .i64 0, .int .i64 0, .int .i64 0, .bool false, .int .i64 0] 24 (0, 0))) := hid (by rw [Below.heap_setCell _ _ _ _ (by simp), Below.heap_setCell _ _ _ _ (by simp)]; exact rz5.out)
      clear HCY
      have e0 : ((w5.setCell ⟨w.heap.size + 1, 6, none⟩ (.bool true)).setCell ⟨w.heap.size + 1, 7, none⟩ (.int .i64 zn)).cell? ⟨w.heap.size + 1, 0, none⟩ = some (.int .i64 y) := by rw [cell_of_row ((w5.setCell ⟨w.heap.size + 1, 6, none⟩ (.bool true)).setCell ⟨w.heap.size + 1, 7, none⟩ (.int .i64 zn)) (w.heap.size + 1) 0 _ _ _ HR8.out]; rfl
      have e1 : ((w5.setCell ⟨w.heap.size + 1, 6, none⟩ (.bool true)).setCell ⟨w.heap.size + 1, 7, none⟩ (.int .i64 zn)).cell? ⟨w.heap.size + 1, 1, none⟩ = some (.int .i64 m) := by rw [cell_of_row ((w5.setCell ⟨w.heap.size + 1, 6, none⟩ (.bool true)).setCell ⟨w.heap.size + 1, 7, none⟩ (.int .i64 zn)) (w.heap.size + 1) 1 _ _ _ HR8.out]; rfl
      have e2 : ((w5.setCell ⟨w.heap.size + 1, 6, none⟩ (.bool true)).setCell ⟨w.heap.size + 1, 7, none⟩ (.int .i64 zn)).cell? ⟨w.heap.size + 1, 2, none⟩ = some (.int .i64 dd) := by rw [cell_of_row ((w5.setCell ⟨w.heap.size + 1, 6, none⟩ (.bool true)).setCell ⟨w.heap.size + 1, 7, none⟩ (.int .i64 zn)) (w.heap.size + 1) 2 _ _ _ HR8.out]; rfl
      have e3 : ((w5.setCell ⟨w.heap.size + 1, 6, none⟩ (.bool true)).setCell ⟨w.heap.size + 1, 7, none⟩ (.int .i64 zn)).cell? ⟨w.heap.size + 1, 3, none⟩ = some (.int .i64 h) := by rw [cell_of_row ((w5.setCell ⟨w.heap.size + 1, 6, none⟩ (.bool true)).setCell ⟨w.heap.size + 1, 7, none⟩ (.int .i64 zn)) (w.heap.size + 1) 3 _ _ _ HR8.out]; rfl
      have e4 : ((w5.setCell ⟨w.heap.size + 1, 6, none⟩ (.bool true)).setCell ⟨w.heap.size + 1, 7, none⟩ (.int .i64 zn)).cell? ⟨w.heap.size + 1, 4, none⟩ = some (.int .i64 n) := by rw [cell_of_row ((w5.setCell ⟨w.heap.size + 1, 6, none⟩ (.bool true)).setCell ⟨w.heap.size + 1, 7, none⟩ (.int .i64 zn)) (w.heap.size + 1) 4 _ _ _ HR8.out]; rfl
      have e5 : ((w5.setCell ⟨w.heap.size + 1, 6, none⟩ (.bool true)).setCell ⟨w.heap.size + 1, 7, none⟩ (.int .i64 zn)).cell? ⟨w.heap.size + 1, 5, none⟩ = some (.int .i64 c) := by rw [cell_of_row ((w5.setCell ⟨w.heap.size + 1, 6, none⟩ (.bool true)).setCell ⟨w.heap.size + 1, 7, none⟩ (.int .i64 zn)) (w.heap.size + 1) 5 _ _ _ HR8.out]; rfl
      have e6 : ((w5.setCell ⟨w.heap.size + 1, 6, none⟩ (.bool true)).setCell ⟨w.heap.size + 1, 7, none⟩ (.int .i64 zn)).cell? ⟨w.heap.size + 1, 6, none⟩ = some (.bool true) := by rw [cell_of_row ((w5.setCell ⟨w.heap.size + 1, 6, none⟩ (.bool true)).setCell ⟨w.heap.size + 1, 7, none⟩ (.int .i64 zn)) (w.heap.size + 1) 6 _ _ _ HR8.out]; rfl
      have e7 : ((w5.setCell ⟨w.heap.size + 1, 6, none⟩ (.bool true)).setCell ⟨w.heap.size + 1, 7, none⟩ (.int .i64 zn)).cell? ⟨w.heap.size + 1, 7, none⟩ = some (.int .i64 zn) := by rw [cell_of_row ((w5.setCell ⟨w.heap.size + 1, 6, none⟩ (.bool true)).setCell ⟨w.heap.size + 1, 7, none⟩ (.int .i64 zn)) (w.heap.size + 1) 7 _ _ _ HR8.out]; rfl
      have hR := fun W hm => whenRight_any ⟨y, m, dd, h, n, c, true, zn⟩ W hm (by simp; omega) (by simp; omega)
      obtain ⟨rc, hrc⟩ : ∃ rcx, (⟨y, m, dd, h, n, c, true, zn⟩ : St).right = rcx := ⟨_, rfl⟩
      rw [hrc] at hR
      have HRG := hid hR
      have HFW : Hid (finW ⟨y, m, dd, h, n, c, true, zn⟩ = if rc = 0 then (⟨y, m, dd, h, n, c, true, zn⟩, 0) else (St0, rc)) := hid (by unfold finW; rw [hrc])
      clear hR hrc
      go_wp2_with fail
      refine (HRG.out _ (HM.out.grow G8.out)).use ?_
      intro w9 g9
      have hr9 : Hid (w9.heap[w.heap.size + 1]? = some (.cells #[.int .i64 y, .int .i64 m, .int .i64 dd, .int .i64 h, .int .i64 n, .int .i64 c, .bool true, .int .i64 zn] 24 (0, 0))) := hid (by rw [g9.below.block _ (lt_of_row HR8.out)]; exact HR8.out)
      have rz9 : Hid (w9.heap[w.heap.size]? = some (.cells #[.int .i64 0, .int .i64 0, .int .i64 0, .int .i64 0, .int .i64 0, .int .i64 0, .bool false, .int .i64 0] 24 (0, 0))) := hid (by rw [g9.below.block _ (lt_of_row rz8.out)]; exact rz8.out)
      have G9 : Hid (G w w9) := hid (G8.out.trans g9)
      clear g9 e0 e1 e2 e3 e4 e5 e6 e7
      by_cases hz : rc = 0
      · subst hz
        rw [show errV 0 = .nilIface from rfl]
        have e0 : w9.cell? ⟨w.heap.size + 1, 0, none⟩ = some (.int .i64 y) := by rw [cell_of_row w9 (w.heap.size + 1) 0 _ _ _ hr9.out]; rfl
        have e1 : w9.cell? ⟨w.heap.size + 1, 1, none⟩ = some (.int .i64 m) := by rw [cell_of_row w9 (w.heap.size + 1) 1 _ _ _ hr9.out]; rfl
        have e2 : w9.cell? ⟨w.heap.size + 1, 2, none⟩ = some (.int .i64 dd) := by rw [cell_of_row w9 (w.heap.size + 1) 2 _ _ _ hr9.out]; rfl
        have e3 : w9.cell? ⟨w.heap.size + 1, 3, none⟩ = some (.int .i64 h) := by rw [cell_of_row w9 (w.heap.size + 1) 3 _ _ _ hr9.out]; rfl
        have e4 : w9.cell? ⟨w.heap.size + 1, 4, none⟩ = some (.int .i64 n) := by rw [cell_of_row w9 (w.heap.size + 1) 4 _ _ _ hr9.out]; rfl
        have e5 : w9.cell? ⟨w.heap.size + 1, 5, none⟩ = some (.int .i64 c) := by rw [cell_of_row w9 (w.heap.size + 1) 5 _ _ _ hr9.out]; rfl
        have e6 : w9.cell? ⟨w.heap.size + 1, 6, none⟩ = some (.bool true) := by rw [cell_of_row w9 (w.heap.size + 1) 6 _ _ _ hr9.out]; rfl
        have e7 : w9.cell? ⟨w.heap.size + 1, 7, none⟩ = some (.int .i64 zn) := by rw [cell_of_row w9 (w.heap.size + 1) 7 _ _ _ hr9.out]; rfl
        have t0 : w9.cell? ⟨w.heap.size, 0, none⟩ = some (.int .i64 0) := by rw [cell_of_row w9 (w.heap.size) 0 _ _ _ rz9.out]; rfl
        have v0 : w9.frozen? ⟨w.heap.size, 0, none⟩ = false := frozen_of_row w9 (w.heap.size) 0 _ _ rz9.out
        have t1 : w9.cell? ⟨w.heap.size, 1, none⟩ = some (.int .i64 0) := by rw [cell_of_row w9 (w.heap.size) 1 _ _ _ rz9.out]; rfl
        have v1 : w9.frozen? ⟨w.heap.size, 1, none⟩ = false := frozen_of_row w9 (w.heap.size) 1 _ _ rz9.out
        have t2 : w9.cell? ⟨w.heap.size, 2, none⟩ = some (.int .i64 0) := by rw [cell_of_row w9 (w.heap.size) 2 _ _ _ rz9.out]; rfl
        have v2 : w9.frozen? ⟨w.heap.size, 2, none⟩ = false := frozen_of_row w9 (w.heap.size) 2 _ _ rz9.out
        have t3 : w9.cell? ⟨w.heap.size, 3, none⟩ = some (.int .i64 0) := by rw [cell_of_row w9 (w.heap.size) 3 _ _ _ rz9.out]; rfl
        have v3 : w9.frozen? ⟨w.heap.size, 3, none⟩ = false := frozen_of_row w9 (w.heap.size) 3 _ _ rz9.out
        have t4 : w9.cell? ⟨w.heap.size, 4, none⟩ = some (.int .i64 0) := by rw [cell_of_row w9 (w.heap.size) 4 _ _ _ rz9.out]; rfl
        have v4 : w9.frozen? ⟨w.heap.size, 4, none⟩ = false := frozen_of_row w9 (w.heap.size) 4 _ _ rz9.out
        have t5 : w9.cell? ⟨w.heap.size, 5, none⟩ = some (.int .i64 0) := by rw [cell_of_row w9 (w.heap.size) 5 _ _ _ rz9.out]; rfl
        have v5 : w9.frozen? ⟨w.heap.size, 5, none⟩ = false := frozen_of_row w9 (w.heap.size) 5 _ _ rz9.out
        have t6 : w9.cell? ⟨w.heap.size, 6, none⟩ = some (.bool false) := by rw [cell_of_row w9 (w.heap.size) 6 _ _ _ rz9.out]; rfl
        have v6 : w9.frozen? ⟨w.heap.size, 6, none⟩ = false := frozen_of_row w9 (w.heap.size) 6 _ _ rz9.out
        have t7 : w9.cell? ⟨w.heap.size, 7, none⟩ = some (.int .i64 0) := by rw [cell_of_row w9 (w.heap.size) 7 _ _ _ rz9.out]; rfl
        have v7 : w9.frozen? ⟨w.heap.size, 7, none⟩ = false := frozen_of_row w9 (w.heap.size) 7 _ _ rz9.out
        have rf : Hid (((((((((w9.setCell ⟨w.heap.size, 0, none⟩ (.int .i64 y)).setCell ⟨w.heap.size, 1, none⟩ (.int .i64 m)).setCell ⟨w.heap.size, 2, none⟩ (.int .i64 dd)).setCell ⟨w.heap.size, 3, none⟩ (.int .i64 h)).setCell ⟨w.heap.size, 4, none⟩ (.int .i64 n)).setCell ⟨w.heap.size, 5, none⟩ (.int .i64 c)).setCell ⟨w.heap.size, 6, none⟩ (.bool true)).setCell ⟨w.heap.size, 7, none⟩ (.int .i64 zn)).heap[w.heap.size]? = some (.cells #[.int .i64 y, .int .i64 m, .int .i64 dd, .int .i64 h, .int .i64 n, .int .i64 c, .bool true, .int .i64 zn] 24 (0, 0))) := hid (row_setE (row_setE (row_setE (row_setE (row_setE (row_setE (row_setE (row_setE rz9.out rfl) rfl) rfl) rfl) rfl) rfl) rfl) rfl)
        have GF : Hid (G w ((((((((w9.setCell ⟨w.heap.size, 0, none⟩ (.int .i64 y)).setCell ⟨w.heap.size, 1, none⟩ (.int .i64 m)).setCell ⟨w.heap.size, 2, none⟩ (.int .i64 dd)).setCell ⟨w.heap.size, 3, none⟩ (.int .i64 h)).setCell ⟨w.heap.size, 4, none⟩ (.int .i64 n)).setCell ⟨w.heap.size, 5, none⟩ (.int .i64 c)).setCell ⟨w.heap.size, 6, none⟩ (.bool true)).setCell ⟨w.heap.size, 7, none⟩ (.int .i64 zn))) := hid (Below.setCell (p := ⟨w.heap.size, 7, none⟩) (Below.setCell (p := ⟨w.heap.size, 6, none⟩) (Below.setCell (p := ⟨w.heap.size, 5, none⟩) (Below.setCell (p := ⟨w.heap.size, 4, none⟩) (Below.setCell (p := ⟨w.heap.size, 3, none⟩) (Below.setCell (p := ⟨w.heap.size, 2, none⟩) (Below.setCell (p := ⟨w.heap.size, 1, none⟩) (Below.setCell (p := ⟨w.heap.size, 0, none⟩) G9.out.below (Nat.le_refl _) (.int .i64 y)) (Nat.le_refl _) (.int .i64 m)) (Nat.le_refl _) (.int .i64 dd)) (Nat.le_refl _) (.int .i64 h)) (Nat.le_refl _) (.int .i64 n)) (Nat.le_refl _) (.int .i64 c)) (Nat.le_refl _) (.bool true)) (Nat.le_refl _) (.int .i64 zn))
        go_wp2_with fail
        obtain ⟨WF, hWF⟩ : ∃ WF, ((((((((w9.setCell ⟨w.heap.size, 0, none⟩ (.int .i64 y)).setCell ⟨w.heap.size, 1, none⟩ (.int .i64 m)).setCell ⟨w.heap.size, 2, none⟩ (.int .i64 dd)).setCell ⟨w.heap.size, 3, none⟩ (.int .i64 h)).setCell ⟨w.heap.size, 4, none⟩ (.int .i64 n)).setCell ⟨w.heap.size, 5, none⟩ (.int .i64 c)).setCell ⟨w.heap.size, 6, none⟩ (.bool true)).setCell ⟨w.heap.size, 7, none⟩ (.int .i64 zn)) = WF := ⟨_, rfl⟩
        rw [hWF] at rf GF ⊢
        clear hWF t0 t1 t2 t3 t4 t5 t6 t7 v0 v1 v2 v3 v4 v5 v6 v7
        have e0 : WF.cell? ⟨w.heap.size, 0, none⟩ = some (.int .i64 y) := by rw [cell_of_row WF (w.heap.size) 0 _ _ _ rf.out]; rfl
        have e1 : WF.cell? ⟨w.heap.size, 1, none⟩ = some (.int .i64 m) := by rw [cell_of_row WF (w.heap.size) 1 _ _ _ rf.out]; rfl
        have e2 : WF.cell? ⟨w.heap.size, 2, none⟩ = some (.int .i64 dd) := by rw [cell_of_row WF (w.heap.size) 2 _ _ _ rf.out]; rfl
        have e3 : WF.cell? ⟨w.heap.size, 3, none⟩ = some (.int .i64 h) := by rw [cell_of_row WF (w.heap.size) 3 _ _ _ rf.out]; rfl
        have e4 : WF.cell? ⟨w.heap.size, 4, none⟩ = some (.int .i64 n) := by rw [cell_of_row WF (w.heap.size) 4 _ _ _ rf.out]; rfl
        have e5 : WF.cell? ⟨w.heap.size, 5, none⟩ = some (.int .i64 c) := by rw [cell_of_row WF (w.heap.size) 5 _ _ _ rf.out]; rfl
        have e6 : WF.cell? ⟨w.heap.size, 6, none⟩ = some (.bool true) := by rw [cell_of_row WF (w.heap.size) 6 _ _ _ rf.out]; rfl
        have e7 : WF.cell? ⟨w.heap.size, 7, none⟩ = some (.int .i64 zn) := by rw [cell_of_row WF (w.heap.size) 7 _ _ _ rf.out]; rfl
        exact bodyPost_ret (v := .tuple #[.agg #[.int .i64 y, .int .i64 m, .int .i64 dd, .int .i64 h, .int .i64 n, .int .i64 c, .bool true, .int .i64 zn], .nilIface]) (by simp [results, Tryz.results33, go_sem, e0, e1, e2, e3, e4, e5, e6, e7]) rfl ⟨by rw [HRES.out, HFW.out]; rfl, GF.out⟩
      · have he : errV rc = eno rc := by unfold errV; rw [if_neg hz]
        rw [he]
        have HZ := hid hz
        clear hz he
        have t0 : w9.cell? ⟨w.heap.size, 0, none⟩ = some (.int .i64 0) := by rw [cell_of_row w9 (w.heap.size) 0 _ _ _ rz9.out]; rfl
        have v0 : w9.frozen? ⟨w.heap.size, 0, none⟩ = false := frozen_of_row w9 (w.heap.size) 0 _ _ rz9.out
        have t1 : w9.cell? ⟨w.heap.size, 1, none⟩ = some (.int .i64 0) := by rw [cell_of_row w9 (w.heap.size) 1 _ _ _ rz9.out]; rfl
        have v1 : w9.frozen? ⟨w.heap.size, 1, none⟩ = false := frozen_of_row w9 (w.heap.size) 1 _ _ rz9.out
        have t2 : w9.cell? ⟨w.heap.size, 2, none⟩ = some (.int .i64 0) := by rw [cell_of_row w9 (w.heap.size) 2 _ _ _ rz9.out]; rfl
        have v2 : w9.frozen? ⟨w.heap.size, 2, none⟩ = false := frozen_of_row w9 (w.heap.size) 2 _ _ rz9.out
        have t3 : w9.cell? ⟨w.heap.size, 3, none⟩ = some (.int .i64 0) := by rw [cell_of_row w9 (w.heap.size) 3 _ _ _ rz9.out]; rfl
        have v3 : w9.frozen? ⟨w.heap.size, 3, none⟩ = false := frozen_of_row w9 (w.heap.size) 3 _ _ rz9.out
        have t4 : w9.cell? ⟨w.heap.size, 4, none⟩ = some (.int .i64 0) := by rw [cell_of_row w9 (w.heap.size) 4 _ _ _ rz9.out]; rfl
        have v4 : w9.frozen? ⟨w.heap.size, 4, none⟩ = false := frozen_of_row w9 (w.heap.size) 4 _ _ rz9.out
        have t5 : w9.cell? ⟨w.heap.size, 5, none⟩ = some (.int .i64 0) := by rw [cell_of_row w9 (w.heap.size) 5 _ _ _ rz9.out]; rfl
        have v5 : w9.frozen? ⟨w.heap.size, 5, none⟩ = false := frozen_of_row w9 (w.heap.size) 5 _ _ rz9.out
        have t6 : w9.cell? ⟨w.heap.size, 6, none⟩ = some (.bool false) := by rw [cell_of_row w9 (w.heap.size) 6 _ _ _ rz9.out]; rfl
        have v6 : w9.frozen? ⟨w.heap.size, 6, none⟩ = false := frozen_of_row w9 (w.heap.size) 6 _ _ rz9.out
        have t7 : w9.cell? ⟨w.heap.size, 7, none⟩ = some (.int .i64 0) := by rw [cell_of_row w9 (w.heap.size) 7 _ _ _ rz9.out]; rfl
        have v7 : w9.frozen? ⟨w.heap.size, 7, none⟩ = false := frozen_of_row w9 (w.heap.size) 7 _ _ rz9.out
        have rf : Hid (((((((((w9.setCell ⟨w.heap.size, 0, none⟩ (.int .i64 0)).setCell ⟨w.heap.size, 1, none⟩ (.int .i64 0)).setCell ⟨w.heap.size, 2, none⟩ (.int .i64 0)).setCell ⟨w.heap.size, 3, none⟩ (.int .i64 0)).setCell ⟨w.heap.size, 4, none⟩ (.int .i64 0)).setCell ⟨w.heap.size, 5, none⟩ (.int .i64 0)).setCell ⟨w.heap.size, 6, none⟩ (.bool false)).setCell ⟨w.heap.size, 7, none⟩ (.int .i64 0)).heap[w.heap.size]? = some (.cells #[.int .i64 0, .int .i64 0, .int .i64 0, .int .i64 0, .int .i64 0, .int .i64 0, .bool false, .int .i64 0] 24 (0, 0))) := hid (row_setE (row_setE (row_setE (row_setE (row_setE (row_setE (row_setE (row_setE rz9.out rfl) rfl) rfl) rfl) rfl) rfl) rfl) rfl)
        have GF : Hid (G w ((((((((w9.setCell ⟨w.heap.size, 0, none⟩ (.int .i64 0)).setCell ⟨w.heap.size, 1, none⟩ (.int .i64 0)).setCell ⟨w.heap.size, 2, none⟩ (.int .i64 0)).setCell ⟨w.heap.size, 3, none⟩ (.int .i64 0)).setCell ⟨w.heap.size, 4, none⟩ (.int .i64 0)).setCell ⟨w.heap.size, 5, none⟩ (.int .i64 0)).setCell ⟨w.heap.size, 6, none⟩ (.bool false)).setCell ⟨w.heap.size, 7, none⟩ (.int .i64 0))) := hid (Below.setCell (p := ⟨w.heap.size, 7, none⟩) (Below.setCell (p := ⟨w.heap.size, 6, none⟩) (Below.setCell (p := ⟨w.heap.size, 5, none⟩) (Below.setCell (p := ⟨w.heap.size, 4, none⟩) (Below.setCell (p := ⟨w.heap.size, 3, none⟩) (Below.setCell (p := ⟨w.heap.size, 2, none⟩) (Below.setCell (p := ⟨w.heap.size, 1, none⟩) (Below.setCell (p := ⟨w.heap.size, 0, none⟩) G9.out.below (Nat.le_refl _) (.int .i64 0)) (Nat.le_refl _) (.int .i64 0)) (Nat.le_refl _) (.int .i64 0)) (Nat.le_refl _) (.int .i64 0)) (Nat.le_refl _) (.int .i64 0)) (Nat.le_refl _) (.int .i64 0)) (Nat.le_refl _) (.bool false)) (Nat.le_refl _) (.int .i64 0))
        go_wp2_with fail
        obtain ⟨WF, hWF⟩ : ∃ WF, ((((((((w9.setCell ⟨w.heap.size, 0, none⟩ (.int .i64 0)).setCell ⟨w.heap.size, 1, none⟩ (.int .i64 0)).setCell ⟨w.heap.size, 2, none⟩ (.int .i64 0)).setCell ⟨w.heap.size, 3, none⟩ (.int .i64 0)).setCell ⟨w.heap.size, 4, none⟩ (.int .i64 0)).setCell ⟨w.heap.size, 5, none⟩ (.int .i64 0)).setCell ⟨w.heap.size, 6, none⟩ (.bool false)).setCell ⟨w.heap.size, 7, none⟩ (.int .i64 0)) = WF := ⟨_, rfl⟩
        rw [hWF] at rf GF ⊢
        clear hWF t0 t1 t2 t3 t4 t5 t6 t7 v0 v1 v2 v3 v4 v5 v6 v7
        have e0 : WF.cell? ⟨w.heap.size, 0, none⟩ = some (.int .i64 0) := by rw [cell_of_row WF (w.heap.size) 0 _ _ _ rf.out]; rfl
        have e1 : WF.cell? ⟨w.heap.size, 1, none⟩ = some (.int .i64 0) := by rw [cell_of_row WF (w.heap.size) 1 _ _ _ rf.out]; rfl
        have e2 : WF.cell? ⟨w.heap.size, 2, none⟩ = some (.int .i64 0) := by rw [cell_of_row WF (w.heap.size) 2 _ _ _ rf.out]; rfl
        have e3 : WF.cell? ⟨w.heap.size, 3, none⟩ = some (.int .i64 0) := by rw [cell_of_row WF (w.heap.size) 3 _ _ _ rf.out]; rfl
        have e4 : WF.cell? ⟨w.heap.size, 4, none⟩ = some (.int .i64 0) := by rw [cell_of_row WF (w.heap.size) 4 _ _ _ rf.out]; rfl
        have e5 : WF.cell? ⟨w.heap.size, 5, none⟩ = some (.int .i64 0) := by rw [cell_of_row WF (w.heap.size) 5 _ _ _ rf.out]; rfl
        have e6 : WF.cell? ⟨w.heap.size, 6, none⟩ = some (.bool false) := by rw [cell_of_row WF (w.heap.size) 6 _ _ _ rf.out]; rfl
        have e7 : WF.cell? ⟨w.heap.size, 7, none⟩ = some (.int .i64 0) := by rw [cell_of_row WF (w.heap.size) 7 _ _ _ rf.out]; rfl
        exact bodyPost_ret (v := .tuple #[.agg #[.int .i64 0, .int .i64 0, .int .i64 0, .int .i64 0, .int .i64 0, .int .i64 0, .bool false, .int .i64 0], eno rc]) (by simp [results, Tryz.results33, go_sem, e0, e1, e2, e3, e4, e5, e6, e7]) rfl ⟨by rw [HRES.out, HFW.out, if_neg HZ.out]; unfold errV; rw [if_neg HZ.out]; rfl, GF.out⟩
    · have he : errV zc = eno zc := by unfold errV; rw [if_neg hz]
      have HRES : Hid (clockW y m dd t = (St0, zc)) := hid (by rw [HCY.out, if_neg hz])
      rw [he]
      have HZ := hid hz
      clear hz he HCY
      have t0 : w5.cell? ⟨w.heap.size, 0, none⟩ = some (.int .i64 0) := by rw [cell_of_row w5 (w.heap.size) 0 _ _ _ rz5.out]; rfl
      have v0 : w5.frozen? ⟨w.heap.size, 0, none⟩ = false := frozen_of_row w5 (w.heap.size) 0 _ _ rz5.out
      have t1 : w5.cell? ⟨w.heap.size, 1, none⟩ = some (.int .i64 0) := by rw [cell_of_row w5 (w.heap.size) 1 _ _ _ rz5.out]; rfl
      have v1 : w5.frozen? ⟨w.heap.size, 1, none⟩ = false := frozen_of_row w5 (w.heap.size) 1 _ _ rz5.out
      have t2 : w5.cell? ⟨w.heap.size, 2, none⟩ = some (.int .i64 0) := by rw [cell_of_row w5 (w.heap.size) 2 _ _ _ rz5.out]; rfl
      have v2 : w5.frozen? ⟨w.heap.size, 2, none⟩ = false := frozen_of_row w5 (w.heap.size) 2 _ _ rz5.out
      have t3 : w5.cell? ⟨w.heap.size, 3, none⟩ = some (.int .i64 0) := by rw [cell_of_row w5 (w.heap.size) 3 _ _ _ rz5.out]; rfl
      have v3 : w5.frozen? ⟨w.heap.size, 3, none⟩ = false := frozen_of_row w5 (w.heap.size) 3 _ _ rz5.out
      have t4 : w5.cell? ⟨w.heap.size, 4, none⟩ = some (.int .i64 0) := by rw [cell_of_row w5 (w.heap.size) 4 _ _ _ rz5.out]; rfl
      have v4 : w5.frozen? ⟨w.heap.size, 4, none⟩ = false := frozen_of_row w5 (w.heap.size) 4 _ _ rz5.out
      have t5 : w5.cell? ⟨w.heap.size, 5, none⟩ = some (.int .i64 0) := by rw [cell_of_row w5 (w.heap.size) 5 _ _ _ rz5.out]; rfl
      have v5 : w5.frozen? ⟨w.heap.size, 5, none⟩ = false := frozen_of_row w5 (w.heap.size) 5 _ _ rz5.out
      have t6 : w5.cell? ⟨w.heap.size, 6, none⟩ = some (.bool false) := by rw [cell_of_row w5 (w.heap.size) 6 _ _ _ rz5.out]; rfl
      have v6 : w5.frozen? ⟨w.heap.size, 6, none⟩ = false := frozen_of_row w5 (w.heap.size) 6 _ _ rz5.out
      have t7 : w5.cell? ⟨w.heap.size, 7, none⟩ = some (.int .i64 0) := by rw [cell_of_row w5 (w.heap.size) 7 _ _ _ rz5.out]; rfl
      have v7 : w5.frozen? ⟨w.heap.size, 7, none⟩ = false := frozen_of_row w5 (w.heap.size) 7 _ _ rz5.out
      have rf : Hid (((((((((w5.setCell ⟨w.heap.size, 0, none⟩ (.int .i64 0)).setCell ⟨w.heap.size, 1, none⟩ (.int .i64 0)).setCell ⟨w.heap.size, 2, none⟩ (.int .i64 0)).setCell ⟨w.heap.size, 3, none⟩ (.int .i64 0)).setCell ⟨w.heap.size, 4, none⟩ (.int .i64 0)).setCell ⟨w.heap.size, 5, none⟩ (.int .i64 0)).setCell ⟨w.heap.size, 6, none⟩ (.bool false)).setCell ⟨w.heap.size, 7, none⟩ (.int .i64 0)).heap[w.heap.size]? = some (.cells #[.int .i64 0, .int .i64 0, .int .i64 0, .int .i64 0, .int .i64 0, .int .i64 0, .bool false, .int .i64 0] 24 (0, 0))) := hid (row_setE (row_setE (row_setE (row_setE (row_setE (row_setE (row_setE (row_setE rz5.out rfl) rfl) rfl) rfl) rfl) rfl) rfl) rfl)
      have GF : Hid (G w ((((((((w5.setCell ⟨w.heap.size, 0, none⟩ (.int .i64 0)).setCell ⟨w.heap.size, 1, none⟩ (.int .i64 0)).setCell ⟨w.heap.size, 2, none⟩ (.int .i64 0)).setCell ⟨w.heap.size, 3, none⟩ (.int .i64 0)).setCell ⟨w.heap.size, 4, none⟩ (.int .i64 0)).setCell ⟨w.heap.size, 5, none⟩ (.int .i64 0)).setCell ⟨w.heap.size, 6, none⟩ (.bool false)).setCell ⟨w.heap.size, 7, none⟩ (.int .i64 0))) := hid (Below.setCell (p := ⟨w.heap.size, 7, none⟩) (Below.setCell (p := ⟨w.heap.size, 6, none⟩) (Below.setCell (p := ⟨w.heap.size, 5, none⟩) (Below.setCell (p := ⟨w.heap.size, 4, none⟩) (Below.setCell (p := ⟨w.heap.size, 3, none⟩) (Below.setCell (p := ⟨w.heap.size, 2, none⟩) (Below.setCell (p := ⟨w.heap.size, 1, none⟩) (Below.setCell (p := ⟨w.heap.size, 0, none⟩) G5.out.below (Nat.le_refl _) (.int .i64 0)) (Nat.le_refl _) (.int .i64 0)) (Nat.le_refl _) (.int .i64 0)) (Nat.le_refl _) (.int .i64 0)) (Nat.le_refl _) (.int .i64 0)) (Nat.le_refl _) (.int .i64 0)) (Nat.le_refl _) (.bool false)) (Nat.le_refl _) (.int .i64 0))
      go_wp2_with fail
      obtain ⟨WF, hWF⟩ : ∃ WF, ((((((((w5.setCell ⟨w.heap.size, 0, none⟩ (.int .i64 0)).setCell ⟨w.heap.size, 1, none⟩ (.int .i64 0)).setCell ⟨w.heap.size, 2, none⟩ (.int .i64 0)).setCell ⟨w.heap.size, 3, none⟩ (.int .i64 0)).setCell ⟨w.heap.size, 4, none⟩ (.int .i64 0)).setCell ⟨w.heap.size, 5, none⟩ (.int .i64 0)).setCell ⟨w.heap.size, 6, none⟩ (.bool false)).setCell ⟨w.heap.size, 7, none⟩ (.int .i64 0)) = WF := ⟨_, rfl⟩
      rw [hWF] at rf GF ⊢
      clear hWF t0 t1 t2 t3 t4 t5 t6 t7 v0 v1 v2 v3 v4 v5 v6 v7
      have e0 : WF.cell? ⟨w.heap.size, 0, none⟩ = some (.int .i64 0) := by rw [cell_of_row WF (w.heap.size) 0 _ _ _ rf.out]; rfl
      have e1 : WF.cell? ⟨w.heap.size, 1, none⟩ = some (.int .i64 0) := by rw [cell_of_row WF (w.heap.size) 1 _ _ _ rf.out]; rfl
      have e2 : WF.cell? ⟨w.heap.size, 2, none⟩ = some (.int .i64 0) := by rw [cell_of_row WF (w.heap.size) 2 _ _ _ rf.out]; rfl
      have e3 : WF.cell? ⟨w.heap.size, 3, none⟩ = some (.int .i64 0) := by rw [cell_of_row WF (w.heap.size) 3 _ _ _ rf.out]; rfl
      have e4 : WF.cell? ⟨w.heap.size, 4, none⟩ = some (.int .i64 0) := by rw [cell_of_row WF (w.heap.size) 4 _ _ _ rf.out]; rfl
      have e5 : WF.cell? ⟨w.heap.size, 5, none⟩ = some (.int .i64 0) := by rw [cell_of_row WF (w.heap.size) 5 _ _ _ rf.out]; rfl
      have e6 : WF.cell? ⟨w.heap.size, 6, none⟩ = some (.bool false) := by rw [cell_of_row WF (w.heap.size) 6 _ _ _ rf.out]; rfl
      have e7 : WF.cell? ⟨w.heap.size, 7, none⟩ = some (.int .i64 0) := by rw [cell_of_row WF (w.heap.size) 7 _ _ _ rf.out]; rfl
      exact bodyPost_ret (v := .tuple #[.agg #[.int .i64 0, .int .i64 0, .int .i64 0, .int .i64 0, .int .i64 0, .int .i64 0, .bool false, .int .i64 0], eno zc]) (by simp [results, Tryz.results33, go_sem, e0, e1, e2, e3, e4, e5, e6, e7]) rfl ⟨by rw [HRES.out]; show _ = Ending.returned (.tuple #[_, errV zc]); unfold errV; rw [if_neg HZ.out]; rfl, GF.out⟩

end Go.Proofs.YtedlgpccmlcijaaGreatDoor
