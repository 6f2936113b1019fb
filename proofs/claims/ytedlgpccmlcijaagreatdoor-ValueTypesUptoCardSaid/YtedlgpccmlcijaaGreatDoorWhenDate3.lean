/-
  when.date at texts of one shape. (written by gen_whendate.py)
-/
import Derived.Test.YtedlgpccmlcijaaGreatDoorWhenDate
namespace Go.Proofs.YtedlgpccmlcijaaGreatDoor
open Go.RowKit
set_option linter.unusedVariables false
set_option linter.unusedSimpArgs false

theorem wp_world {P : Program} {c : Code} {Q : Exit → Act → World → Prop} {a : Act} {w : World} (Φ : World → Prop) (h1 : Φ w) (h2 : ∀ W, Φ W → c.wp P Q a W) : c.wp P Q a w := h2 w h1
theorem cell_drewE (W : World) (p : Addr) : W.drew.cell? p = W.cell? p := rfl
theorem set_neE (W : World) (b i c j : Nat) (v : Value) (h : b ≠ c) : (W.setCell ⟨c, j, none⟩ v).cell? ⟨b, i, none⟩ = W.cell? ⟨b, i, none⟩ := World.cell?_setCell_other _ _ _ _ (by simp [Ne.symm h])
theorem no_puta1 (X : World) (k : Nat) (h : X.heap.size = k) : (Instr.mapUpdate 126 (.map (some k)) (.bool false) (.int .i64 2)).run Tryz.prog (X.alloc (.map #[] 0)).drew = .ok () (X.alloc (.map #[{ key := .bool false, val := .int .i64 2, born := 0 }] 1)).drew := by
  rw [run_put_at (X.alloc (.map #[] 0)).drew _ _ _ _ Tryz.underlying126 Tryz.underlying4 k #[] 0 (.bool false) (.int .i64 2) (heap_of_drew X _ k h) trivial (by kernel_rfl)]
  subst h
  simp only [World.alloc, World.drew, push_set]; rfl
theorem yes_puta1 (X : World) (k : Nat) (h : X.heap.size = k) : (Instr.mapUpdate 126 (.map (some k)) (.bool true) (.int .i64 4)).run Tryz.prog (X.alloc (.map #[{ key := .bool false, val := .int .i64 2, born := 0 }] 1)).drew = .ok () (X.alloc (.map #[{ key := .bool false, val := .int .i64 2, born := 0 }, { key := .bool true, val := .int .i64 4, born := 1 }] 2)).drew := by
  rw [run_put_at (X.alloc (.map #[{ key := .bool false, val := .int .i64 2, born := 0 }] 1)).drew _ _ _ _ Tryz.underlying126 Tryz.underlying4 k #[{ key := .bool false, val := .int .i64 2, born := 0 }] 1 (.bool true) (.int .i64 4) (heap_of_drew X _ k h) trivial (by kernel_rfl)]
  subst h
  simp only [World.alloc, World.drew, push_set]; rfl
theorem yes_looka1 (X : World) (k : Nat) (h : X.heap.size = k) : (Instr.lookup 126 (.map (some k)) (.bool true) false).run Tryz.prog (X.alloc (.map #[{ key := .bool false, val := .int .i64 2, born := 0 }, { key := .bool true, val := .int .i64 4, born := 1 }] 2)).drew = .ok (.int .i64 4) (X.alloc (.map #[{ key := .bool false, val := .int .i64 2, born := 0 }, { key := .bool true, val := .int .i64 4, born := 1 }] 2)).drew :=
  run_look (k := .bool true) (X.alloc (.map #[{ key := .bool false, val := .int .i64 2, born := 0 }, { key := .bool true, val := .int .i64 4, born := 1 }] 2)).drew _ _ _ _ Tryz.underlying126 Tryz.underlying4 k _ _ (heap_of_drew X (.map #[{ key := .bool false, val := .int .i64 2, born := 0 }, { key := .bool true, val := .int .i64 4, born := 1 }] 2) k h) trivial 1 (.int .i64 4) false (by kernel_rfl)
theorem no_looka1 (X : World) (k : Nat) (h : X.heap.size = k) : (Instr.lookup 126 (.map (some k)) (.bool false) false).run Tryz.prog (X.alloc (.map #[{ key := .bool false, val := .int .i64 2, born := 0 }, { key := .bool true, val := .int .i64 4, born := 1 }] 2)).drew = .ok (.int .i64 2) (X.alloc (.map #[{ key := .bool false, val := .int .i64 2, born := 0 }, { key := .bool true, val := .int .i64 4, born := 1 }] 2)).drew :=
  run_look (k := .bool false) (X.alloc (.map #[{ key := .bool false, val := .int .i64 2, born := 0 }, { key := .bool true, val := .int .i64 4, born := 1 }] 2)).drew _ _ _ _ Tryz.underlying126 Tryz.underlying4 k _ _ (heap_of_drew X (.map #[{ key := .bool false, val := .int .i64 2, born := 0 }, { key := .bool true, val := .int .i64 4, born := 1 }] 2) k h) trivial 0 (.int .i64 2) false (by kernel_rfl)
set_option maxRecDepth 100000 in
set_option maxHeartbeats 4000000 in
theorem date_at3 (s : List UInt8) (base q : Nat) (x0 x1 x2 x3 x4 x5 : Int) (x6 : Bool) (x7 : Int) (w : World) (hU : HasU w) (hl : s.length = 8) (hsh : shapeL s = [57, 57, 57, 57, 57, 57, 57, 57]) (hd : ∀ (a b : Nat) (c : UInt8), c ∈ (s.take b).drop a → (∀ i, a ≤ i → i < b → ([57, 57, 57, 57, 57, 57, 57, 57] : List UInt8)[i]? = some 57) → dgB c = true) (hbase : base ≤ q) (hrow : w.heap[q]? = some (.cells #[.int .i64 x0, .int .i64 x1, .int .i64 x2, .int .i64 x3, .int .i64 x4, .int .i64 x5, .bool x6, .int .i64 x7] 24 (0, 0))) :
    Calls Tryz.prog 53 #[.string (S s), .pointer (some ⟨q, 0, none⟩)] w fun e w' => e = .returned (.bool true) ∧ Below base w w' ∧ w'.heap[q]? = some (.cells #[.int .i64 (valL ((s.take 4).drop 0) : Nat), .int .i64 (valL ((s.take 6).drop 4) : Nat), .int .i64 (valL ((s.take 8).drop 6) : Nat), .int .i64 x3, .int .i64 x4, .int .i64 x5, .bool x6, .int .i64 x7] 24 (0, 0)) := by
  have hq : q < w.heap.size := lt_of_row hrow
  have HROW := hid hrow
  have HSH := hid hsh
  have HDG := hid hd
  have HU1 := hid (hU.grow ((G.refl w).alloc (.map dateMap 7)))
  clear hU hsh hd hrow
  have hmm := @run_makeMap Tryz.prog
  have m0 := date_put0
  have m1 := date_put1
  have m2 := date_put2
  have m3 := date_put3
  have m4 := date_put4
  have m5 := date_put5
  have m6 := date_put6
  have by2 := yes_put2
  have bn2 := no_put2
  have ly2 := yes_look2
  have ln2 := no_look2
  have bya2 := yes_puta2
  have bna2 := no_puta2
  have lya2 := yes_looka2
  have lna2 := no_looka2
  have by3 := yes_put3
  have bn3 := no_put3
  have ly3 := yes_look3
  have ln3 := no_look3
  have bya3 := yes_puta3
  have bna3 := no_puta3
  have lya3 := yes_looka3
  have lna3 := no_looka3
  have by4 := yes_put4
  have bn4 := no_put4
  have ly4 := yes_look4
  have ln4 := no_look4
  have bya4 := yes_puta4
  have bna4 := no_puta4
  have lya4 := yes_looka4
  have lna4 := no_looka4
  go_enter Tryz.func53, Tryz.ntmps53
  go_wp2_with fail
  clear m0 m1 m2 m3 m4 m5 m6
  refine (shape_any s _ HU1.out (by omega)).use ?_
  intro w1 g1
  rw [HSH.out]
  have hb : w1.heap[w.heap.size]? = some (.map #[{ key := .string ⟨#[]⟩, val := .agg #[.int .i64 (-1), .int .i64 (-1), .int .i64 (-1)], born := 0 }, { key := .string ⟨#[57, 57, 57, 57]⟩, val := .agg #[.int .i64 0, .int .i64 (-1), .int .i64 (-1)], born := 1 }, { key := .string ⟨#[57, 57, 57, 57, 45, 57, 57]⟩, val := .agg #[.int .i64 0, .int .i64 5, .int .i64 (-1)], born := 2 }, { key := .string ⟨#[57, 57, 57, 57, 57, 57, 57, 57]⟩, val := .agg #[.int .i64 0, .int .i64 4, .int .i64 6], born := 3 }, { key := .string ⟨#[45, 45, 57, 57]⟩, val := .agg #[.int .i64 (-1), .int .i64 2, .int .i64 (-1)], born := 4 }, { key := .string ⟨#[45, 45, 57, 57, 57, 57]⟩, val := .agg #[.int .i64 (-1), .int .i64 2, .int .i64 4], born := 5 }, { key := .string ⟨#[45, 45, 45, 57, 57]⟩, val := .agg #[.int .i64 (-1), .int .i64 (-1), .int .i64 3], born := 6 }] 7) := by rw [g1.below.block w.heap.size (by simp)]; exact (MapKept.heap_alloc w _).1
  have hlook := run_look w1 _ _ _ _ Tryz.underlying120 Tryz.underlying9 _ _ _ hb (k := .string (S [57, 57, 57, 57, 57, 57, 57, 57])) trivial 3 (.agg #[.int .i64 0, .int .i64 4, .int .i64 6]) true (by kernel_rfl)
  simp only [if_true] at hlook
  have hrow1 : w1.heap[q]? = some (.cells #[.int .i64 x0, .int .i64 x1, .int .i64 x2, .int .i64 x3, .int .i64 x4, .int .i64 x5, .bool x6, .int .i64 x7] 24 (0, 0)) := by rw [g1.below.block q (by simp; omega), Lib.alloc_old _ _ _ hq]; exact HROW.out
  have hq1 : q < w1.heap.size := lt_of_row hrow1
  have hqn : ¬ q = w1.heap.size := by omega
  have hqn1 : ¬ q = w1.heap.size + 1 := by omega
  have hqn2 : ¬ q = w1.heap.size + 1 + 1 := by omega
  have hqn3 : ¬ q = w1.heap.size + 1 + 1 + 1 := by omega
  have hqn4 : ¬ q = w1.heap.size + 1 + 1 + 1 + 1 := by omega
  have fz0 := fun (W : World) (o : Obj) (h : ¬ q = W.heap.size) => World.frozen?_alloc_old W o ⟨q, 0, none⟩ h
  have cz0 := fun (W : World) (o : Obj) (h : ¬ q = W.heap.size) => cell_alloc_ne W o q 0 h
  have fz1 := fun (W : World) (o : Obj) (h : ¬ q = W.heap.size) => World.frozen?_alloc_old W o ⟨q, 1, none⟩ h
  have cz1 := fun (W : World) (o : Obj) (h : ¬ q = W.heap.size) => cell_alloc_ne W o q 1 h
  have fz2 := fun (W : World) (o : Obj) (h : ¬ q = W.heap.size) => World.frozen?_alloc_old W o ⟨q, 2, none⟩ h
  have cz2 := fun (W : World) (o : Obj) (h : ¬ q = W.heap.size) => cell_alloc_ne W o q 2 h
  have c0 : w1.cell? ⟨q, 0, none⟩ = some (.int .i64 x0) := by rw [cell_of_row w1 q 0 _ _ _ hrow1]; rfl
  have z0 : w1.frozen? ⟨q, 0, none⟩ = false := frozen_of_row w1 q 0 _ _ hrow1
  have c1 : w1.cell? ⟨q, 1, none⟩ = some (.int .i64 x1) := by rw [cell_of_row w1 q 1 _ _ _ hrow1]; rfl
  have z1 : w1.frozen? ⟨q, 1, none⟩ = false := frozen_of_row w1 q 1 _ _ hrow1
  have c2 : w1.cell? ⟨q, 2, none⟩ = some (.int .i64 x2) := by rw [cell_of_row w1 q 2 _ _ _ hrow1]; rfl
  have z2 : w1.frozen? ⟨q, 2, none⟩ = false := frozen_of_row w1 q 2 _ _ hrow1
  have HBW : Hid (Below base w w1) := hid (Below.mono (((G.refl w).alloc _).trans g1) (by omega))
  have HBQ := hid hbase
  have ca := fun (W : World) (cs : Array Value) (t : TypeId) (i : Nat) (h : w1.heap.size = W.heap.size) => cell_alloc_at W cs t w1.heap.size i h
  have cb := fun (W : World) (cs : Array Value) (t : TypeId) (i : Nat) (h : w1.heap.size + 1 = W.heap.size) => cell_alloc_at W cs t (w1.heap.size + 1) i h
  have HROW1 := hid hrow1
  have HG1 : Hid (G w w1) := hid (((G.refl w).alloc _).trans g1)
  clear hb hrow1 g1
  go_wp2_with fail
  go_region
  go_wp2_with fail
  refine wp_loop_rounds 4 ?_
  rw [rounds_succ]
  go_wp2_with fail
  have hd0 : ∀ c ∈ (s.take 4).drop 0, dgB c = true := fun c hc => HDG.out 0 4 c hc (by intro i h1 h2; have h3 : i = 0 ∨ i = 1 ∨ i = 2 ∨ i = 3 := (by omega); rcases h3 with rfl | rfl | rfl | rfl <;> rfl)
  have HD0 := hid hd0
  clear hd0
  have wr0 : IntKind.i64.wrap (0 + 4) = 4 := by decide
  have wq0 : IntKind.i64.wrap 4 = 4 := by decide
  go_region_held3 (fun w' => w'.cell? ⟨w1.heap.size, 0, none⟩ = some (.int .i64 0)) (go_keep)
    (first | (go_at_call 71; (with_reducible refine (number_c _ _ ?_ ?_).mono ?_); (· (first | exact HD0.out | simpa using HD0.out)); (· (simp; try omega)); rintro e w' ⟨rfl, rfl⟩))
  all_goals
    go_wp2_with fail
    rw [rounds_succ]
    go_wp2_with fail
    have hd1 : ∀ c ∈ (s.take 6).drop 4, dgB c = true := fun c hc => HDG.out 4 6 c hc (by intro i h1 h2; have h3 : i = 4 ∨ i = 5 := (by omega); rcases h3 with rfl | rfl <;> rfl)
    have HD1 := hid hd1
    clear hd1
    have wr1 : IntKind.i64.wrap (4 + 2) = 6 := by decide
    have wq1 : IntKind.i64.wrap 6 = 6 := by decide
    go_region_held3 (fun w' => w'.cell? ⟨w1.heap.size, 1, none⟩ = some (.int .i64 4)) (go_keep)
      (first | (go_at_call 71; (with_reducible refine (number_c _ _ ?_ ?_).mono ?_); (· (first | exact HD1.out | simpa using HD1.out)); (· (simp; try omega)); rintro e w' ⟨rfl, rfl⟩))
    all_goals
      go_wp2_with fail
      rw [rounds_succ]
      go_wp2_with fail
      have hd2 : ∀ c ∈ (s.take 8).drop 6, dgB c = true := fun c hc => HDG.out 6 8 c hc (by intro i h1 h2; have h3 : i = 6 ∨ i = 7 := (by omega); rcases h3 with rfl | rfl <;> rfl)
      have HD2 := hid hd2
      clear hd2
      have wr2 : IntKind.i64.wrap (6 + 2) = 8 := by decide
      have wq2 : IntKind.i64.wrap 8 = 8 := by decide
      refine wp_world (fun W => W.cell? ⟨w1.heap.size, 2, none⟩ = some (.int .i64 6) ∧ Below base w W ∧ W.heap[q]? = some (.cells #[.int .i64 (valL ((s.take 4).drop 0) : Nat), .int .i64 (valL ((s.take 6).drop 4) : Nat), .int .i64 x2, .int .i64 x3, .int .i64 x4, .int .i64 x5, .bool x6, .int .i64 x7] 24 (0, 0)) ∧ w1.heap.size < W.heap.size) ⟨?_, ?_, ?_, ?_⟩ ?_
      · (repeat (first | (with_reducible refine (cell_drewE _ _).trans ?_) | (with_reducible refine (set_neE _ _ _ _ _ _ (by omega)).trans ?_) | (with_reducible refine (cell_alloc_ne _ _ _ _ (by first | (simp; done) | (simp; omega))).trans ?_))); with_reducible refine (cell_alloc_at _ _ _ _ _ rfl).trans ?_; simp; done
      · repeat (first | (with_reducible exact HBW.out) | (with_reducible refine Below.drew ?_) | (with_reducible refine Below.setCell ?_ ?_ _) | (with_reducible refine Below.alloc ?_ ?_ _))
        all_goals (first | exact HBQ.out | omega | (simp; done) | (simp; omega))
      · repeat (first | (with_reducible exact HROW1.out) | (with_reducible refine row_drew ?_) | (with_reducible apply row_setE) | (with_reducible refine row_alloc ?_ ?_))
        all_goals (first | rfl | omega | (simp; done) | (simp; omega))
      · (simp; try omega)
      clear c0 z0 c1 z1 c2 z2
      rintro W2 ⟨sW, bW, rW, kW⟩
      have hqW : q < W2.heap.size := lt_of_row rW
      have hqnW : ¬ q = W2.heap.size := by omega
      have hnW : ¬ w1.heap.size = W2.heap.size := by omega
      have c2 : W2.cell? ⟨q, 2, none⟩ = some (.int .i64 x2) := by rw [cell_of_row W2 q 2 _ _ _ rW]; rfl
      have z2 : W2.frozen? ⟨q, 2, none⟩ = false := frozen_of_row W2 q 2 _ _ rW
      have by1 := yes_put1
      have bn1 := no_put1
      have ly1 := yes_look1
      have ln1 := no_look1
      have bya1 := yes_puta1
      have bna1 := no_puta1
      have lya1 := yes_looka1
      have lna1 := no_looka1
      have HBW2 := hid bW
      have HROW2 := hid rW
      clear bW rW
      go_region_held3 (fun w' => w'.cell? ⟨w1.heap.size, 2, none⟩ = some (.int .i64 6)) (go_keep)
        (first | (go_at_call 71; (with_reducible refine (number_c _ _ ?_ ?_).mono ?_); (· (first | exact HD2.out | simpa using HD2.out)); (· (simp; try omega)); rintro e w' ⟨rfl, rfl⟩))
      all_goals
        go_wp2_with fail
        rw [rounds_succ]
        go_wp2_with fail
        go_ret
        refine ⟨rfl, ?_, ?_⟩
        · repeat (first | (with_reducible exact HBW2.out) | (with_reducible refine Below.drew ?_) | (with_reducible refine Below.setCell ?_ ?_ _) | (with_reducible refine Below.alloc ?_ ?_ _))
          all_goals (first | exact HBQ.out | omega | (simp; done) | (simp; omega))
        · repeat (first | (with_reducible exact HROW2.out) | (with_reducible refine row_drew ?_) | (with_reducible apply row_setE) | (with_reducible refine row_alloc ?_ ?_))
          all_goals (first | rfl | omega | (simp; done) | (simp; omega))

end Go.Proofs.YtedlgpccmlcijaaGreatDoor

