/-
  CONTRACT of thick; WALK of the law ValueBack. (written by gen_valback.py)
-/
import Derived.Test.YtedlgpccmlcijaaGreatDoorMBound
namespace Go.Proofs.YtedlgpccmlcijaaGreatDoor
open Go.RowKit
set_option linter.unusedVariables false
set_option linter.unusedSimpArgs false

/-- what a value's bounds give for its text -/
theorem thin_small {x : Vl} (h : ¬ (1500 < x.tx.length ∨ 1500 < sumP x.ps)) (hy : -9223372036854775808 ≤ x.st.y ∧ x.st.y ≤ 9223372036854775807) : x.Small 1500 := ⟨by omega, by omega, hy⟩

set_option maxRecDepth 100000 in
set_option maxHeartbeats 4000000 in
theorem thick_any (x : Vl) (a : Option Addr) (ca : Nat) (w : World) (hL : IsLists w (.slice a x.ps.length ca) x.ps) (ht : x.tx.length ≤ 1048576) (hp : sumP x.ps ≤ 2000000) : Gives 9 #[x.v (.slice a x.ps.length ca)] w (.bool (decide (1500 < x.tx.length ∨ 1500 < sumP x.ps))) := by
  obtain ⟨ty, tx, ps, ⟨y, m, d, h, nn, s_, zd, zn⟩, n⟩ := x
  simp only at hL ht hp
  have HL := hid hL
  have HP := hid hp
  clear hL hp
  simp only [Vl.v]
  have g0 : Hid (G w (w.alloc (.cells #[.int .i64 ty, .string (S tx), .slice a ps.length ca, .int .i64 y, .int .i64 m, .int .i64 d, .int .i64 h, .int .i64 nn, .int .i64 s_, .bool zd, .int .i64 zn, .int .i64 n] 26))) := hid ((G.refl w).alloc _)
  by_cases h1 : 1500 < tx.length
  · go_enter Tryz.func9, Tryz.ntmps9
    go_wp2_with fail
    go_ret
    exact ⟨ret_bool (by first | (simp; done) | (simp; omega)), by repeat (first | exact g0.out | apply G.drew)⟩
  · have hh := heavy_any (w.alloc (.cells #[.int .i64 ty, .string (S tx), .slice a ps.length ca, .int .i64 y, .int .i64 m, .int .i64 d, .int .i64 h, .int .i64 nn, .int .i64 s_, .bool zd, .int .i64 zn, .int .i64 n] 26)) (HL.out.grow g0.out) HP.out
    have HH := hid hh
    clear hh
    go_enter Tryz.func9, Tryz.ntmps9
    go_wp2_with fail
    refine HH.out.use ?_
    go_wp2_with fail
    go_ret
    exact ⟨ret_bool (by simp [h1]; intro hq; omega), by repeat (first | exact g0.out | apply G.drew)⟩

set_option maxRecDepth 100000 in
set_option maxHeartbeats 4000000 in
theorem valueBack_walk (x : Vl) (a : Option Addr) (ca : Nat) (w : World) (hL : IsLists w (.slice a x.ps.length ca) x.ps) (ht : x.tx.length ≤ 1048576) (hp : sumP x.ps ≤ 1048576) (hy : -9223372036854775808 ≤ x.st.y ∧ x.st.y ≤ 9223372036854775807) (hM : HasM w) (hU : HasU w) (hE : LaidE w) : Gives 3 #[x.v (.slice a x.ps.length ca)] w (.bool true) := by
  have HM := hid hM
  have HU := hid hU
  have HE := hid hE
  have HL := hid hL
  clear hM hU hE hL
  have r9 := fun W a ca hl => thick_any x a ca W hl ht (by omega)
  by_cases hh : 1500 < x.tx.length ∨ 1500 < sumP x.ps
  · rw [decide_eq_true hh] at r9
    have R9 := hid r9
    clear r9 hh ht hp hy
    obtain ⟨ty, tx, ps, ⟨y, m, d, h, nn, s_, zd, zn⟩, n⟩ := x
    simp only at HL
    simp only [Vl.v] at R9 ⊢
    have G0 : Hid (G w (w.alloc (.cells #[.int .i64 ty, .string (S tx), .slice a ps.length ca, .int .i64 y, .int .i64 m, .int .i64 d, .int .i64 h, .int .i64 nn, .int .i64 s_, .bool zd, .int .i64 zn, .int .i64 n] 26))) := hid ((G.refl w).alloc _)
    have rv := valued_any _ (HM.out.grow G0.out) (HU.out.grow G0.out) (HE.out.grow G0.out)
    have RV := hid rv
    clear rv
    go_enter Tryz.func3, Tryz.ntmps3
    go_wp2_with fail
    refine RV.out.use ?_
    intro w1 g1
    have r1 : Hid (w1.heap[w.heap.size]? = some (.cells #[.int .i64 ty, .string (S tx), .slice a ps.length ca, .int .i64 y, .int .i64 m, .int .i64 d, .int .i64 h, .int .i64 nn, .int .i64 s_, .bool zd, .int .i64 zn, .int .i64 n] 26 (0, 0))) := hid (by rw [g1.below.block w.heap.size (by simp)]; exact heap_alloc_new w _)
    have G1 : Hid (G w w1) := hid (G0.out.trans g1)
    have HL1 := hid (HL.out.grow G1.out)
    clear g1 RV
    have d0 : w1.cell? ⟨w.heap.size, 0, none⟩ = some (.int .i64 ty) := by rw [cell_of_row w1 (w.heap.size) 0 _ _ _ r1.out]; rfl
    have d1 : w1.cell? ⟨w.heap.size, 1, none⟩ = some (.string (S tx)) := by rw [cell_of_row w1 (w.heap.size) 1 _ _ _ r1.out]; rfl
    have d2 : w1.cell? ⟨w.heap.size, 2, none⟩ = some (.slice a ps.length ca) := by rw [cell_of_row w1 (w.heap.size) 2 _ _ _ r1.out]; rfl
    have d3 : w1.cell? ⟨w.heap.size, 3, none⟩ = some (.int .i64 y) := by rw [cell_of_row w1 (w.heap.size) 3 _ _ _ r1.out]; rfl
    have d4 : w1.cell? ⟨w.heap.size, 4, none⟩ = some (.int .i64 m) := by rw [cell_of_row w1 (w.heap.size) 4 _ _ _ r1.out]; rfl
    have d5 : w1.cell? ⟨w.heap.size, 5, none⟩ = some (.int .i64 d) := by rw [cell_of_row w1 (w.heap.size) 5 _ _ _ r1.out]; rfl
    have d6 : w1.cell? ⟨w.heap.size, 6, none⟩ = some (.int .i64 h) := by rw [cell_of_row w1 (w.heap.size) 6 _ _ _ r1.out]; rfl
    have d7 : w1.cell? ⟨w.heap.size, 7, none⟩ = some (.int .i64 nn) := by rw [cell_of_row w1 (w.heap.size) 7 _ _ _ r1.out]; rfl
    have d8 : w1.cell? ⟨w.heap.size, 8, none⟩ = some (.int .i64 s_) := by rw [cell_of_row w1 (w.heap.size) 8 _ _ _ r1.out]; rfl
    have d9 : w1.cell? ⟨w.heap.size, 9, none⟩ = some (.bool zd) := by rw [cell_of_row w1 (w.heap.size) 9 _ _ _ r1.out]; rfl
    have d10 : w1.cell? ⟨w.heap.size, 10, none⟩ = some (.int .i64 zn) := by rw [cell_of_row w1 (w.heap.size) 10 _ _ _ r1.out]; rfl
    have d11 : w1.cell? ⟨w.heap.size, 11, none⟩ = some (.int .i64 n) := by rw [cell_of_row w1 (w.heap.size) 11 _ _ _ r1.out]; rfl
    go_wp2_with fail
    refine (R9.out _ _ _ (HL1.out.grow (by repeat (first | exact G.refl _ | apply G.drew)))).use ?_
    intro w2 g2'
    have g2 : G w1 w2 := G.trans (by repeat (first | exact G.refl _ | apply G.drew)) g2'
    go_wp2_with fail
    go_ret
    exact ⟨rfl, G.trans G1.out (by repeat (first | exact g2 | apply G.drew))⟩
  · rw [decide_eq_false hh] at r9
    have R9 := hid r9
    clear r9
    have hsm := thin_small hh hy
    have h1 : x.tx.length ≤ 100000 := by omega
    have h2 : sumP x.ps ≤ 100000 := by omega
    have r2 := fun W pv hl hm he => vwrite_any x pv W hl h1 h2 hy hm he
    have r4 := fun W pv hl hm he => vright_any x pv W hl h1 h2 hy hm he
    unfold WriteP at r2
    unfold ErrIf at r4
    cases hok : x.ok with
    | false =>
      simp only [hok, if_neg Bool.false_ne_true] at r2 r4
      have R2 := hid r2
      have R4 := hid r4
      clear r2 r4 hh ht hp hy hsm h1 h2 hok
      obtain ⟨ty, tx, ps, ⟨y, m, d, h, nn, s_, zd, zn⟩, n⟩ := x
      simp only at HL
      simp only [Vl.v] at R2 R4 R9 ⊢
      have G0 : Hid (G w (w.alloc (.cells #[.int .i64 ty, .string (S tx), .slice a ps.length ca, .int .i64 y, .int .i64 m, .int .i64 d, .int .i64 h, .int .i64 nn, .int .i64 s_, .bool zd, .int .i64 zn, .int .i64 n] 26))) := hid ((G.refl w).alloc _)
      have rv := valued_any _ (HM.out.grow G0.out) (HU.out.grow G0.out) (HE.out.grow G0.out)
      have RV := hid rv
      clear rv
      go_enter Tryz.func3, Tryz.ntmps3
      go_wp2_with fail
      refine RV.out.use ?_
      intro w1 g1
      have r1 : Hid (w1.heap[w.heap.size]? = some (.cells #[.int .i64 ty, .string (S tx), .slice a ps.length ca, .int .i64 y, .int .i64 m, .int .i64 d, .int .i64 h, .int .i64 nn, .int .i64 s_, .bool zd, .int .i64 zn, .int .i64 n] 26 (0, 0))) := hid (by rw [g1.below.block w.heap.size (by simp)]; exact heap_alloc_new w _)
      have G1 : Hid (G w w1) := hid (G0.out.trans g1)
      have HL1 := hid (HL.out.grow G1.out)
      clear g1 RV
      have d0 : w1.cell? ⟨w.heap.size, 0, none⟩ = some (.int .i64 ty) := by rw [cell_of_row w1 (w.heap.size) 0 _ _ _ r1.out]; rfl
      have d1 : w1.cell? ⟨w.heap.size, 1, none⟩ = some (.string (S tx)) := by rw [cell_of_row w1 (w.heap.size) 1 _ _ _ r1.out]; rfl
      have d2 : w1.cell? ⟨w.heap.size, 2, none⟩ = some (.slice a ps.length ca) := by rw [cell_of_row w1 (w.heap.size) 2 _ _ _ r1.out]; rfl
      have d3 : w1.cell? ⟨w.heap.size, 3, none⟩ = some (.int .i64 y) := by rw [cell_of_row w1 (w.heap.size) 3 _ _ _ r1.out]; rfl
      have d4 : w1.cell? ⟨w.heap.size, 4, none⟩ = some (.int .i64 m) := by rw [cell_of_row w1 (w.heap.size) 4 _ _ _ r1.out]; rfl
      have d5 : w1.cell? ⟨w.heap.size, 5, none⟩ = some (.int .i64 d) := by rw [cell_of_row w1 (w.heap.size) 5 _ _ _ r1.out]; rfl
      have d6 : w1.cell? ⟨w.heap.size, 6, none⟩ = some (.int .i64 h) := by rw [cell_of_row w1 (w.heap.size) 6 _ _ _ r1.out]; rfl
      have d7 : w1.cell? ⟨w.heap.size, 7, none⟩ = some (.int .i64 nn) := by rw [cell_of_row w1 (w.heap.size) 7 _ _ _ r1.out]; rfl
      have d8 : w1.cell? ⟨w.heap.size, 8, none⟩ = some (.int .i64 s_) := by rw [cell_of_row w1 (w.heap.size) 8 _ _ _ r1.out]; rfl
      have d9 : w1.cell? ⟨w.heap.size, 9, none⟩ = some (.bool zd) := by rw [cell_of_row w1 (w.heap.size) 9 _ _ _ r1.out]; rfl
      have d10 : w1.cell? ⟨w.heap.size, 10, none⟩ = some (.int .i64 zn) := by rw [cell_of_row w1 (w.heap.size) 10 _ _ _ r1.out]; rfl
      have d11 : w1.cell? ⟨w.heap.size, 11, none⟩ = some (.int .i64 n) := by rw [cell_of_row w1 (w.heap.size) 11 _ _ _ r1.out]; rfl
      go_wp2_with fail
      refine (R9.out _ _ _ (HL1.out.grow (by repeat (first | exact G.refl _ | apply G.drew)))).use ?_
      intro w2 g2'
      have g2 : G w1 w2 := G.trans (by repeat (first | exact G.refl _ | apply G.drew)) g2'
      have r2 : Hid (w2.heap[w.heap.size]? = some (.cells #[.int .i64 ty, .string (S tx), .slice a ps.length ca, .int .i64 y, .int .i64 m, .int .i64 d, .int .i64 h, .int .i64 nn, .int .i64 s_, .bool zd, .int .i64 zn, .int .i64 n] 26 (0, 0))) := hid (by rw [g2.below.block _ (lt_of_row r1.out)]; exact r1.out)
      have G2 : Hid (G w w2) := hid (G1.out.trans g2)
      have HL2 := hid (HL.out.grow G2.out)
      clear g2 HL1 r1 d0 d1 d2 d3 d4 d5 d6 d7 d8 d9 d10 d11
      have d0 : w2.cell? ⟨w.heap.size, 0, none⟩ = some (.int .i64 ty) := by rw [cell_of_row w2 (w.heap.size) 0 _ _ _ r2.out]; rfl
      have d1 : w2.cell? ⟨w.heap.size, 1, none⟩ = some (.string (S tx)) := by rw [cell_of_row w2 (w.heap.size) 1 _ _ _ r2.out]; rfl
      have d2 : w2.cell? ⟨w.heap.size, 2, none⟩ = some (.slice a ps.length ca) := by rw [cell_of_row w2 (w.heap.size) 2 _ _ _ r2.out]; rfl
      have d3 : w2.cell? ⟨w.heap.size, 3, none⟩ = some (.int .i64 y) := by rw [cell_of_row w2 (w.heap.size) 3 _ _ _ r2.out]; rfl
      have d4 : w2.cell? ⟨w.heap.size, 4, none⟩ = some (.int .i64 m) := by rw [cell_of_row w2 (w.heap.size) 4 _ _ _ r2.out]; rfl
      have d5 : w2.cell? ⟨w.heap.size, 5, none⟩ = some (.int .i64 d) := by rw [cell_of_row w2 (w.heap.size) 5 _ _ _ r2.out]; rfl
      have d6 : w2.cell? ⟨w.heap.size, 6, none⟩ = some (.int .i64 h) := by rw [cell_of_row w2 (w.heap.size) 6 _ _ _ r2.out]; rfl
      have d7 : w2.cell? ⟨w.heap.size, 7, none⟩ = some (.int .i64 nn) := by rw [cell_of_row w2 (w.heap.size) 7 _ _ _ r2.out]; rfl
      have d8 : w2.cell? ⟨w.heap.size, 8, none⟩ = some (.int .i64 s_) := by rw [cell_of_row w2 (w.heap.size) 8 _ _ _ r2.out]; rfl
      have d9 : w2.cell? ⟨w.heap.size, 9, none⟩ = some (.bool zd) := by rw [cell_of_row w2 (w.heap.size) 9 _ _ _ r2.out]; rfl
      have d10 : w2.cell? ⟨w.heap.size, 10, none⟩ = some (.int .i64 zn) := by rw [cell_of_row w2 (w.heap.size) 10 _ _ _ r2.out]; rfl
      have d11 : w2.cell? ⟨w.heap.size, 11, none⟩ = some (.int .i64 n) := by rw [cell_of_row w2 (w.heap.size) 11 _ _ _ r2.out]; rfl
      go_wp2_with fail
      refine (R2.out _ _ (HL2.out.grow (by repeat (first | exact G.refl _ | apply G.drew))) (HM.out.grow (G.trans G2.out (by repeat (first | exact G.refl _ | apply G.drew)))) (HE.out.grow (G.trans G2.out (by repeat (first | exact G.refl _ | apply G.drew))))).use ?_
      rintro v w3 hv g3'
      obtain ⟨c1, hc1⟩ := hv
      subst hc1
      have g3 : G w2 w3 := G.trans (by repeat (first | exact G.refl _ | apply G.drew)) g3'
      clear g3'
      have r3 : Hid (w3.heap[w.heap.size]? = some (.cells #[.int .i64 ty, .string (S tx), .slice a ps.length ca, .int .i64 y, .int .i64 m, .int .i64 d, .int .i64 h, .int .i64 nn, .int .i64 s_, .bool zd, .int .i64 zn, .int .i64 n] 26 (0, 0))) := hid (by rw [g3.below.block _ (lt_of_row r2.out)]; exact r2.out)
      have G3 : Hid (G w w3) := hid (G2.out.trans g3)
      have HL3 := hid (HL.out.grow G3.out)
      clear g3 HL2 r2 d0 d1 d2 d3 d4 d5 d6 d7 d8 d9 d10 d11
      have d0 : w3.cell? ⟨w.heap.size, 0, none⟩ = some (.int .i64 ty) := by rw [cell_of_row w3 (w.heap.size) 0 _ _ _ r3.out]; rfl
      have d1 : w3.cell? ⟨w.heap.size, 1, none⟩ = some (.string (S tx)) := by rw [cell_of_row w3 (w.heap.size) 1 _ _ _ r3.out]; rfl
      have d2 : w3.cell? ⟨w.heap.size, 2, none⟩ = some (.slice a ps.length ca) := by rw [cell_of_row w3 (w.heap.size) 2 _ _ _ r3.out]; rfl
      have d3 : w3.cell? ⟨w.heap.size, 3, none⟩ = some (.int .i64 y) := by rw [cell_of_row w3 (w.heap.size) 3 _ _ _ r3.out]; rfl
      have d4 : w3.cell? ⟨w.heap.size, 4, none⟩ = some (.int .i64 m) := by rw [cell_of_row w3 (w.heap.size) 4 _ _ _ r3.out]; rfl
      have d5 : w3.cell? ⟨w.heap.size, 5, none⟩ = some (.int .i64 d) := by rw [cell_of_row w3 (w.heap.size) 5 _ _ _ r3.out]; rfl
      have d6 : w3.cell? ⟨w.heap.size, 6, none⟩ = some (.int .i64 h) := by rw [cell_of_row w3 (w.heap.size) 6 _ _ _ r3.out]; rfl
      have d7 : w3.cell? ⟨w.heap.size, 7, none⟩ = some (.int .i64 nn) := by rw [cell_of_row w3 (w.heap.size) 7 _ _ _ r3.out]; rfl
      have d8 : w3.cell? ⟨w.heap.size, 8, none⟩ = some (.int .i64 s_) := by rw [cell_of_row w3 (w.heap.size) 8 _ _ _ r3.out]; rfl
      have d9 : w3.cell? ⟨w.heap.size, 9, none⟩ = some (.bool zd) := by rw [cell_of_row w3 (w.heap.size) 9 _ _ _ r3.out]; rfl
      have d10 : w3.cell? ⟨w.heap.size, 10, none⟩ = some (.int .i64 zn) := by rw [cell_of_row w3 (w.heap.size) 10 _ _ _ r3.out]; rfl
      have d11 : w3.cell? ⟨w.heap.size, 11, none⟩ = some (.int .i64 n) := by rw [cell_of_row w3 (w.heap.size) 11 _ _ _ r3.out]; rfl
      go_wp2_with fail
      refine (R4.out _ _ (HL3.out.grow (by repeat (first | exact G.refl _ | apply G.drew))) (HM.out.grow (G.trans G3.out (by repeat (first | exact G.refl _ | apply G.drew)))) (HE.out.grow (G.trans G3.out (by repeat (first | exact G.refl _ | apply G.drew))))).use ?_
      rintro v w4 hv g4'
      obtain ⟨c2, hc2⟩ := hv
      subst hc2
      have g4 : G w3 w4 := G.trans (by repeat (first | exact G.refl _ | apply G.drew)) g4'
      clear g4'
      unfold eno
      go_wp2_with fail
      go_ret
      exact ⟨ret_bool (by simp [S]), G.trans G3.out (by repeat (first | exact g4 | apply G.drew))⟩
    | true =>
      simp only [hok, if_true] at r2 r4
      have hb := val_back x hok
      have htl := text_small hsm hok (by omega)
      have r3 := fun W hm hu => vread_any x.text x.ty W htl.1 htl.2 hm hu
      rw [hb.1] at r3
      have r5 := fun W a b ca cb ha hb => sameValue_any x a b ca cb W ha hb (by omega)
      have r6 := fun W => holds_any x.text false W (by have := htl.1; omega)
      rw [hb.2] at r6
      obtain ⟨tt, htt⟩ : ∃ tt, x.text = tt := ⟨_, rfl⟩
      rw [htt] at r2 r3 r6
      have R2 := hid r2
      have R3 := hid r3
      have R4 := hid r4
      have R5 := hid r5
      have R6 := hid r6
      clear r2 r3 r4 r5 r6 hh ht hp hy hsm h1 h2 hok hb htl htt
      obtain ⟨ty, tx, ps, ⟨y, m, d, h, nn, s_, zd, zn⟩, n⟩ := x
      simp only at HL
      simp only [Vl.v] at R2 R4 R5 R9 ⊢
      have G0 : Hid (G w (w.alloc (.cells #[.int .i64 ty, .string (S tx), .slice a ps.length ca, .int .i64 y, .int .i64 m, .int .i64 d, .int .i64 h, .int .i64 nn, .int .i64 s_, .bool zd, .int .i64 zn, .int .i64 n] 26))) := hid ((G.refl w).alloc _)
      have rv := valued_any _ (HM.out.grow G0.out) (HU.out.grow G0.out) (HE.out.grow G0.out)
      have RV := hid rv
      clear rv
      go_enter Tryz.func3, Tryz.ntmps3
      go_wp2_with fail
      refine RV.out.use ?_
      intro w1 g1
      have r1 : Hid (w1.heap[w.heap.size]? = some (.cells #[.int .i64 ty, .string (S tx), .slice a ps.length ca, .int .i64 y, .int .i64 m, .int .i64 d, .int .i64 h, .int .i64 nn, .int .i64 s_, .bool zd, .int .i64 zn, .int .i64 n] 26 (0, 0))) := hid (by rw [g1.below.block w.heap.size (by simp)]; exact heap_alloc_new w _)
      have G1 : Hid (G w w1) := hid (G0.out.trans g1)
      have HL1 := hid (HL.out.grow G1.out)
      clear g1 RV
      have d0 : w1.cell? ⟨w.heap.size, 0, none⟩ = some (.int .i64 ty) := by rw [cell_of_row w1 (w.heap.size) 0 _ _ _ r1.out]; rfl
      have d1 : w1.cell? ⟨w.heap.size, 1, none⟩ = some (.string (S tx)) := by rw [cell_of_row w1 (w.heap.size) 1 _ _ _ r1.out]; rfl
      have d2 : w1.cell? ⟨w.heap.size, 2, none⟩ = some (.slice a ps.length ca) := by rw [cell_of_row w1 (w.heap.size) 2 _ _ _ r1.out]; rfl
      have d3 : w1.cell? ⟨w.heap.size, 3, none⟩ = some (.int .i64 y) := by rw [cell_of_row w1 (w.heap.size) 3 _ _ _ r1.out]; rfl
      have d4 : w1.cell? ⟨w.heap.size, 4, none⟩ = some (.int .i64 m) := by rw [cell_of_row w1 (w.heap.size) 4 _ _ _ r1.out]; rfl
      have d5 : w1.cell? ⟨w.heap.size, 5, none⟩ = some (.int .i64 d) := by rw [cell_of_row w1 (w.heap.size) 5 _ _ _ r1.out]; rfl
      have d6 : w1.cell? ⟨w.heap.size, 6, none⟩ = some (.int .i64 h) := by rw [cell_of_row w1 (w.heap.size) 6 _ _ _ r1.out]; rfl
      have d7 : w1.cell? ⟨w.heap.size, 7, none⟩ = some (.int .i64 nn) := by rw [cell_of_row w1 (w.heap.size) 7 _ _ _ r1.out]; rfl
      have d8 : w1.cell? ⟨w.heap.size, 8, none⟩ = some (.int .i64 s_) := by rw [cell_of_row w1 (w.heap.size) 8 _ _ _ r1.out]; rfl
      have d9 : w1.cell? ⟨w.heap.size, 9, none⟩ = some (.bool zd) := by rw [cell_of_row w1 (w.heap.size) 9 _ _ _ r1.out]; rfl
      have d10 : w1.cell? ⟨w.heap.size, 10, none⟩ = some (.int .i64 zn) := by rw [cell_of_row w1 (w.heap.size) 10 _ _ _ r1.out]; rfl
      have d11 : w1.cell? ⟨w.heap.size, 11, none⟩ = some (.int .i64 n) := by rw [cell_of_row w1 (w.heap.size) 11 _ _ _ r1.out]; rfl
      go_wp2_with fail
      refine (R9.out _ _ _ (HL1.out.grow (by repeat (first | exact G.refl _ | apply G.drew)))).use ?_
      intro w2 g2'
      have g2 : G w1 w2 := G.trans (by repeat (first | exact G.refl _ | apply G.drew)) g2'
      have r2 : Hid (w2.heap[w.heap.size]? = some (.cells #[.int .i64 ty, .string (S tx), .slice a ps.length ca, .int .i64 y, .int .i64 m, .int .i64 d, .int .i64 h, .int .i64 nn, .int .i64 s_, .bool zd, .int .i64 zn, .int .i64 n] 26 (0, 0))) := hid (by rw [g2.below.block _ (lt_of_row r1.out)]; exact r1.out)
      have G2 : Hid (G w w2) := hid (G1.out.trans g2)
      have HL2 := hid (HL.out.grow G2.out)
      clear g2 HL1 r1 d0 d1 d2 d3 d4 d5 d6 d7 d8 d9 d10 d11
      have d0 : w2.cell? ⟨w.heap.size, 0, none⟩ = some (.int .i64 ty) := by rw [cell_of_row w2 (w.heap.size) 0 _ _ _ r2.out]; rfl
      have d1 : w2.cell? ⟨w.heap.size, 1, none⟩ = some (.string (S tx)) := by rw [cell_of_row w2 (w.heap.size) 1 _ _ _ r2.out]; rfl
      have d2 : w2.cell? ⟨w.heap.size, 2, none⟩ = some (.slice a ps.length ca) := by rw [cell_of_row w2 (w.heap.size) 2 _ _ _ r2.out]; rfl
      have d3 : w2.cell? ⟨w.heap.size, 3, none⟩ = some (.int .i64 y) := by rw [cell_of_row w2 (w.heap.size) 3 _ _ _ r2.out]; rfl
      have d4 : w2.cell? ⟨w.heap.size, 4, none⟩ = some (.int .i64 m) := by rw [cell_of_row w2 (w.heap.size) 4 _ _ _ r2.out]; rfl
      have d5 : w2.cell? ⟨w.heap.size, 5, none⟩ = some (.int .i64 d) := by rw [cell_of_row w2 (w.heap.size) 5 _ _ _ r2.out]; rfl
      have d6 : w2.cell? ⟨w.heap.size, 6, none⟩ = some (.int .i64 h) := by rw [cell_of_row w2 (w.heap.size) 6 _ _ _ r2.out]; rfl
      have d7 : w2.cell? ⟨w.heap.size, 7, none⟩ = some (.int .i64 nn) := by rw [cell_of_row w2 (w.heap.size) 7 _ _ _ r2.out]; rfl
      have d8 : w2.cell? ⟨w.heap.size, 8, none⟩ = some (.int .i64 s_) := by rw [cell_of_row w2 (w.heap.size) 8 _ _ _ r2.out]; rfl
      have d9 : w2.cell? ⟨w.heap.size, 9, none⟩ = some (.bool zd) := by rw [cell_of_row w2 (w.heap.size) 9 _ _ _ r2.out]; rfl
      have d10 : w2.cell? ⟨w.heap.size, 10, none⟩ = some (.int .i64 zn) := by rw [cell_of_row w2 (w.heap.size) 10 _ _ _ r2.out]; rfl
      have d11 : w2.cell? ⟨w.heap.size, 11, none⟩ = some (.int .i64 n) := by rw [cell_of_row w2 (w.heap.size) 11 _ _ _ r2.out]; rfl
      go_wp2_with fail
      refine (R2.out _ _ (HL2.out.grow (by repeat (first | exact G.refl _ | apply G.drew))) (HM.out.grow (G.trans G2.out (by repeat (first | exact G.refl _ | apply G.drew)))) (HE.out.grow (G.trans G2.out (by repeat (first | exact G.refl _ | apply G.drew))))).use ?_
      rintro v w3 hv g3'
      subst hv
      have g3 : G w2 w3 := G.trans (by repeat (first | exact G.refl _ | apply G.drew)) g3'
      clear g3'
      have r3 : Hid (w3.heap[w.heap.size]? = some (.cells #[.int .i64 ty, .string (S tx), .slice a ps.length ca, .int .i64 y, .int .i64 m, .int .i64 d, .int .i64 h, .int .i64 nn, .int .i64 s_, .bool zd, .int .i64 zn, .int .i64 n] 26 (0, 0))) := hid (by rw [g3.below.block _ (lt_of_row r2.out)]; exact r2.out)
      have G3 : Hid (G w w3) := hid (G2.out.trans g3)
      have HL3 := hid (HL.out.grow G3.out)
      clear g3 HL2 r2 d0 d1 d2 d3 d4 d5 d6 d7 d8 d9 d10 d11
      have d0 : w3.cell? ⟨w.heap.size, 0, none⟩ = some (.int .i64 ty) := by rw [cell_of_row w3 (w.heap.size) 0 _ _ _ r3.out]; rfl
      have d1 : w3.cell? ⟨w.heap.size, 1, none⟩ = some (.string (S tx)) := by rw [cell_of_row w3 (w.heap.size) 1 _ _ _ r3.out]; rfl
      have d2 : w3.cell? ⟨w.heap.size, 2, none⟩ = some (.slice a ps.length ca) := by rw [cell_of_row w3 (w.heap.size) 2 _ _ _ r3.out]; rfl
      have d3 : w3.cell? ⟨w.heap.size, 3, none⟩ = some (.int .i64 y) := by rw [cell_of_row w3 (w.heap.size) 3 _ _ _ r3.out]; rfl
      have d4 : w3.cell? ⟨w.heap.size, 4, none⟩ = some (.int .i64 m) := by rw [cell_of_row w3 (w.heap.size) 4 _ _ _ r3.out]; rfl
      have d5 : w3.cell? ⟨w.heap.size, 5, none⟩ = some (.int .i64 d) := by rw [cell_of_row w3 (w.heap.size) 5 _ _ _ r3.out]; rfl
      have d6 : w3.cell? ⟨w.heap.size, 6, none⟩ = some (.int .i64 h) := by rw [cell_of_row w3 (w.heap.size) 6 _ _ _ r3.out]; rfl
      have d7 : w3.cell? ⟨w.heap.size, 7, none⟩ = some (.int .i64 nn) := by rw [cell_of_row w3 (w.heap.size) 7 _ _ _ r3.out]; rfl
      have d8 : w3.cell? ⟨w.heap.size, 8, none⟩ = some (.int .i64 s_) := by rw [cell_of_row w3 (w.heap.size) 8 _ _ _ r3.out]; rfl
      have d9 : w3.cell? ⟨w.heap.size, 9, none⟩ = some (.bool zd) := by rw [cell_of_row w3 (w.heap.size) 9 _ _ _ r3.out]; rfl
      have d10 : w3.cell? ⟨w.heap.size, 10, none⟩ = some (.int .i64 zn) := by rw [cell_of_row w3 (w.heap.size) 10 _ _ _ r3.out]; rfl
      have d11 : w3.cell? ⟨w.heap.size, 11, none⟩ = some (.int .i64 n) := by rw [cell_of_row w3 (w.heap.size) 11 _ _ _ r3.out]; rfl
      go_wp2_with fail
      refine (R4.out _ _ (HL3.out.grow (by repeat (first | exact G.refl _ | apply G.drew))) (HM.out.grow (G.trans G3.out (by repeat (first | exact G.refl _ | apply G.drew)))) (HE.out.grow (G.trans G3.out (by repeat (first | exact G.refl _ | apply G.drew))))).use ?_
      rintro v w4 hv g4'
      subst hv
      have g4 : G w3 w4 := G.trans (by repeat (first | exact G.refl _ | apply G.drew)) g4'
      clear g4'
      have r4 : Hid (w4.heap[w.heap.size]? = some (.cells #[.int .i64 ty, .string (S tx), .slice a ps.length ca, .int .i64 y, .int .i64 m, .int .i64 d, .int .i64 h, .int .i64 nn, .int .i64 s_, .bool zd, .int .i64 zn, .int .i64 n] 26 (0, 0))) := hid (by rw [g4.below.block _ (lt_of_row r3.out)]; exact r3.out)
      have G4 : Hid (G w w4) := hid (G3.out.trans g4)
      have HL4 := hid (HL.out.grow G4.out)
      clear g4 HL3 r3 d0 d1 d2 d3 d4 d5 d6 d7 d8 d9 d10 d11
      have d0 : w4.cell? ⟨w.heap.size, 0, none⟩ = some (.int .i64 ty) := by rw [cell_of_row w4 (w.heap.size) 0 _ _ _ r4.out]; rfl
      have d1 : w4.cell? ⟨w.heap.size, 1, none⟩ = some (.string (S tx)) := by rw [cell_of_row w4 (w.heap.size) 1 _ _ _ r4.out]; rfl
      have d2 : w4.cell? ⟨w.heap.size, 2, none⟩ = some (.slice a ps.length ca) := by rw [cell_of_row w4 (w.heap.size) 2 _ _ _ r4.out]; rfl
      have d3 : w4.cell? ⟨w.heap.size, 3, none⟩ = some (.int .i64 y) := by rw [cell_of_row w4 (w.heap.size) 3 _ _ _ r4.out]; rfl
      have d4 : w4.cell? ⟨w.heap.size, 4, none⟩ = some (.int .i64 m) := by rw [cell_of_row w4 (w.heap.size) 4 _ _ _ r4.out]; rfl
      have d5 : w4.cell? ⟨w.heap.size, 5, none⟩ = some (.int .i64 d) := by rw [cell_of_row w4 (w.heap.size) 5 _ _ _ r4.out]; rfl
      have d6 : w4.cell? ⟨w.heap.size, 6, none⟩ = some (.int .i64 h) := by rw [cell_of_row w4 (w.heap.size) 6 _ _ _ r4.out]; rfl
      have d7 : w4.cell? ⟨w.heap.size, 7, none⟩ = some (.int .i64 nn) := by rw [cell_of_row w4 (w.heap.size) 7 _ _ _ r4.out]; rfl
      have d8 : w4.cell? ⟨w.heap.size, 8, none⟩ = some (.int .i64 s_) := by rw [cell_of_row w4 (w.heap.size) 8 _ _ _ r4.out]; rfl
      have d9 : w4.cell? ⟨w.heap.size, 9, none⟩ = some (.bool zd) := by rw [cell_of_row w4 (w.heap.size) 9 _ _ _ r4.out]; rfl
      have d10 : w4.cell? ⟨w.heap.size, 10, none⟩ = some (.int .i64 zn) := by rw [cell_of_row w4 (w.heap.size) 10 _ _ _ r4.out]; rfl
      have d11 : w4.cell? ⟨w.heap.size, 11, none⟩ = some (.int .i64 n) := by rw [cell_of_row w4 (w.heap.size) 11 _ _ _ r4.out]; rfl
      go_wp2_with fail
      refine (R3.out _ (HM.out.grow (G.trans G4.out (by repeat (first | exact G.refl _ | apply G.drew)))) (HU.out.grow (G.trans G4.out (by repeat (first | exact G.refl _ | apply G.drew))))).use ?_
      rintro v w5 hv g5'
      obtain ⟨pv2, hv2, hpl⟩ := hv
      subst hv2
      have HQ := hid hpl
      obtain ⟨b, cb, hpv, _⟩ := hpl.len
      subst hpv
      clear hpl
      simp only [Vl.v]
      simp only at HQ
      have g5 : G w4 w5 := G.trans (by repeat (first | exact G.refl _ | apply G.drew)) g5'
      clear g5'
      have r5 : Hid (w5.heap[w.heap.size]? = some (.cells #[.int .i64 ty, .string (S tx), .slice a ps.length ca, .int .i64 y, .int .i64 m, .int .i64 d, .int .i64 h, .int .i64 nn, .int .i64 s_, .bool zd, .int .i64 zn, .int .i64 n] 26 (0, 0))) := hid (by rw [g5.below.block _ (lt_of_row r4.out)]; exact r4.out)
      have G5 : Hid (G w w5) := hid (G4.out.trans g5)
      have HL5 := hid (HL.out.grow G5.out)
      clear g5 HL4 r4 d0 d1 d2 d3 d4 d5 d6 d7 d8 d9 d10 d11
      have d0 : w5.cell? ⟨w.heap.size, 0, none⟩ = some (.int .i64 ty) := by rw [cell_of_row w5 (w.heap.size) 0 _ _ _ r5.out]; rfl
      have d1 : w5.cell? ⟨w.heap.size, 1, none⟩ = some (.string (S tx)) := by rw [cell_of_row w5 (w.heap.size) 1 _ _ _ r5.out]; rfl
      have d2 : w5.cell? ⟨w.heap.size, 2, none⟩ = some (.slice a ps.length ca) := by rw [cell_of_row w5 (w.heap.size) 2 _ _ _ r5.out]; rfl
      have d3 : w5.cell? ⟨w.heap.size, 3, none⟩ = some (.int .i64 y) := by rw [cell_of_row w5 (w.heap.size) 3 _ _ _ r5.out]; rfl
      have d4 : w5.cell? ⟨w.heap.size, 4, none⟩ = some (.int .i64 m) := by rw [cell_of_row w5 (w.heap.size) 4 _ _ _ r5.out]; rfl
      have d5 : w5.cell? ⟨w.heap.size, 5, none⟩ = some (.int .i64 d) := by rw [cell_of_row w5 (w.heap.size) 5 _ _ _ r5.out]; rfl
      have d6 : w5.cell? ⟨w.heap.size, 6, none⟩ = some (.int .i64 h) := by rw [cell_of_row w5 (w.heap.size) 6 _ _ _ r5.out]; rfl
      have d7 : w5.cell? ⟨w.heap.size, 7, none⟩ = some (.int .i64 nn) := by rw [cell_of_row w5 (w.heap.size) 7 _ _ _ r5.out]; rfl
      have d8 : w5.cell? ⟨w.heap.size, 8, none⟩ = some (.int .i64 s_) := by rw [cell_of_row w5 (w.heap.size) 8 _ _ _ r5.out]; rfl
      have d9 : w5.cell? ⟨w.heap.size, 9, none⟩ = some (.bool zd) := by rw [cell_of_row w5 (w.heap.size) 9 _ _ _ r5.out]; rfl
      have d10 : w5.cell? ⟨w.heap.size, 10, none⟩ = some (.int .i64 zn) := by rw [cell_of_row w5 (w.heap.size) 10 _ _ _ r5.out]; rfl
      have d11 : w5.cell? ⟨w.heap.size, 11, none⟩ = some (.int .i64 n) := by rw [cell_of_row w5 (w.heap.size) 11 _ _ _ r5.out]; rfl
      have hq4 : w.heap.size < w5.heap.size := lt_of_row r5.out
      have hq5 : ¬ w.heap.size = w5.heap.size := by omega
      have gB : G w5 (w5.alloc (.cells #[.int .i64 ty, .string (S tx), .slice b ps.length cb, .int .i64 y, .int .i64 m, .int .i64 d, .int .i64 h, .int .i64 nn, .int .i64 s_, .bool zd, .int .i64 zn, .int .i64 n] 26)) := (G.refl w5).alloc _
      have HLB := hid (HL5.out.grow gB)
      have HQB := hid (HQ.out.grow gB)
      have GB : Hid (G w (w5.alloc (.cells #[.int .i64 ty, .string (S tx), .slice b ps.length cb, .int .i64 y, .int .i64 m, .int .i64 d, .int .i64 h, .int .i64 nn, .int .i64 s_, .bool zd, .int .i64 zn, .int .i64 n] 26))) := hid (G5.out.trans gB)
      clear gB
      go_wp2_with fail
      refine (R5.out _ a b ca cb (HLB.out.grow (by repeat (first | exact G.refl _ | apply G.drew))) (HQB.out.grow (by repeat (first | exact G.refl _ | apply G.drew)))).use ?_
      intro w6 g6'
      have g6 : G (w5.alloc (.cells #[.int .i64 ty, .string (S tx), .slice b ps.length cb, .int .i64 y, .int .i64 m, .int .i64 d, .int .i64 h, .int .i64 nn, .int .i64 s_, .bool zd, .int .i64 zn, .int .i64 n] 26)) w6 := G.trans (by repeat (first | exact G.refl _ | apply G.drew)) g6'
      have G6 : Hid (G w w6) := hid (GB.out.trans g6)
      clear g6 g6'
      go_wp2_with fail
      refine (R6.out _).use ?_
      go_wp2_with fail
      go_ret
      exact ⟨ret_bool (by simp), by repeat (first | exact G6.out | apply G.drew)⟩

end Go.Proofs.YtedlgpccmlcijaaGreatDoor
