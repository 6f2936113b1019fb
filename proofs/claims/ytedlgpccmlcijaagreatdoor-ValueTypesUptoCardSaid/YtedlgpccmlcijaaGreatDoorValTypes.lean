/-
  WALK of the law ValueTypes. (written by gen_valtypes.py)
-/
import Derived.Test.YtedlgpccmlcijaaGreatDoorMBound
import Derived.Test.YtedlgpccmlcijaaGreatDoorPick
namespace Go.Proofs.YtedlgpccmlcijaaGreatDoor
open Go.RowKit
set_option linter.unusedVariables false
set_option linter.unusedSimpArgs false

/-- a right value of another type is not right, but for the empty ones and those of one kind -/
theorem val_types (x : Vl) (k : Int) (hok : x.ok = true) (h1 : ¬ k = x.ty) (h2 : isT x.ty = true → isT k = false ∧ x.tx ≠ []) (h3 : isL x.ty = true → isL k = false) (h4 : x.ty = 6 → x.n ≠ 0) : (⟨k, x.tx, x.ps, x.st, x.n⟩ : Vl).ok = false := by
  cases hw : (⟨k, x.tx, x.ps, x.st, x.n⟩ : Vl).ok with
  | false => rfl
  | true =>
    exfalso
    obtain ⟨hk, ho, hb⟩ := ok_parts hok
    obtain ⟨hk', ho', hb'⟩ := ok_parts hw
    obtain ⟨o1, o2, o3, o4⟩ := only_parts ho'
    simp only at o1 o2 o3 o4 hk'
    have ht : x.ty = 1 ∨ x.ty = 2 ∨ x.ty = 3 ∨ x.ty = 4 ∨ x.ty = 5 ∨ x.ty = 6 ∨ x.ty = 7 ∨ x.ty = 8 := by omega
    rcases ht with e | e | e | e | e | e | e | e
    · obtain ⟨a, b⟩ := h2 (by rw [e]; decide)
      exact b (o1 a)
    · have a := o2 (h3 (by rw [e]; decide))
      unfold Vl.body at hb
      rw [if_pos (by omega), a] at hb
      simp at hb
    · have a := o2 (h3 (by rw [e]; decide))
      unfold Vl.body at hb
      rw [if_pos (by omega), a] at hb
      simp at hb
    · obtain ⟨a, b⟩ := h2 (by rw [e]; decide)
      exact b (o1 a)
    · have a := o3 (by omega)
      unfold Vl.body at hb
      rw [if_neg (by omega), if_neg (by omega), if_pos e, a] at hb
      exact absurd hb (by decide)
    · exact h4 e (o4 (by omega))
    · obtain ⟨a, b⟩ := h2 (by rw [e]; decide)
      exact b (o1 a)
    · obtain ⟨a, b⟩ := h2 (by rw [e]; decide)
      exact b (o1 a)

set_option maxRecDepth 100000 in
set_option maxHeartbeats 400000 in
theorem texts_any (k : Int) (w : World) : Pure 16 #[.int .i64 k] w (.bool (isT k)) := by
  go_enter Tryz.func16, Tryz.ntmps16
  go_wp2
  all_goals go_ret
  all_goals exact ⟨ret_bool (by unfold isT; by_cases h1 : k = 1 <;> by_cases h4 : k = 4 <;> by_cases h7 : k = 7 <;> by_cases h8 : k = 8 <;> simp [h1, h4, h7, h8] <;> try omega), rfl⟩
set_option maxRecDepth 100000 in
set_option maxHeartbeats 400000 in
theorem lists_any (k : Int) (w : World) : Pure 17 #[.int .i64 k] w (.bool (isL k)) := by
  go_enter Tryz.func17, Tryz.ntmps17
  go_wp2
  all_goals go_ret
  all_goals exact ⟨ret_bool (by unfold isL; by_cases h2 : k = 2 <;> by_cases h3 : k = 3 <;> simp [h2, h3] <;> try omega), rfl⟩

set_option maxRecDepth 100000 in
set_option maxHeartbeats 8000000 in
theorem thick_any (x : Vl) (a : Option Addr) (ca : Nat) (w : World) (hL : IsLists w (.slice a x.ps.length ca) x.ps) (ht : x.tx.length ≤ 1048576) (hp : sumP x.ps ≤ 2000000) : Gives 9 #[x.v (.slice a x.ps.length ca)] w (.bool (decide (1500 < x.tx.length ∨ 1500 < sumP x.ps))) := by
  obtain ⟨ty, tx, ps, ⟨y, m, d, h, nn, s_, zd, zn⟩, n⟩ := x
  simp only at hL ht hp
  have HL := hid hL
  have HP := hid hp
  clear hL hp
  simp only [Vl.v]
  have g0 : Hid (G w (w.alloc (.cells #[.int .i64 ty, .string (S tx), .slice a ps.length ca, .int .i64 y, .int .i64 m, .int .i64 d, .int .i64 h, .int .i64 nn, .int .i64 s_, .bool zd, .int .i64 zn, .int .i64 n] 26))) := hid ((G.refl w).alloc _)
  by_cases h1 : 1500 < tx.length
  · go_enter Tryz.func9, Tryz.ntmps9
    go_wp2_with fail
    go_ret
    exact ⟨ret_bool (by first | (simp; done) | (simp; omega)), by repeat (first | exact g0.out | apply G.drew)⟩
  · have hh := heavy_any (w.alloc (.cells #[.int .i64 ty, .string (S tx), .slice a ps.length ca, .int .i64 y, .int .i64 m, .int .i64 d, .int .i64 h, .int .i64 nn, .int .i64 s_, .bool zd, .int .i64 zn, .int .i64 n] 26)) (HL.out.grow g0.out) HP.out
    have HH := hid hh
    clear hh
    go_enter Tryz.func9, Tryz.ntmps9
    go_wp2_with fail
    refine HH.out.use ?_
    go_wp2_with fail
    go_ret
    exact ⟨ret_bool (by simp [h1]; intro hq; omega), by repeat (first | exact g0.out | apply G.drew)⟩


set_option maxRecDepth 100000 in
set_option maxHeartbeats 8000000 in
theorem valueTypes_walk (x : Vl) (a : Option Addr) (ca : Nat) (kind : Int) (w : World) (hL : IsLists w (.slice a x.ps.length ca) x.ps) (ht : x.tx.length ≤ 1048576) (hp : sumP x.ps ≤ 1048576) (hy : -9223372036854775808 ≤ x.st.y ∧ x.st.y ≤ 9223372036854775807) (zk : -9223372036854775808 ≤ kind ∧ kind ≤ 9223372036854775807) (hM : HasM w) (hU : HasU w) (hE : LaidE w) :
    Gives 6 #[x.v (.slice a x.ps.length ca), .int .i64 kind] w (.bool true) := by
  have HM := hid hM
  have HU := hid hU
  have HE := hid hE
  have HL := hid hL
  clear hM hU hE hL
  have hmf : ∀ (fn : Fn) (first cap : Array Value) (w : World), (Instr.makeFunc fn first cap).run Tryz.prog w = .ok (.func fn first cap) w := fun _ _ _ _ => rfl
  have r9 := fun W a ca hl => thick_any x a ca W hl ht (by omega)
  by_cases hh : 1500 < x.tx.length ∨ 1500 < sumP x.ps
  · rw [decide_eq_true hh] at r9
    have R9 := hid r9
    clear r9 hh ht hp hy
    obtain ⟨ty, tx, ps, ⟨y, m, d, h, nn, s_, zd, zn⟩, n⟩ := x
    simp only at HL
    simp only [Vl.v] at R9 ⊢
    have G0 : Hid (G w (w.alloc (.cells #[.int .i64 ty, .string (S tx), .slice a ps.length ca, .int .i64 y, .int .i64 m, .int .i64 d, .int .i64 h, .int .i64 nn, .int .i64 s_, .bool zd, .int .i64 zn, .int .i64 n] 26))) := hid ((G.refl w).alloc _)
    have rv := valued_any _ (HM.out.grow G0.out) (HU.out.grow G0.out) (HE.out.grow G0.out)
    have RV := hid rv
    clear rv
    go_enter Tryz.func6, Tryz.ntmps6
    go_wp2_with fail
    refine RV.out.use ?_
    intro w1 g1
    have r1 : Hid (w1.heap[w.heap.size]? = some (.cells #[.int .i64 ty, .string (S tx), .slice a ps.length ca, .int .i64 y, .int .i64 m, .int .i64 d, .int .i64 h, .int .i64 nn, .int .i64 s_, .bool zd, .int .i64 zn, .int .i64 n] 26 (0, 0))) := hid (by rw [g1.below.block w.heap.size (by simp)]; exact heap_alloc_new w _)
    have G1 : Hid (G w w1) := hid (G0.out.trans g1)
    have HL1 := hid (HL.out.grow G1.out)
    clear g1 RV
    have d0 : w1.cell? ⟨w.heap.size, 0, none⟩ = some (.int .i64 ty) := by rw [cell_of_row w1 (w.heap.size) 0 _ _ _ r1.out]; rfl
    have d1 : w1.cell? ⟨w.heap.size, 1, none⟩ = some (.string (S tx)) := by rw [cell_of_row w1 (w.heap.size) 1 _ _ _ r1.out]; rfl
    have d2 : w1.cell? ⟨w.heap.size, 2, none⟩ = some (.slice a ps.length ca) := by rw [cell_of_row w1 (w.heap.size) 2 _ _ _ r1.out]; rfl
    have d3 : w1.cell? ⟨w.heap.size, 3, none⟩ = some (.int .i64 y) := by rw [cell_of_row w1 (w.heap.size) 3 _ _ _ r1.out]; rfl
    have d4 : w1.cell? ⟨w.heap.size, 4, none⟩ = some (.int .i64 m) := by rw [cell_of_row w1 (w.heap.size) 4 _ _ _ r1.out]; rfl
    have d5 : w1.cell? ⟨w.heap.size, 5, none⟩ = some (.int .i64 d) := by rw [cell_of_row w1 (w.heap.size) 5 _ _ _ r1.out]; rfl
    have d6 : w1.cell? ⟨w.heap.size, 6, none⟩ = some (.int .i64 h) := by rw [cell_of_row w1 (w.heap.size) 6 _ _ _ r1.out]; rfl
    have d7 : w1.cell? ⟨w.heap.size, 7, none⟩ = some (.int .i64 nn) := by rw [cell_of_row w1 (w.heap.size) 7 _ _ _ r1.out]; rfl
    have d8 : w1.cell? ⟨w.heap.size, 8, none⟩ = some (.int .i64 s_) := by rw [cell_of_row w1 (w.heap.size) 8 _ _ _ r1.out]; rfl
    have d9 : w1.cell? ⟨w.heap.size, 9, none⟩ = some (.bool zd) := by rw [cell_of_row w1 (w.heap.size) 9 _ _ _ r1.out]; rfl
    have d10 : w1.cell? ⟨w.heap.size, 10, none⟩ = some (.int .i64 zn) := by rw [cell_of_row w1 (w.heap.size) 10 _ _ _ r1.out]; rfl
    have d11 : w1.cell? ⟨w.heap.size, 11, none⟩ = some (.int .i64 n) := by rw [cell_of_row w1 (w.heap.size) 11 _ _ _ r1.out]; rfl
    go_wp2_with fail
    refine (R9.out _ _ _ (HL1.out.grow (by repeat (first | exact G.refl _ | apply G.drew)))).use ?_
    intro w2 g2'
    have g2 : G w1 w2 := G.trans (by repeat (first | exact G.refl _ | apply G.drew)) g2'
    go_wp2_with fail
    go_ret
    exact ⟨rfl, G.trans G1.out (by repeat (first | exact g2 | apply G.drew))⟩
  · rw [decide_eq_false hh] at r9
    have R9 := hid r9
    clear r9
    have h1 : x.tx.length ≤ 100000 := by omega
    have h2 : sumP x.ps ≤ 100000 := by omega
    have r4 := fun W pv hl hm he => vright_any x pv W hl h1 h2 hy hm he
    unfold ErrIf at r4
    cases hok : x.ok with
    | false =>
      simp only [hok, if_neg Bool.false_ne_true] at r4
      have R4 := hid r4
      clear r4 hh ht hp hy h1 h2 hok
      obtain ⟨ty, tx, ps, ⟨y, m, d, h, nn, s_, zd, zn⟩, n⟩ := x
      simp only at HL
      simp only [Vl.v] at R4 R9 ⊢
      have G0 : Hid (G w (w.alloc (.cells #[.int .i64 ty, .string (S tx), .slice a ps.length ca, .int .i64 y, .int .i64 m, .int .i64 d, .int .i64 h, .int .i64 nn, .int .i64 s_, .bool zd, .int .i64 zn, .int .i64 n] 26))) := hid ((G.refl w).alloc _)
      have rv := valued_any _ (HM.out.grow G0.out) (HU.out.grow G0.out) (HE.out.grow G0.out)
      have RV := hid rv
      clear rv
      go_enter Tryz.func6, Tryz.ntmps6
      go_wp2_with fail
      refine RV.out.use ?_
      intro w1 g1
      have r1 : Hid (w1.heap[w.heap.size]? = some (.cells #[.int .i64 ty, .string (S tx), .slice a ps.length ca, .int .i64 y, .int .i64 m, .int .i64 d, .int .i64 h, .int .i64 nn, .int .i64 s_, .bool zd, .int .i64 zn, .int .i64 n] 26 (0, 0))) := hid (by rw [g1.below.block w.heap.size (by simp)]; exact heap_alloc_new w _)
      have G1 : Hid (G w w1) := hid (G0.out.trans g1)
      have HL1 := hid (HL.out.grow G1.out)
      clear g1 RV
      have d0 : w1.cell? ⟨w.heap.size, 0, none⟩ = some (.int .i64 ty) := by rw [cell_of_row w1 (w.heap.size) 0 _ _ _ r1.out]; rfl
      have d1 : w1.cell? ⟨w.heap.size, 1, none⟩ = some (.string (S tx)) := by rw [cell_of_row w1 (w.heap.size) 1 _ _ _ r1.out]; rfl
      have d2 : w1.cell? ⟨w.heap.size, 2, none⟩ = some (.slice a ps.length ca) := by rw [cell_of_row w1 (w.heap.size) 2 _ _ _ r1.out]; rfl
      have d3 : w1.cell? ⟨w.heap.size, 3, none⟩ = some (.int .i64 y) := by rw [cell_of_row w1 (w.heap.size) 3 _ _ _ r1.out]; rfl
      have d4 : w1.cell? ⟨w.heap.size, 4, none⟩ = some (.int .i64 m) := by rw [cell_of_row w1 (w.heap.size) 4 _ _ _ r1.out]; rfl
      have d5 : w1.cell? ⟨w.heap.size, 5, none⟩ = some (.int .i64 d) := by rw [cell_of_row w1 (w.heap.size) 5 _ _ _ r1.out]; rfl
      have d6 : w1.cell? ⟨w.heap.size, 6, none⟩ = some (.int .i64 h) := by rw [cell_of_row w1 (w.heap.size) 6 _ _ _ r1.out]; rfl
      have d7 : w1.cell? ⟨w.heap.size, 7, none⟩ = some (.int .i64 nn) := by rw [cell_of_row w1 (w.heap.size) 7 _ _ _ r1.out]; rfl
      have d8 : w1.cell? ⟨w.heap.size, 8, none⟩ = some (.int .i64 s_) := by rw [cell_of_row w1 (w.heap.size) 8 _ _ _ r1.out]; rfl
      have d9 : w1.cell? ⟨w.heap.size, 9, none⟩ = some (.bool zd) := by rw [cell_of_row w1 (w.heap.size) 9 _ _ _ r1.out]; rfl
      have d10 : w1.cell? ⟨w.heap.size, 10, none⟩ = some (.int .i64 zn) := by rw [cell_of_row w1 (w.heap.size) 10 _ _ _ r1.out]; rfl
      have d11 : w1.cell? ⟨w.heap.size, 11, none⟩ = some (.int .i64 n) := by rw [cell_of_row w1 (w.heap.size) 11 _ _ _ r1.out]; rfl
      go_wp2_with fail
      refine (R9.out _ _ _ (HL1.out.grow (by repeat (first | exact G.refl _ | apply G.drew)))).use ?_
      intro w2 g2'
      have g2 : G w1 w2 := G.trans (by repeat (first | exact G.refl _ | apply G.drew)) g2'
      have r2 : Hid (w2.heap[w.heap.size]? = some (.cells #[.int .i64 ty, .string (S tx), .slice a ps.length ca, .int .i64 y, .int .i64 m, .int .i64 d, .int .i64 h, .int .i64 nn, .int .i64 s_, .bool zd, .int .i64 zn, .int .i64 n] 26 (0, 0))) := hid (by rw [g2.below.block _ (lt_of_row r1.out)]; exact r1.out)
      have G2 : Hid (G w w2) := hid (G1.out.trans g2)
      have HL2 := hid (HL.out.grow G2.out)
      clear g2 HL1 r1 d0 d1 d2 d3 d4 d5 d6 d7 d8 d9 d10 d11
      have d0 : w2.cell? ⟨w.heap.size, 0, none⟩ = some (.int .i64 ty) := by rw [cell_of_row w2 (w.heap.size) 0 _ _ _ r2.out]; rfl
      have d1 : w2.cell? ⟨w.heap.size, 1, none⟩ = some (.string (S tx)) := by rw [cell_of_row w2 (w.heap.size) 1 _ _ _ r2.out]; rfl
      have d2 : w2.cell? ⟨w.heap.size, 2, none⟩ = some (.slice a ps.length ca) := by rw [cell_of_row w2 (w.heap.size) 2 _ _ _ r2.out]; rfl
      have d3 : w2.cell? ⟨w.heap.size, 3, none⟩ = some (.int .i64 y) := by rw [cell_of_row w2 (w.heap.size) 3 _ _ _ r2.out]; rfl
      have d4 : w2.cell? ⟨w.heap.size, 4, none⟩ = some (.int .i64 m) := by rw [cell_of_row w2 (w.heap.size) 4 _ _ _ r2.out]; rfl
      have d5 : w2.cell? ⟨w.heap.size, 5, none⟩ = some (.int .i64 d) := by rw [cell_of_row w2 (w.heap.size) 5 _ _ _ r2.out]; rfl
      have d6 : w2.cell? ⟨w.heap.size, 6, none⟩ = some (.int .i64 h) := by rw [cell_of_row w2 (w.heap.size) 6 _ _ _ r2.out]; rfl
      have d7 : w2.cell? ⟨w.heap.size, 7, none⟩ = some (.int .i64 nn) := by rw [cell_of_row w2 (w.heap.size) 7 _ _ _ r2.out]; rfl
      have d8 : w2.cell? ⟨w.heap.size, 8, none⟩ = some (.int .i64 s_) := by rw [cell_of_row w2 (w.heap.size) 8 _ _ _ r2.out]; rfl
      have d9 : w2.cell? ⟨w.heap.size, 9, none⟩ = some (.bool zd) := by rw [cell_of_row w2 (w.heap.size) 9 _ _ _ r2.out]; rfl
      have d10 : w2.cell? ⟨w.heap.size, 10, none⟩ = some (.int .i64 zn) := by rw [cell_of_row w2 (w.heap.size) 10 _ _ _ r2.out]; rfl
      have d11 : w2.cell? ⟨w.heap.size, 11, none⟩ = some (.int .i64 n) := by rw [cell_of_row w2 (w.heap.size) 11 _ _ _ r2.out]; rfl
      go_wp2_with fail
      refine (R4.out _ _ (HL2.out.grow (by repeat (first | exact G.refl _ | apply G.drew))) (HM.out.grow (G.trans G2.out (by repeat (first | exact G.refl _ | apply G.drew)))) (HE.out.grow (G.trans G2.out (by repeat (first | exact G.refl _ | apply G.drew))))).use ?_
      rintro v w3 hv g3'
      have g3 : G w2 w3 := G.trans (by repeat (first | exact G.refl _ | apply G.drew)) g3'
      clear g3'
      obtain ⟨c1, hc1⟩ := hv
      subst hc1
      unfold eno
      go_wp2_with fail
      go_ret
      exact ⟨rfl, G.trans G2.out (by repeat (first | exact g3 | apply G.drew))⟩
    | true =>
      simp only [hok, if_true] at r4
      have R4 := hid r4
      obtain ⟨q, hq⟩ : ∃ q : Int, (pickV kind 8 : Int) = q := ⟨_, rfl⟩
      have hqb : 0 ≤ q ∧ q < 8 := by have := pickV_lt kind (n := 8) (by decide); omega
      have rp := fun W => pick_any kind 8 W (by decide) (by decide)
      rw [hq] at rp
      have HP := hid rp
      have r8 := fun W pv hl hm he => vright_any ⟨1 + q, x.tx, x.ps, x.st, x.n⟩ pv W hl h1 h2 hy hm he
      have VT := hid (val_types x (1 + q) hok)
      have R8 := hid r8
      clear r4 r8 rp hq hh ht hp hy h1 h2 hok
      obtain ⟨ty, tx, ps, ⟨y, m, d, h, nn, s_, zd, zn⟩, n⟩ := x
      simp only at HL
      simp only [Vl.v] at R4 R8 R9 VT ⊢
      have G0 : Hid (G w (w.alloc (.cells #[.int .i64 ty, .string (S tx), .slice a ps.length ca, .int .i64 y, .int .i64 m, .int .i64 d, .int .i64 h, .int .i64 nn, .int .i64 s_, .bool zd, .int .i64 zn, .int .i64 n] 26))) := hid ((G.refl w).alloc _)
      have rv := valued_any _ (HM.out.grow G0.out) (HU.out.grow G0.out) (HE.out.grow G0.out)
      have RV := hid rv
      clear rv
      go_enter Tryz.func6, Tryz.ntmps6
      go_wp2_with fail
      refine RV.out.use ?_
      intro w1 g1
      have r1 : Hid (w1.heap[w.heap.size]? = some (.cells #[.int .i64 ty, .string (S tx), .slice a ps.length ca, .int .i64 y, .int .i64 m, .int .i64 d, .int .i64 h, .int .i64 nn, .int .i64 s_, .bool zd, .int .i64 zn, .int .i64 n] 26 (0, 0))) := hid (by rw [g1.below.block w.heap.size (by simp)]; exact heap_alloc_new w _)
      have G1 : Hid (G w w1) := hid (G0.out.trans g1)
      have HL1 := hid (HL.out.grow G1.out)
      clear g1 RV
      have d0 : w1.cell? ⟨w.heap.size, 0, none⟩ = some (.int .i64 ty) := by rw [cell_of_row w1 (w.heap.size) 0 _ _ _ r1.out]; rfl
      have d1 : w1.cell? ⟨w.heap.size, 1, none⟩ = some (.string (S tx)) := by rw [cell_of_row w1 (w.heap.size) 1 _ _ _ r1.out]; rfl
      have d2 : w1.cell? ⟨w.heap.size, 2, none⟩ = some (.slice a ps.length ca) := by rw [cell_of_row w1 (w.heap.size) 2 _ _ _ r1.out]; rfl
      have d3 : w1.cell? ⟨w.heap.size, 3, none⟩ = some (.int .i64 y) := by rw [cell_of_row w1 (w.heap.size) 3 _ _ _ r1.out]; rfl
      have d4 : w1.cell? ⟨w.heap.size, 4, none⟩ = some (.int .i64 m) := by rw [cell_of_row w1 (w.heap.size) 4 _ _ _ r1.out]; rfl
      have d5 : w1.cell? ⟨w.heap.size, 5, none⟩ = some (.int .i64 d) := by rw [cell_of_row w1 (w.heap.size) 5 _ _ _ r1.out]; rfl
      have d6 : w1.cell? ⟨w.heap.size, 6, none⟩ = some (.int .i64 h) := by rw [cell_of_row w1 (w.heap.size) 6 _ _ _ r1.out]; rfl
      have d7 : w1.cell? ⟨w.heap.size, 7, none⟩ = some (.int .i64 nn) := by rw [cell_of_row w1 (w.heap.size) 7 _ _ _ r1.out]; rfl
      have d8 : w1.cell? ⟨w.heap.size, 8, none⟩ = some (.int .i64 s_) := by rw [cell_of_row w1 (w.heap.size) 8 _ _ _ r1.out]; rfl
      have d9 : w1.cell? ⟨w.heap.size, 9, none⟩ = some (.bool zd) := by rw [cell_of_row w1 (w.heap.size) 9 _ _ _ r1.out]; rfl
      have d10 : w1.cell? ⟨w.heap.size, 10, none⟩ = some (.int .i64 zn) := by rw [cell_of_row w1 (w.heap.size) 10 _ _ _ r1.out]; rfl
      have d11 : w1.cell? ⟨w.heap.size, 11, none⟩ = some (.int .i64 n) := by rw [cell_of_row w1 (w.heap.size) 11 _ _ _ r1.out]; rfl
      go_wp2_with fail
      refine (R9.out _ _ _ (HL1.out.grow (by repeat (first | exact G.refl _ | apply G.drew)))).use ?_
      intro w2 g2'
      have g2 : G w1 w2 := G.trans (by repeat (first | exact G.refl _ | apply G.drew)) g2'
      have r2 : Hid (w2.heap[w.heap.size]? = some (.cells #[.int .i64 ty, .string (S tx), .slice a ps.length ca, .int .i64 y, .int .i64 m, .int .i64 d, .int .i64 h, .int .i64 nn, .int .i64 s_, .bool zd, .int .i64 zn, .int .i64 n] 26 (0, 0))) := hid (by rw [g2.below.block _ (lt_of_row r1.out)]; exact r1.out)
      have G2 : Hid (G w w2) := hid (G1.out.trans g2)
      have HL2 := hid (HL.out.grow G2.out)
      clear g2 HL1 r1 d0 d1 d2 d3 d4 d5 d6 d7 d8 d9 d10 d11
      have d0 : w2.cell? ⟨w.heap.size, 0, none⟩ = some (.int .i64 ty) := by rw [cell_of_row w2 (w.heap.size) 0 _ _ _ r2.out]; rfl
      have d1 : w2.cell? ⟨w.heap.size, 1, none⟩ = some (.string (S tx)) := by rw [cell_of_row w2 (w.heap.size) 1 _ _ _ r2.out]; rfl
      have d2 : w2.cell? ⟨w.heap.size, 2, none⟩ = some (.slice a ps.length ca) := by rw [cell_of_row w2 (w.heap.size) 2 _ _ _ r2.out]; rfl
      have d3 : w2.cell? ⟨w.heap.size, 3, none⟩ = some (.int .i64 y) := by rw [cell_of_row w2 (w.heap.size) 3 _ _ _ r2.out]; rfl
      have d4 : w2.cell? ⟨w.heap.size, 4, none⟩ = some (.int .i64 m) := by rw [cell_of_row w2 (w.heap.size) 4 _ _ _ r2.out]; rfl
      have d5 : w2.cell? ⟨w.heap.size, 5, none⟩ = some (.int .i64 d) := by rw [cell_of_row w2 (w.heap.size) 5 _ _ _ r2.out]; rfl
      have d6 : w2.cell? ⟨w.heap.size, 6, none⟩ = some (.int .i64 h) := by rw [cell_of_row w2 (w.heap.size) 6 _ _ _ r2.out]; rfl
      have d7 : w2.cell? ⟨w.heap.size, 7, none⟩ = some (.int .i64 nn) := by rw [cell_of_row w2 (w.heap.size) 7 _ _ _ r2.out]; rfl
      have d8 : w2.cell? ⟨w.heap.size, 8, none⟩ = some (.int .i64 s_) := by rw [cell_of_row w2 (w.heap.size) 8 _ _ _ r2.out]; rfl
      have d9 : w2.cell? ⟨w.heap.size, 9, none⟩ = some (.bool zd) := by rw [cell_of_row w2 (w.heap.size) 9 _ _ _ r2.out]; rfl
      have d10 : w2.cell? ⟨w.heap.size, 10, none⟩ = some (.int .i64 zn) := by rw [cell_of_row w2 (w.heap.size) 10 _ _ _ r2.out]; rfl
      have d11 : w2.cell? ⟨w.heap.size, 11, none⟩ = some (.int .i64 n) := by rw [cell_of_row w2 (w.heap.size) 11 _ _ _ r2.out]; rfl
      go_wp2_with fail
      refine (R4.out _ _ (HL2.out.grow (by repeat (first | exact G.refl _ | apply G.drew))) (HM.out.grow (G.trans G2.out (by repeat (first | exact G.refl _ | apply G.drew)))) (HE.out.grow (G.trans G2.out (by repeat (first | exact G.refl _ | apply G.drew))))).use ?_
      rintro v w3 hv g3'
      have g3 : G w2 w3 := G.trans (by repeat (first | exact G.refl _ | apply G.drew)) g3'
      clear g3'
      subst hv
      have r3 : Hid (w3.heap[w.heap.size]? = some (.cells #[.int .i64 ty, .string (S tx), .slice a ps.length ca, .int .i64 y, .int .i64 m, .int .i64 d, .int .i64 h, .int .i64 nn, .int .i64 s_, .bool zd, .int .i64 zn, .int .i64 n] 26 (0, 0))) := hid (by rw [g3.below.block _ (lt_of_row r2.out)]; exact r2.out)
      have G3 : Hid (G w w3) := hid (G2.out.trans g3)
      have HL3 := hid (HL.out.grow G3.out)
      clear g3 HL2 r2 d0 d1 d2 d3 d4 d5 d6 d7 d8 d9 d10 d11
      have d0 : w3.cell? ⟨w.heap.size, 0, none⟩ = some (.int .i64 ty) := by rw [cell_of_row w3 (w.heap.size) 0 _ _ _ r3.out]; rfl
      have d1 : w3.cell? ⟨w.heap.size, 1, none⟩ = some (.string (S tx)) := by rw [cell_of_row w3 (w.heap.size) 1 _ _ _ r3.out]; rfl
      have d2 : w3.cell? ⟨w.heap.size, 2, none⟩ = some (.slice a ps.length ca) := by rw [cell_of_row w3 (w.heap.size) 2 _ _ _ r3.out]; rfl
      have d3 : w3.cell? ⟨w.heap.size, 3, none⟩ = some (.int .i64 y) := by rw [cell_of_row w3 (w.heap.size) 3 _ _ _ r3.out]; rfl
      have d4 : w3.cell? ⟨w.heap.size, 4, none⟩ = some (.int .i64 m) := by rw [cell_of_row w3 (w.heap.size) 4 _ _ _ r3.out]; rfl
      have d5 : w3.cell? ⟨w.heap.size, 5, none⟩ = some (.int .i64 d) := by rw [cell_of_row w3 (w.heap.size) 5 _ _ _ r3.out]; rfl
      have d6 : w3.cell? ⟨w.heap.size, 6, none⟩ = some (.int .i64 h) := by rw [cell_of_row w3 (w.heap.size) 6 _ _ _ r3.out]; rfl
      have d7 : w3.cell? ⟨w.heap.size, 7, none⟩ = some (.int .i64 nn) := by rw [cell_of_row w3 (w.heap.size) 7 _ _ _ r3.out]; rfl
      have d8 : w3.cell? ⟨w.heap.size, 8, none⟩ = some (.int .i64 s_) := by rw [cell_of_row w3 (w.heap.size) 8 _ _ _ r3.out]; rfl
      have d9 : w3.cell? ⟨w.heap.size, 9, none⟩ = some (.bool zd) := by rw [cell_of_row w3 (w.heap.size) 9 _ _ _ r3.out]; rfl
      have d10 : w3.cell? ⟨w.heap.size, 10, none⟩ = some (.int .i64 zn) := by rw [cell_of_row w3 (w.heap.size) 10 _ _ _ r3.out]; rfl
      have d11 : w3.cell? ⟨w.heap.size, 11, none⟩ = some (.int .i64 n) := by rw [cell_of_row w3 (w.heap.size) 11 _ _ _ r3.out]; rfl
      go_wp2_with fail
      have hq : w.heap.size < w3.heap.size := lt_of_row r3.out
      have hqn : ¬ w.heap.size = w3.heap.size := by omega
      have rBS : Hid ((w3.alloc (.cells #[.int .i64 (1 + q), .string (S tx), .slice a ps.length ca, .int .i64 y, .int .i64 m, .int .i64 d, .int .i64 h, .int .i64 nn, .int .i64 s_, .bool zd, .int .i64 zn, .int .i64 n] 26)).heap[w3.heap.size]? = some (.cells #[.int .i64 (1 + q), .string (S tx), .slice a ps.length ca, .int .i64 y, .int .i64 m, .int .i64 d, .int .i64 h, .int .i64 nn, .int .i64 s_, .bool zd, .int .i64 zn, .int .i64 n] 26 (0, 0))) := hid (heap_alloc_new w3 _)
      have rAS : Hid ((w3.alloc (.cells #[.int .i64 (1 + q), .string (S tx), .slice a ps.length ca, .int .i64 y, .int .i64 m, .int .i64 d, .int .i64 h, .int .i64 nn, .int .i64 s_, .bool zd, .int .i64 zn, .int .i64 n] 26)).heap[w.heap.size]? = some (.cells #[.int .i64 ty, .string (S tx), .slice a ps.length ca, .int .i64 y, .int .i64 m, .int .i64 d, .int .i64 h, .int .i64 nn, .int .i64 s_, .bool zd, .int .i64 zn, .int .i64 n] 26 (0, 0))) := hid (by rw [Lib.alloc_old _ _ _ hq]; exact r3.out)
      have GS : Hid (G w (w3.alloc (.cells #[.int .i64 (1 + q), .string (S tx), .slice a ps.length ca, .int .i64 y, .int .i64 m, .int .i64 d, .int .i64 h, .int .i64 nn, .int .i64 s_, .bool zd, .int .i64 zn, .int .i64 n] 26))) := hid (G3.out.alloc _)
      have HLS := hid (HL.out.grow GS.out)
      have c0 : (w3.alloc (.cells #[.int .i64 (1 + q), .string (S tx), .slice a ps.length ca, .int .i64 y, .int .i64 m, .int .i64 d, .int .i64 h, .int .i64 nn, .int .i64 s_, .bool zd, .int .i64 zn, .int .i64 n] 26)).cell? ⟨w.heap.size, 0, none⟩ = some (.int .i64 ty) := by rw [cell_of_row _ _ 0 _ _ _ rAS.out]; rfl
      have c1 : (w3.alloc (.cells #[.int .i64 (1 + q), .string (S tx), .slice a ps.length ca, .int .i64 y, .int .i64 m, .int .i64 d, .int .i64 h, .int .i64 nn, .int .i64 s_, .bool zd, .int .i64 zn, .int .i64 n] 26)).cell? ⟨w.heap.size, 1, none⟩ = some (.string (S tx)) := by rw [cell_of_row _ _ 1 _ _ _ rAS.out]; rfl
      have c11 : (w3.alloc (.cells #[.int .i64 (1 + q), .string (S tx), .slice a ps.length ca, .int .i64 y, .int .i64 m, .int .i64 d, .int .i64 h, .int .i64 nn, .int .i64 s_, .bool zd, .int .i64 zn, .int .i64 n] 26)).cell? ⟨w.heap.size, 11, none⟩ = some (.int .i64 n) := by rw [cell_of_row _ _ 11 _ _ _ rAS.out]; rfl
      have e0 : (w3.alloc (.cells #[.int .i64 (1 + q), .string (S tx), .slice a ps.length ca, .int .i64 y, .int .i64 m, .int .i64 d, .int .i64 h, .int .i64 nn, .int .i64 s_, .bool zd, .int .i64 zn, .int .i64 n] 26)).cell? ⟨w3.heap.size, 0, none⟩ = some (.int .i64 (1 + q)) := by rw [cell_of_row _ _ 0 _ _ _ rBS.out]; rfl
      have e1 : (w3.alloc (.cells #[.int .i64 (1 + q), .string (S tx), .slice a ps.length ca, .int .i64 y, .int .i64 m, .int .i64 d, .int .i64 h, .int .i64 nn, .int .i64 s_, .bool zd, .int .i64 zn, .int .i64 n] 26)).cell? ⟨w3.heap.size, 1, none⟩ = some (.string (S tx)) := by rw [cell_of_row _ _ 1 _ _ _ rBS.out]; rfl
      have e2 : (w3.alloc (.cells #[.int .i64 (1 + q), .string (S tx), .slice a ps.length ca, .int .i64 y, .int .i64 m, .int .i64 d, .int .i64 h, .int .i64 nn, .int .i64 s_, .bool zd, .int .i64 zn, .int .i64 n] 26)).cell? ⟨w3.heap.size, 2, none⟩ = some (.slice a ps.length ca) := by rw [cell_of_row _ _ 2 _ _ _ rBS.out]; rfl
      have e3 : (w3.alloc (.cells #[.int .i64 (1 + q), .string (S tx), .slice a ps.length ca, .int .i64 y, .int .i64 m, .int .i64 d, .int .i64 h, .int .i64 nn, .int .i64 s_, .bool zd, .int .i64 zn, .int .i64 n] 26)).cell? ⟨w3.heap.size, 3, none⟩ = some (.int .i64 y) := by rw [cell_of_row _ _ 3 _ _ _ rBS.out]; rfl
      have e4 : (w3.alloc (.cells #[.int .i64 (1 + q), .string (S tx), .slice a ps.length ca, .int .i64 y, .int .i64 m, .int .i64 d, .int .i64 h, .int .i64 nn, .int .i64 s_, .bool zd, .int .i64 zn, .int .i64 n] 26)).cell? ⟨w3.heap.size, 4, none⟩ = some (.int .i64 m) := by rw [cell_of_row _ _ 4 _ _ _ rBS.out]; rfl
      have e5 : (w3.alloc (.cells #[.int .i64 (1 + q), .string (S tx), .slice a ps.length ca, .int .i64 y, .int .i64 m, .int .i64 d, .int .i64 h, .int .i64 nn, .int .i64 s_, .bool zd, .int .i64 zn, .int .i64 n] 26)).cell? ⟨w3.heap.size, 5, none⟩ = some (.int .i64 d) := by rw [cell_of_row _ _ 5 _ _ _ rBS.out]; rfl
      have e6 : (w3.alloc (.cells #[.int .i64 (1 + q), .string (S tx), .slice a ps.length ca, .int .i64 y, .int .i64 m, .int .i64 d, .int .i64 h, .int .i64 nn, .int .i64 s_, .bool zd, .int .i64 zn, .int .i64 n] 26)).cell? ⟨w3.heap.size, 6, none⟩ = some (.int .i64 h) := by rw [cell_of_row _ _ 6 _ _ _ rBS.out]; rfl
      have e7 : (w3.alloc (.cells #[.int .i64 (1 + q), .string (S tx), .slice a ps.length ca, .int .i64 y, .int .i64 m, .int .i64 d, .int .i64 h, .int .i64 nn, .int .i64 s_, .bool zd, .int .i64 zn, .int .i64 n] 26)).cell? ⟨w3.heap.size, 7, none⟩ = some (.int .i64 nn) := by rw [cell_of_row _ _ 7 _ _ _ rBS.out]; rfl
      have e8 : (w3.alloc (.cells #[.int .i64 (1 + q), .string (S tx), .slice a ps.length ca, .int .i64 y, .int .i64 m, .int .i64 d, .int .i64 h, .int .i64 nn, .int .i64 s_, .bool zd, .int .i64 zn, .int .i64 n] 26)).cell? ⟨w3.heap.size, 8, none⟩ = some (.int .i64 s_) := by rw [cell_of_row _ _ 8 _ _ _ rBS.out]; rfl
      have e9 : (w3.alloc (.cells #[.int .i64 (1 + q), .string (S tx), .slice a ps.length ca, .int .i64 y, .int .i64 m, .int .i64 d, .int .i64 h, .int .i64 nn, .int .i64 s_, .bool zd, .int .i64 zn, .int .i64 n] 26)).cell? ⟨w3.heap.size, 9, none⟩ = some (.bool zd) := by rw [cell_of_row _ _ 9 _ _ _ rBS.out]; rfl
      have e10 : (w3.alloc (.cells #[.int .i64 (1 + q), .string (S tx), .slice a ps.length ca, .int .i64 y, .int .i64 m, .int .i64 d, .int .i64 h, .int .i64 nn, .int .i64 s_, .bool zd, .int .i64 zn, .int .i64 n] 26)).cell? ⟨w3.heap.size, 10, none⟩ = some (.int .i64 zn) := by rw [cell_of_row _ _ 10 _ _ _ rBS.out]; rfl
      have e11 : (w3.alloc (.cells #[.int .i64 (1 + q), .string (S tx), .slice a ps.length ca, .int .i64 y, .int .i64 m, .int .i64 d, .int .i64 h, .int .i64 nn, .int .i64 s_, .bool zd, .int .i64 zn, .int .i64 n] 26)).cell? ⟨w3.heap.size, 11, none⟩ = some (.int .i64 n) := by rw [cell_of_row _ _ 11 _ _ _ rBS.out]; rfl
      refine (HP.out _).use ?_
      clear rBS rAS r3 HL3
      by_cases heq : (1 + q == ty) = true
      · clear VT
        go_wp2_with fail
        try any_goals (exfalso; rename_i hz; simp [heq] at hz; done)
        go_ret
        exact ⟨ret_bool (by simp), by repeat (first | exact GS.out | apply G.drew)⟩
      · have hne : ¬ 1 + q = ty := by simpa using heq
        clear heq
        cases hT1 : isT ty with
        | true =>
          have HT1 : Hid (∀ W, Pure 16 #[.int .i64 ty] W (.bool true)) := hid fun W => by have := texts_any ty W; rwa [hT1] at this
          cases hT2 : isT (1 + q) with
          | true =>
            have HT2 : Hid (∀ W, Pure 16 #[.int .i64 (1 + q)] W (.bool true)) := hid fun W => by have := texts_any (1 + q) W; rwa [hT2] at this
            go_wp2_with fail
            try any_goals (exfalso; rename_i hz; simp [hne] at hz; done)
            refine (HT1.out _).use ?_
            go_wp2_with fail
            try any_goals (exfalso; rename_i hz; simp [hne] at hz; done)
            refine (HT2.out _).use ?_
            go_wp2_with fail
            try any_goals (exfalso; rename_i hz; simp [hne] at hz; done)
            go_ret
            exact ⟨ret_bool (by simp), by repeat (first | exact GS.out | apply G.drew)⟩
          | false =>
            have HT2 : Hid (∀ W, Pure 16 #[.int .i64 (1 + q)] W (.bool false)) := hid fun W => by have := texts_any (1 + q) W; rwa [hT2] at this
            cases hte : tx.isEmpty with
            | true =>
              go_wp2_with fail
              try any_goals (exfalso; rename_i hz; simp [hne] at hz; done)
              refine (HT1.out _).use ?_
              go_wp2_with fail
              try any_goals (exfalso; rename_i hz; simp [hne, hte] at hz; done)
              refine (HT2.out _).use ?_
              go_wp2_with fail
              try any_goals (exfalso; rename_i hz; simp [hne, hte] at hz; done)
              go_ret
              exact ⟨ret_bool (by simp), by repeat (first | exact GS.out | apply G.drew)⟩
            | false =>
              have htn : ¬ tx = [] := by intro e; subst e; cases hte
              have hls : isL ty = false ∧ ¬ ty = 6 := by unfold isT at hT1; unfold isL; simp only [decide_eq_true_eq, decide_eq_false_iff_not] at hT1 ⊢; omega
              obtain ⟨hL1, h6⟩ := hls
              have HS1 : Hid (∀ W, Pure 17 #[.int .i64 ty] W (.bool false)) := hid fun W => by have := lists_any ty W; rwa [hL1] at this
              go_wp2_with fail
              try any_goals (exfalso; rename_i hz; simp [hne] at hz; done)
              refine (HT1.out _).use ?_
              go_wp2_with fail
              try any_goals (exfalso; rename_i hz; simp [hne, htn] at hz; done)
              refine (HT2.out _).use ?_
              go_wp2_with fail
              try any_goals (exfalso; rename_i hz; simp [hne, htn] at hz; done)
              refine (HS1.out _).use ?_
              go_wp2_with fail
              try any_goals (exfalso; rename_i hz; simp [hne, htn, h6] at hz; done)
              have hb := VT.out hne (fun _ => ⟨hT2, htn⟩) (fun h => by rw [hL1] at h; cases h) (fun h => absurd h h6)
              refine (R8.out _ _ (HLS.out.grow (by repeat (first | exact G.refl _ | apply G.drew))) (HM.out.grow (G.trans GS.out (by repeat (first | exact G.refl _ | apply G.drew)))) (HE.out.grow (G.trans GS.out (by repeat (first | exact G.refl _ | apply G.drew))))).use ?_
              rintro v w9 hv g9
              rw [hb] at hv
              obtain ⟨c9, hc9⟩ := hv
              subst hc9
              unfold eno
              go_wp2_with fail
              go_ret
              exact ⟨ret_bool (by simp), G.trans GS.out (G.trans (by repeat (first | exact G.refl _ | apply G.drew)) (by repeat (first | exact g9 | apply G.drew)))⟩
        | false =>
          have HT1 : Hid (∀ W, Pure 16 #[.int .i64 ty] W (.bool false)) := hid fun W => by have := texts_any ty W; rwa [hT1] at this
          cases hL1 : isL ty with
          | true =>
            have HS1 : Hid (∀ W, Pure 17 #[.int .i64 ty] W (.bool true)) := hid fun W => by have := lists_any ty W; rwa [hL1] at this
            cases hL2 : isL (1 + q) with
            | true =>
              have HS2 : Hid (∀ W, Pure 17 #[.int .i64 (1 + q)] W (.bool true)) := hid fun W => by have := lists_any (1 + q) W; rwa [hL2] at this
              go_wp2_with fail
              try any_goals (exfalso; rename_i hz; simp [hne] at hz; done)
              refine (HT1.out _).use ?_
              go_wp2_with fail
              try any_goals (exfalso; rename_i hz; simp [hne] at hz; done)
              refine (HS1.out _).use ?_
              go_wp2_with fail
              try any_goals (exfalso; rename_i hz; simp [hne] at hz; done)
              refine (HS2.out _).use ?_
              go_wp2_with fail
              try any_goals (exfalso; rename_i hz; simp [hne] at hz; done)
              go_ret
              exact ⟨ret_bool (by simp), by repeat (first | exact GS.out | apply G.drew)⟩
            | false =>
              have HS2 : Hid (∀ W, Pure 17 #[.int .i64 (1 + q)] W (.bool false)) := hid fun W => by have := lists_any (1 + q) W; rwa [hL2] at this
              have h6 : ¬ ty = 6 := by unfold isL at hL1; simp only [decide_eq_true_eq] at hL1; omega
              go_wp2_with fail
              try any_goals (exfalso; rename_i hz; simp [hne] at hz; done)
              refine (HT1.out _).use ?_
              go_wp2_with fail
              try any_goals (exfalso; rename_i hz; simp [hne] at hz; done)
              refine (HS1.out _).use ?_
              go_wp2_with fail
              try any_goals (exfalso; rename_i hz; simp [hne] at hz; done)
              refine (HS2.out _).use ?_
              go_wp2_with fail
              try any_goals (exfalso; rename_i hz; simp [hne, h6] at hz; done)
              have hb := VT.out hne (fun h => by rw [hT1] at h; cases h) (fun _ => hL2) (fun h => absurd h h6)
              refine (R8.out _ _ (HLS.out.grow (by repeat (first | exact G.refl _ | apply G.drew))) (HM.out.grow (G.trans GS.out (by repeat (first | exact G.refl _ | apply G.drew)))) (HE.out.grow (G.trans GS.out (by repeat (first | exact G.refl _ | apply G.drew))))).use ?_
              rintro v w9 hv g9
              rw [hb] at hv
              obtain ⟨c9, hc9⟩ := hv
              subst hc9
              unfold eno
              go_wp2_with fail
              go_ret
              exact ⟨ret_bool (by simp), G.trans GS.out (G.trans (by repeat (first | exact G.refl _ | apply G.drew)) (by repeat (first | exact g9 | apply G.drew)))⟩
          | false =>
            have HS1 : Hid (∀ W, Pure 17 #[.int .i64 ty] W (.bool false)) := hid fun W => by have := lists_any ty W; rwa [hL1] at this
            by_cases h6 : (ty == 6) = true
            · by_cases hn : (n == 0) = true
              · skip
                go_wp2_with fail
                try any_goals (exfalso; rename_i hz; simp [hne] at hz; done)
                refine (HT1.out _).use ?_
                go_wp2_with fail
                try any_goals (exfalso; rename_i hz; simp [hne] at hz; done)
                refine (HS1.out _).use ?_
                go_wp2_with fail
                try any_goals (exfalso; rename_i hz; simp [hne, h6, hn] at hz; done)
                go_ret
                exact ⟨ret_bool (by simp), by repeat (first | exact GS.out | apply G.drew)⟩
              · have hn2 : ¬ n = 0 := by simpa using hn
                clear hn
                go_wp2_with fail
                try any_goals (exfalso; rename_i hz; simp [hne] at hz; done)
                refine (HT1.out _).use ?_
                go_wp2_with fail
                try any_goals (exfalso; rename_i hz; simp [hne] at hz; done)
                refine (HS1.out _).use ?_
                go_wp2_with fail
                try any_goals (exfalso; rename_i hz; simp [hne, hn2] at hz; done)
                have hb := VT.out hne (fun h => by rw [hT1] at h; cases h) (fun h => by rw [hL1] at h; cases h) (fun _ => hn2)
                refine (R8.out _ _ (HLS.out.grow (by repeat (first | exact G.refl _ | apply G.drew))) (HM.out.grow (G.trans GS.out (by repeat (first | exact G.refl _ | apply G.drew)))) (HE.out.grow (G.trans GS.out (by repeat (first | exact G.refl _ | apply G.drew))))).use ?_
                rintro v w9 hv g9
                rw [hb] at hv
                obtain ⟨c9, hc9⟩ := hv
                subst hc9
                unfold eno
                go_wp2_with fail
                go_ret
                exact ⟨ret_bool (by simp), G.trans GS.out (G.trans (by repeat (first | exact G.refl _ | apply G.drew)) (by repeat (first | exact g9 | apply G.drew)))⟩
            · have h62 : ¬ ty = 6 := by simpa using h6
              clear h6
              go_wp2_with fail
              try any_goals (exfalso; rename_i hz; simp [hne] at hz; done)
              refine (HT1.out _).use ?_
              go_wp2_with fail
              try any_goals (exfalso; rename_i hz; simp [hne] at hz; done)
              refine (HS1.out _).use ?_
              go_wp2_with fail
              try any_goals (exfalso; rename_i hz; simp [hne, h62] at hz; done)
              have hb := VT.out hne (fun h => by rw [hT1] at h; cases h) (fun h => by rw [hL1] at h; cases h) (fun h => absurd h h62)
              refine (R8.out _ _ (HLS.out.grow (by repeat (first | exact G.refl _ | apply G.drew))) (HM.out.grow (G.trans GS.out (by repeat (first | exact G.refl _ | apply G.drew)))) (HE.out.grow (G.trans GS.out (by repeat (first | exact G.refl _ | apply G.drew))))).use ?_
              rintro v w9 hv g9
              rw [hb] at hv
              obtain ⟨c9, hc9⟩ := hv
              subst hc9
              unfold eno
              go_wp2_with fail
              go_ret
              exact ⟨ret_bool (by simp), G.trans GS.out (G.trans (by repeat (first | exact G.refl _ | apply G.drew)) (by repeat (first | exact g9 | apply G.drew)))⟩

end Go.Proofs.YtedlgpccmlcijaaGreatDoor
