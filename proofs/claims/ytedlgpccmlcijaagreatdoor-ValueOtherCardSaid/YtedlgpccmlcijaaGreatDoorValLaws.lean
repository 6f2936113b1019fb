/-
  WALKS of the laws ValueStill, ValueOther. (written by gen_vallaws.py)
-/
import Derived.Test.YtedlgpccmlcijaaGreatDoorMBound
namespace Go.Proofs.YtedlgpccmlcijaaGreatDoor
open Go.RowKit
set_option linter.unusedVariables false
set_option linter.unusedSimpArgs false

set_option maxRecDepth 100000 in
set_option maxHeartbeats 4000000 in
theorem valueStill_walk (s : List UInt8) (k : Int) (w : World) (zs : s.length ≤ 140737488351232) (zk : -9223372036854775808 ≤ k ∧ k ≤ 9223372036854775807) (hM : HasM w) (hU : HasU w) (hE : LaidE w) : Gives 4 #[.string (S s), .int .i64 k] w (.bool true) := by
  have HM := hid hM
  have HU := hid hU
  have HE := hid hE
  clear hM hU hE
  by_cases hs : s.length ≤ 500
  · have r1 := fun W hm hu => vread_any s k W (by omega) (by omega) hm hu
    cases hr : readV s k with
    | none =>
      rw [hr] at r1
      have R1 := hid r1
      clear r1 hr
      go_enter Tryz.func4, Tryz.ntmps4
      go_wp2_with fail
      refine (valued_any _ HM.out HU.out HE.out).use ?_; intro w1 g1
      have G1 := hid g1
      clear g1
      go_wp2_with fail
      refine (R1.out _ (HM.out.grow G1.out) (HU.out.grow G1.out)).use ?_
      rintro v w2 hv g2
      obtain ⟨e, rfl, t, u, rfl⟩ := hv
      have G2 := hid (G1.out.trans g2)
      clear g2
      simp only [Vl.v, Vl0, St0]
      go_wp2_with fail
      refine (sameValue_any Vl0 none none 0 0 _ (lists_nil _) (lists_nil _) (by decide)).use ?_
      intro w3 g3
      go_wp2_with fail
      go_ret
      exact ⟨rfl, G.trans (by repeat (first | exact G2.out | apply G.drew | apply G.alloc)) g3⟩
    | some x =>
      rw [hr] at r1
      obtain ⟨hok, hty⟩ := val_still s k x hr
      have hsm := read_small hr
      have hb := val_back x hok
      have htl := text_small hsm hok (by omega)
      rw [hty] at hb
      have r2 := fun W pv hl hm he => vwrite_any x pv W hl (by have := hsm.tx; omega) (by have := hsm.ps; omega) hsm.y hm he
      have r3 := fun W hm hu => vread_any x.text k W htl.1 (by intro h; exact htl.2 (hty.trans h)) hm hu
      rw [hb.1] at r3
      have r4 := fun W pv hl hm he => vright_any x pv W hl (by have := hsm.tx; omega) (by have := hsm.ps; omega) hsm.y hm he
      unfold WriteP at r2
      unfold ErrIf at r4
      simp only [hok, if_true] at r2 r4
      have r5 := fun W a b ca cb ha hb => sameValue_any x a b ca cb W ha hb (by have := hsm.ps; omega)
      obtain ⟨tt, htt⟩ : ∃ tt, x.text = tt := ⟨_, rfl⟩
      rw [htt] at r2 r3
      have R1 := hid r1
      have R2 := hid r2
      have R3 := hid r3
      have R4 := hid r4
      have R5 := hid r5
      clear r1 r2 r3 r4 r5 hr hok hsm hb htl htt
      obtain ⟨ty, tx, ps, ⟨y, m, d, h, nn, s_, zd, zn⟩, n⟩ := x
      simp only at hty
      subst hty
      go_enter Tryz.func4, Tryz.ntmps4
      go_wp2_with fail
      refine (valued_any _ HM.out HU.out HE.out).use ?_; intro w1 g1
      have G1 := hid g1
      clear g1
      go_wp2_with fail
      refine (R1.out _ (HM.out.grow G1.out) (HU.out.grow G1.out)).use ?_
      rintro v w2 hv g2
      obtain ⟨pv, rfl, hpl⟩ := hv
      have HPL := hid hpl
      obtain ⟨a, ca, rfl, _⟩ := hpl.len
      have G2 := hid (G1.out.trans g2)
      clear g2 hpl
      simp only [Vl.v] at R2 R4 R5 ⊢
      simp only at HPL
      go_wp2_with fail
      have rA : Hid ((w2.alloc (.cells #[.int .i64 ty, .string (S tx), .slice a ps.length ca, .int .i64 y, .int .i64 m, .int .i64 d, .int .i64 h, .int .i64 nn, .int .i64 s_, .bool zd, .int .i64 zn, .int .i64 n] 26)).heap[w2.heap.size]? = some (.cells #[.int .i64 ty, .string (S tx), .slice a ps.length ca, .int .i64 y, .int .i64 m, .int .i64 d, .int .i64 h, .int .i64 nn, .int .i64 s_, .bool zd, .int .i64 zn, .int .i64 n] 26 (0, 0))) := hid (heap_alloc_new w2 _)
      have gA : G w2 (w2.alloc (.cells #[.int .i64 ty, .string (S tx), .slice a ps.length ca, .int .i64 y, .int .i64 m, .int .i64 d, .int .i64 h, .int .i64 nn, .int .i64 s_, .bool zd, .int .i64 zn, .int .i64 n] 26)) := (G.refl w2).alloc _
      have GA : Hid (G w (w2.alloc (.cells #[.int .i64 ty, .string (S tx), .slice a ps.length ca, .int .i64 y, .int .i64 m, .int .i64 d, .int .i64 h, .int .i64 nn, .int .i64 s_, .bool zd, .int .i64 zn, .int .i64 n] 26))) := hid (G2.out.trans gA)
      have HPA := hid (HPL.out.grow gA)
      clear gA
      refine (R2.out _ _ HPA.out (HM.out.grow GA.out) (HE.out.grow GA.out)).use ?_
      rintro r w3 hr g3
      subst hr
      have r3 : Hid (w3.heap[w2.heap.size]? = some (.cells #[.int .i64 ty, .string (S tx), .slice a ps.length ca, .int .i64 y, .int .i64 m, .int .i64 d, .int .i64 h, .int .i64 nn, .int .i64 s_, .bool zd, .int .i64 zn, .int .i64 n] 26 (0, 0))) := hid (by rw [g3.below.block _ (lt_of_row rA.out)]; exact rA.out)
      have G3 : Hid (G w w3) := hid (GA.out.trans g3)
      have HP3 := hid (HPA.out.grow g3)
      clear g3 rA GA HPA
      go_wp2_with fail
      refine (R3.out _ (HM.out.grow G3.out) (HU.out.grow G3.out)).use ?_
      rintro v w4 hv g4
      obtain ⟨pv2, rfl, hpl⟩ := hv
      have HQ := hid hpl
      obtain ⟨b, cb, rfl, _⟩ := hpl.len
      clear hpl
      simp only [Vl.v]
      simp only at HQ
      have r4 : Hid (w4.heap[w2.heap.size]? = some (.cells #[.int .i64 ty, .string (S tx), .slice a ps.length ca, .int .i64 y, .int .i64 m, .int .i64 d, .int .i64 h, .int .i64 nn, .int .i64 s_, .bool zd, .int .i64 zn, .int .i64 n] 26 (0, 0))) := hid (by rw [g4.below.block _ (lt_of_row r3.out)]; exact r3.out)
      have G4 : Hid (G w w4) := hid (G3.out.trans g4)
      have HP4 := hid (HP3.out.grow g4)
      have hq4 : w2.heap.size < w4.heap.size := lt_of_row r4.out
      have hq5 : ¬ w2.heap.size = w4.heap.size := by omega
      clear g4 r3 G3 HP3
      have d0 : w4.cell? ⟨w2.heap.size, 0, none⟩ = some (.int .i64 ty) := by rw [cell_of_row w4 (w2.heap.size) 0 _ _ _ r4.out]; rfl
      have d1 : w4.cell? ⟨w2.heap.size, 1, none⟩ = some (.string (S tx)) := by rw [cell_of_row w4 (w2.heap.size) 1 _ _ _ r4.out]; rfl
      have d2 : w4.cell? ⟨w2.heap.size, 2, none⟩ = some (.slice a ps.length ca) := by rw [cell_of_row w4 (w2.heap.size) 2 _ _ _ r4.out]; rfl
      have d3 : w4.cell? ⟨w2.heap.size, 3, none⟩ = some (.int .i64 y) := by rw [cell_of_row w4 (w2.heap.size) 3 _ _ _ r4.out]; rfl
      have d4 : w4.cell? ⟨w2.heap.size, 4, none⟩ = some (.int .i64 m) := by rw [cell_of_row w4 (w2.heap.size) 4 _ _ _ r4.out]; rfl
      have d5 : w4.cell? ⟨w2.heap.size, 5, none⟩ = some (.int .i64 d) := by rw [cell_of_row w4 (w2.heap.size) 5 _ _ _ r4.out]; rfl
      have d6 : w4.cell? ⟨w2.heap.size, 6, none⟩ = some (.int .i64 h) := by rw [cell_of_row w4 (w2.heap.size) 6 _ _ _ r4.out]; rfl
      have d7 : w4.cell? ⟨w2.heap.size, 7, none⟩ = some (.int .i64 nn) := by rw [cell_of_row w4 (w2.heap.size) 7 _ _ _ r4.out]; rfl
      have d8 : w4.cell? ⟨w2.heap.size, 8, none⟩ = some (.int .i64 s_) := by rw [cell_of_row w4 (w2.heap.size) 8 _ _ _ r4.out]; rfl
      have d9 : w4.cell? ⟨w2.heap.size, 9, none⟩ = some (.bool zd) := by rw [cell_of_row w4 (w2.heap.size) 9 _ _ _ r4.out]; rfl
      have d10 : w4.cell? ⟨w2.heap.size, 10, none⟩ = some (.int .i64 zn) := by rw [cell_of_row w4 (w2.heap.size) 10 _ _ _ r4.out]; rfl
      have d11 : w4.cell? ⟨w2.heap.size, 11, none⟩ = some (.int .i64 n) := by rw [cell_of_row w4 (w2.heap.size) 11 _ _ _ r4.out]; rfl
      have gB : G w4 (w4.alloc (.cells #[.int .i64 ty, .string (S tx), .slice b ps.length cb, .int .i64 y, .int .i64 m, .int .i64 d, .int .i64 h, .int .i64 nn, .int .i64 s_, .bool zd, .int .i64 zn, .int .i64 n] 26)) := (G.refl w4).alloc _
      have HPB := hid (HP4.out.grow gB)
      have HQB := hid (HQ.out.grow gB)
      have GB : Hid (G w (w4.alloc (.cells #[.int .i64 ty, .string (S tx), .slice b ps.length cb, .int .i64 y, .int .i64 m, .int .i64 d, .int .i64 h, .int .i64 nn, .int .i64 s_, .bool zd, .int .i64 zn, .int .i64 n] 26))) := hid (G4.out.trans gB)
      clear gB
      have rB : Hid ((w4.alloc (.cells #[.int .i64 ty, .string (S tx), .slice b ps.length cb, .int .i64 y, .int .i64 m, .int .i64 d, .int .i64 h, .int .i64 nn, .int .i64 s_, .bool zd, .int .i64 zn, .int .i64 n] 26)).heap[w2.heap.size]? = some (.cells #[.int .i64 ty, .string (S tx), .slice a ps.length ca, .int .i64 y, .int .i64 m, .int .i64 d, .int .i64 h, .int .i64 nn, .int .i64 s_, .bool zd, .int .i64 zn, .int .i64 n] 26 (0, 0))) := hid (by rw [Lib.alloc_old _ _ _ hq4]; exact r4.out)
      go_wp2_with fail
      refine (R5.out _ a b ca cb (HPB.out.grow (by repeat (first | exact G.refl _ | apply G.drew))) (HQB.out.grow (by repeat (first | exact G.refl _ | apply G.drew)))).use ?_
      intro w5 g5
      have g5' : G (w4.alloc (.cells #[.int .i64 ty, .string (S tx), .slice b ps.length cb, .int .i64 y, .int .i64 m, .int .i64 d, .int .i64 h, .int .i64 nn, .int .i64 s_, .bool zd, .int .i64 zn, .int .i64 n] 26)) w5 := G.trans (by repeat (first | exact G.refl _ | apply G.drew)) g5
      have r5 : Hid (w5.heap[w2.heap.size]? = some (.cells #[.int .i64 ty, .string (S tx), .slice a ps.length ca, .int .i64 y, .int .i64 m, .int .i64 d, .int .i64 h, .int .i64 nn, .int .i64 s_, .bool zd, .int .i64 zn, .int .i64 n] 26 (0, 0))) := hid (by rw [g5'.below.block _ (lt_of_row rB.out)]; exact rB.out)
      have G5 : Hid (G w w5) := hid (GB.out.trans g5')
      have HP5 := hid (HPB.out.grow g5')
      clear g5 g5' d0 d1 d2 d3 d4 d5 d6 d7 d8 d9 d10 d11
      have d0 : w5.cell? ⟨w2.heap.size, 0, none⟩ = some (.int .i64 ty) := by rw [cell_of_row w5 (w2.heap.size) 0 _ _ _ r5.out]; rfl
      have d1 : w5.cell? ⟨w2.heap.size, 1, none⟩ = some (.string (S tx)) := by rw [cell_of_row w5 (w2.heap.size) 1 _ _ _ r5.out]; rfl
      have d2 : w5.cell? ⟨w2.heap.size, 2, none⟩ = some (.slice a ps.length ca) := by rw [cell_of_row w5 (w2.heap.size) 2 _ _ _ r5.out]; rfl
      have d3 : w5.cell? ⟨w2.heap.size, 3, none⟩ = some (.int .i64 y) := by rw [cell_of_row w5 (w2.heap.size) 3 _ _ _ r5.out]; rfl
      have d4 : w5.cell? ⟨w2.heap.size, 4, none⟩ = some (.int .i64 m) := by rw [cell_of_row w5 (w2.heap.size) 4 _ _ _ r5.out]; rfl
      have d5 : w5.cell? ⟨w2.heap.size, 5, none⟩ = some (.int .i64 d) := by rw [cell_of_row w5 (w2.heap.size) 5 _ _ _ r5.out]; rfl
      have d6 : w5.cell? ⟨w2.heap.size, 6, none⟩ = some (.int .i64 h) := by rw [cell_of_row w5 (w2.heap.size) 6 _ _ _ r5.out]; rfl
      have d7 : w5.cell? ⟨w2.heap.size, 7, none⟩ = some (.int .i64 nn) := by rw [cell_of_row w5 (w2.heap.size) 7 _ _ _ r5.out]; rfl
      have d8 : w5.cell? ⟨w2.heap.size, 8, none⟩ = some (.int .i64 s_) := by rw [cell_of_row w5 (w2.heap.size) 8 _ _ _ r5.out]; rfl
      have d9 : w5.cell? ⟨w2.heap.size, 9, none⟩ = some (.bool zd) := by rw [cell_of_row w5 (w2.heap.size) 9 _ _ _ r5.out]; rfl
      have d10 : w5.cell? ⟨w2.heap.size, 10, none⟩ = some (.int .i64 zn) := by rw [cell_of_row w5 (w2.heap.size) 10 _ _ _ r5.out]; rfl
      have d11 : w5.cell? ⟨w2.heap.size, 11, none⟩ = some (.int .i64 n) := by rw [cell_of_row w5 (w2.heap.size) 11 _ _ _ r5.out]; rfl
      go_wp2_with fail
      refine (R4.out _ _ HP5.out (HM.out.grow G5.out) (HE.out.grow G5.out)).use ?_
      rintro r w6 hr g6
      subst hr
      go_wp2_with fail
      go_ret
      exact ⟨ret_bool (by simp), G.trans G5.out (by repeat (first | exact g6 | apply G.drew))⟩
  · go_enter Tryz.func4, Tryz.ntmps4
    go_wp2_with fail
    refine (valued_any _ HM.out HU.out HE.out).use ?_; intro w1 g1
    go_wp2_with fail
    go_ret
    exact ⟨rfl, g1⟩

set_option maxRecDepth 100000 in
set_option maxHeartbeats 4000000 in
theorem valueOther_walk (s : List UInt8) (k : Int) (w : World) (zs : s.length ≤ 140737488351232) (zk : -9223372036854775808 ≤ k ∧ k ≤ 9223372036854775807) (hM : HasM w) (hU : HasU w) (hE : LaidE w) : Gives 5 #[.string (S s), .int .i64 k] w (.bool true) := by
  have HM := hid hM
  have HU := hid hU
  have HE := hid hE
  clear hM hU hE
  by_cases hs : s.length ≤ 500
  · have r1 := fun W hm hu => vread_any s k W (by omega) (by omega) hm hu
    cases hr : readV s k with
    | none =>
      rw [hr] at r1
      have R1 := hid r1
      clear r1 hr
      go_enter Tryz.func5, Tryz.ntmps5
      go_wp2_with fail
      refine (valued_any _ HM.out HU.out HE.out).use ?_; intro w1 g1
      have G1 := hid g1
      clear g1
      go_wp2_with fail
      refine (R1.out _ (HM.out.grow G1.out) (HU.out.grow G1.out)).use ?_
      rintro v w2 hv g2
      obtain ⟨e, rfl, t, u, rfl⟩ := hv
      have G2 := hid (G1.out.trans g2)
      clear g2
      simp only [Vl.v, Vl0, St0]
      go_wp2_with fail
      go_ret
      exact ⟨rfl, by repeat (first | exact G2.out | apply G.drew | apply G.alloc)⟩
    | some x =>
      rw [hr] at r1
      obtain ⟨h8, hok, htx⟩ := val_other s k x hr
      have r2 := fun W hm hu => vread_any s 8 W (by omega) (by omega) hm hu
      rw [h8] at r2
      have r3 := fun W pv hl hm he => vwrite_any (tV 8 s) pv W hl (by show s.length ≤ _; omega) (by simp [tV, sumP]) (by simp [tV, St0]) hm he
      unfold WriteP at r3
      simp only [hok, if_true, htx] at r3
      have R1 := hid r1
      have R2 := hid r2
      have R3 := hid r3
      clear r1 r2 r3 hr h8 hok htx
      obtain ⟨ty, tx, ps, ⟨y, m, d, h, nn, s_, zd, zn⟩, n⟩ := x
      go_enter Tryz.func5, Tryz.ntmps5
      go_wp2_with fail
      refine (valued_any _ HM.out HU.out HE.out).use ?_; intro w1 g1
      have G1 := hid g1
      clear g1
      go_wp2_with fail
      refine (R1.out _ (HM.out.grow G1.out) (HU.out.grow G1.out)).use ?_
      rintro v w2 hv g2
      obtain ⟨pv, rfl, hpl⟩ := hv
      obtain ⟨a, ca, rfl, _⟩ := hpl.len
      have G2 := hid (G1.out.trans g2)
      clear g2 hpl
      simp only [Vl.v]
      go_wp2_with fail
      have G2a := hid (G2.out.alloc (.cells #[.int .i64 ty, .string (S tx), .slice a ps.length ca, .int .i64 y, .int .i64 m, .int .i64 d, .int .i64 h, .int .i64 nn, .int .i64 s_, .bool zd, .int .i64 zn, .int .i64 n] 26))
      refine (R2.out _ (HM.out.grow (by repeat (first | exact G2.out | apply G.drew | apply G.alloc))) (HU.out.grow (by repeat (first | exact G2.out | apply G.drew | apply G.alloc)))).use ?_
      rintro v w3 hv g3
      obtain ⟨pv, rfl, hpl⟩ := hv
      have HPL := hid hpl
      obtain ⟨b, cb, rfl, _⟩ := hpl.len
      have G3 : Hid (G w w3) := hid (G.trans (by repeat (first | exact G2.out | apply G.drew | apply G.alloc)) g3)
      clear g3 hpl
      simp only [Vl.v, tV, St0, List.length_nil] at R3 HPL ⊢
      go_wp2_with fail
      refine (R3.out _ _ (HPL.out.grow (by repeat (first | exact G.refl _ | apply G.drew | apply G.alloc))) (HM.out.grow (by repeat (first | exact G3.out | apply G.drew | apply G.alloc))) (HE.out.grow (by repeat (first | exact G3.out | apply G.drew | apply G.alloc)))).use ?_
      rintro r w4 hr g4
      subst hr
      go_wp2_with fail
      go_ret
      exact ⟨ret_bool (by simp), G.trans (by repeat (first | exact G3.out | apply G.drew | apply G.alloc)) g4⟩
  · go_enter Tryz.func5, Tryz.ntmps5
    go_wp2_with fail
    refine (valued_any _ HM.out HU.out HE.out).use ?_; intro w1 g1
    go_wp2_with fail
    go_ret
    exact ⟨rfl, g1⟩

end Go.Proofs.YtedlgpccmlcijaaGreatDoor
