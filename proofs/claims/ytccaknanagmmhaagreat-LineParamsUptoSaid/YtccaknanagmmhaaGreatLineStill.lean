/-
  The law LineStill walked.
-/
import Derived.Test.YtccaknanagmmhaaGreatLineSmall
import Derived.Test.YtccaknanagmmhaaGreatLined
namespace Go.Proofs.YtccaknanagmmhaaGreat
open Go.RowKit
set_option linter.unusedVariables false
set_option linter.unusedSimpArgs false

theorem lnV_eq (p : Ln) (pv : Value) : lnV p pv = .agg #[.string (S p.hd.group), .string (S p.hd.name), pv, .string (S p.value)] := rfl
def lnNil : Ln := ⟨⟨[], [], []⟩, []⟩
theorem params_nil (w : World) : IsParams w (.slice none 0 0) [] := ⟨_, _, rfl, Nat.le_refl _, fun h => absurd rfl h⟩
set_option maxRecDepth 100000 in
set_option maxHeartbeats 4000000 in
theorem lineStill_walk (s : L8) (cf : Bool) (w : World) (zs : s.length ≤ 140737488351232) : Gives 4 #[.string (S s), .bool cf] w (.bool true) := by
  by_cases hbig : 1500 < s.length
  · go_enter Tryz.func4, Tryz.ntmps4
    go_wp2_with fail
    refine (lined_any _).use ?_; intro w1 g1
    go_wp2_with fail
    go_ret
    exact ⟨rfl, (by repeat (first | exact G.refl _ | assumption | apply G.drew | apply G.drewN | apply G.alloc | refine G.trans ?_ (by assumption)))⟩
  · have hl : s.length ≤ 1500 := by omega
    cases hp : parseP cf s with
    | error ck =>
      obtain ⟨c, k⟩ := ck
      have HP := hid hp
      clear hp
      go_enter Tryz.func4, Tryz.ntmps4
      go_wp2_with fail
      refine (lined_any _).use ?_; intro w1 g1
      have G1 := hid g1
      clear g1
      go_wp2_with fail
      refine (lineParse_use s cf w1 (by omega)).use ?_
      rw [HP.out]
      rintro v w2 ⟨e, rfl, he⟩ g2
      obtain ⟨b, rfl, _⟩ := he
      have G2 := hid (G1.out.trans g2)
      clear g2
      go_wp2_with fail
      refine (lnSame_refl lnNil _ _ _ (params_nil _) (params_nil _) (by decide)).use ?_
      intro w3 g3
      go_wp2_with fail
      go_ret
      exact ⟨rfl, G2.out.trans (G.trans (by repeat (first | exact G.refl _ | assumption | apply G.drew | apply G.drewN | apply G.alloc | refine G.trans ?_ (by assumption))) g3)⟩
    | ok p =>
      have hr := right_read hp
      have hre := rightE_none.2 hr
      have hsz := parse_small hp
      have hps := print_small cf p
      have HP := hid hp
      have HPP := hid (parse_print hr)
      have HRE := hid hre
      obtain ⟨t, ht⟩ : ∃ t, printW cf p = t := ⟨_, rfl⟩
      rw [ht] at hps HPP
      have HT := hid ht
      have hE : hasE t (58 :: p.value) = true := hasE_of ⟨headW cf p.hd, by rw [← ht]; rfl⟩
      have HE := hid hE
      clear hp hr hre ht hE
      have hpv : p.value.length ≤ 1500 := by unfold sizeL at hsz; omega
      go_enter Tryz.func4, Tryz.ntmps4
      go_wp2_with fail
      refine (lined_any _).use ?_; intro w1 g1
      have G1 := hid g1
      clear g1
      go_wp2_with fail
      refine (lineParse_use s cf w1 (by omega)).use ?_
      rw [HP.out]
      rintro v w2 ⟨pv, rfl, hpm⟩ g2
      have G2 := hid (G1.out.trans g2)
      have PM := hid hpm
      obtain ⟨pa, pc, rfl, _, _⟩ := hpm
      rw [lnV_eq]
      clear g2
      go_upto_region 6 with fail
      obtain ⟨B, hB⟩ : ∃ B, B = w2.heap.size := ⟨_, rfl⟩
      generalize hw3 : World.alloc w2 _ = w3
      have b3 : LnAt w3 B p (.slice pa p.hd.params.length pc) := by rw [← hw3, hB]; exact LnAt.new _ _ _
      have g3 : G w2 w3 := by rw [← hw3]; exact (G.refl _).alloc _
      rw [← hB]
      have B3 := hid b3
      have G3 := hid (G2.out.trans g3)
      have PM3 := hid (PM.out.grow g3)
      have c0 := b3.c0
      have c1 := b3.c1
      have c2 := b3.c2
      have c3 := b3.c3
      clear hw3 hB b3 g3
      go_wp2_with fail
      refine (lnPrint_any p _ cf w3 PM3.out (by omega)).use ?_
      intro v w4 hv g4
      obtain rfl := hv.good HRE.out
      rw [HT.out]
      have B4 := hid (B3.out.grow g4)
      have G4 := hid (G3.out.trans g4)
      have PM4 := hid (PM3.out.grow g4)
      clear hv g4 c0 c1 c2 c3
      go_wp2_with fail
      refine (lineParse_use t cf w4 (by omega)).use ?_
      rw [HPP.out]
      rintro v w5 ⟨pv, rfl, hpm⟩ g5
      have PN := hid hpm
      obtain ⟨qa, qc, rfl, _, _⟩ := hpm
      rw [lnV_eq]
      have B5 := hid (B4.out.grow g5)
      have G5 := hid (G4.out.trans g5)
      have PM5 := hid (PM4.out.grow g5)
      have hB5 := B5.out.lt
      clear g5
      go_upto_region 10 with fail
      obtain ⟨C, hC⟩ : ∃ C, C = w5.heap.size := ⟨_, rfl⟩
      generalize hw6 : World.alloc w5 _ = w6
      have b6 : LnAt w6 C p (.slice qa p.hd.params.length qc) := by rw [← hw6, hC]; exact LnAt.new _ _ _
      have g6 : G w5 w6 := by rw [← hw6]; exact (G.refl _).alloc _
      rw [← hC]
      have C6 := hid b6
      have B6 := hid (B5.out.grow g6)
      have G6 := hid (G5.out.trans g6)
      have PM6 := hid (PM5.out.grow g6)
      have PN6 := hid (PN.out.grow g6)
      have c0 := B6.out.c0
      have c1 := B6.out.c1
      have c2 := B6.out.c2
      have c3 := B6.out.c3
      clear hw6 hC b6 g6
      go_wp2_with fail
      refine (lnRight_any p _ cf w6 PM6.out (by omega)).use ?_
      rw [HRE.out]
      intro x w7 hx g7
      obtain rfl : x = .nilIface := hx
      have B7 := hid (B6.out.grow g7)
      have C7 := hid (C6.out.grow g7)
      have G7 := hid (G6.out.trans g7)
      have PM7 := hid (PM6.out.grow g7)
      have PN7 := hid (PN6.out.grow g7)
      have c0 := B7.out.c0
      have c1 := B7.out.c1
      have c2 := B7.out.c2
      have c3 := B7.out.c3
      have e0 := C7.out.c0
      have e1 := C7.out.c1
      have e2 := C7.out.c2
      have e3 := C7.out.c3
      clear g7
      go_wp2_with fail
      refine (lnSame_refl p _ _ w7 PM7.out PN7.out (by omega)).use ?_
      intro w8 g8
      have c3 := (B7.out.grow g8).c3
      have G8 := hid (G7.out.trans g8)
      have HS := hid (fun W => hasSuffix_any t (58 :: p.value) W (by omega))
      rw [HE.out] at HS
      clear g8 c0 c1 c2 e0 e1 e2 e3
      go_wp2_with fail
      refine (HS.out _).use ?_
      go_wp2_with fail
      go_ret
      exact ⟨rfl, G8.out⟩

end Go.Proofs.YtccaknanagmmhaaGreat
