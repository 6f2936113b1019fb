/-
  The laws LineBack and LineCut walked.
-/
import Derived.Test.YtccaknanagmmhaaGreatLineQuotes
import Derived.Test.YtccaknanagmmhaaGreatPick
namespace Go.Proofs.YtccaknanagmmhaaGreat
open Go.RowKit
set_option linter.unusedVariables false
set_option linter.unusedSimpArgs false

theorem lnWide_any (p : Ln) (pv : Value) (w : World) (hP : IsParams w pv p.hd.params) (hb : sizeL p ≤ 1048576) : Gives 10 #[lnV p pv] w (.bool (decide (2500 < wideN p.hd.params + p.hd.group.length + p.hd.name.length + p.value.length))) := by
  unfold sizeL at hb
  exact wide_any p.hd.group p.hd.name p.value pv p.hd.params w hP (by omega) (by omega) (by omega) (by omega)
theorem sizeL_eq (p : Ln) : wideN p.hd.params + p.hd.group.length + p.hd.name.length + p.value.length = sizeL p := by unfold sizeL; omega
set_option maxRecDepth 100000 in
set_option maxHeartbeats 4000000 in
theorem lineBack_walk (p : Ln) (pv : Value) (cf : Bool) (w : World) (hP : IsParams w pv p.hd.params) (hb : sizeL p ≤ 1048576) : Gives 3 #[lnV p pv, .bool cf] w (.bool true) := by
  have HP := hid hP
  have WD := hid (fun W (h : IsParams W pv p.hd.params) => lnWide_any p pv W h hb)
  obtain ⟨pa, pc, rfl, _, _⟩ := hP
  rw [lnV_eq]
  go_enter Tryz.func3, Tryz.ntmps3
  go_upto_region 1 with fail
  obtain ⟨B, hB⟩ : ∃ B, B = w.heap.size := ⟨_, rfl⟩
  generalize hw0 : World.alloc w _ = w0
  have b0 : LnAt w0 B p (.slice pa p.hd.params.length pc) := by rw [← hw0, hB]; exact LnAt.new _ _ _
  have g0 : G w w0 := by rw [← hw0]; exact (G.refl _).alloc _
  rw [← hB]
  have HB0 := hid b0
  have G0 := hid g0
  clear hw0 hB b0 g0
  go_wp2_with fail
  refine (lined_any _).use ?_; intro w1 g1
  have B1 := hid (HB0.out.grow g1)
  have G1 := hid (G0.out.trans g1)
  have P1 := hid (HP.out.grow G1.out)
  have c0 := B1.out.c0
  have c1 := B1.out.c1
  have c2 := B1.out.c2
  have c3 := B1.out.c3
  clear g1
  go_wp2_with fail
  refine (WD.out w1 P1.out).use ?_
  intro w2 g2
  rw [sizeL_eq]
  have B2 := hid (B1.out.grow g2)
  have G2 := hid (G1.out.trans g2)
  have P2 := hid (P1.out.grow g2)
  have d0 := B2.out.c0
  have d1 := B2.out.c1
  have d2 := B2.out.c2
  have d3 := B2.out.c3
  clear g2 c0 c1 c2 c3
  cases hd : decide (2500 < sizeL p) with
  | true =>
    clear hd
    go_wp2_with fail
    go_ret
    exact ⟨rfl, G2.out⟩
  | false =>
    have hsz : sizeL p ≤ 2500 := by have := of_decide_eq_false hd; omega
    have LP := hid (lnPrint_any p (.slice pa p.hd.params.length pc) cf w2 P2.out (by omega))
    clear hd
    go_wp2_with fail
    refine LP.out.use ?_
    intro v w3 hv g3
    have B3 := hid (B2.out.grow g3)
    have G3 := hid (G2.out.trans g3)
    have P3 := hid (P2.out.grow g3)
    have LR := hid (lnRight_any p (.slice pa p.hd.params.length pc) cf w3 P3.out (by omega))
    have c0 := B3.out.c0
    have c1 := B3.out.c1
    have c2 := B3.out.c2
    have c3 := B3.out.c3
    clear g3 d0 d1 d2 d3 LP
    cases hr : rightE cf p with
    | some o =>
      have HR := hid hr
      obtain ⟨t, x, rfl⟩ := hv.bad hr
      clear hr
      go_wp2_with fail
      refine LR.out.use ?_
      rw [HR.out]
      intro e w4 he g4
      obtain ⟨t2, x2, rfl⟩ := he.iface
      have G4 := hid (G3.out.trans g4)
      clear he g4 c0 c1 c2 c3
      go_wp2_with fail
      go_ret
      exact ⟨rfl, G4.out⟩
    | none =>
      have HR := hid hr
      obtain rfl := hv.good hr
      have hrb := rightE_none.1 hr
      have hps := print_small cf p
      have hpp := parse_print hrb
      obtain ⟨t, ht⟩ : ∃ t, printW cf p = t := ⟨_, rfl⟩
      rw [ht] at hps hpp ⊢
      have HPP := hid hpp
      clear hr hrb hv ht hpp
      go_wp2_with fail
      refine LR.out.use ?_
      rw [HR.out]
      intro e w4 he g4
      obtain rfl : e = .nilIface := he
      have B4 := hid (B3.out.grow g4)
      have G4 := hid (G3.out.trans g4)
      have P4 := hid (P3.out.grow g4)
      have d0 := B4.out.c0
      clear g4 c0 c1 c2 c3
      go_wp2_with fail
      refine (lineParse_use t cf w4 (by omega)).use ?_
      rw [HPP.out]
      rintro x w5 ⟨pv, rfl, hpm⟩ g5
      have PN := hid hpm
      obtain ⟨qa, qc, rfl, _, _⟩ := hpm
      rw [lnV_eq]
      have B5 := hid (B4.out.grow g5)
      have G5 := hid (G4.out.trans g5)
      have P5 := hid (P4.out.grow g5)
      have hB5 := B5.out.lt
      clear g5 d0
      go_upto_region 9 with fail
      obtain ⟨C, hC⟩ : ∃ C, C = w5.heap.size := ⟨_, rfl⟩
      generalize hw6 : World.alloc w5 _ = w6
      have b6 : LnAt w6 C p (.slice qa p.hd.params.length qc) := by rw [← hw6, hC]; exact LnAt.new _ _ _
      have g6 : G w5 w6 := by rw [← hw6]; exact (G.refl _).alloc _
      rw [← hC]
      have G6 := hid (G5.out.trans g6)
      have P6 := hid (P5.out.grow g6)
      have PN6 := hid (PN.out.grow g6)
      have B6 := hid (B5.out.grow g6)
      have c0 := B6.out.c0
      have c1 := B6.out.c1
      have c2 := B6.out.c2
      have c3 := B6.out.c3
      have e0 := b6.c0
      have e1 := b6.c1
      have e2 := b6.c2
      have e3 := b6.c3
      clear hw6 hC b6 g6
      go_wp2_with fail
      refine (lnSame_refl p _ _ w6 P6.out PN6.out (by omega)).use ?_
      intro w7 g7
      go_wp2_with fail
      go_ret
      exact ⟨rfl, G6.out.trans g7⟩

set_option maxRecDepth 100000 in
set_option maxHeartbeats 4000000 in
theorem lineCut_walk (p : Ln) (pv : Value) (cf : Bool) (i : Int) (w : World) (hP : IsParams w pv p.hd.params) (hb : sizeL p ≤ 1048576) (hi : -9223372036854775808 ≤ i ∧ i ≤ 9223372036854775807) : Gives 6 #[lnV p pv, .bool cf, .int .i64 i] w (.bool true) := by
  have HP := hid hP
  have WD := hid (fun W (h : IsParams W pv p.hd.params) => lnWide_any p pv W h hb)
  obtain ⟨pa, pc, rfl, _, _⟩ := hP
  rw [lnV_eq]
  go_enter Tryz.func6, Tryz.ntmps6
  go_upto_region 1 with fail
  obtain ⟨B, hB⟩ : ∃ B, B = w.heap.size := ⟨_, rfl⟩
  generalize hw0 : World.alloc w _ = w0
  have b0 : LnAt w0 B p (.slice pa p.hd.params.length pc) := by rw [← hw0, hB]; exact LnAt.new _ _ _
  have g0 : G w w0 := by rw [← hw0]; exact (G.refl _).alloc _
  rw [← hB]
  have HB0 := hid b0
  have G0 := hid g0
  clear hw0 hB b0 g0
  go_wp2_with fail
  refine (lined_any _).use ?_; intro w1 g1
  have B1 := hid (HB0.out.grow g1)
  have G1 := hid (G0.out.trans g1)
  have P1 := hid (HP.out.grow G1.out)
  have c0 := B1.out.c0
  have c1 := B1.out.c1
  have c2 := B1.out.c2
  have c3 := B1.out.c3
  clear g1
  go_wp2_with fail
  refine (WD.out w1 P1.out).use ?_
  intro w2 g2
  rw [sizeL_eq]
  have B2 := hid (B1.out.grow g2)
  have G2 := hid (G1.out.trans g2)
  have P2 := hid (P1.out.grow g2)
  have d0 := B2.out.c0
  have d1 := B2.out.c1
  have d2 := B2.out.c2
  have d3 := B2.out.c3
  clear g2 c0 c1 c2 c3
  cases hd : decide (2500 < sizeL p) with
  | true =>
    clear hd
    go_wp2_with fail
    go_ret
    exact ⟨rfl, G2.out⟩
  | false =>
    have hsz : sizeL p ≤ 2500 := by have := of_decide_eq_false hd; omega
    have LP := hid (lnPrint_any p (.slice pa p.hd.params.length pc) cf w2 P2.out (by omega))
    clear hd
    go_wp2_with fail
    refine LP.out.use ?_
    intro v w3 hv g3
    have B3 := hid (B2.out.grow g3)
    have G3 := hid (G2.out.trans g3)
    have c3 := B3.out.c3
    clear g3 d0 d1 d2 d3 LP
    cases hr : rightE cf p with
    | some o =>
      obtain ⟨t, x, rfl⟩ := hv.bad hr
      clear hr
      go_wp2_with fail
      go_ret
      exact ⟨rfl, G3.out⟩
    | none =>
      obtain rfl := hv.good hr
      have hrb := rightE_none.1 hr
      have hps := print_small cf p
      obtain ⟨h, hh⟩ : ∃ h, headW cf p.hd = h := ⟨_, rfl⟩
      have hpt : printW cf p = h ++ 58 :: p.value := by rw [← hh]; rfl
      obtain ⟨t, ht⟩ : ∃ t, printW cf p = t := ⟨_, rfl⟩
      rw [ht] at hps hpt ⊢
      have hE : hasE t (58 :: p.value) = true := hasE_of ⟨h, hpt⟩
      have hvl : p.value.length ≤ 2500 := by unfold sizeL at hsz; omega
      have CS := hid (fun W => cutSuffix_any t (58 :: p.value) W (by omega))
      have htk : t.take (t.length - (58 :: p.value).length) = h := by rw [hpt]; simp
      rw [hE, htk] at CS
      rw [if_pos rfl] at CS
      have hhl : h.length ≤ 8000 := by rw [hpt] at hps; simp at hps; omega
      have hle := pickV_lt i (n := (h.length : Int) + 1) (by omega)
      have PK := hid (fun W => pick_any i ((h.length : Int) + 1) W (by omega) (by omega))
      obtain ⟨k, hk⟩ : ∃ k, pickV i ((h.length : Int) + 1) = k := ⟨_, rfl⟩
      rw [hk] at PK hle
      have hkl : k ≤ h.length := by omega
      obtain ⟨e, he⟩ := parse_cut hrb (h.take k) (h.drop k) (by rw [hh]; simp)
      obtain ⟨c, q⟩ := e
      have HE := hid he
      have htl : (h.take k).length ≤ 10000 := by simp; omega
      have hki : (k : Int) ≤ (h.length : Int) := by omega
      clear hr hrb hv ht hpt hE htk hh hk he hle
      go_wp2_with fail
      refine (CS.out _).use ?_
      go_wp2_with fail
      refine (PK.out _).use ?_
      go_wp2_with fail
      refine (lineParse_use (h.take k) cf w3 htl).use ?_
      rw [HE.out]
      rintro x w5 ⟨e, rfl, he⟩ g5
      obtain ⟨b, rfl, _⟩ := he
      have G5 := hid (G3.out.trans g5)
      clear g5
      go_wp2_with fail
      go_ret
      exact ⟨rfl, G5.out.alloc _⟩

end Go.Proofs.YtccaknanagmmhaaGreat
