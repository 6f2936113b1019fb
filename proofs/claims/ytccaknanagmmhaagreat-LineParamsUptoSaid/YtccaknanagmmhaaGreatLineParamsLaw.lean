/-
  The law LineParams walked.
-/
import Derived.Test.YtccaknanagmmhaaGreatLineBack
import Derived.Deep.AppendLies
import Derived.Deep.Onto
import Derived.Deep.RegionHeld3
namespace Go.Proofs.YtccaknanagmmhaaGreat
open Go.RowKit
set_option linter.unusedVariables false
set_option linter.unusedSimpArgs false

theorem IsParams.lone {w : World} {c : Nat} {nm : List UInt8} {sv : Value} {vs : List (List UInt8)} (h1 : w.cell? ⟨c, 0, none⟩ = some (.string (S nm))) (h2 : w.cell? ⟨c, 1, none⟩ = some sv) (hs : IsStrs w sv vs) :
    IsParams w (.slice (some ⟨c, 0, none⟩) 1 1) [(nm, vs)] := by
  refine ⟨_, 1, rfl, Nat.le_refl _, fun _ => ⟨c, 0, rfl, World.block_lt_of_cell? _ _ h1, fun i p hp => ?_⟩⟩
  match i, hp with
  | 0, hp => simp at hp; subst hp; exact ⟨sv, by simpa using h1, by simpa using h2, hs⟩
  | i + 1, hp => simp at hp
def lnMore (p : Ln) (q : Pm) : Ln := ⟨⟨p.hd.group, p.hd.name, p.hd.params ++ [q]⟩, p.value⟩
theorem wideN_snoc (ps : List Pm) (q : Pm) : wideN (ps ++ [q]) = wideN ps + 1 + lensP q := by
  unfold wideN; simp; omega
theorem sizeL_more (p : Ln) (q : Pm) : sizeL (lnMore p q) = sizeL p + 1 + lensP q := by
  unfold sizeL lnMore; simp only [wideN_snoc]; omega
theorem more_err {cf : Bool} {p : Ln} {q : Pm} {o : Int × Option Nat} (h : rightE cf p = some o) : ∃ o', rightE cf (lnMore p q) = some o' := by
  cases hr : rightE cf (lnMore p q) with
  | some o' => exact ⟨o', rfl⟩
  | none =>
    have := rightE_none.2 (right_less (rightE_none.1 hr)).1
    rw [show (⟨⟨p.hd.group, p.hd.name, p.hd.params⟩, p.value⟩ : Ln) = p from rfl, h] at this
    cases this
theorem hasP_of {a b : L8} (h : ∃ c, a = b ++ c) : hasP a b = true := by obtain ⟨c, rfl⟩ := h; exact hasP_append _ _

set_option maxRecDepth 100000 in
set_option maxHeartbeats 8000000 in
theorem lineParams_walk (p : Ln) (pv : Value) (q : Pm) (sv : Value) (cf : Bool) (w : World) (hP : IsParams w pv p.hd.params) (hform : pv = .slice none 0 0 ∨ ∃ a n c, pv = .slice (some a) n c) (hb : sizeL p ≤ 1048576) (hv : IsStrs w sv q.2) (hb2 : lensP q ≤ 1048576) :
    Gives 8 #[lnV p pv, .agg #[.string (S q.1), sv], .bool cf] w (.bool true) := by
  have HP := hid hP
  have HF := hid hform
  have HV := hid hv
  have WD := hid (fun W (h : IsParams W pv p.hd.params) => lnWide_any p pv W h hb)
  have hwq : wideN [q] = 1 + lensP q := by simp [wideN]
  have hlq : lensP q = q.1.length + q.2.length + (q.2.map List.length).sum := rfl
  obtain ⟨nm, vs⟩ := q
  obtain ⟨sa, sc, rfl, hsc⟩ := hv.len
  have WP := hid (fun W u (h : IsParams W u [(nm, vs)]) => wide_any [] [] [] u [(nm, vs)] W h (by omega) (by simp) (by simp) (by simp))
  obtain ⟨pa, pc, rfl, _, _⟩ := hP
  rw [lnV_eq]
  have HWQ := hid hwq
  have HLQ := hid hlq
  clear hform hv hwq hlq
  go_enter Tryz.func8, Tryz.ntmps8
  go_upto_region 1 with fail
  obtain ⟨B, hB⟩ : ∃ B, B = w.heap.size := ⟨_, rfl⟩
  obtain ⟨D, hD⟩ : ∃ D, D = w.heap.size + 1 := ⟨_, rfl⟩
  generalize hw0 : World.alloc _ _ = w0
  have b0 : LnAt w0 B p (.slice pa p.hd.params.length pc) := by rw [← hw0, hB]; exact (LnAt.new _ _ _).grow ((G.refl _).alloc _)
  have g0 : G w w0 := by rw [← hw0]; exact ((G.refl _).alloc _).alloc _
  have q0 : w0.heap[D]? = some (.cells #[.string (S nm), .slice sa vs.length sc] 41) := by
    rw [← hw0, hD]
    have := World.alloc_heap_new (w.alloc (.cells #[.string (S p.hd.group), .string (S p.hd.name), .slice pa p.hd.params.length pc, .string (S p.value)] 24)) (.cells #[.string (S nm), .slice sa vs.length sc] 41)
    rwa [World.size_alloc] at this
  rw [← hD, ← hB]
  have HB0 := hid b0
  have HQ0 := hid q0
  have G0 := hid g0
  have HQG : Hid (∀ W, G w0 W → W.heap[D]? = some (.cells #[.string (S nm), .slice sa vs.length sc] 41)) := hid (fun W g => (g.below.block D (lt_of_row q0)).trans q0)
  clear hw0 hB hD b0 g0 q0
  go_wp2_with fail
  refine (lined_any _).use ?_; intro w1 g1
  have M1 := hid g1
  have B1 := hid (HB0.out.grow g1)
  have G1 := hid (G0.out.trans g1)
  have P1 := hid (HP.out.grow G1.out)
  have c0 := B1.out.c0
  have c1 := B1.out.c1
  have c2 := B1.out.c2
  have c3 := B1.out.c3
  clear g1
  go_wp2_with fail
  refine (WD.out w1 P1.out).use ?_
  intro w2 g2
  rw [sizeL_eq]
  have M2 := hid (M1.out.trans g2)
  have B2 := hid (B1.out.grow g2)
  have G2 := hid (G1.out.trans g2)
  have P2 := hid (P1.out.grow g2)
  have q2 := HQG.out w2 M2.out
  have d0 : w2.cell? ⟨D, 0, none⟩ = some (.string (S nm)) := by rw [cell_of_row w2 D 0 _ _ _ q2]; rfl
  have d1 : w2.cell? ⟨D, 1, none⟩ = some (.slice sa vs.length sc) := by rw [cell_of_row w2 D 1 _ _ _ q2]; rfl
  clear g2 c0 c1 c2 c3 q2
  cases hd : decide (2500 < sizeL p) with
  | true =>
    clear hd
    go_wp2_with fail
    go_ret
    exact ⟨rfl, G2.out⟩
  | false =>
    have hsz : sizeL p ≤ 2500 := by have := of_decide_eq_false hd; omega
    clear hd
    go_wp2_with fail
    generalize hwa : World.alloc w2 _ = wa
    have ga : G w2 wa := by rw [← hwa]; exact (G.refl _).alloc _
    have hP1 : IsParams wa (.slice (some ⟨w2.heap.size, 0, none⟩) 1 1) [(nm, vs)] := IsParams.lone (by rw [← hwa]; simp [go_sem]) (by rw [← hwa]; simp [go_sem]) (HV.out.grow (G2.out.trans ga))
    refine (WP.out wa _ hP1).use ?_
    intro w3 g3
    have M3 := hid ((M2.out.trans ga).trans g3)
    have B3 := hid ((B2.out.grow ga).grow g3)
    have G3 := hid ((G2.out.trans ga).trans g3)
    have P3 := hid ((P2.out.grow ga).grow g3)
    have c0 := B3.out.c0
    have c1 := B3.out.c1
    have c2 := B3.out.c2
    have c3 := B3.out.c3
    clear hwa ga hP1 g3 d0 d1
    cases hd2 : decide (2500 < wideN [(nm, vs)] + ([] : List UInt8).length + ([] : List UInt8).length + ([] : List UInt8).length) with
    | true =>
      clear hd2
      go_wp2_with fail
      go_ret
      exact ⟨rfl, G3.out⟩
    | false =>
      have hq2 : lensP (nm, vs) ≤ 2500 := by have h1 := of_decide_eq_false hd2; have h2 := HWQ.out; simp only [List.length_nil] at h1; omega
      have hnl : nm.length ≤ 2500 := by have := HLQ.out; omega
      clear hd2 WP WD
      have LP := hid (lnPrint_any p (.slice pa p.hd.params.length pc) cf w3 P3.out (by omega))
      go_wp2_with fail
      refine LP.out.use ?_
      intro v w4 hv g4
      have hcase : ∃ s e, v = .tuple #[.string (S s), e] ∧ ((rightE cf p = none ∧ s = printW cf p ∧ e = .nilIface) ∨ ((∃ o, rightE cf p = some o) ∧ s = [] ∧ ∃ t x, e = .iface t x)) := by
        cases hr : rightE cf p with
        | some o => obtain ⟨t, x, rfl⟩ := hv.bad hr; exact ⟨[], _, rfl, .inr ⟨⟨o, rfl⟩, rfl, t, x, rfl⟩⟩
        | none => exact ⟨_, _, hv.good hr, .inl ⟨rfl, rfl, rfl⟩⟩
      obtain ⟨s, e, rfl, hcs⟩ := hcase
      have HCS := hid hcs
      have M4 := hid (M3.out.trans g4)
      have B4 := hid (B3.out.grow g4)
      have G4 := hid (G3.out.trans g4)
      have P4 := hid (P3.out.grow g4)
      have d0 := B4.out.c0
      have d1 := B4.out.c1
      have d2 := B4.out.c2
      have d3 := B4.out.c3
      have hB4 := B4.out.lt
      clear hv g4 c0 c1 c2 c3 LP hcs
      go_upto_region 7 with fail
      obtain ⟨C, hC⟩ : ∃ C, C = w4.heap.size := ⟨_, rfl⟩
      generalize hw5 : World.alloc w4 _ = w5
      have b5 : LnAt w5 C p (.slice pa p.hd.params.length pc) := by rw [← hw5, hC]; exact LnAt.new _ _ _
      have g5 : G w4 w5 := by rw [← hw5]; exact (G.refl _).alloc _
      rw [← hC]
      have HC : Hid (C = w4.heap.size) := hid hC
      have C5 := hid b5
      have M5 := hid (M4.out.trans g5)
      have G45 := hid g5
      have hC5 := b5.lt
      have p5 := (B4.out.grow g5).c2
      have q5 := HQG.out w5 M5.out
      have d0 : w5.cell? ⟨D, 0, none⟩ = some (.string (S nm)) := by rw [cell_of_row w5 D 0 _ _ _ q5]; rfl
      have d1 : w5.cell? ⟨D, 1, none⟩ = some (.slice sa vs.length sc) := by rw [cell_of_row w5 D 1 _ _ _ q5]; rfl
      have hD5 : D < w5.heap.size := lt_of_row q5
      have hB5 : B < w5.heap.size := (B4.out.grow g5).lt
      obtain ⟨i0, hi, hz0, hz1, hz2⟩ := info_parts infoParam
      have hpl : p.hd.params.length ≤ 2500 := by have : wideN p.hd.params ≤ 2500 := by { unfold sizeL at hsz; omega }; unfold wideN at this; omega
      obtain ⟨vs0, hl0, hs0, hcl⟩ := clone_params _ p.hd.params w4 P4.out HF.out (by omega)
      have CLN := hid hcl
      have HS0 := hid hs0
      have HL0 := hid hl0
      have HV4 := hid (HV.out.grow G4.out)
      have hBC : ¬ B = C := by omega
      have hCB : ¬ C = B := by omega
      have hD4 : D < w4.heap.size := lt_of_row (HQG.out w4 M4.out)
      have hDC : ¬ D = C := by omega
      have hCD : ¬ C = D := by omega
      clear hcl hs0 hl0 hw5 hC b5 g5 q5 d2 d3
      go_region_held3 (fun w' => w'.cell? ⟨B, 2, none⟩ = some (.slice pa p.hd.params.length pc) ∧ w'.cell? ⟨D, 0, none⟩ = some (.string (S nm)) ∧ w'.cell? ⟨D, 1, none⟩ = some (.slice sa vs.length sc)) (go_keep)
        (first
          | (go_at_call 22; refine (CLN.out _ ?_).mono ?_; (· refine G45.out.trans ?_; (repeat (first | with_reducible exact G.refl _ | with_reducible exact Hid.out ‹Hid (G w5 _)› | with_reducible apply G.drew | with_reducible apply G.alloc))); rintro e w' ⟨u, rfl, hown, hg⟩; have hgw : G w5 w' := G.trans (by (repeat (first | with_reducible exact G.refl _ | with_reducible exact Hid.out ‹Hid (G w5 _)› | with_reducible apply G.drew | with_reducible apply G.alloc))) hg; have t0 := (hgw.cell (p := ⟨B, 2, none⟩) hB5).trans p5; have t1 := (hgw.cell (p := ⟨D, 0, none⟩) hD5).trans d0; have t2 := (hgw.cell (p := ⟨D, 1, none⟩) hD5).trans d1; have hz := hgw.size; have HGW := hid hgw; have HOWN := hid (show w'.ownsRow w5.heap.size 41 2 u p.hd.params.length (cellsPm p.hd.params vs0) from World.ownsRow.mono hown (G.size (show G w5 _ by (repeat (first | with_reducible exact G.refl _ | with_reducible exact Hid.out ‹Hid (G w5 _)› | with_reducible apply G.drew | with_reducible apply G.alloc))))); have HGR := hid hg; clear hgw hown hg)
          | (refine step_append_lies _ rfl (.tmp 31) (.tmp 33) 22 rfl w5.heap.size 41 i0 _ 2 40 Tryz.underlying22 hi hz0 hz1 hz2 rfl (by decide) u p.hd.params.length _ (by simp [Act.eval, Act.put]) (by first | with_reducible exact HOWN.out | with_reducible exact World.ownsRow.alloc HOWN.out _) _ 1 _ [.string (S nm), .slice sa vs.length sc] (by simp [Act.eval, Act.put]; exact ⟨rfl, rfl⟩) rfl (by first | with_reducible exact news2 _ _ _ _ | with_reducible exact news2_kept HGR.out | with_reducible exact news2_drew HGR.out) (by intro x hx; simp at hx; rcases hx with rfl | rfl <;> rfl) (by omega) (by unfold maxLen; omega) (by omega) (by first | omega | (simp; omega)) _ rfl ?_; intro g gcap w'' hown2 hgrow hat hlt2; have hg6 : G w5 w'' := (by refine Below.grown ?_ hgrow ?_ (fun j hj => (HOWN.out.lt j hj).1); (· show G w5 _; (repeat (first | with_reducible exact G.refl _ | with_reducible exact Hid.out ‹Hid (G w5 _)› | with_reducible apply G.drew | with_reducible apply G.alloc))); (· first | omega | (simp; omega))); have t0 := (hg6.cell (p := ⟨B, 2, none⟩) hB5).trans p5; have t1 := (hg6.cell (p := ⟨D, 0, none⟩) hD5).trans d0; have t2 := (hg6.cell (p := ⟨D, 1, none⟩) hD5).trans d1; have ln6 := C5.out.grow hg6; have u2 := ln6.c2; have v2 := frozen_of_row w'' C 2 _ _ ln6; have HLN6 := hid ln6; have HN6 := hid hown2; have HG6 := hid hg6; clear hown2 hgrow hat hlt2 hg6 ln6 HOWN HGR))
      all_goals
        have hnr : Hid (LnAt (w''.setCell ⟨C, 2, none⟩ (.slice (some ⟨g, 0, none⟩) (p.hd.params.length + 1) gcap)) C (lnMore p (nm, vs)) (.slice (some ⟨g, 0, none⟩) (p.hd.params.length + 1) gcap)) := hid (row_setE HLN6.out rfl)
        have hgf : Hid (G w4 (w''.setCell ⟨C, 2, none⟩ (.slice (some ⟨g, 0, none⟩) (p.hd.params.length + 1) gcap))) := hid (Below.setCell (G.trans G45.out HG6.out).below (Nat.le_of_eq HC.out.symm) _)
        have hpf : Hid (IsParams (w''.setCell ⟨C, 2, none⟩ (.slice (some ⟨g, 0, none⟩) (p.hd.params.length + 1) gcap)) (.slice (some ⟨g, 0, none⟩) (p.hd.params.length + 1) gcap) (p.hd.params ++ [(nm, vs)])) := hid (params_snoc HL0.out HS0.out HV4.out hgf.out (HN6.out.kept (mv_set _ _ _ _) (row_under HN6.out hC5)))
        generalize hw6 : World.setCell w'' _ _ = w6
        rw [hw6] at hnr hgf hpf
        clear hw6 t0 t1 t2 u2 v2 p5 d0 d1
        have b6 := B4.out.grow hgf.out
        have q6 := HQG.out w6 (G.trans M4.out hgf.out)
        have c0 := hnr.out.c0
        have c1 := hnr.out.c1
        have c2 := hnr.out.c2
        have c3 := hnr.out.c3
        have hl1 : (lnMore p (nm, vs)).hd.params.length = p.hd.params.length + 1 := by simp [lnMore]
        have LM := hid (lnPrint_any (lnMore p (nm, vs)) (.slice (some ⟨g, 0, none⟩) (p.hd.params.length + 1) gcap) cf w6 hpf.out (by rw [sizeL_more]; omega))
        have G6' := hid (G.trans G4.out hgf.out)
        have HB6 := hid b6
        have HQ6 := hid q6
        have hB6 := b6.lt
        have hD6 := lt_of_row q6
        clear b6 q6
        go_wp2_with fail
        refine LM.out.use ?_
        intro v w7 hv g7
        have B7 := hid (HB6.out.grow g7)
        have Q7 := hid ((g7.below.block D hD6).trans HQ6.out)
        have G7 := hid (G6'.out.trans g7)
        clear g7 c0 c1 c2 c3 LM
        rcases HCS.out with ⟨hr, hs, rfl⟩ | ⟨⟨o, hr⟩, rfl, t, x, rfl⟩
        · cases hr2 : rightE cf (lnMore p (nm, vs)) with
          | some o =>
            obtain ⟨t, x, rfl⟩ := hv.bad hr2
            clear hr2 hr hs HCS hv
            go_wp2_with fail
            go_ret
            exact ⟨rfl, G7.out⟩
          | none =>
            obtain rfl := hv.good hr2
            obtain ⟨r, hpr⟩ := print_param (cf := cf) (g := p.hd.group) (n := p.hd.name) (ps := p.hd.params) (v := p.value) (q := (nm, vs)) (right_less (rightE_none.1 hr2)).2
            obtain ⟨h, hh⟩ : ∃ h, headW cf p.hd = h := ⟨_, rfl⟩
            have hpt : s = h ++ 58 :: p.value := by rw [hs, ← hh]; rfl
            have hpt2 : printW cf (lnMore p (nm, vs)) = h ++ [59] ++ nm ++ [61] ++ r ++ 58 :: p.value := by rw [← hh]; exact hpr
            have hs1 := print_small cf p
            have hs2 := print_small cf (lnMore p (nm, vs))
            rw [← hs] at hs1
            obtain ⟨t, ht⟩ : ∃ t, printW cf (lnMore p (nm, vs)) = t := ⟨_, rfl⟩
            rw [ht] at hs2 hpt2 ⊢
            rw [sizeL_more] at hs2
            have hvl : p.value.length ≤ 2500 := by unfold sizeL at hsz; omega
            have hE1 : hasE s (58 :: p.value) = true := hasE_of ⟨h, hpt⟩
            have hE2 : hasE t (58 :: p.value) = true := hasE_of ⟨_, hpt2⟩
            obtain ⟨u3, hu3⟩ : ∃ u3, h ++ [59] ++ nm ++ [61] = u3 := ⟨_, rfl⟩
            have hP1 : hasP t u3 = true := hasP_of ⟨r ++ 58 :: p.value, by rw [hpt2, ← hu3]; simp⟩
            have S1 := hid (fun W => hasSuffix_any s (58 :: p.value) W (by omega))
            have S2 := hid (fun W => hasSuffix_any t (58 :: p.value) W (by omega))
            have P1 := hid (fun W => hasPrefix_any t u3 W)
            rw [hE1] at S1
            rw [hE2] at S2
            rw [hP1] at P1
            have hsl : s.length = h.length + 1 + p.value.length := by rw [hpt]; simp; omega
            have hhl : h.length ≤ 8000 := by omega
            have htk : s.take h.length = h := by rw [hpt]; simp
            have hki : (s.length : Int) - (p.value.length : Int) - 1 = (h.length : Int) := by omega
            have hki2 : (s.length : Int) - (p.value.length : Int) = ((h.length + 1 : Nat) : Int) := by omega
            have hkl : h.length ≤ s.length := by omega
            have hu3' : h ++ 59 :: (nm ++ [61]) = u3 := by rw [← hu3]; simp
            have HU := hid hu3'
            have b73 := B7.out.c3
            have q70 : w7.cell? ⟨D, 0, none⟩ = some (.string (S nm)) := by rw [cell_of_row w7 D 0 _ _ _ Q7.out]; rfl
            have hB7 := B7.out.lt
            have hD7 := lt_of_row Q7.out
            clear hr hr2 hs hv hpr hh hpt hpt2 ht hE1 hE2 hu3 hP1 HCS hsl hu3'
            go_wp2_with fail
            refine (S1.out _).use ?_
            go_wp2_with fail
            go_quiet ((first | (go_at_call 23; rw [HU.out]; exact (P1.out _).quiet) | (go_at_call 23; exact (P1.out _).quiet) | (go_at_call 15; exact (S2.out _).quiet)))
            go_wp2_with fail
            go_ret
            exact ⟨rfl, G.trans G7.out (by repeat (first | exact G.refl _ | assumption | apply G.drew | apply G.drewN | apply G.alloc | refine G.trans ?_ (by assumption)))⟩
        · obtain ⟨o', hr2⟩ := more_err (q := (nm, vs)) hr
          obtain ⟨t2, x2, rfl⟩ := hv.bad hr2
          clear hr2 hr HCS hv
          go_wp2_with fail
          go_ret
          exact ⟨rfl, G7.out⟩

end Go.Proofs.YtccaknanagmmhaaGreat
