/-
  The law LineQuotes walked.
-/
import Derived.Test.YtccaknanagmmhaaGreatLineValueLaw
namespace Go.Proofs.YtccaknanagmmhaaGreat
open Go.RowKit
set_option linter.unusedVariables false
set_option linter.unusedSimpArgs false

theorem four_has (c : UInt8) : ([44, 59, 58, 34] : L8).contains c = (c == 44 || c == 59 || c == 58 || c == 34) := by
  simp only [List.contains_cons, List.contains_nil, Bool.or_false, Bool.or_assoc]
theorem four_none {v : L8} (h : Lib.containsAny v [44, 59, 58, 34] = false) : ∀ c ∈ v, c ≠ 44 ∧ c ≠ 59 ∧ c ≠ 58 ∧ c ≠ 34 := by
  have key : v.findIdx? (fun c => c == 44 || c == 59 || c == 58 || c == 34) = none := by
    cases hf : v.findIdx? (fun c => c == 44 || c == 59 || c == 58 || c == 34) with
    | none => rfl
    | some k =>
      obtain ⟨hk, h1, h2⟩ := List.findIdx?_eq_some_iff_getElem.1 hf
      unfold Lib.containsAny at h
      rw [indexAny_pos hk (fun i hi => by rw [four_has]; have := h2 i hi; simpa using this) (by rw [four_has]; simpa using h1)] at h
      simp at h
  rw [List.findIdx?_eq_none_iff] at key
  intro c hc
  have := key c hc
  simp only [Bool.or_eq_false_iff, beq_eq_false_iff_ne] at this
  exact ⟨this.1.1.1, this.1.1.2, this.1.2, this.2⟩
theorem four_ascii : asciiL [44, 59, 58, 34] := fun c hc => by
  simp at hc
  rcases hc with rfl | rfl | rfl | rfl <;> decide
set_option maxRecDepth 100000 in
set_option maxHeartbeats 8000000 in
theorem lineQuotes_walk (s v : L8) (cf : Bool) (w : World) (zs : s.length ≤ 140737488351232) (zv : v.length ≤ 140737488351232) : Gives 5 #[.string (S s), .string (S v), .bool cf] w (.bool true) := by
  by_cases hbig : 300 < s.length + v.length
  · have hbi : (300 : Int) < (s.length : Int) + v.length := by omega
    go_enter Tryz.func5, Tryz.ntmps5
    go_wp2_with fail
    refine (lined_any _).use ?_; intro w1 g1
    go_wp2_with fail
    go_ret
    exact ⟨rfl, (by repeat (first | exact G.refl _ | assumption | apply G.drew | apply G.drewN | apply G.alloc | refine G.trans ?_ (by assumption)))⟩
  have hl : s.length + v.length ≤ 300 := by omega
  have hbi : ¬ (300 : Int) < (s.length : Int) + v.length := by omega
  have hsl : s.length ≤ 300 := by omega
  have hvl : v.length ≤ 300 := by omega
  clear hbig
  have HI := hid (fun W => is_any s W (by omega))
  have HC := hid (fun W => containsAny_any v [44, 59, 58, 34] W (by omega) (by simp) (by simp) four_ascii)
  have HO := hid (fun W => holds_any v false W (by omega))
  cases hs : isNameL s with
  | false =>
    rw [hs] at HI
    clear hs
    go_enter Tryz.func5, Tryz.ntmps5
    go_wp2_with fail
    refine (lined_any _).use ?_; intro w1 g1
    go_wp2_with fail
    refine (HI.out _).use ?_
    go_wp2_with fail
    go_ret
    exact ⟨rfl, (by repeat (first | exact G.refl _ | assumption | apply G.drew | apply G.drewN | apply G.alloc | refine G.trans ?_ (by assumption)))⟩
  | true =>
    rw [hs] at HI
    cases hc : Lib.containsAny v [44, 59, 58, 34] with
    | true =>
      rw [hc] at HC
      clear hs hc
      go_enter Tryz.func5, Tryz.ntmps5
      go_wp2_with fail
      refine (lined_any _).use ?_; intro w1 g1
      go_wp2_with fail
      refine (HI.out _).use ?_
      go_wp2_with fail
      refine (HC.out _).use ?_
      intro w2 g2
      go_wp2_with fail
      go_ret
      exact ⟨rfl, g1.trans g2⟩
    | false =>
      rw [hc] at HC
      cases hh : holdsB v false with
      | false =>
        rw [hh] at HO
        clear hs hc hh
        go_enter Tryz.func5, Tryz.ntmps5
        go_wp2_with fail
        refine (lined_any _).use ?_; intro w1 g1
        go_wp2_with fail
        refine (HI.out _).use ?_
        go_wp2_with fail
        refine (HC.out _).use ?_
        intro w2 g2
        go_wp2_with fail
        refine (HO.out _).use ?_
        go_wp2_with fail
        go_ret
        exact ⟨rfl, g1.trans g2⟩
      | true =>
        rw [hh] at HO
        obtain ⟨hA, hB⟩ := parse_quotes (cf := cf) hs hh (four_none hc)
        obtain ⟨a, ha⟩ : ∃ a, [88, 59] ++ s ++ [61] ++ v ++ [58, 49] = a := ⟨_, rfl⟩
        obtain ⟨b, hb⟩ : ∃ b, [88, 59] ++ s ++ [61, 34] ++ v ++ [34, 58, 49] = b := ⟨_, rfl⟩
        rw [ha] at hA
        rw [hb] at hB
        have hal : a.length ≤ 1000 := by rw [← ha]; simp; omega
        have hbl : b.length ≤ 1000 := by rw [← hb]; simp; omega
        have HA := hid (fun W => lineParse_use a cf W (by omega))
        have HB := hid (fun W => lineParse_use b cf W (by omega))
        obtain ⟨p, hp⟩ : ∃ p : Ln, p = ⟨⟨[], [88], [(s, [decV cf v])]⟩, [49]⟩ := ⟨_, rfl⟩
        rw [← hp] at hA hB
        have hsz := parse_small hA
        rw [hA] at HA
        rw [hB] at HB
        have HP := hid hp
        have ha' : 88 :: 59 :: (s ++ 61 :: (v ++ [58, 49])) = a := by rw [← ha]; simp
        have hb' : 88 :: 59 :: (s ++ 61 :: 34 :: (v ++ [34, 58, 49])) = b := by rw [← hb]; simp
        have EA := hid ha'
        have EB := hid hb'
        clear hs hc hh hA hB hp ha hb ha' hb'
        go_enter Tryz.func5, Tryz.ntmps5
        go_wp2_with fail
        refine (lined_any _).use ?_; intro w1 g1
        have G1 := hid g1
        clear g1
        go_wp2_with fail
        refine (HI.out _).use ?_
        go_wp2_with fail
        refine (HC.out _).use ?_
        intro w2 g2
        have G2 := hid (G1.out.trans g2)
        clear g2
        go_wp2_with fail
        refine (HO.out _).use ?_
        go_wp2_with fail
        rw [EA.out]
        refine (HA.out w2).use ?_
        rintro x w3 ⟨pv, rfl, hpm⟩ g3
        have G3 := hid (G2.out.trans g3)
        have PM := hid hpm
        have hpl : p.hd.params.length = 1 := by rw [HP.out]; rfl
        obtain ⟨pa, pc, rfl, _, _⟩ := hpm
        rw [lnV_eq]
        clear g3
        go_upto_region 6 with fail
        obtain ⟨B, hB⟩ : ∃ B, B = w3.heap.size := ⟨_, rfl⟩
        generalize hw4 : World.alloc w3 _ = w4
        have b4 : LnAt w4 B p (.slice pa p.hd.params.length pc) := by rw [← hw4, hB]; first | exact LnAt.new _ _ _ | (rw [hpl]; exact LnAt.new _ _ _) | (have := LnAt.new w3 p (.slice pa p.hd.params.length pc); rw [hpl] at this ⊢; exact this)
        have g4 : G w3 w4 := by rw [← hw4]; exact (G.refl _).alloc _
        rw [← hB]
        have B4 := hid b4
        have G4 := hid (G3.out.trans g4)
        have PM4 := hid (PM.out.grow g4)
        have HPL := hid hpl
        clear hw4 hB b4 g4 hpl
        go_wp2_with fail
        rw [EB.out]
        refine (HB.out w4).use ?_
        rintro x w5 ⟨pv, rfl, hpm⟩ g5
        have PN := hid hpm
        obtain ⟨qa, qc, rfl, _, _⟩ := hpm
        rw [lnV_eq]
        have B5 := hid (B4.out.grow g5)
        have G5 := hid (G4.out.trans g5)
        have PM5 := hid (PM4.out.grow g5)
        have hB5 := B5.out.lt
        clear g5
        go_upto_region 7 with fail
        obtain ⟨C, hC⟩ : ∃ C, C = w5.heap.size := ⟨_, rfl⟩
        generalize hw6 : World.alloc w5 _ = w6
        have b6 : LnAt w6 C p (.slice qa p.hd.params.length qc) := by rw [← hw6, hC]; exact LnAt.new _ _ _
        have g6 : G w5 w6 := by rw [← hw6]; exact (G.refl _).alloc _
        rw [← hC]
        have G6 := hid (G5.out.trans g6)
        have PM6 := hid (PM5.out.grow g6)
        have PN6 := hid (PN.out.grow g6)
        have B6 := hid (B5.out.grow g6)
        have c0 := B6.out.c0
        have c1 := B6.out.c1
        have c2 := B6.out.c2
        have c3 := B6.out.c3
        have e0 := b6.c0
        have e1 := b6.c1
        have e2 := b6.c2
        have e3 := b6.c3
        clear hw6 hC b6 g6
        go_wp2_with fail
        refine (lnSame_refl p _ _ w6 PM6.out PN6.out (by omega)).use ?_
        intro w7 g7
        have B7 := (B6.out.grow g7)
        have PM7 := PM6.out.grow g7
        have c2 := B7.c2
        rw [HPL.out] at c2
        obtain ⟨a2, cap2, k1, _, hc⟩ := PM7
        obtain ⟨bb, off, k2, hbl, hcc⟩ := hc (by rw [HP.out]; simp)
        simp only [Value.slice.injEq, true_and] at k1
        obtain ⟨rfl, rfl⟩ := k1
        subst k2
        obtain ⟨sv, f1, f2, f3⟩ := hcc 0 (s, [decV cf v]) (by rw [HP.out]; rfl)
        obtain ⟨sa, sc, rfl, _⟩ := f3.len
        have f2 : w7.cell? ⟨bb, off + 1, none⟩ = some (.slice sa 1 sc) := by simpa using f2
        have G7 := hid (G6.out.trans g7)
        clear g7 c0 c1 c3 e0 e1 e2 e3 hcc f1 f3 B7 hc
        go_wp2_with fail
        go_ret
        exact ⟨rfl, G7.out⟩

end Go.Proofs.YtccaknanagmmhaaGreat
