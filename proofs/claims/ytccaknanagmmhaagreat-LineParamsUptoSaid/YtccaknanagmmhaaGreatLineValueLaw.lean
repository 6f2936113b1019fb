/-
  The law LineValue walked.
-/
import Derived.Test.YtccaknanagmmhaaGreatLineStill
import Derived.Test.YtccaknanagmmhaaGreatMLineP
import Derived.Test.YtccaknanagmmhaaGreatHolds
namespace Go.Proofs.YtccaknanagmmhaaGreat
open Go.RowKit
set_option linter.unusedVariables false
set_option linter.unusedSimpArgs false

set_option maxRecDepth 100000 in
set_option maxHeartbeats 4000000 in
theorem lineValue_walk (s v : L8) (cf : Bool) (w : World) (zs : s.length ≤ 140737488351232) (zv : v.length ≤ 140737488351232) : Gives 7 #[.string (S s), .string (S v), .bool cf] w (.bool true) := by
  by_cases hbig : 1500 < s.length + v.length
  · have hbi : (1500 : Int) < (s.length : Int) + v.length := by omega
    go_enter Tryz.func7, Tryz.ntmps7
    go_wp2_with fail
    refine (lined_any _).use ?_; intro w1 g1
    go_wp2_with fail
    go_ret
    exact ⟨rfl, (by repeat (first | exact G.refl _ | assumption | apply G.drew | apply G.drewN | apply G.alloc | refine G.trans ?_ (by assumption)))⟩
  · have hl : s.length + v.length ≤ 1500 := by omega
    have hbi : ¬ (1500 : Int) < (s.length : Int) + v.length := by omega
    have hsl : s.length ≤ 1500 := by omega
    have hvl : v.length ≤ 1500 := by omega
    clear hbig
    cases hp : parseP cf s with
    | error ck =>
      obtain ⟨c, k⟩ := ck
      have HP := hid hp
      clear hp
      go_enter Tryz.func7, Tryz.ntmps7
      go_wp2_with fail
      refine (lined_any _).use ?_; intro w1 g1
      have G1 := hid g1
      clear g1
      go_wp2_with fail
      refine (lineParse_use s cf w1 (by omega)).use ?_
      rw [HP.out]
      rintro x w2 ⟨e, rfl, he⟩ g2
      obtain ⟨b, rfl, _⟩ := he
      have G2 := hid (G1.out.trans g2)
      clear g2
      go_wp2_with fail
      go_ret
      exact ⟨rfl, G2.out.alloc _⟩
    | ok p =>
      have HO := hid (fun W => holds_any v false W (by omega))
      cases hh : holdsB v false with
      | false =>
        rw [hh] at HO
        have HP := hid hp
        clear hp hh
        go_enter Tryz.func7, Tryz.ntmps7
        go_wp2_with fail
        refine (lined_any _).use ?_; intro w1 g1
        have G1 := hid g1
        clear g1
        go_wp2_with fail
        refine (lineParse_use s cf w1 (by omega)).use ?_
        rw [HP.out]
        rintro x w2 ⟨pv, rfl, hpm⟩ g2
        have G2 := hid (G1.out.trans g2)
        obtain ⟨pa, pc, rfl, _, _⟩ := hpm
        rw [lnV_eq]
        clear g2
        go_wp2_with fail
        refine (HO.out _).use ?_
        go_wp2_with fail
        go_ret
        exact ⟨rfl, G2.out.alloc _⟩
      | true =>
        rw [hh] at HO
        have hsz := parse_small hp
        obtain ⟨g, hg, hpg⟩ := parse_value hp hh
        have HP := hid hp
        have hE : hasE s p.value = true := hasE_of ⟨g ++ [58], by rw [hg]; simp⟩
        have hpv : p.value.length ≤ 1500 := by unfold sizeL at hsz; omega
        have hk : s.length = g.length + 1 + p.value.length := by rw [hg]; simp; omega
        have hki : (s.length : Int) - (p.value.length : Int) = ((g.length + 1 : Nat) : Int) := by omega
        have hkl : g.length + 1 ≤ s.length := by omega
        have htk : s.take (g.length + 1) = g ++ [58] := by rw [hg]; simp [List.take_append, List.take_succ_cons, List.take_of_length_le]
        obtain ⟨k, hkk⟩ : ∃ k, k = g.length + 1 := ⟨_, rfl⟩
        rw [← hkk] at hki hkl htk
        obtain ⟨u, hu⟩ : ∃ u, u = g ++ [58] := ⟨_, rfl⟩
        rw [← hu] at htk
        have hul : u.length = k := by rw [hu, hkk]; simp
        have huv : u ++ v = g ++ 58 :: v := by rw [hu]; simp
        rw [← huv] at hpg
        obtain ⟨t, ht⟩ : ∃ t, u ++ v = t := ⟨_, rfl⟩
        have htl : t.length ≤ 3000 := by rw [← ht, List.length_append]; omega
        have hull : u.length ≤ 1500 := by omega
        rw [ht] at hpg
        have HPG := hid hpg
        have HS := hid (fun W => hasSuffix_any s p.value W (by omega))
        rw [hE] at HS
        clear hp hh hpg hE hk hkk hu hul huv hg
        go_enter Tryz.func7, Tryz.ntmps7
        go_wp2_with fail
        refine (lined_any _).use ?_; intro w1 g1
        have G1 := hid g1
        clear g1
        go_wp2_with fail
        refine (lineParse_use s cf w1 (by omega)).use ?_
        rw [HP.out]
        rintro x w2 ⟨pv, rfl, hpm⟩ g2
        have G2 := hid (G1.out.trans g2)
        have PM := hid hpm
        obtain ⟨pa, pc, rfl, _, _⟩ := hpm
        rw [lnV_eq]
        clear g2
        go_upto_region 6 with fail
        obtain ⟨B, hB⟩ : ∃ B, B = w2.heap.size := ⟨_, rfl⟩
        generalize hw3 : World.alloc w2 _ = w3
        have b3 : LnAt w3 B p (.slice pa p.hd.params.length pc) := by rw [← hw3, hB]; exact LnAt.new _ _ _
        have g3 : G w2 w3 := by rw [← hw3]; exact (G.refl _).alloc _
        rw [← hB]
        have B3 := hid b3
        have G3 := hid (G2.out.trans g3)
        have PM3 := hid (PM.out.grow g3)
        have c3 := b3.c3
        clear hw3 hB b3 g3
        go_wp2_with fail
        refine (HO.out _).use ?_
        go_wp2_with fail
        refine (HS.out _).use ?_
        go_wp2_with fail
        refine (lineParse_use t cf w3 (by omega)).use ?_
        rw [HPG.out]
        rintro x w5 ⟨pv, rfl, hpm⟩ g5
        have PN := hid hpm
        obtain ⟨qa, qc, rfl, _, _⟩ := hpm
        rw [lnV_eq]
        have B5 := hid (B3.out.grow g5)
        have G5 := hid (G3.out.trans g5)
        have PM5 := hid (PM3.out.grow g5)
        have hB5 := B5.out.lt
        clear g5 c3
        go_upto_region 11 with fail
        obtain ⟨C, hC⟩ : ∃ C, C = w5.heap.size := ⟨_, rfl⟩
        generalize hw6 : World.alloc w5 _ = w6
        have b6 : LnAt w6 C ⟨p.hd, v⟩ (.slice qa p.hd.params.length qc) := by rw [← hw6, hC]; exact LnAt.new _ ⟨p.hd, v⟩ _
        have g6 : G w5 w6 := by rw [← hw6]; exact (G.refl _).alloc _
        rw [← hC]
        have G6 := hid (G5.out.trans g6)
        have PM6 := hid (PM5.out.grow g6)
        have PN6 := hid (PN.out.grow g6)
        have B6 := hid (B5.out.grow g6)
        have c0 := B6.out.c0
        have c1 := B6.out.c1
        have c2 := B6.out.c2
        have e0 := b6.c0
        have e1 := b6.c1
        have e2 := b6.c2
        have e3 := b6.c3
        have SP := hid (fun h1 h2 => sameParams_any (w := w6) PM6.out PN6.out h1 h1 h2 h2)
        have hsm := wide_small (ps := p.hd.params) (n := 1500) (by unfold sizeL at hsz; omega) (by omega)
        have SP2 := SP.out hsm.2 hsm.1
        rw [decide_eq_true (show p.hd.params = p.hd.params from rfl)] at SP2
        have SQ := hid SP2
        clear hw6 hC b6 g6 SP SP2
        go_wp2_with fail
        refine SQ.out.use ?_
        intro w7 g7
        go_wp2_with fail
        go_ret
        exact ⟨rfl, G6.out.trans g7⟩

end Go.Proofs.YtccaknanagmmhaaGreat
