/-
  THE WALK of JsonStill.
-/
import Derived.Test.YtlejbindochiiaaJsonNoted
namespace Go.Proofs.Ytlejbindochiiaa
open Go.RowKit
set_option linter.unusedVariables false
set_option linter.unusedSimpArgs false

theorem same_zero (w : World) : Gives 12 #[zeroJ, zeroJ] w (.bool true) :=
  same_all 1 0 0 1 (fun _ => True) (fun _ => True) w zeroJ zeroJ (.mk 0 [] [] []) (by decide) (JAt.leaf 0 []) (JAt.leaf 0 []) ⟨Nat.le_refl _, Nat.le_refl _, Nat.le_refl _, by simp [Jt.keys], by simp [Jt.list]⟩
set_option maxRecDepth 100000 in
set_option maxHeartbeats 4000000 in
theorem jsonStill_walk (s : List UInt8) (w : World) (hs : s.length ≤ 140737488351232) : Gives 4 #[.string (S s)] w (.bool true) := by
  by_cases hl : 2000 < s.length
  · have hd : decide ((2000 : Int) < (s.length : Int)) = true := decide_eq_true (by omega)
    clear hl
    go_enter Try.func4, Try.ntmps4
    go_wp2_with fail
    refine (noted_any _).use ?_; intro w1 g1
    go_wp2_with fail
    go_ret
    exact ⟨rfl, (by repeat (first | exact G.refl _ | assumption | apply G.drew | apply G.drewN | apply G.alloc | refine G.trans ?_ (by assumption)))⟩
  · have hd : decide ((2000 : Int) < (s.length : Int)) = false := decide_eq_false (by omega)
    have hs2 : s.length ≤ 2000 := by omega
    clear hl
    cases hr : readJ s with
    | error er =>
      have RW := hid (fun W => read_wrong hr W)
      clear hr
      go_enter Try.func4, Try.ntmps4
      go_wp2_with fail
      refine (noted_any _).use ?_; intro w1 g1
      go_wp2_with fail
      refine (RW.out w1).use ?_
      rintro v w2 ⟨t, z, rfl⟩ g2
      have G2 := hid (g1.trans g2)
      clear g1 g2
      simp only [zeroJ]
      have hb := (MapKept.heap_alloc w2 (.cells #[.int .i64 0, .string (S []), .slice none 0 0, .slice none 0 0] 25)).1
      go_wp2_with fail
      refine (same_zero _).mono ?_
      rintro e w3 ⟨rfl, g3⟩
      have G3 := hid ((G2.out.alloc _).trans g3)
      clear g3 hb
      go_wp2_with fail
      go_ret
      exact ⟨rfl, G3.out⟩
    | ok x =>
      obtain ⟨hx, hlen, _⟩ := read_right hr
      have hw2 : (writeJ 12 x).length ≤ 2000 := by omega
      have hrw : readJ (writeJ 12 x) = .ok x := by rw [read_write hx, if_neg (by omega)]
      have RG := hid (fun W => read_good hr W)
      have RG2 := hid (fun W => read_good hrw W)
      have HX := hid hx
      have HW2 := hid hw2
      obtain ⟨t, ht⟩ : ∃ t, writeJ 12 x = t := ⟨_, rfl⟩
      have HT := hid ht
      have htl : t.length ≤ 2000 := by rw [← ht]; exact hw2
      rw [ht] at RG2
      clear hr hx hlen hrw hw2 ht
      go_enter Try.func4, Try.ntmps4
      go_wp2_with fail
      refine (noted_any _).use ?_; intro w1 g1
      go_wp2_with fail
      refine (RG.out w1).use ?_
      rintro v w2 ⟨u, rfl, hu⟩ g2
      have WG := hid (write_good hu HX.out HW2.out (by decide))
      have RT := hid (right_good hu HX.out HW2.out (by decide))
      have HU := hid hu
      rw [HT.out] at WG
      obtain ⟨ka, kc, la, lc, rfl⟩ := hu.shape4
      have G2 := hid (g1.trans g2)
      clear g1 g2 hu
      go_upto_region 8 with fail
      obtain ⟨B1, hB1⟩ : ∃ B1, w2.heap.size = B1 := ⟨_, rfl⟩
      generalize hw3 : World.alloc w2 _ = w3
      have hb1 : w3.heap[B1]? = some (.cells #[.int .i64 x.kind, .string (S x.text), .slice ka x.keys.length kc, .slice la x.list.length lc] 25) := by rw [← hw3, ← hB1]; exact (MapKept.heap_alloc w2 _).1
      have G23 := hid (show G w2 w3 by rw [← hw3]; exact (G.refl _).alloc _)
      rw [hB1]
      obtain ⟨c0, c1, c2, c3⟩ := box4 hb1
      have H1 := hid hb1
      clear hw3 hB1 hb1
      go_wp2_with fail
      refine (WG.out _ G23.out).mono ?_
      rintro e w4 ⟨rfl, g4⟩
      have hb1 := (g4.below.block _ (lt_of_row H1.out)).trans H1.out
      have H14 := hid hb1
      have G24 := hid (G23.out.trans g4)
      clear g4 c0 c1 c2 c3 hb1 H1 WG G23
      go_wp2_with fail
      refine (RG2.out w4).use ?_
      rintro v w5 ⟨u', rfl, hu'⟩ g5
      have WG2 := hid (write_good hu' HX.out HW2.out (by decide))
      have HU2 := hid hu'
      rw [HT.out] at WG2
      obtain ⟨ka', kc', la', lc', rfl⟩ := hu'.shape4
      have hb1 := (g5.below.block _ (lt_of_row H14.out)).trans H14.out
      have H15 := hid hb1
      have G25 := hid (G24.out.trans g5)
      clear g5 hu' hb1 H14 G24
      go_upto_region 10 with fail
      obtain ⟨B2, hB2⟩ : ∃ B2, w5.heap.size = B2 := ⟨_, rfl⟩
      generalize hw6 : World.alloc w5 _ = w6
      have hb2 : w6.heap[B2]? = some (.cells #[.int .i64 x.kind, .string (S x.text), .slice ka' x.keys.length kc', .slice la' x.list.length lc'] 25) := by rw [← hw6, ← hB2]; exact (MapKept.heap_alloc w5 _).1
      have hb1 : w6.heap[B1]? = some (.cells #[.int .i64 x.kind, .string (S x.text), .slice ka x.keys.length kc, .slice la x.list.length lc] 25) := by rw [← hw6]; exact row_alloc H15.out (lt_of_row H15.out)
      have G56 := hid (show G w5 w6 by rw [← hw6]; exact (G.refl _).alloc _)
      rw [hB2]
      obtain ⟨c0, c1, c2, c3⟩ := box4 hb2
      have H1 := hid hb1
      have H2 := hid hb2
      clear hw6 hB2 hb1 hb2 H15
      go_wp2_with fail
      refine (WG2.out _ G56.out).mono ?_
      rintro e w7 ⟨rfl, g7⟩
      have hb1 := (g7.below.block _ (lt_of_row H1.out)).trans H1.out
      have hb2 := (g7.below.block _ (lt_of_row H2.out)).trans H2.out
      obtain ⟨d0, d1, d2, d3⟩ := box4 hb1
      have H17 := hid hb1
      have H27 := hid hb2
      have G57 := hid (G56.out.trans g7)
      clear g7 c0 c1 c2 c3 hb1 hb2 H1 H2 WG2 G56
      go_wp2_with fail
      refine (RT.out _ (G25.out.trans G57.out)).mono ?_
      rintro e w8 ⟨rfl, g8⟩
      have hb1 := (g8.below.block _ (lt_of_row H17.out)).trans H17.out
      have hb2 := (g8.below.block _ (lt_of_row H27.out)).trans H27.out
      obtain ⟨a0, a1, a2, a3⟩ := box4 hb1
      obtain ⟨e0, e1, e2, e3⟩ := box4 hb2
      have G58 := hid (G57.out.trans g8)
      clear g8 d0 d1 d2 d3 hb1 hb2 H17 H27 G57 RT
      go_wp2_with fail
      refine (same_any 2000 2000 12 12 _ _ w8 _ _ x (by decide) (HU.out.grow (G25.out.trans G58.out)) (HU2.out.grow G58.out) HX.out (right_sz HX.out HW2.out)).mono ?_
      rintro e w9 ⟨rfl, g9⟩
      have G9 := hid (G2.out.trans (G25.out.trans (G58.out.trans g9)))
      clear g9 a0 a1 a2 a3 e0 e1 e2 e3
      go_wp2_with fail
      go_ret
      exact ⟨rfl, G9.out⟩

end Go.Proofs.Ytlejbindochiiaa
