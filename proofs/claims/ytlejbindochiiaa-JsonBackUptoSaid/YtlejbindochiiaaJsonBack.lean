/-
  THE WALK of JsonBack.
-/
import Derived.Test.YtlejbindochiiaaJsonNoted
import Derived.Test.YtlejbindochiiaaJsonWeight
namespace Go.Proofs.Ytlejbindochiiaa
open Go.RowKit
set_option linter.unusedVariables false
set_option linter.unusedSimpArgs false

theorem weight_one {n : Nat} {p : Nat → Prop} {w : World} {v : Value} {x : Jt} (hv : JAt n p w v x) (hs : ∀ d, SzJ 1048576 1048576 d x) : ∀ W, G w W → Gives 8 #[v, .int .i64 1] W (.int .i64 (wtJ 20 x : Int)) := fun W g =>
  weight_all 20 (Nat.le_refl _) 1048576 1048576 n p W v x (by decide) (hv.grow g) (hs 21)
theorem light_sz {x : Jt} (hs : ∀ d, SzJ 1048576 1048576 d x) (h : wtJ 20 x ≤ 600) : SzJ 5000 1048576 12 x := wt_small 1048576 1048576 20 12 x (by decide) h (hs 12)
theorem light_len {x : Jt} (hs : ∀ d, SzJ 1048576 1048576 d x) (h : wtJ 20 x ≤ 600) (hr : rightJ 12 x = none) : (writeJ 12 x).length ≤ 10000000000 := by
  have h1 := write_bound 1048576 1048576 20 12 x (by decide) (by omega) (hs 12) hr
  have h2 : (6 * 1048576 + 1000) * wtJ 20 x ≤ (6 * 1048576 + 1000) * 600 := Nat.mul_le_mul_left _ h
  omega
set_option maxRecDepth 100000 in
set_option maxHeartbeats 4000000 in
theorem jsonBack_walk (j : Jt) (n : Nat) (p : Nat → Prop) (v : Value) (w : World) (hv : JAt n p w v j) (hs : ∀ d, SzJ 1048576 1048576 d j) : Gives 3 #[v] w (.bool true) := by
  have WT := hid (weight_one hv hs)
  have HV := hid hv
  have HS := hid hs
  obtain ⟨ka, kc, la, lc, rfl⟩ := hv.shape4
  clear hv hs
  obtain ⟨K, hK⟩ : ∃ K, wtJ 20 j = K := ⟨_, rfl⟩
  rw [hK] at WT
  have HK := hid hK
  clear hK
  go_enter Try.func3, Try.ntmps3
  go_upto_region 1 with fail
  generalize hw0 : World.alloc w _ = w0
  obtain ⟨B, hB⟩ : ∃ B, w.heap.size = B := ⟨_, rfl⟩
  rw [hB]
  have hb0 : w0.heap[B]? = some (.cells #[.int .i64 j.kind, .string (S j.text), .slice ka j.keys.length kc, .slice la j.list.length lc] 25) := by rw [← hw0, ← hB]; exact (MapKept.heap_alloc w _).1
  have G0 := hid (show G w w0 by rw [← hw0]; exact (G.refl _).alloc _)
  have H0 := hid hb0
  clear hw0 hb0 hB
  go_wp2_with fail
  refine (noted_any w0).mono ?_
  rintro e w1 ⟨rfl, g1⟩
  have hb1 := (g1.below.block _ (lt_of_row H0.out)).trans H0.out
  obtain ⟨c0, c1, c2, c3⟩ := box4 hb1
  have H1 := hid hb1
  have G1 := hid (G0.out.trans g1)
  clear g1 hb1 H0 G0
  go_wp2_with fail
  refine (WT.out w1 G1.out).mono ?_
  rintro e w2 ⟨rfl, g2⟩
  have hb2 := (g2.below.block _ (lt_of_row H1.out)).trans H1.out
  have H2 := hid hb2
  have G2 := hid (G1.out.trans g2)
  clear g2 c0 c1 c2 c3 H1 G1 WT
  by_cases hbig : 600 < K
  · have hd : decide ((600 : Int) < (K : Int)) = true := decide_eq_true (by omega)
    clear hbig hb2
    go_wp2_with fail
    go_ret
    exact ⟨rfl, G2.out⟩
  have hd : decide ((600 : Int) < (K : Int)) = false := decide_eq_false (by omega)
  have hle : wtJ 20 j ≤ 600 := by rw [HK.out]; omega
  have hsz := light_sz HS.out hle
  have hll := light_len HS.out hle
  have JW := hid (fun W (g : G w W) => jwrite_any 5000 1048576 n p W _ j (by decide) (by decide) (HV.out.grow g) hsz (fun hr => by have := hll hr; omega))
  have JR := hid (fun W (g : G w W) => jright_any 5000 1048576 n p W _ j (by decide) (by decide) (HV.out.grow g) hsz)
  have HSZ := hid hsz
  have HLL := hid hll
  clear hbig hle hsz hll
  cases hr : rightJ 12 j with
  | some c =>
    have e1 : wrJ j = .tuple #[.string (S []), eno c] := by unfold wrJ; rw [hr]; rfl
    rw [hr] at JR
    rw [e1] at JW
    simp only [errJ] at JR
    obtain ⟨c0, c1, c2, c3⟩ := box4 hb2
    clear e1 hr hb2
    go_wp2_with fail
    refine (JW.out w2 G2.out).mono ?_
    rintro e w3 ⟨rfl, g3⟩
    have hb3 := (g3.below.block _ (lt_of_row H2.out)).trans H2.out
    have G3 := hid (G2.out.trans g3)
    clear c0 c1 c2 c3 g3
    obtain ⟨c0, c1, c2, c3⟩ := box4 hb3
    clear hb3
    go_wp2_with fail
    refine (JR.out w3 G3.out).mono ?_
    rintro e w4 ⟨rfl, g4⟩
    have G4 := hid (G3.out.trans g4)
    clear g4 c0 c1 c2 c3
    go_wp2_with fail
    go_ret
    exact ⟨rfl, G4.out⟩
  | none =>
    obtain ⟨t, ht⟩ : ∃ t, writeJ 12 j = t := ⟨_, rfl⟩
    have e1 : wrJ j = .tuple #[.string (S t), .nilIface] := by unfold wrJ; rw [hr, if_pos rfl, ht]; rfl
    have hrw := read_write hr
    have htl : t.length ≤ 10000000000 := by rw [← ht]; exact HLL.out hr
    have HR := hid hr
    rw [ht] at hrw
    rw [hr] at JR
    rw [e1] at JW
    simp only [errJ] at JR
    obtain ⟨c0, c1, c2, c3⟩ := box4 hb2
    clear e1 hr hb2 ht
    go_wp2_with fail
    refine (JW.out w2 G2.out).mono ?_
    rintro e w3 ⟨rfl, g3⟩
    have hb3 := (g3.below.block _ (lt_of_row H2.out)).trans H2.out
    have H3 := hid hb3
    have G3 := hid (G2.out.trans g3)
    clear c0 c1 c2 c3 g3
    obtain ⟨c0, c1, c2, c3⟩ := box4 hb3
    clear hb3
    go_wp2_with fail
    refine (JR.out w3 G3.out).mono ?_
    rintro e w4 ⟨rfl, g4⟩
    have hb4 := (g4.below.block _ (lt_of_row H3.out)).trans H3.out
    have H4 := hid hb4
    have G4 := hid (G3.out.trans g4)
    clear g4 c0 c1 c2 c3 hb4 H2 H3
    by_cases hlong : 20000 < t.length
    · rw [if_pos hlong] at hrw
      have RW := hid (fun W => read_wrong hrw W)
      have hd2 : decide ((20000 : Int) < (t.length : Int)) = true := decide_eq_true (by omega)
      clear hrw hlong
      go_wp2_with fail
      refine (RW.out w4).use ?_
      rintro v w5 ⟨ty, z, rfl⟩ g5
      simp only [zeroJ]
      have G5 := hid (G4.out.trans g5)
      clear g5
      go_wp2_with fail
      go_ret
      exact ⟨rfl, (by repeat (first | exact G.refl _ | assumption | apply G.drew | apply G.drewN | apply G.alloc | refine G.trans ?_ (by assumption)))⟩
    · rw [if_neg hlong] at hrw
      have RG := hid (fun W => read_good hrw W)
      clear hrw hlong
      go_wp2_with fail
      refine (RG.out w4).use ?_
      rintro v w5 ⟨u', rfl, hu'⟩ g5
      have HU2 := hid hu'
      obtain ⟨ka', kc', la', lc', rfl⟩ := hu'.shape4
      have hb5 := (g5.below.block _ (lt_of_row H4.out)).trans H4.out
      have H5 := hid hb5
      have G5 := hid (G4.out.trans g5)
      clear g5 hb5 hu'
      go_upto_region 9 with fail
      obtain ⟨D, hD⟩ : ∃ D, w5.heap.size = D := ⟨_, rfl⟩
      generalize hw6 : World.alloc w5 _ = w6
      have hb2 : w6.heap[D]? = some (.cells #[.int .i64 j.kind, .string (S j.text), .slice ka' j.keys.length kc', .slice la' j.list.length lc'] 25) := by rw [← hw6, ← hD]; exact (MapKept.heap_alloc w5 _).1
      have hb1 : w6.heap[B]? = some (.cells #[.int .i64 j.kind, .string (S j.text), .slice ka j.keys.length kc, .slice la j.list.length lc] 25) := by rw [← hw6]; exact row_alloc H5.out (lt_of_row H5.out)
      have G56 := hid (show G w5 w6 by rw [← hw6]; exact (G.refl _).alloc _)
      have G6 := hid (G5.out.trans G56.out)
      rw [hD]
      obtain ⟨c0, c1, c2, c3⟩ := box4 hb1
      obtain ⟨d0, d1, d2, d3⟩ := box4 hb2
      have SM := hid (same_any 5000 1048576 n 12 _ _ w6 _ _ j (by decide) (HV.out.grow G6.out) (HU2.out.grow G56.out) HR.out HSZ.out)
      clear hw6 hD hb1 hb2 H5
      go_wp2_with fail
      refine SM.out.mono ?_
      rintro e w7 ⟨rfl, g7⟩
      have G7 := hid (G6.out.trans g7)
      clear g7 c0 c1 c2 c3 d0 d1 d2 d3
      go_wp2_with fail
      go_ret
      exact ⟨rfl, G7.out⟩

end Go.Proofs.Ytlejbindochiiaa
