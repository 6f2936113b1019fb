/-
  Texts merged into one: Heavy, Thick.
-/
import Derived.Test.YtniidkkldoijcaaDoorIsLists
import Derived.Test.YtniidkkldoijcaaDoorMWide
import Derived.Test.YtniidkkldoijcaaDoorMBase
namespace Go.Proofs.YtniidkkldoijcaaDoor
open Go.RowKit
set_option linter.unusedVariables false
set_option linter.unusedSimpArgs false

theorem sumL_split (x : List (List UInt8)) : sumL x = x.length + (x.map List.length).sum := by
  induction x with
  | nil => rfl
  | cons a x ih => rw [sumL_cons, ih]; simp; omega
theorem sumP_split (x : List (List (List UInt8))) : sumP x = x.length + (x.map sumL).sum := by
  induction x with
  | nil => rfl
  | cons a x ih => rw [sumP_cons, ih]; simp; omega
set_option maxRecDepth 100000 in
set_option maxHeartbeats 2000000 in
theorem heavy_any {v : Value} {ls : List (List (List UInt8))} (w : World) (h : IsLists w v ls) (hb : sumP ls ≤ 2000000) : Pure 57 #[v] w (.bool (decide (1500 < sumP ls))) := by
  have hsp := sumP_split ls
  obtain ⟨a, cap, hv, _⟩ := h.len
  have H := hid h
  have HSP := hid hsp
  subst hv
  have htot : (ls.map sumL).sum ≤ 2000000 := by omega
  have hll : ls.length + (ls.map sumL).sum ≤ 2000000 := by omega
  clear h hsp
  go_enter Tryd.func57, Tryd.ntmps57
  go_wp2_with fail
  go_loop [3, 12] (fun n i => ∃ k : Nat, k ≤ ls.length ∧ i = .int .i64 k ∧ n = .int .i64 ((ls.length + sumTo sumL ls k : Nat) : Int)) (fun _ i => ls.length - (intOf i).toNat)
  case atStart => exact ⟨0, Nat.zero_le _, rfl, by rw [sumTo_zero]; rfl⟩
  case round =>
    obtain ⟨k, hk, rfl, rfl⟩ := hrel
    have hst := sumTo_le sumL ls k
    by_cases hlt : k < ls.length
    · obtain ⟨b, o, c, e1, _, hb', hc⟩ := H.out.at_ (by rintro rfl; simp at hlt)
      simp only [Value.slice.injEq, true_and] at e1
      obtain ⟨rfl, rfl⟩ := e1
      obtain ⟨sv, d1, i1⟩ := hc k _ (List.getElem?_eq_getElem hlt)
      have hsn := sumTo_snoc sumL ls k hlt
      have hst2 := sumTo_le sumL ls (k + 1)
      obtain ⟨x, hx⟩ : ∃ x, ls[k] = x := ⟨_, rfl⟩
      rw [hx] at i1 hsn
      have hxs := sumL_split x
      obtain ⟨xa, xc, hxv, _⟩ := i1.len
      have I1 := hid i1
      subst hxv
      obtain ⟨B, hB⟩ : ∃ B, ls.length + sumTo sumL ls k = B := ⟨_, rfl⟩
      have hB2 : B + x.length + (x.map List.length).sum ≤ 2000000 := by omega
      have HSN : Hid (ls.length + sumTo sumL ls (k + 1) = B + x.length + (x.map List.length).sum) := hid (by omega)
      rw [hB]
      clear hc i1 hx hsn hst2 hxs hB hst
      go_wp2_with fail
      go_loop [3, 22] (fun n i => ∃ j : Nat, j ≤ x.length ∧ i = .int .i64 j ∧ n = .int .i64 ((B + x.length + sumTo List.length x j : Nat) : Int)) (fun _ i => x.length - (intOf i).toNat)
      case atStart => exact ⟨0, Nat.zero_le _, rfl, by rw [sumTo_zero]; go_num⟩
      case round =>
        obtain ⟨j, hj, rfl, rfl⟩ := hrel
        have hst := sumTo_le List.length x j
        by_cases hjt : j < x.length
        · obtain ⟨b2, o2, c2, e2, _, hb2', hc2⟩ := I1.out.at_ (by rintro rfl; simp at hjt)
          simp only [Value.slice.injEq, true_and] at e2
          obtain ⟨rfl, rfl⟩ := e2
          have d2 := hc2 j _ (List.getElem?_eq_getElem hjt)
          have hsn := sumTo_snoc List.length x j hjt
          have hst2 := sumTo_le List.length x (j + 1)
          obtain ⟨s, hs⟩ : ∃ s, x[j] = s := ⟨_, rfl⟩
          rw [hs] at d2 hsn
          have hs2 : B + x.length + sumTo List.length x j + s.length ≤ 2000000 := by omega
          have HSJ := hid hsn
          clear hc2 hs hsn hst2
          go_wp2_with fail
          go_round
          case rel => exact ⟨j + 1, by omega, by go_num, by rw [HSJ.out]; go_num⟩
          case measure => simp [intOf]; omega
        · obtain rfl : j = x.length := by omega
          have HE : Hid (sumTo List.length x x.length = (x.map List.length).sum) := hid (sumTo_all _ _ _ (Nat.le_refl _))
          rw [HE.out]
          go_wp2_with fail
          go_round
          case rel => exact ⟨k + 1, by omega, by go_num, by rw [HSN.out]⟩
          case measure => simp [intOf]; omega
    · obtain rfl : k = ls.length := by omega
      have HE : Hid (sumTo sumL ls ls.length = (ls.map sumL).sum) := hid (sumTo_all _ _ _ (Nat.le_refl _))
      rw [HE.out, ← HSP.out]
      clear hst
      go_wp2_with fail
      go_ret
      exact ⟨ret_bool (by simp; omega), rfl⟩


end Go.Proofs.YtniidkkldoijcaaDoor

namespace Go.Proofs.YtniidkkldoijcaaDoor
open Go.RowKit
set_option linter.unusedVariables false
set_option linter.unusedSimpArgs false

set_option maxRecDepth 100000 in
set_option maxHeartbeats 4000000 in
theorem thick_any (x : Vl) (a : Option Addr) (ca : Nat) (w : World) (hL : IsLists w (.slice a x.ps.length ca) x.ps) (ht : x.tx.length ≤ 1048576) (hp : sumP x.ps ≤ 2000000) : Gives 38 #[x.v (.slice a x.ps.length ca)] w (.bool (decide (1500 < x.tx.length ∨ 1500 < sumP x.ps))) := by
  obtain ⟨ty, tx, ps, ⟨y, m, d, h, nn, s_, zd, zn⟩, n⟩ := x
  simp only at hL ht hp
  have HL := hid hL
  have HP := hid hp
  clear hL hp
  simp only [Vl.v]
  have g0 : Hid (G w (w.alloc (.cells #[.int .i64 ty, .string (S tx), .slice a ps.length ca, .int .i64 y, .int .i64 m, .int .i64 d, .int .i64 h, .int .i64 nn, .int .i64 s_, .bool zd, .int .i64 zn, .int .i64 n] 30))) := hid ((G.refl w).alloc _)
  by_cases h1 : 1500 < tx.length
  · go_enter Tryd.func38, Tryd.ntmps38
    go_wp2_with fail
    go_ret
    exact ⟨ret_bool (by first | (simp; done) | (simp; omega)), by repeat (first | exact g0.out | apply G.drew)⟩
  · have hh := heavy_any (w.alloc (.cells #[.int .i64 ty, .string (S tx), .slice a ps.length ca, .int .i64 y, .int .i64 m, .int .i64 d, .int .i64 h, .int .i64 nn, .int .i64 s_, .bool zd, .int .i64 zn, .int .i64 n] 30)) (HL.out.grow g0.out) HP.out
    have HH := hid hh
    clear hh
    go_enter Tryd.func38, Tryd.ntmps38
    go_wp2_with fail
    refine HH.out.use ?_
    go_wp2_with fail
    go_ret
    exact ⟨ret_bool (by simp [h1]; intro hq; omega), by repeat (first | exact g0.out | apply G.drew)⟩

end Go.Proofs.YtniidkkldoijcaaDoor
