/-
  Texts merged into one: SumTo, Wide.
-/
import Derived.Test.YtniidkkldoijcaaDoorBase
import Derived.Test.YtniidkkldoijcaaDoorParams
namespace Go.Proofs.YtniidkkldoijcaaDoor

/-- a sum over the first k -/
def sumTo {α : Type} (f : α → Nat) (l : List α) (k : Nat) : Nat := ((l.take k).map f).sum
theorem sumTo_zero {α : Type} (f : α → Nat) (l : List α) : sumTo f l 0 = 0 := by simp [sumTo]
theorem sumTo_snoc {α : Type} (f : α → Nat) (l : List α) (k : Nat) (h : k < l.length) : sumTo f l (k + 1) = sumTo f l k + f l[k] := by
  unfold sumTo
  rw [List.take_succ_eq_append_getElem h, List.map_append, List.sum_append]
  simp
theorem sumTo_all {α : Type} (f : α → Nat) (l : List α) (k : Nat) (h : l.length ≤ k) : sumTo f l k = (l.map f).sum := by
  unfold sumTo; rw [List.take_of_length_le h]
theorem sumTo_le {α : Type} (f : α → Nat) (l : List α) (k : Nat) : sumTo f l k ≤ (l.map f).sum := by
  unfold sumTo
  conv => rhs; rw [← List.take_append_drop k l, List.map_append, List.sum_append]
  omega

end Go.Proofs.YtniidkkldoijcaaDoor

namespace Go.Proofs.YtniidkkldoijcaaDoor
open Go.RowKit
set_option linter.unusedVariables false
set_option linter.unusedSimpArgs false

/-- so many letters and values has a parameter -/
def lensP (p : Pm) : Nat := p.1.length + p.2.length + (p.2.map List.length).sum
/-- so many parameters, letters and values -/
def wideN (ps : List Pm) : Nat := ps.length + (ps.map lensP).sum
set_option maxRecDepth 100000 in
set_option maxHeartbeats 4000000 in
theorem wide_any (g n v : List UInt8) (pv : Value) (ps : List Pm) (w : World) (hP : IsParams w pv ps) (hb : wideN ps ≤ 2000000) (hg : g.length ≤ 2000000) (hn : n.length ≤ 2000000) (hv : v.length ≤ 2000000) :
    Gives 37 #[.agg #[.string (S g), .string (S n), pv, .string (S v)]] w (.bool (decide (2500 < wideN ps + g.length + n.length + v.length))) := by
  have H := hid hP
  obtain ⟨a, cap, rfl, _, _⟩ := hP
  have htot : ps.length + (ps.map lensP).sum ≤ 2000000 := hb
  have HW : Hid (wideN ps = ps.length + (ps.map lensP).sum) := hid rfl
  clear hb
  obtain ⟨B0, hB0⟩ : ∃ B0, B0 = ps.length + g.length + n.length + v.length := ⟨_, rfl⟩
  have hb0 : B0 ≤ 8000000 := by omega
  have HB0 := hid hB0
  go_enter Tryd.func37, Tryd.ntmps37
  go_wp2_with fail
  go_loopw [3, 26] (fun m i wr => ∃ k : Nat, k ≤ ps.length ∧ i = .int .i64 k ∧ m = .int .i64 ((B0 + sumTo lensP ps k : Nat) : Int) ∧ G w wr) (fun _ i _ => ps.length - (intOf i).toNat)
  case atStart => exact ⟨0, Nat.zero_le _, rfl, by rw [sumTo_zero, hB0]; go_num, (by repeat (first | exact G.refl _ | assumption | apply G.drew | apply G.drewN | apply G.alloc | refine G.trans ?_ (by assumption)))⟩
  case round =>
    obtain ⟨k, hk, rfl, rfl, gr⟩ := hrel
    have GR := hid gr
    have hst := sumTo_le lensP ps k
    clear gr hB0
    by_cases hlt : k < ps.length
    · obtain ⟨a2, cap2, e1, _, hc⟩ := H.out.grow GR.out
      obtain ⟨b, off, e2, hbl, hcc⟩ := hc (by rintro rfl; simp at hlt)
      clear hc
      simp only [Value.slice.injEq, true_and] at e1
      obtain ⟨rfl, rfl⟩ := e1
      subst e2
      obtain ⟨sv, c1, c2, c3⟩ := hcc k _ (List.getElem?_eq_getElem hlt)
      have hsn := sumTo_snoc lensP ps k hlt
      have hst2 := sumTo_le lensP ps (k + 1)
      obtain ⟨p, hpe⟩ : ∃ p, ps[k] = p := ⟨_, rfl⟩
      rw [hpe] at c1 c3 hsn
      obtain ⟨nm, x⟩ := p
      obtain ⟨xa, xc, rfl, _⟩ := c3.len
      have I1 := hid c3
      simp only [lensP] at hsn c1
      obtain ⟨B, hB⟩ : ∃ B, B0 + sumTo lensP ps k = B := ⟨_, rfl⟩
      have hB2 : B + nm.length + x.length + (x.map List.length).sum ≤ 12000000 := by omega
      have HSN : Hid (B0 + sumTo lensP ps (k + 1) = B + nm.length + x.length + (x.map List.length).sum) := hid (by omega)
      rw [hB]
      clear hcc c3 hpe hsn hst2 hB hst
      go_wp2_with fail
      generalize hwa : World.alloc wr _ = wa
      have GA : Hid (G w wa) := hid (by rw [← hwa]; exact GR.out.alloc _)
      have I2 : Hid (IsStrs wa (.slice xa x.length xc) x) := hid (I1.out.grow (by rw [← hwa]; exact (G.refl _).alloc _))
      clear hwa c1 c2
      go_loop [3, 42] (fun m i => ∃ j : Nat, j ≤ x.length ∧ i = .int .i64 j ∧ m = .int .i64 ((B + nm.length + x.length + sumTo List.length x j : Nat) : Int)) (fun _ i => x.length - (intOf i).toNat)
      case atStart => exact ⟨0, Nat.zero_le _, rfl, by rw [sumTo_zero]; go_num⟩
      case round =>
        obtain ⟨j, hj, rfl, rfl⟩ := hrel
        have hst := sumTo_le List.length x j
        by_cases hjt : j < x.length
        · obtain ⟨b2, o2, c2, e2, _, hb2', hc2⟩ := I2.out.at_ (by rintro rfl; simp at hjt)
          simp only [Value.slice.injEq, true_and] at e2
          obtain ⟨rfl, rfl⟩ := e2
          have d2 := hc2 j _ (List.getElem?_eq_getElem hjt)
          have hsn := sumTo_snoc List.length x j hjt
          have hst2 := sumTo_le List.length x (j + 1)
          obtain ⟨s, hs⟩ : ∃ s, x[j] = s := ⟨_, rfl⟩
          rw [hs] at d2 hsn
          have hs2 : B + nm.length + x.length + sumTo List.length x j + s.length ≤ 12000000 := by omega
          have HSJ := hid hsn
          clear hc2 hs hsn hst2
          go_wp2_with fail
          go_round
          case rel => exact ⟨j + 1, by omega, by go_num, by rw [HSJ.out]; go_num⟩
          case measure => simp [intOf]; omega
        · obtain rfl : j = x.length := by omega
          have HE : Hid (sumTo List.length x x.length = (x.map List.length).sum) := hid (sumTo_all _ _ _ (Nat.le_refl _))
          rw [HE.out]
          go_wp2_with fail
          go_roundw
          case rel => exact ⟨k + 1, by omega, by go_num, by rw [HSN.out], GA.out⟩
          case measure => simp [intOf]; omega
    · obtain rfl : k = ps.length := by omega
      have HE : Hid (sumTo lensP ps ps.length = (ps.map lensP).sum) := hid (sumTo_all _ _ _ (Nat.le_refl _))
      rw [HE.out]
      go_wp2_with fail
      go_ret
      exact ⟨ret_bool (by rw [HW.out, HB0.out, Bool.eq_iff_iff]; simp; omega), GR.out⟩

end Go.Proofs.YtniidkkldoijcaaDoor
