/-
  Texts merged into one: TextLaws, TextStill, TextLists.
-/
import Derived.Test.YtedlgpccmlcijaaGreatDoorLists
import Derived.Test.YtedlgpccmlcijaaGreatDoorMRow
namespace Go.Proofs.YtedlgpccmlcijaaGreatDoor
open Go.RowKit
set_option linter.unusedVariables false
set_option linter.unusedSimpArgs false




end Go.Proofs.YtedlgpccmlcijaaGreatDoor

namespace Go.Proofs.YtedlgpccmlcijaaGreatDoor
open Go.RowKit
set_option linter.unusedVariables false
set_option linter.unusedSimpArgs false

theorem parts_ne : ∀ (cs : List UInt8) (ts : List (List UInt8)) (cur : List (List UInt8)), cur ≠ [] → partsOf cur cs ts ≠ [] ∧ ∀ l ∈ partsOf cur cs ts, l ≠ [] := by
  intro cs
  induction cs with
  | nil => intro ts cur h; cases ts <;> simp [partsOf, h]
  | cons c cs ih =>
    intro ts cur h
    cases ts with
    | nil => simp [partsOf, h]
    | cons t ts =>
      rw [partsOf_cons]
      split
      · refine ⟨by simp, fun l hl => ?_⟩
        rcases List.mem_cons.1 hl with rfl | hl
        · exact h
        · exact (ih ts [t] (by simp)).2 l hl
      · exact ih ts (cur ++ [t]) (by simp)
theorem joinR_ne {ls : List (List UInt8)} (h : ls ≠ []) : joinR ls = .tuple #[.string (S (joinL ls)), .nilIface] := by unfold joinR; rw [if_neg h]
theorem joinPR_ne {ls : List (List (List UInt8))} {v : Value} {w : World} (h : joinPR ls v w) (h1 : ls ≠ []) (h2 : ∀ l ∈ ls, l ≠ []) : v = .tuple #[.string (S (joinP ls)), .nilIface] := by
  rcases h with ⟨h, _⟩ | ⟨_, _, h⟩ | ⟨k, e, h, _⟩
  · exact absurd h h1
  · exact h
  · exact absurd rfl (h2 _ (List.mem_of_getElem? h))
end Go.Proofs.YtedlgpccmlcijaaGreatDoor

namespace Go.Proofs.YtedlgpccmlcijaaGreatDoor
open Go.RowKit
set_option linter.unusedVariables false
set_option linter.unusedSimpArgs false

/-- a sum over the first k -/
def sumTo {α : Type} (f : α → Nat) (l : List α) (k : Nat) : Nat := ((l.take k).map f).sum
theorem sumTo_zero {α : Type} (f : α → Nat) (l : List α) : sumTo f l 0 = 0 := by simp [sumTo]
theorem sumTo_snoc {α : Type} (f : α → Nat) (l : List α) (k : Nat) (h : k < l.length) : sumTo f l (k + 1) = sumTo f l k + f l[k] := by
  unfold sumTo
  rw [List.take_succ_eq_append_getElem h, List.map_append, List.sum_append]
  simp
theorem sumTo_all {α : Type} (f : α → Nat) (l : List α) (k : Nat) (h : l.length ≤ k) : sumTo f l k = (l.map f).sum := by
  unfold sumTo; rw [List.take_of_length_le h]
theorem sumTo_le {α : Type} (f : α → Nat) (l : List α) (k : Nat) : sumTo f l k ≤ (l.map f).sum := by
  unfold sumTo
  conv => rhs; rw [← List.take_append_drop k l, List.map_append, List.sum_append]
  omega
theorem sumL_split (x : List (List UInt8)) : sumL x = x.length + (x.map List.length).sum := by
  induction x with
  | nil => rfl
  | cons a x ih => rw [sumL_cons, ih]; simp; omega
theorem sumP_split (x : List (List (List UInt8))) : sumP x = x.length + (x.map sumL).sum := by
  induction x with
  | nil => rfl
  | cons a x ih => rw [sumP_cons, ih]; simp; omega
set_option maxRecDepth 100000 in
set_option maxHeartbeats 2000000 in
theorem heavy_any {v : Value} {ls : List (List (List UInt8))} (w : World) (h : IsLists w v ls) (hb : sumP ls ≤ 2000000) : Pure 19 #[v] w (.bool (decide (1500 < sumP ls))) := by
  have hsp := sumP_split ls
  obtain ⟨a, cap, hv, _⟩ := h.len
  have H := hid h
  have HSP := hid hsp
  subst hv
  have htot : (ls.map sumL).sum ≤ 2000000 := by omega
  have hll : ls.length + (ls.map sumL).sum ≤ 2000000 := by omega
  clear h hsp
  go_enter Tryz.func19, Tryz.ntmps19
  go_wp2_with fail
  go_loop [3, 12] (fun n i => ∃ k : Nat, k ≤ ls.length ∧ i = .int .i64 k ∧ n = .int .i64 ((ls.length + sumTo sumL ls k : Nat) : Int)) (fun _ i => ls.length - (intOf i).toNat)
  case atStart => exact ⟨0, Nat.zero_le _, rfl, by rw [sumTo_zero]; rfl⟩
  case round =>
    obtain ⟨k, hk, rfl, rfl⟩ := hrel
    have hst := sumTo_le sumL ls k
    by_cases hlt : k < ls.length
    · obtain ⟨b, o, c, e1, _, hb', hc⟩ := H.out.at_ (by rintro rfl; simp at hlt)
      simp only [Value.slice.injEq, true_and] at e1
      obtain ⟨rfl, rfl⟩ := e1
      obtain ⟨sv, d1, i1⟩ := hc k _ (List.getElem?_eq_getElem hlt)
      have hsn := sumTo_snoc sumL ls k hlt
      have hst2 := sumTo_le sumL ls (k + 1)
      obtain ⟨x, hx⟩ : ∃ x, ls[k] = x := ⟨_, rfl⟩
      rw [hx] at i1 hsn
      have hxs := sumL_split x
      obtain ⟨xa, xc, hxv, _⟩ := i1.len
      have I1 := hid i1
      subst hxv
      obtain ⟨B, hB⟩ : ∃ B, ls.length + sumTo sumL ls k = B := ⟨_, rfl⟩
      have hB2 : B + x.length + (x.map List.length).sum ≤ 2000000 := by omega
      have HSN : Hid (ls.length + sumTo sumL ls (k + 1) = B + x.length + (x.map List.length).sum) := hid (by omega)
      rw [hB]
      clear hc i1 hx hsn hst2 hxs hB hst
      go_wp2_with fail
      go_loop [3, 22] (fun n i => ∃ j : Nat, j ≤ x.length ∧ i = .int .i64 j ∧ n = .int .i64 ((B + x.length + sumTo List.length x j : Nat) : Int)) (fun _ i => x.length - (intOf i).toNat)
      case atStart => exact ⟨0, Nat.zero_le _, rfl, by rw [sumTo_zero]; go_num⟩
      case round =>
        obtain ⟨j, hj, rfl, rfl⟩ := hrel
        have hst := sumTo_le List.length x j
        by_cases hjt : j < x.length
        · obtain ⟨b2, o2, c2, e2, _, hb2', hc2⟩ := I1.out.at_ (by rintro rfl; simp at hjt)
          simp only [Value.slice.injEq, true_and] at e2
          obtain ⟨rfl, rfl⟩ := e2
          have d2 := hc2 j _ (List.getElem?_eq_getElem hjt)
          have hsn := sumTo_snoc List.length x j hjt
          have hst2 := sumTo_le List.length x (j + 1)
          obtain ⟨s, hs⟩ : ∃ s, x[j] = s := ⟨_, rfl⟩
          rw [hs] at d2 hsn
          have hs2 : B + x.length + sumTo List.length x j + s.length ≤ 2000000 := by omega
          have HSJ := hid hsn
          clear hc2 hs hsn hst2
          go_wp2_with fail
          go_round
          case rel => exact ⟨j + 1, by omega, by go_num, by rw [HSJ.out]; go_num⟩
          case measure => simp [intOf]; omega
        · obtain rfl : j = x.length := by omega
          have HE : Hid (sumTo List.length x x.length = (x.map List.length).sum) := hid (sumTo_all _ _ _ (Nat.le_refl _))
          rw [HE.out]
          go_wp2_with fail
          go_round
          case rel => exact ⟨k + 1, by omega, by go_num, by rw [HSN.out]⟩
          case measure => simp [intOf]; omega
    · obtain rfl : k = ls.length := by omega
      have HE : Hid (sumTo sumL ls ls.length = (ls.map sumL).sum) := hid (sumTo_all _ _ _ (Nat.le_refl _))
      rw [HE.out, ← HSP.out]
      clear hst
      go_wp2_with fail
      go_ret
      exact ⟨ret_bool (by simp; omega), rfl⟩

theorem IsStrs.one {w : World} {v : Value} {ls : List (List UInt8)} (h : IsStrs w v ls) : v.oneCell' = true := by
  obtain ⟨a, c, rfl, _⟩ := h.len; rfl
theorem lists_two {w : World} {va vb : Value} {a b : List (List UInt8)} (ha : IsStrs w va a) (hb : IsStrs w vb b) : IsLists (w.alloc (.cells #[va, vb] 42)) (.slice (some ⟨w.heap.size, 0, none⟩) 2 2) [a, b] := by
  have h := lists_lit (w := w) (ls := [a, b]) (vs := [va, vb]) 42 2 rfl (by simp) rfl (by intro u hu; simp at hu; rcases hu with rfl | rfl; exact ha.one; exact hb.one) (by
    intro i l v hl hv
    match i, hl, hv with
    | 0, hl, hv => simp at hl hv; subst hl; subst hv; exact ha
    | 1, hl, hv => simp at hl hv; subst hl; subst hv; exact hb
    | n + 2, hl, hv => simp at hl)
  exact h
theorem joinL_append (a b : List (List UInt8)) (ha : a ≠ []) (hb : b ≠ []) : joinL (a ++ b) = joinL a ++ 44 :: joinL b := by
  cases a with
  | nil => exact absurd rfl ha
  | cons x xs =>
    cases b with
    | nil => exact absurd rfl hb
    | cons y ys =>
      rw [List.cons_append, joinL_eq, joinL_eq, joinL_eq, joinS_tail, joinS_tail, joinS_tail]
      simp [Lib.joinTail]


end Go.Proofs.YtedlgpccmlcijaaGreatDoor
