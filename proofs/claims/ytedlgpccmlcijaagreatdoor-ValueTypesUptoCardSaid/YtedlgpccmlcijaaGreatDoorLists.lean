/-
  CONTRACTS of slices.Equal of strings, slices.EqualFunc of lists of them; the fact 'escaped'.
-/
import Derived.Test.YtedlgpccmlcijaaGreatDoorParts
namespace Go.Proofs.YtedlgpccmlcijaaGreatDoor
open Go.RowKit
set_option linter.unusedVariables false
set_option linter.unusedSimpArgs false

theorem map_S_inj {a b : List (List UInt8)} (h : a.map S = b.map S) : a = b := by
  induction a generalizing b with
  | nil => cases b with | nil => rfl | cons _ _ => simp at h
  | cons x a ih =>
    cases b with
    | nil => simp at h
    | cons y b =>
      simp only [List.map_cons, List.cons.injEq] at h
      rw [S_inj.1 h.1, ih h.2]
theorem eqStrs_q {va vb : Value} {xs ys : List (List UInt8)} {w : World} (ha : IsStrs w va xs) (hb : IsStrs w vb ys) (lx : xs.length ≤ 1000000) (ly : ys.length ≤ 1000000) :
    Calls Tryz.prog 37 #[va, vb] w fun e w' => e = .returned (.bool (decide (xs = ys))) ∧ ∃ q, w' = w.drewN q := by
  obtain ⟨aa, ca, hva, _⟩ := ha.len
  obtain ⟨ab, cb, hvb, _⟩ := hb.len
  by_cases hn : xs.length = ys.length
  · by_cases h0 : xs = []
    · subst h0
      have : ys = [] := List.eq_nil_of_length_eq_zero (by rw [← hn]; rfl)
      subst this
      subst hva; subst hvb
      refine (Tryz.slices_Equal_string_empty aa ab ca 0 cb w (by omega)).mono ?_
      rintro e w' ⟨rfl, rfl⟩
      exact ⟨by simp, 0, rfl⟩
    · have h1 : ys ≠ [] := by rintro rfl; exact h0 (List.eq_nil_of_length_eq_zero (by rw [hn]; rfl))
      obtain ⟨b1, o1, c1, rfl, _, _, hc1⟩ := ha.at_ h0
      obtain ⟨b2, o2, c2, rfl, _, _, hc2⟩ := hb.at_ h1
      have key : ∀ (l : List (List UInt8)) (b o : Nat), (∀ (i : Nat) (x : List UInt8), l[i]? = some x → w.cell? ⟨b, o + i, none⟩ = some (.string (S x))) → ∀ j, j < (l.map S).length → w.cell? ⟨b, o + j, none⟩ = some (.string ((l.map S).getD j ByteArray.empty)) := by
        intro l b o h j hj
        have hj' : j < l.length := by simpa using hj
        rw [h j l[j] (List.getElem?_eq_getElem hj')]
        simp [List.getD, List.getElem?_eq_getElem hj']
      refine (Tryz.slices_Equal_string b1 o1 xs.length c1 b2 o2 ys.length c2 (xs.map S) (ys.map S) w (by simp) (by simp) (by omega) (by omega) (key xs b1 o1 hc1) (key ys b2 o2 hc2)).mono ?_
      rintro e w' ⟨rfl, hq⟩
      refine ⟨ret_bool ?_, hq⟩
      rw [List.take_of_length_le (by simp), List.take_of_length_le (by simp)]
      exact decide_eq_decide.2 ⟨map_S_inj, fun h => by rw [h]⟩
  · subst hva; subst hvb
    refine (Tryz.slices_Equal_string_lens aa ab xs.length ca ys.length cb w hn).mono ?_
    rintro e w' ⟨rfl, rfl⟩
    exact ⟨ret_bool (decide_eq_false (fun e => hn (by rw [e]))).symm, 0, rfl⟩
theorem G.ofDrewN {w w' : World} (h : ∃ q, w' = w.drewN q) : G w w' := by
  obtain ⟨q, rfl⟩ := h; exact (G.refl w).drewN q
theorem eqStrs_any {va vb : Value} {xs ys : List (List UInt8)} {w : World} (ha : IsStrs w va xs) (hb : IsStrs w vb ys) (lx : xs.length ≤ 1000000) (ly : ys.length ≤ 1000000) : Gives 37 #[va, vb] w (.bool (decide (xs = ys))) :=
  (eqStrs_q ha hb lx ly).mono fun e w' ⟨h1, h2⟩ => ⟨h1, G.ofDrewN h2⟩
theorem IsStrs.lit (w : World) (ls : List (List UInt8)) (n : Nat) (hn : n = ls.length) (h : ls ≠ []) : IsStrs (w.alloc (.cells ((ls.map S).map Value.string).toArray 9)) (.slice (some ⟨w.heap.size, 0, none⟩) n n) ls := by
  subst hn; exact strs_of_alloc w _ ls h

set_option maxRecDepth 100000 in
set_option maxHeartbeats 2000000 in
theorem eqLists_any {va vb : Value} {xs ys : List (List (List UInt8))} {w : World} (ha : IsLists w va xs) (hb : IsLists w vb ys) (lx : sumP xs ≤ 1000000) (ly : sumP ys ≤ 1000000) :
    Gives 36 #[va, vb, .func (.func 37) #[] #[]] w (.bool (decide (xs = ys))) := by
  obtain ⟨aa, ca, hva, _⟩ := ha.len
  obtain ⟨ab, cb, hvb, _⟩ := hb.len
  have hlx := sumP_len xs
  have hly := sumP_len ys
  by_cases hn : xs.length = ys.length
  · have HA := hid ha
    have HB := hid hb
    have HMX : Hid (∀ l ∈ xs, sumL l + 1 ≤ sumP xs) := hid (fun l hl => sumP_mem hl)
    have HMY : Hid (∀ l ∈ ys, sumL l + 1 ≤ sumP ys) := hid (fun l hl => sumP_mem hl)
    subst hva; subst hvb
    clear ha hb
    have hb1 : ((xs.length : Int) != (ys.length : Int)) = false := by rw [hn]; simp
    have HN := hid hn
    clear hn
    go_enter Tryz.func36, Tryz.ntmps36
    go_wp2_with fail
    go_loopw [17] (fun i wr => ∃ k : Nat, k ≤ xs.length ∧ i = .int .i64 k ∧ G w wr ∧ ∀ j, j < k → xs[j]? = ys[j]?) (fun i _ => xs.length - (intOf i).toNat)
    case atStart => exact ⟨0, Nat.zero_le _, rfl, G.refl _, by omega⟩
    case round =>
      obtain ⟨k, hk, rfl, g, hall⟩ := hrel
      have HG := hid g
      have HALL := hid hall
      clear g hall
      by_cases hlt : k < xs.length
      · have hlt2 : k < ys.length := by rw [← HN.out]; exact hlt
        obtain ⟨b1, o1, c1, e1, _, hb1', hc1⟩ := HA.out.at_ (by rintro rfl; simp at hlt)
        obtain ⟨b2, o2, c2, e2, _, hb2', hc2⟩ := HB.out.at_ (by rintro rfl; simp at hlt2)
        simp only [Value.slice.injEq, true_and] at e1 e2
        obtain ⟨rfl, rfl⟩ := e1
        obtain ⟨rfl, rfl⟩ := e2
        obtain ⟨s1, d1, i1⟩ := hc1 k _ (List.getElem?_eq_getElem hlt)
        obtain ⟨s2, d2, i2⟩ := hc2 k _ (List.getElem?_eq_getElem hlt2)
        obtain ⟨x, hx⟩ : ∃ x, xs[k] = x := ⟨_, rfl⟩
        obtain ⟨y, hy⟩ : ∃ y, ys[k] = y := ⟨_, rfl⟩
        have sx := HMX.out _ (List.getElem_mem hlt)
        have sy := HMY.out _ (List.getElem_mem hlt2)
        rw [hx] at i1 sx
        rw [hy] at i2 sy
        have lx1 := sumL_len x
        have ly1 := sumL_len y
        have I1 := hid (i1.grow HG.out)
        have I2 := hid (i2.grow HG.out)
        rw [← HG.out.cell (p := ⟨b1, o1 + k, none⟩) hb1'] at d1
        rw [← HG.out.cell (p := ⟨b2, o2 + k, none⟩) hb2'] at d2
        have HX := hid hx
        have HY := hid hy
        clear hx hy i1 i2 hc1 hc2
        go_wp2_with fail
        refine (eqStrs_any I1.out I2.out (by omega) (by omega)).use ?_
        intro w1 g1
        by_cases hxy : x = y
        · rw [decide_eq_true hxy]
          go_wp2_with fail
          go_roundw
          case rel =>
            refine ⟨k + 1, by omega, by go_num, HG.out.trans g1, fun j hj => ?_⟩
            rcases Nat.lt_or_ge j k with h | h
            · exact HALL.out j h
            · obtain rfl : j = k := by omega
              rw [List.getElem?_eq_getElem hlt, List.getElem?_eq_getElem hlt2, HX.out, HY.out, hxy]
          case measure => simp [intOf]; omega
        · have HR : Hid (decide (xs = ys) = false) := hid (decide_eq_false (by
            intro e
            apply hxy
            rw [← HX.out, ← HY.out]
            simp only [e]))
          rw [decide_eq_false hxy]
          go_wp2_with fail
          go_ret
          exact ⟨ret_bool HR.out.symm, HG.out.trans g1⟩
      · have HR : Hid (decide (xs = ys) = true) := hid (decide_eq_true (by
          apply List.ext_getElem?
          intro j
          rcases Nat.lt_or_ge j k with h | h
          · exact HALL.out j h
          · rw [List.getElem?_eq_none (by omega), List.getElem?_eq_none (by have := HN.out; omega)]))
        go_wp2_with fail
        go_ret
        exact ⟨ret_bool HR.out.symm, HG.out⟩
  · subst hva; subst hvb
    clear ha hb
    have hb1 : ((xs.length : Int) != (ys.length : Int)) = true := by simp; omega
    have HR : Hid (decide (xs = ys) = false) := hid (decide_eq_false (fun e => hn (by rw [e])))
    clear hn
    go_enter Tryz.func36, Tryz.ntmps36
    go_wp2_with fail
    go_ret
    exact ⟨ret_bool HR.out.symm, G.refl _⟩
theorem sameLists_any {va vb : Value} {xs ys : List (List (List UInt8))} {w : World} (ha : IsLists w va xs) (hb : IsLists w vb ys) (lx : sumP xs ≤ 1000000) (ly : sumP ys ≤ 1000000) : Gives 18 #[va, vb] w (.bool (decide (xs = ys))) := by
  have HA := hid ha
  have HB := hid hb
  obtain ⟨aa, ca, hva, _⟩ := ha.len
  obtain ⟨ab, cb, hvb, _⟩ := hb.len
  subst hva; subst hvb
  clear ha hb
  go_enter Tryz.func18, Tryz.ntmps18
  go_wp2_with fail
  refine (eqLists_any HA.out HB.out lx ly).use ?_
  intro w1 g1
  go_wp2_with fail
  go_ret
  exact ⟨rfl, g1⟩
/-- lists of lists laid one behind the other -/
theorem lists_lit {w : World} {ls : List (List (List UInt8))} {vs : List Value} (t : TypeId) (n : Nat) (hn : n = ls.length) (h0 : ls ≠ []) (hl : vs.length = ls.length) (hone : ∀ u ∈ vs, u.oneCell' = true) (h : ∀ (i : Nat) (l : List (List UInt8)) (v : Value), ls[i]? = some l → vs[i]? = some v → IsStrs w v l) :
    IsLists (w.alloc (.cells vs.toArray t)) (.slice (some ⟨w.heap.size, 0, none⟩) n n) ls := by
  subst hn
  refine ⟨vs, ⟨by simp [hl], hone, .inr ⟨w.heap.size, 0, ls.length, rfl, by simp, List.length_pos_iff.2 h0, fun j hj => ?_⟩⟩, Nat.le_refl _, fun i l hl2 => ?_⟩
  · rw [Nat.zero_add, World.cell?_alloc_new]
    simp [List.getElem?_eq_getElem hj]
  · have hi : i < ls.length := by
      rcases Nat.lt_or_ge i ls.length with h | h
      · exact h
      · rw [List.getElem?_eq_none h] at hl2; cases hl2
    have hv : vs[i]? = some vs[i] := List.getElem?_eq_getElem (by omega)
    exact ⟨_, hv, (h i l _ hl2 hv).grow ((G.refl w).alloc _)⟩

def escX : List UInt8 := [97, 92, 44, 98, 92, 110, 59, 99]
def escY : List UInt8 := [97, 44, 98, 59, 99, 92, 59, 100, 59]
theorem escX_r : piecesGo [] escX 0 [] [] [] = .good [[97, 44, 98, 10, 59, 99]] [] := by kernel_rfl
theorem escY_r : piecesGo [44, 59] escY 0 [] [] [] = .good [[97], [98], [99, 59, 100], []] [44, 59, 59] := by kernel_rfl
theorem escZ_r : replL escF [97, 59, 92, 10] = [97, 92, 59, 92, 92, 92, 110] := by decide +kernel
theorem lit3 (w3 : World) : IsLists ((((w3.alloc (.cells #[.string (S [97]), .string (S [98])] 9)).alloc (.cells #[.string (S [99, 59, 100])] 9)).alloc (.cells #[.string (S [])] 9)).alloc (.cells #[.slice (some ⟨w3.heap.size, 0, none⟩) 2 2, .slice (some ⟨w3.heap.size + 1, 0, none⟩) 1 1, .slice (some ⟨w3.heap.size + 1 + 1, 0, none⟩) 1 1] 42)) (.slice (some ⟨w3.heap.size + 1 + 1 + 1, 0, none⟩) 3 3) [[[97], [98]], [[99, 59, 100]], [[]]] := by
  have i1 : IsStrs (w3.alloc (.cells #[.string (S [97]), .string (S [98])] 9)) (.slice (some ⟨w3.heap.size, 0, none⟩) 2 2) [[97], [98]] := IsStrs.lit w3 [[97], [98]] 2 rfl (by simp)
  have i2 : IsStrs ((w3.alloc (.cells #[.string (S [97]), .string (S [98])] 9)).alloc (.cells #[.string (S [99, 59, 100])] 9)) (.slice (some ⟨w3.heap.size + 1, 0, none⟩) 1 1) [[99, 59, 100]] := by
    have := IsStrs.lit (w3.alloc (.cells #[.string (S [97]), .string (S [98])] 9)) [[99, 59, 100]] 1 rfl (by simp)
    simpa using this
  have i3 : IsStrs (((w3.alloc (.cells #[.string (S [97]), .string (S [98])] 9)).alloc (.cells #[.string (S [99, 59, 100])] 9)).alloc (.cells #[.string (S [])] 9)) (.slice (some ⟨w3.heap.size + 1 + 1, 0, none⟩) 1 1) [[]] := by
    have := IsStrs.lit ((w3.alloc (.cells #[.string (S [97]), .string (S [98])] 9)).alloc (.cells #[.string (S [99, 59, 100])] 9)) [[]] 1 rfl (by simp)
    simpa using this
  have h := lists_lit (w := ((w3.alloc (.cells #[.string (S [97]), .string (S [98])] 9)).alloc (.cells #[.string (S [99, 59, 100])] 9)).alloc (.cells #[.string (S [])] 9)) (ls := [[[97], [98]], [[99, 59, 100]], [[]]]) (vs := [.slice (some ⟨w3.heap.size, 0, none⟩) 2 2, .slice (some ⟨w3.heap.size + 1, 0, none⟩) 1 1, .slice (some ⟨w3.heap.size + 1 + 1, 0, none⟩) 1 1]) 42 3 rfl (by simp) rfl (by intro u hu; simp at hu; rcases hu with rfl | rfl | rfl <;> rfl) (by
    intro i l v hl hv
    match i, hl, hv with
    | 0, hl, hv => simp at hl hv; subst hl; subst hv; exact (i1.grow ((G.refl _).alloc _)).grow ((G.refl _).alloc _)
    | 1, hl, hv => simp at hl hv; subst hl; subst hv; exact i2.grow ((G.refl _).alloc _)
    | 2, hl, hv => simp at hl hv; subst hl; subst hv; exact i3
    | n + 3, hl, hv => simp at hl)
  simpa using h
end Go.Proofs.YtedlgpccmlcijaaGreatDoor
