/-
  CONTRACT of slices.IsSorted at ints, of a list that rises. (printed by gen_issorted.py)
-/
import Derived.Test.YtniidkkldoijcaaDoorNums
import Derived.Test.YtniidkkldoijcaaDoorShelf
import Derived.Test.YtniidkkldoijcaaDoorMVeil
namespace Go.Proofs.YtniidkkldoijcaaDoor
open Go.RowKit
set_option linter.unusedVariables false
set_option linter.unusedSimpArgs false

def srtPhi (sv : Value) (bb off m : Nat) (x y : Int) (k : Nat) (v : Value) (W : World) : Prop :=
  match k with
  | 0 => v = sv
  | 1 => v = .int .i64 ((m : Int) + 1)
  | 2 => v = .pointer (some ⟨bb, off + (m + 1), none⟩)
  | 3 => v = .int .i64 x
  | 4 => v = sv
  | 5 => v = .int .i64 ((m : Int) + 1)
  | 6 => v = .int .i64 (m : Int)
  | 7 => v = .pointer (some ⟨bb, off + m, none⟩)
  | 8 => v = .int .i64 y
  | _ => True

set_option maxRecDepth 100000 in
set_option maxHeartbeats 4000000 in
theorem isSorted_any (v : Value) (xs : List Int) (w : World) (h : IsNums w v xs) (hs : xs.Pairwise (· < ·)) (hl : xs.length ≤ 1000000) : Gives 28 #[v] w (.bool true) := by
  have HN := hid h
  obtain ⟨a, c, rfl, _⟩ := h
  have HS := hid hs
  clear hs
  go_enter Tryd.func28, Tryd.ntmps28
  go_wp2_with fail
  go_loopw [3] (fun i wr => ∃ k : Int, i = .int .i64 k ∧ -1 ≤ k ∧ k ≤ (xs.length : Int) - 1 ∧ G w wr) (fun i _ => (intOf i).toNat)
  case atStart => exact ⟨(xs.length : Int) - 1, by go_num, by omega, by omega, G.refl _⟩
  case round =>
    obtain ⟨k0, rfl, hk0, hk1, gr⟩ := hrel
    have GR := hid gr
    clear gr
    by_cases hp : 0 < k0
    · obtain ⟨k, rfl⟩ : ∃ k : Nat, k0 = (k : Int) + 1 := ⟨(k0 - 1).toNat, by omega⟩
      have hlt : k + 1 < xs.length := by omega
      obtain ⟨a', c', e, _, hc⟩ := HN.out.grow GR.out
      obtain ⟨b, off, rfl, hbl, hcc⟩ := hc (by rintro rfl; simp at hlt)
      cases e
      obtain ⟨x, hx⟩ : ∃ x, xs[k + 1]? = some x := ⟨_, List.getElem?_eq_getElem hlt⟩
      obtain ⟨y, hy⟩ : ∃ y, xs[k]? = some y := ⟨_, List.getElem?_eq_getElem (by omega)⟩
      have c0 := hcc _ _ hx
      have c1 := hcc _ _ hy
      have hxy : ¬ x < y := by
        obtain ⟨h1, rfl⟩ := List.getElem?_eq_some_iff.1 hx
        obtain ⟨h2, rfl⟩ := List.getElem?_eq_some_iff.1 hy
        have := List.pairwise_iff_getElem.1 HS.out k (k + 1) h2 h1 (by omega)
        omega
      have hkz1 : (k : Int) + 1 < (xs.length : Int) := by omega
      have hkz0 : (k : Int) < (xs.length : Int) := by omega
      have hwk : IntKind.i64.wrap (k : Int) = (k : Int) := IntWalk.i64_in _ ⟨by omega, by omega⟩
      clear hcc hc hx hy
      go_wp2_with fail
      refine wp_region_any (by kernel_rfl) ?_
      refine wpAny_veiled (E := #[false, false, false, false, false, false, false, false, false, false]) G 9 (srtPhi (.slice (some ⟨b, off, none⟩) xs.length c) b off k x y) [some [], some [], some [(0, 11), (1, 12)], some [(2, 13)], some [], some [], some [(5, 16)], some [(4, 15), (6, 17)], some [(7, 18)], none] [(0, 11), (1, 12), (2, 13), (3, 14), (4, 15), (5, 16), (6, 17), (7, 18), (8, 19)] _ (by kernel_rfl) (by decide) (by kernel_rfl) (by kernel_rfl) rfl G.refl (fun _ _ _ => G.trans) (w0 := wr) ((G.refl wr).drew) ?_ ?_ ?_
      · intro k v W W' g h
        match k, h with
        | 0, h => exact h
        | 1, h => exact h
        | 2, h => exact h
        | 3, h => exact h
        | 4, h => exact h
        | 5, h => exact h
        | 6, h => exact h
        | 7, h => exact h
        | 8, h => exact h
        | n + 9, h => trivial
      · refine gAll_some (fun vals W g d => ?_) <| gAll_some (fun vals W g d => ?_) <| gAll_some (fun vals W g d => ?_) <| gAll_some (fun vals W g d => ?_) <| gAll_some (fun vals W g d => ?_) <| gAll_some (fun vals W g d => ?_) <| gAll_some (fun vals W g d => ?_) <| gAll_some (fun vals W g d => ?_) <| gAll_some (fun vals W g d => ?_) <| gAll_none gAll_nil
        · refine gOp_one rfl rfl rfl fun K hK => ?_
          simp only [gFr] at hK ⊢
          go_simp
          exact hK _ _ (G.refl _) rfl
        · refine gOp_one rfl rfl rfl fun K hK => ?_
          simp only [gFr] at hK ⊢
          go_simp
          exact hK _ _ (G.refl _) rfl
        · obtain ⟨d0, d1, _⟩ := d
          change vals 0 = _ at d0
          change vals 1 = _ at d1
          refine gOp_one rfl rfl rfl fun K hK => ?_
          simp only [gFr, d0, d1] at hK ⊢
          have h1 := hkz1
          go_simp
          exact hK _ _ (G.refl _) rfl
        · obtain ⟨d2, _⟩ := d
          change vals 2 = _ at d2
          refine gOp_one rfl rfl rfl fun K hK => ?_
          simp only [gFr, d2] at hK ⊢
          have ca := (g.cell (p := ⟨b, off + (k + 1), none⟩) hbl).trans c0
          have cb := (g.cell (p := ⟨b, off + k, none⟩) hbl).trans c1
          go_simp
          exact hK _ _ (G.refl _) rfl
        · refine gOp_one rfl rfl rfl fun K hK => ?_
          simp only [gFr] at hK ⊢
          go_simp
          exact hK _ _ (G.refl _) rfl
        · refine gOp_one rfl rfl rfl fun K hK => ?_
          simp only [gFr] at hK ⊢
          go_simp
          exact hK _ _ (G.refl _) rfl
        · obtain ⟨d5, _⟩ := d
          change vals 5 = _ at d5
          refine gOp_one rfl rfl rfl fun K hK => ?_
          simp only [gFr, d5] at hK ⊢
          have hwk2 := hwk
          go_simp
          exact hK _ _ (G.refl _) rfl
        · obtain ⟨d4, d6, _⟩ := d
          change vals 4 = _ at d4
          change vals 6 = _ at d6
          refine gOp_one rfl rfl rfl fun K hK => ?_
          simp only [gFr, d4, d6] at hK ⊢
          have h1 := hkz0
          go_simp
          exact hK _ _ (G.refl _) rfl
        · obtain ⟨d7, _⟩ := d
          change vals 7 = _ at d7
          refine gOp_one rfl rfl rfl fun K hK => ?_
          simp only [gFr, d7] at hK ⊢
          have ca := (g.cell (p := ⟨b, off + (k + 1), none⟩) hbl).trans c0
          have cb := (g.cell (p := ⟨b, off + k, none⟩) hbl).trans c1
          go_simp
          exact hK _ _ (G.refl _) rfl
      · intro vals W g d
        simp only [gFacts_cons, gFacts_nil] at d
        obtain ⟨d0, d1, d2, d3, d4, d5, d6, d7, d8, _⟩ := d
        change vals 0 = _ at d0
        change vals 1 = _ at d1
        change vals 2 = _ at d2
        change vals 3 = _ at d3
        change vals 4 = _ at d4
        change vals 5 = _ at d5
        change vals 6 = _ at d6
        change vals 7 = _ at d7
        change vals 8 = _ at d8
        have GR2 := hid (GR.out.trans g)
        refine ⟨?_⟩
        show wpList _ _ _ [_] _ _
        simp only [gFr, d0, d1, d2, d3, d4, d5, d6, d7, d8]
        clear d0 d1 d2 d3 d4 d5 d6 d7 d8
        go_wp2_with fail
        refine (Tryd.cmp_Less_int2 x y W).mono ?_
        rintro e w2 ⟨rfl, rfl⟩
        rw [decide_eq_false (by omega : ¬ x < y)]
        go_wp2_with fail
        go_roundw
        case rel => exact ⟨(k : Int), by go_num, by omega, by omega, GR2.out⟩
        case measure => simp [intOf]
    · have hp2 : ¬ 0 < k0 := hp
      go_wp2_with fail
      go_ret
      exact ⟨rfl, GR.out⟩
end Go.Proofs.YtniidkkldoijcaaDoor
