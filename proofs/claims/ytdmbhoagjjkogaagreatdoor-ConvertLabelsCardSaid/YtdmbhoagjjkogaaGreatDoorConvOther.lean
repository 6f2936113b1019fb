/-
  CONTRACT of convert.other. (written by gen_convother.py)
-/
import Derived.Test.YtdmbhoagjjkogaaGreatDoorMA53
import Derived.Test.YtdmbhoagjjkogaaGreatDoorMA48
import Derived.Test.YtdmbhoagjjkogaaGreatDoorMVeil
import Derived.Test.YtdmbhoagjjkogaaGreatDoorMA54
namespace Go.Proofs.YtdmbhoagjjkogaaGreatDoor
open Go.RowKit
set_option linter.unusedVariables false
set_option linter.unusedSimpArgs false
def zIt : It := ⟨[], [], [], ⟨0, [], [], St0, 0⟩⟩
def setAll (X : Nat) : World → Nat → List Value → World
  | W, _, [] => W
  | W, i, v :: vs => setAll X (W.setCell ⟨X, i, none⟩ v) (i + 1) vs
theorem setAll_row {X : Nat} {T : TypeId} : ∀ (vs : List Value) (W : World) (i : Nat) (cs : Array Value), W.heap[X]? = some (.cells cs T (0, 0)) → cs.size = i + vs.length → (setAll X W i vs).heap[X]? = some (.cells ((cs.toList.take i) ++ vs).toArray T (0, 0))
  | [], W, i, cs, h, hs => by
    simp only [setAll, List.append_nil]
    rw [h, List.take_of_length_le (by simp at hs; simp [hs])]
  | v :: vs, W, i, cs, h, hs => by
    have h1 : (W.setCell ⟨X, i, none⟩ v).heap[X]? = some (.cells (cs.setIfInBounds i v) T (0, 0)) := by
      simp [World.setCell, Array.getElem?_modify, h]
    have h2 := setAll_row vs _ (i + 1) _ h1 (by simp at hs ⊢; omega)
    rw [setAll, h2]
    congr 2
    have hi : i < cs.toList.length := by simp at hs ⊢; omega
    rw [Array.toList_setIfInBounds, List.take_succ_eq_append_getElem (by simpa using hi), List.take_set_of_le (Nat.le_refl _)]
    simp
theorem setAll_g {w : World} {X : Nat} (hX : w.heap.size ≤ X) : ∀ (vs : List Value) (W : World) (i : Nat), G w W → G w (setAll X W i vs)
  | [], W, i, g => g
  | v :: vs, W, i, g => setAll_g hX vs _ _ (g_set g hX)
theorem setI_row {W : World} {X : Nat} {T : TypeId} {cs : Array Value} (h : W.heap[X]? = some (.cells cs T (0, 0))) (hs : cs.size = 15) (a0 a1 a2 a3 a4 a5 a6 a7 a8 a9 a10 a11 a12 a13 a14 : Value) : (((((((((((((((W.setCell ⟨X, 0, none⟩ a0).setCell ⟨X, 1, none⟩ a1).setCell ⟨X, 2, none⟩ a2).setCell ⟨X, 3, none⟩ a3).setCell ⟨X, 4, none⟩ a4).setCell ⟨X, 5, none⟩ a5).setCell ⟨X, 6, none⟩ a6).setCell ⟨X, 7, none⟩ a7).setCell ⟨X, 8, none⟩ a8).setCell ⟨X, 9, none⟩ a9).setCell ⟨X, 10, none⟩ a10).setCell ⟨X, 11, none⟩ a11).setCell ⟨X, 12, none⟩ a12).setCell ⟨X, 13, none⟩ a13).setCell ⟨X, 14, none⟩ a14).heap[X]? = some (.cells #[a0, a1, a2, a3, a4, a5, a6, a7, a8, a9, a10, a11, a12, a13, a14] T (0, 0)) :=
  setAll_row [a0, a1, a2, a3, a4, a5, a6, a7, a8, a9, a10, a11, a12, a13, a14] W 0 cs h hs
theorem setI_g {w W : World} {X : Nat} (hX : w.heap.size ≤ X) (g : G w W) (a0 a1 a2 a3 a4 a5 a6 a7 a8 a9 a10 a11 a12 a13 a14 : Value) : G w (((((((((((((((W.setCell ⟨X, 0, none⟩ a0).setCell ⟨X, 1, none⟩ a1).setCell ⟨X, 2, none⟩ a2).setCell ⟨X, 3, none⟩ a3).setCell ⟨X, 4, none⟩ a4).setCell ⟨X, 5, none⟩ a5).setCell ⟨X, 6, none⟩ a6).setCell ⟨X, 7, none⟩ a7).setCell ⟨X, 8, none⟩ a8).setCell ⟨X, 9, none⟩ a9).setCell ⟨X, 10, none⟩ a10).setCell ⟨X, 11, none⟩ a11).setCell ⟨X, 12, none⟩ a12).setCell ⟨X, 13, none⟩ a13).setCell ⟨X, 14, none⟩ a14) :=
  setAll_g hX [a0, a1, a2, a3, a4, a5, a6, a7, a8, a9, a10, a11, a12, a13, a14] W 0 g
theorem Wo.comm {C X i : Nat} {w : World} {v : Value} (h : C ≠ X) : Wo C (w.setCell ⟨X, i, none⟩ v) = (Wo C w).setCell ⟨X, i, none⟩ v := by
  unfold Wo World.setCell
  congr 1
  apply Array.ext_getElem?
  intro j
  simp only [Array.getElem?_setIfInBounds, Array.getElem?_modify, Array.size_modify]
  by_cases h1 : C = j
  · subst h1
    have hn : ¬ X = C := fun e => h e.symm
    simp [hn]
  · simp [h1]
theorem Wl.setm {X i : Nat} {v : Value} : ∀ {L : List Nat} {w : World}, X ∈ L → Wl L (w.setCell ⟨X, i, none⟩ v) = Wl L w
  | [], w, h => by cases h
  | C :: L, w, h => by
    by_cases e : C = X
    · subst e; exact Wl.set C L w i v
    · show Wl L (Wo C _) = Wl L (Wo C w)
      rw [Wo.comm e]
      exact Wl.setm (by rcases List.mem_cons.1 h with h | h; (· exact absurd h.symm e); exact h)
theorem setI_wm {W : World} {X : Nat} {L : List Nat} (h : X ∈ L) (a0 a1 a2 a3 a4 a5 a6 a7 a8 a9 a10 a11 a12 a13 a14 : Value) : Wl L (((((((((((((((W.setCell ⟨X, 0, none⟩ a0).setCell ⟨X, 1, none⟩ a1).setCell ⟨X, 2, none⟩ a2).setCell ⟨X, 3, none⟩ a3).setCell ⟨X, 4, none⟩ a4).setCell ⟨X, 5, none⟩ a5).setCell ⟨X, 6, none⟩ a6).setCell ⟨X, 7, none⟩ a7).setCell ⟨X, 8, none⟩ a8).setCell ⟨X, 9, none⟩ a9).setCell ⟨X, 10, none⟩ a10).setCell ⟨X, 11, none⟩ a11).setCell ⟨X, 12, none⟩ a12).setCell ⟨X, 13, none⟩ a13).setCell ⟨X, 14, none⟩ a14) = Wl L W := by
  simp only [Wl.setm h]
theorem setI_wl {W : World} {X : Nat} {L : List Nat} (a0 a1 a2 a3 a4 a5 a6 a7 a8 a9 a10 a11 a12 a13 a14 : Value) : Wl (X :: L) (((((((((((((((W.setCell ⟨X, 0, none⟩ a0).setCell ⟨X, 1, none⟩ a1).setCell ⟨X, 2, none⟩ a2).setCell ⟨X, 3, none⟩ a3).setCell ⟨X, 4, none⟩ a4).setCell ⟨X, 5, none⟩ a5).setCell ⟨X, 6, none⟩ a6).setCell ⟨X, 7, none⟩ a7).setCell ⟨X, 8, none⟩ a8).setCell ⟨X, 9, none⟩ a9).setCell ⟨X, 10, none⟩ a10).setCell ⟨X, 11, none⟩ a11).setCell ⟨X, 12, none⟩ a12).setCell ⟨X, 13, none⟩ a13).setCell ⟨X, 14, none⟩ a14) = Wl (X :: L) W := by
  simp only [Wl.set]
def ItR (w : World) (r : Value) (y : It) : Prop := ∃ pv lv, r = y.val pv lv ∧ ItOk w y pv lv
theorem ItOk.un {w : World} {x : It} {pv lv : Value} {L : List Nat} (h : ItOk (Wl L w) x pv lv) : ItOk w x pv lv := h.sub (Wl.sub L w)
theorem PmR.sl {w : World} {u : Value} {ps : List Pm} (h : PmR w u ps) : ∃ a n c, u = .slice a n c := by obtain ⟨a, c, e, _⟩ := h.p; exact ⟨a, _, c, e⟩
theorem ItOk.pm {w : World} {x : It} {pv lv : Value} (h : ItOk w x pv lv) : PmR w pv x.ps := ⟨h.p, h.f⟩
theorem tV_ok {w : World} {g n t : List UInt8} {k : Int} {ps : List Pm} {u : Value} (hk : -9223372036854775808 ≤ k ∧ k ≤ 9223372036854775807) (h : PmR w u ps) : ItOk w ⟨g, n, ps, tV k t⟩ u (.slice none 0 0) :=
  ⟨h.p, ⟨[], ⟨rfl, by simp, .inl ⟨rfl, .inl rfl⟩⟩, Nat.le_refl _, by simp [tV]⟩, h.f, (show -9223372036854775808 ≤ (0 : Int) ∧ (0 : Int) ≤ 9223372036854775807 by decide), hk⟩
theorem tV8_ok {w : World} {g n t : List UInt8} {ps : List Pm} {u : Value} (h : PmR w u ps) : ItOk w ⟨g, n, ps, tV 8 t⟩ u (.slice none 0 0) := tV_ok (by decide) h
theorem tV4_ok {w : World} {g n t : List UInt8} {ps : List Pm} {u : Value} (h : PmR w u ps) : ItOk w ⟨g, n, ps, tV 4 t⟩ u (.slice none 0 0) := tV_ok (by decide) h
def othPhi4 (L : List Nat) (bx : Nat) (x : It) (pv : Value) (nn tt : List UInt8)  (k : Nat) (v : Value) (W : World) : Prop :=
  match k with
  | 0 => v = .pointer (some ⟨bx, 0, none⟩)
  | 1 => v = .string (S x.g)
  | 2 => v = .string (S nn)
  | 3 => v = .string (S (88 :: 45 :: nn))
  | 4 => v = .pointer (some ⟨bx, 2, none⟩)
  | 5 => v = pv
  | 6 => PmR (Wl ((bx + 1) :: L) W) v (withoutL x.ps nVALUE)
  | 7 => v = .string (S tt)
  | 8 => v = .agg #[.int .i64 8, .string (S tt), .slice none 0 0, .int .i64 0, .int .i64 0, .int .i64 0, .int .i64 0, .int .i64 0, .int .i64 0, .bool false, .int .i64 0, .int .i64 0]
  | _ => True
set_option maxRecDepth 100000 in
set_option maxHeartbeats 4000000 in
theorem other_any (L : List Nat) (nn : List UInt8) (x : It) (pv lv : Value) (w : World) (hX : ∀ X ∈ L, X < w.heap.size) (h : ItOk (Wl L w) x pv lv) (hs : Sml x) (hn : nn.length ≤ 10000) : Makes 69 #[.string (S nn), x.val pv lv] w (fun r w' => ItR (Wl L w') r (otherX nn x)) := by
  have hb := hs.bounds
  have WO0 := fun W (g : G w W) (hX1 : w.heap.size + 1 < W.heap.size) => without_any ((w.heap.size + 1) :: L) pv nVALUE x.ps W (fun X hx => by rcases List.mem_cons.1 hx with rfl | hx; (· exact hX1); have := hX X hx; omega) (h.pm.into g (by omega)) (by have := hb.2.2.1; unfold wideN at this; omega) (fun p hp => by have h1 : lensP p ≤ (x.ps.map lensP).sum := mem_le_sum (List.mem_map_of_mem hp); have h2 : lensP p = p.1.length + p.2.length + (p.2.map List.length).sum := rfl; have h0 := hb.2.2.1; unfold wideN at h0; omega) (by simp [nVALUE])
  have ES := hid (fun W => escape_any x.v.tx W (by have := hs.t; omega))
  obtain ⟨pa, pc, rfl⟩ := h.un.pv
  obtain ⟨la, lc, rfl⟩ := h.un.lv
  obtain ⟨tt, htt⟩ : ∃ tt, tt = (if x.v.ty = 1 then escL x.v.tx else x.v.tx) := ⟨_, rfl⟩
  have HR := hid (show otherX nn x = ⟨x.g, 88 :: 45 :: nn, withoutL x.ps nVALUE, tV 8 tt⟩ by unfold otherX; rw [htt])
  have HTT := hid htt
  have htl : tt.length ≤ 10000 := by
    have h1 := escL_le x.v.tx
    have h2 := hs.t
    rw [htt]; split <;> omega
  have HWO := hid WO0
  clear h hb hs htt WO0
  have key : (x.v.ty == 1) = true ∧ tt = escL x.v.tx ∨ (x.v.ty == 1) = false ∧ x.v.ty ≠ 1 ∧ tt = x.v.tx := by
    have := HTT.out
    by_cases h1 : x.v.ty = 1
    · exact .inl ⟨by simpa using h1, by rw [this, if_pos h1]⟩
    · exact .inr ⟨by simpa using h1, h1, by rw [this, if_neg h1]⟩
  rcases key with ⟨b1, htt⟩ | ⟨b1, b2, htt⟩
  · have ESS := hid (fun W => show Gives 115 #[.string (S x.v.tx)] W (.string (S tt)) by rw [htt]; exact ES.out W)
    clear htt
    go_enter Tryz.func69, Tryz.ntmps69
    go_wp2_with fail
    generalize hw0 : (w.alloc _).alloc _ = w0
    have HB0 := hid (show w0.heap[w.heap.size]? = some (.cells (x.cells (.slice pa x.ps.length pc) (.slice la x.v.ps.length lc)).toArray 31 (0, 0)) by rw [← hw0, Lib.alloc_old _ _ _ (by simp)]; exact heap_alloc_new w _)
    have HX0 := hid (show w0.heap[w.heap.size + 1]? = some (.cells (zIt.cells (.slice none 0 0) (.slice none 0 0)).toArray 31 (0, 0)) by rw [← hw0]; exact new_2 _ _ _)
    have G0 := hid (show G w w0 by rw [← hw0]; exact ((G.refl w).alloc _).alloc _)
    clear hw0
    refine (ESS.out _).use ?_
    intro w1 g1
    have HB := hid (row_up HB0.out g1)
    have HX1 := hid (row_up HX0.out g1)
    have G1 := hid (G0.out.trans g1)
    have WO := hid (fun W (g : G w1 W) => HWO.out W (G1.out.trans g) (Nat.lt_of_lt_of_le (lt_of_row HX1.out) g.size))
    clear g1 b1
    go_wp2_with fail
    refine wp_region_any (by kernel_rfl) ?_
    refine wpAny_veiled (E := #[false, false, false, false, false, false, false, false, false, false, false]) G 9 (othPhi4 L w.heap.size x (.slice pa x.ps.length pc) nn tt) [some [], some [(0, 15)], some [], some [(2, 17)], some [], some [(4, 19)], some [(5, 20)], some [], some [(7, 22)], none, none] [(0, 15), (1, 16), (2, 17), (3, 18), (4, 19), (5, 20), (6, 21), (7, 22), (8, 23)] _ (by kernel_rfl) (by decide) (by kernel_rfl) (by kernel_rfl) rfl G.refl (fun _ _ _ => G.trans) (w0 := w1) ((G.refl w1).drew) ?_ ?_ ?_
    · intro k v W W' g h
      match k, h with
      | 0, h => exact h
      | 1, h => exact h
      | 2, h => exact h
      | 3, h => exact h
      | 4, h => exact h
      | 5, h => exact h
      | 6, h => exact PmR.wo h g
      | 7, h => exact h
      | 8, h => exact h
      | n + 9, h => trivial
    · refine gAll_some (fun vals W g d => ?_) <| gAll_some (fun vals W g d => ?_) <| gAll_some (fun vals W g d => ?_) <| gAll_some (fun vals W g d => ?_) <| gAll_some (fun vals W g d => ?_) <| gAll_some (fun vals W g d => ?_) <| gAll_some (fun vals W g d => ?_) <| gAll_some (fun vals W g d => ?_) <| gAll_some (fun vals W g d => ?_) <| gAll_none <| gAll_none gAll_nil
      · refine gOp_one rfl rfl rfl fun K hK => ?_
        simp only [gFr] at hK ⊢
        go_simp
        exact hK _ _ (G.refl _) rfl
      · obtain ⟨d0, _⟩ := d
        change vals 0 = _ at d0
        refine gOp_one rfl rfl rfl fun K hK => ?_
        simp only [gFr, d0] at hK ⊢
        obtain ⟨k0, _⟩ := box_item (row_up HB.out g)
        go_simp
        exact hK _ _ (G.refl _) rfl
      · refine gOp_one rfl rfl rfl fun K hK => ?_
        simp only [gFr] at hK ⊢
        go_simp
        exact hK _ _ (G.refl _) rfl
      · obtain ⟨d2, _⟩ := d
        change vals 2 = _ at d2
        refine gOp_one rfl rfl rfl fun K hK => ?_
        simp only [gFr, d2] at hK ⊢
        have hov : ¬ 9223372036854775807 < 2 + nn.length := by omega
        go_simp
        exact hK _ _ (G.refl _) rfl
      · refine gOp_one rfl rfl rfl fun K hK => ?_
        simp only [gFr] at hK ⊢
        go_simp
        exact hK _ _ (G.refl _) rfl
      · obtain ⟨d4, _⟩ := d
        change vals 4 = _ at d4
        refine gOp_one rfl rfl rfl fun K hK => ?_
        simp only [gFr, d4] at hK ⊢
        obtain ⟨_, _, k2, _⟩ := box_item (row_up HB.out g)
        go_simp
        exact hK _ _ (G.refl _) rfl
      · obtain ⟨d5, _⟩ := d
        change vals 5 = _ at d5
        refine gOp_one rfl rfl rfl fun K hK => ?_
        simp only [gFr, d5] at hK ⊢
        go_simp
        refine (WO.out W g).use ?_
        intro r W' hr hg
        exact hK _ _ hg hr
      · refine gOp_one rfl rfl rfl fun K hK => ?_
        simp only [gFr] at hK ⊢
        go_simp
        exact hK _ _ (G.refl _) rfl
      · obtain ⟨d7, _⟩ := d
        change vals 7 = _ at d7
        refine gOp_one rfl rfl rfl fun K hK => ?_
        simp only [gFr, d7] at hK ⊢
        go_simp
        exact hK _ _ (G.refl _) rfl
    · intro vals W g d
      simp only [gFacts_cons, gFacts_nil] at d
      obtain ⟨d0, d1, d2, d3, d4, d5, d6, d7, d8, _⟩ := d
      change vals 0 = _ at d0
      change vals 1 = _ at d1
      change vals 2 = _ at d2
      change vals 3 = _ at d3
      change vals 4 = _ at d4
      change vals 5 = _ at d5
      change vals 7 = _ at d7
      change vals 8 = _ at d8
      change PmR (Wl ((w.heap.size + 1) :: L) W) (vals 6) (withoutL x.ps nVALUE) at d6
      obtain ⟨ua, um, uc, e6⟩ := d6.sl
      rw [e6] at d6
      refine ⟨?_⟩
      show wpList _ _ _ [_, _] _ _
      simp only [gFr, d0, d1, d2, d3, d4, d5, d7, d8, e6]
      clear d0 d1 d2 d3 d4 d5 d7 d8 e6
      have HX2 := row_up HX1.out g
      have HBX := hid HX2
      obtain ⟨c0, c1, c2, c3, c4, c5, c6, c7, c8, c9, c10, c11, c12, c13, c14⟩ := box_item HX2
      have fz := fun i => Lib.frozen_of_heap HX2 i
      have GW := hid (G1.out.trans g)
      have HD6 := hid d6
      clear d6 HX2 g
      go_wp2_with fail
      generalize hWF : World.setCell (World.setCell (World.setCell (World.setCell (World.setCell (World.setCell (World.setCell (World.setCell (World.setCell (World.setCell (World.setCell (World.setCell (World.setCell (World.setCell (World.setCell W _ _) _ _) _ _) _ _) _ _) _ _) _ _) _ _) _ _) _ _) _ _) _ _) _ _) _ _) _ _ = WF
      have hrow : WF.heap[w.heap.size + 1]? = some (.cells ((It.cells ⟨x.g, 88 :: 45 :: nn, withoutL x.ps nVALUE, tV 8 tt⟩ (.slice ua um uc) (.slice none 0 0))).toArray 31 (0, 0)) := by
        rw [← hWF]
        exact setI_row HBX.out rfl _ _ _ _ _ _ _ _ _ _ _ _ _ _ _
      have hgf : G w WF := by rw [← hWF]; exact setI_g (by omega) GW.out _ _ _ _ _ _ _ _ _ _ _ _ _ _ _
      have hok : ItOk (Wl L WF) ⟨x.g, 88 :: 45 :: nn, withoutL x.ps nVALUE, tV 8 tt⟩ (.slice ua um uc) (.slice none 0 0) := tV8_ok (PmR.sub (by rw [← hWF, setI_wl]; exact HD6.out) (Wl.tail (w.heap.size + 1) L WF))
      refine bodyPost_ret (results_cell_row rfl _ WF (w.heap.size + 1) 31 _ (0, 0) _ rfl hrow Tryz.underlying31 (by kernel_rfl) (by kernel_rfl)) rfl ⟨_, rfl, ?_, hgf⟩
      rw [HR.out]
      exact ⟨_, _, rfl, hok⟩
  · subst htt
    go_enter Tryz.func69, Tryz.ntmps69
    go_wp2_with fail
    generalize hw0 : (w.alloc _).alloc _ = w0
    have HB0 := hid (show w0.heap[w.heap.size]? = some (.cells (x.cells (.slice pa x.ps.length pc) (.slice la x.v.ps.length lc)).toArray 31 (0, 0)) by rw [← hw0, Lib.alloc_old _ _ _ (by simp)]; exact heap_alloc_new w _)
    have HX0 := hid (show w0.heap[w.heap.size + 1]? = some (.cells (zIt.cells (.slice none 0 0) (.slice none 0 0)).toArray 31 (0, 0)) by rw [← hw0]; exact new_2 _ _ _)
    have G0 := hid (show G w w0 by rw [← hw0]; exact ((G.refl w).alloc _).alloc _)
    clear hw0
    obtain ⟨w1, rfl⟩ : ∃ w1, w1 = w0 := ⟨_, rfl⟩
    have HB := hid HB0.out
    have HX1 := hid HX0.out
    have G1 := hid G0.out
    have WO := hid (fun W (g : G w1 W) => HWO.out W (G1.out.trans g) (Nat.lt_of_lt_of_le (lt_of_row HX1.out) g.size))
    clear b1 b2
    refine wp_region_any (by kernel_rfl) ?_
    refine wpAny_veiled (E := #[false, false, false, false, false, false, false, false, false, false, false]) G 9 (othPhi4 L w.heap.size x (.slice pa x.ps.length pc) nn x.v.tx) [some [], some [(0, 15)], some [], some [(2, 17)], some [], some [(4, 19)], some [(5, 20)], some [], some [(7, 22)], none, none] [(0, 15), (1, 16), (2, 17), (3, 18), (4, 19), (5, 20), (6, 21), (7, 22), (8, 23)] _ (by kernel_rfl) (by decide) (by kernel_rfl) (by kernel_rfl) rfl G.refl (fun _ _ _ => G.trans) (w0 := w1) ((G.refl w1).drew) ?_ ?_ ?_
    · intro k v W W' g h
      match k, h with
      | 0, h => exact h
      | 1, h => exact h
      | 2, h => exact h
      | 3, h => exact h
      | 4, h => exact h
      | 5, h => exact h
      | 6, h => exact PmR.wo h g
      | 7, h => exact h
      | 8, h => exact h
      | n + 9, h => trivial
    · refine gAll_some (fun vals W g d => ?_) <| gAll_some (fun vals W g d => ?_) <| gAll_some (fun vals W g d => ?_) <| gAll_some (fun vals W g d => ?_) <| gAll_some (fun vals W g d => ?_) <| gAll_some (fun vals W g d => ?_) <| gAll_some (fun vals W g d => ?_) <| gAll_some (fun vals W g d => ?_) <| gAll_some (fun vals W g d => ?_) <| gAll_none <| gAll_none gAll_nil
      · refine gOp_one rfl rfl rfl fun K hK => ?_
        simp only [gFr] at hK ⊢
        go_simp
        exact hK _ _ (G.refl _) rfl
      · obtain ⟨d0, _⟩ := d
        change vals 0 = _ at d0
        refine gOp_one rfl rfl rfl fun K hK => ?_
        simp only [gFr, d0] at hK ⊢
        obtain ⟨k0, _⟩ := box_item (row_up HB.out g)
        go_simp
        exact hK _ _ (G.refl _) rfl
      · refine gOp_one rfl rfl rfl fun K hK => ?_
        simp only [gFr] at hK ⊢
        go_simp
        exact hK _ _ (G.refl _) rfl
      · obtain ⟨d2, _⟩ := d
        change vals 2 = _ at d2
        refine gOp_one rfl rfl rfl fun K hK => ?_
        simp only [gFr, d2] at hK ⊢
        have hov : ¬ 9223372036854775807 < 2 + nn.length := by omega
        go_simp
        exact hK _ _ (G.refl _) rfl
      · refine gOp_one rfl rfl rfl fun K hK => ?_
        simp only [gFr] at hK ⊢
        go_simp
        exact hK _ _ (G.refl _) rfl
      · obtain ⟨d4, _⟩ := d
        change vals 4 = _ at d4
        refine gOp_one rfl rfl rfl fun K hK => ?_
        simp only [gFr, d4] at hK ⊢
        obtain ⟨_, _, k2, _⟩ := box_item (row_up HB.out g)
        go_simp
        exact hK _ _ (G.refl _) rfl
      · obtain ⟨d5, _⟩ := d
        change vals 5 = _ at d5
        refine gOp_one rfl rfl rfl fun K hK => ?_
        simp only [gFr, d5] at hK ⊢
        go_simp
        refine (WO.out W g).use ?_
        intro r W' hr hg
        exact hK _ _ hg hr
      · refine gOp_one rfl rfl rfl fun K hK => ?_
        simp only [gFr] at hK ⊢
        go_simp
        exact hK _ _ (G.refl _) rfl
      · obtain ⟨d7, _⟩ := d
        change vals 7 = _ at d7
        refine gOp_one rfl rfl rfl fun K hK => ?_
        simp only [gFr, d7] at hK ⊢
        go_simp
        exact hK _ _ (G.refl _) rfl
    · intro vals W g d
      simp only [gFacts_cons, gFacts_nil] at d
      obtain ⟨d0, d1, d2, d3, d4, d5, d6, d7, d8, _⟩ := d
      change vals 0 = _ at d0
      change vals 1 = _ at d1
      change vals 2 = _ at d2
      change vals 3 = _ at d3
      change vals 4 = _ at d4
      change vals 5 = _ at d5
      change vals 7 = _ at d7
      change vals 8 = _ at d8
      change PmR (Wl ((w.heap.size + 1) :: L) W) (vals 6) (withoutL x.ps nVALUE) at d6
      obtain ⟨ua, um, uc, e6⟩ := d6.sl
      rw [e6] at d6
      refine ⟨?_⟩
      show wpList _ _ _ [_, _] _ _
      simp only [gFr, d0, d1, d2, d3, d4, d5, d7, d8, e6]
      clear d0 d1 d2 d3 d4 d5 d7 d8 e6
      have HX2 := row_up HX1.out g
      have HBX := hid HX2
      obtain ⟨c0, c1, c2, c3, c4, c5, c6, c7, c8, c9, c10, c11, c12, c13, c14⟩ := box_item HX2
      have fz := fun i => Lib.frozen_of_heap HX2 i
      have GW := hid (G1.out.trans g)
      have HD6 := hid d6
      clear d6 HX2 g
      go_wp2_with fail
      generalize hWF : World.setCell (World.setCell (World.setCell (World.setCell (World.setCell (World.setCell (World.setCell (World.setCell (World.setCell (World.setCell (World.setCell (World.setCell (World.setCell (World.setCell (World.setCell W _ _) _ _) _ _) _ _) _ _) _ _) _ _) _ _) _ _) _ _) _ _) _ _) _ _) _ _) _ _ = WF
      have hrow : WF.heap[w.heap.size + 1]? = some (.cells ((It.cells ⟨x.g, 88 :: 45 :: nn, withoutL x.ps nVALUE, tV 8 x.v.tx⟩ (.slice ua um uc) (.slice none 0 0))).toArray 31 (0, 0)) := by
        rw [← hWF]
        exact setI_row HBX.out rfl _ _ _ _ _ _ _ _ _ _ _ _ _ _ _
      have hgf : G w WF := by rw [← hWF]; exact setI_g (by omega) GW.out _ _ _ _ _ _ _ _ _ _ _ _ _ _ _
      have hok : ItOk (Wl L WF) ⟨x.g, 88 :: 45 :: nn, withoutL x.ps nVALUE, tV 8 x.v.tx⟩ (.slice ua um uc) (.slice none 0 0) := tV8_ok (PmR.sub (by rw [← hWF, setI_wl]; exact HD6.out) (Wl.tail (w.heap.size + 1) L WF))
      refine bodyPost_ret (results_cell_row rfl _ WF (w.heap.size + 1) 31 _ (0, 0) _ rfl hrow Tryz.underlying31 (by kernel_rfl) (by kernel_rfl)) rfl ⟨_, rfl, ?_, hgf⟩
      rw [HR.out]
      exact ⟨_, _, rfl, hok⟩
end Go.Proofs.YtdmbhoagjjkogaaGreatDoor
