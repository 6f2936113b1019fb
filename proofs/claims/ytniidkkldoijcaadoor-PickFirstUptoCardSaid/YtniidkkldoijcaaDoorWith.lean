/-
  CONTRACT of with: a card with one item more.
-/
import Derived.Test.YtniidkkldoijcaaDoorMItems
import Derived.Test.YtniidkkldoijcaaDoorMVeil
import Derived.Deep.AppendLies
namespace Go.Proofs.YtniidkkldoijcaaDoor
open Go.RowKit
set_option linter.unusedVariables false
set_option linter.unusedSimpArgs false

/-- a box of two cells that is changed, another that is filled -/
theorem two_boxes {w : World} {C Z : Nat} (hne : C ≠ Z) {a0 a1 z0 z1 : Value} {t t' : TypeId} (hC : w.heap[C]? = some (.cells #[a0, a1] t (0, 0))) (hZ : w.heap[Z]? = some (.cells #[z0, z1] t' (0, 0))) (V : Value) :
    w.cell? ⟨C, 1, none⟩ = some a1 ∧ w.frozen? ⟨C, 1, none⟩ = false ∧ (w.setCell ⟨C, 1, none⟩ V).cell? ⟨C, 0, none⟩ = some a0 ∧ (w.setCell ⟨C, 1, none⟩ V).cell? ⟨C, 1, none⟩ = some V ∧ (w.setCell ⟨C, 1, none⟩ V).cell? ⟨Z, 0, none⟩ = some z0 ∧ (w.setCell ⟨C, 1, none⟩ V).frozen? ⟨Z, 0, none⟩ = false ∧ ((w.setCell ⟨C, 1, none⟩ V).setCell ⟨Z, 0, none⟩ a0).cell? ⟨Z, 1, none⟩ = some z1 ∧ ((w.setCell ⟨C, 1, none⟩ V).setCell ⟨Z, 0, none⟩ a0).frozen? ⟨Z, 1, none⟩ = false ∧ (((w.setCell ⟨C, 1, none⟩ V).setCell ⟨Z, 0, none⟩ a0).setCell ⟨Z, 1, none⟩ V).cell? ⟨Z, 0, none⟩ = some a0 ∧ (((w.setCell ⟨C, 1, none⟩ V).setCell ⟨Z, 0, none⟩ a0).setCell ⟨Z, 1, none⟩ V).cell? ⟨Z, 1, none⟩ = some V := by
  have c0 : w.cell? ⟨C, 0, none⟩ = some a0 := (cell_of_row w C 0 _ _ _ hC).trans rfl
  have c1 : w.cell? ⟨C, 1, none⟩ = some a1 := (cell_of_row w C 1 _ _ _ hC).trans rfl
  have d0 : w.cell? ⟨Z, 0, none⟩ = some z0 := (cell_of_row w Z 0 _ _ _ hZ).trans rfl
  have d1 : w.cell? ⟨Z, 1, none⟩ = some z1 := (cell_of_row w Z 1 _ _ _ hZ).trans rfl
  have far : ∀ (w : World) (i j : Nat) (v : Value), (w.setCell ⟨C, i, none⟩ v).cell? ⟨Z, j, none⟩ = w.cell? ⟨Z, j, none⟩ := fun w i j v => World.cell?_setCell_other _ _ _ _ (by intro e; injection e with e; exact hne e)
  have near : ∀ (w : World) (b i j : Nat) (v : Value), i ≠ j → (w.setCell ⟨b, i, none⟩ v).cell? ⟨b, j, none⟩ = w.cell? ⟨b, j, none⟩ := fun w b i j v h => World.cell?_setCell_other _ _ _ _ (by intro e; injection e with _ e; exact h e)
  have same : ∀ (w : World) (b i : Nat) (u v : Value), w.cell? ⟨b, i, none⟩ = some u → (w.setCell ⟨b, i, none⟩ v).cell? ⟨b, i, none⟩ = some v := fun w b i u v h => World.cell?_setCell_same _ _ _ h
  have e0 := (far w 1 0 V).trans d0
  have e1 := (far w 1 1 V).trans d1
  have g1 := (near (w.setCell ⟨C, 1, none⟩ V) Z 0 1 a0 (by decide)).trans e1
  refine ⟨c1, Lib.frozen_of_heap hC 1, (near _ _ _ _ _ (by decide)).trans c0, same _ _ _ _ _ c1, e0, by rw [World.frozen?_setCell]; exact Lib.frozen_of_heap hZ 0, g1, by rw [World.frozen?_setCell, World.frozen?_setCell]; exact Lib.frozen_of_heap hZ 1, ?_, same _ _ _ _ _ g1⟩
  rw [near _ _ _ _ _ (by decide)]
  exact same _ _ _ _ _ e0
/-- what the operations of 'c.Items = append(slices.Clone(c.Items), x)' hold -/
def withPhi (C : Nat) (iv xv : Value) (x : It) (pv lv : Value) (n m : Nat) (cs : List Value) (k : Nat) (v : Value) (W : World) : Prop :=
  match k with
  | 0 => v = .pointer (some ⟨C, 1, none⟩)
  | 1 => v = iv
  | 2 => OwnR n W v m cs
  | 3 => v = xv
  | 4 => ∃ b, v = .slice (some ⟨b, 0, none⟩) 1 1 ∧ W.heap[b]? = some (.cells (x.cells pv lv).toArray 32 (0, 0))
  | _ => True
set_option maxRecDepth 100000 in
set_option maxHeartbeats 4000000 in
theorem with_any (ver : Int) (iv : Value) (k : Nat) (cs : List Value) (x : It) (pv lv : Value) (w : World) (h : Lies w iv k cs) (hf : iv = .slice none 0 0 ∨ ∃ a n c, iv = .slice (some a) n c) (hx : ItOk w x pv lv) (hl : k ≤ 1000) :
    Makes 12 #[cardV ver iv, x.val pv lv] w (fun v w' => ∃ u, v = cardV ver u ∧ OwnR (w.heap.size + 1) w' u (k + 1) (cs ++ x.cells pv lv)) := by
  have hcl := clone_items iv k cs w h hf (by omega)
  have HCL := hid hcl
  have HX := hid hx
  obtain ⟨pa, pc, rfl⟩ := hx.pv
  obtain ⟨la, lc, rfl⟩ := hx.lv
  obtain ⟨ia, ic, rfl⟩ := h.form
  obtain ⟨i0, hi, hz0, hz1, hz2⟩ := info_parts infoItem
  clear hcl hx h hf
  unfold cardV
  go_enter Tryd.func12, Tryd.ntmps12
  go_wp2_with fail
  generalize hw5 : ((World.alloc (World.alloc (World.alloc _ _) _) _)) = w5
  have GW5 : Hid (G w w5) := hid (by rw [← hw5]; exact (((G.refl w).alloc _).alloc _).alloc _)
  have HBX := hid (show w5.heap[w.heap.size]? = some (.cells #[.int .i64 ver, .slice ia k ic] 24 (0, 0)) by rw [← hw5, Lib.alloc_old _ _ _ (by simp; omega), Lib.alloc_old _ _ _ (by simp)]; exact heap_alloc_new w _)
  have HIX := hid (show w5.heap[w.heap.size + 1]? = some (.cells (x.cells (.slice pa x.ps.length pc) (.slice la x.v.ps.length lc)).toArray 32 (0, 0)) by rw [← hw5, Lib.alloc_old _ _ _ (by simp)]; have := heap_alloc_new (w.alloc (.cells #[.int .i64 ver, .slice ia k ic] 24)) (.cells (x.cells (.slice pa x.ps.length pc) (.slice la x.v.ps.length lc)).toArray 32); simpa [It.cells] using this)
  have HZX := hid (show w5.heap[w.heap.size + 1 + 1]? = some (.cells #[.int .i64 0, .slice none 0 0] 24 (0, 0)) by
    rw [← hw5]
    have := heap_alloc_new ((w.alloc (.cells #[.int .i64 ver, .slice ia k ic] 24)).alloc (.cells (x.cells (.slice pa x.ps.length pc) (.slice la x.v.ps.length lc)).toArray 32)) (.cells #[.int .i64 0, .slice none 0 0] 24)
    simpa [It.cells] using this)
  clear hw5
  refine wp_region_any (by kernel_rfl) ?_
  refine wpAny_gentle (E := #[false, false, false, false, false, false, false, false]) G 5 (withPhi w.heap.size (.slice ia k ic) (x.val (.slice pa x.ps.length pc) (.slice la x.v.ps.length lc)) x (.slice pa x.ps.length pc) (.slice la x.v.ps.length lc) w5.heap.size k cs) [some [], some [(0, 5)], some [(1, 6)], some [], some [(3, 8)], none, none, none] [(0, 5), (1, 6), (2, 7), (3, 8), (4, 9)] _ (by kernel_rfl) (by decide) (by kernel_rfl) (by kernel_rfl) rfl G.refl (fun _ _ _ => G.trans) (w0 := w5) ((G.refl w5).drew) ?_ ?_ ?_
  · intro i v W W' g h
    match i, h with
    | 0, h => exact h
    | 1, h => exact h
    | 2, h => exact OwnR.grow h g
    | 3, h => exact h
    | 4, ⟨b, e, h⟩ => exact ⟨b, e, (g.below.block b (Array.getElem?_eq_some_iff.1 h).1).trans h⟩
    | n + 5, h => trivial
  · refine ⟨fun vals W g d => ?_, ⟨fun vals W g d => ?_, ⟨fun vals W g d => ?_, ⟨fun vals W g d => ?_, ⟨fun vals W g d => ?_, trivial⟩⟩⟩⟩⟩
    · refine gOp_one rfl rfl rfl fun K hK => ?_
      simp only [gFr] at hK ⊢
      go_simp
      exact hK _ _ (G.refl _) rfl
    · refine gOp_one rfl rfl rfl fun K hK => ?_
      obtain ⟨d0, _⟩ := d
      change vals 0 = _ at d0
      simp only [gFr, d0] at hK ⊢
      have c1 : W.cell? ⟨w.heap.size, 1, none⟩ = some (.slice ia k ic) := by rw [g.cell (World.block_lt_of_cell? _ _ (by rw [cell_of_row w5 w.heap.size 1 _ _ _ HBX.out]; rfl)), cell_of_row w5 w.heap.size 1 _ _ _ HBX.out]; rfl
      go_simp
      exact hK _ _ (G.refl _) rfl
    · refine gOp_one rfl rfl rfl fun K hK => ?_
      obtain ⟨d1, _⟩ := d
      change vals 1 = _ at d1
      simp only [gFr, d1] at hK ⊢
      go_simp
      refine (HCL.out W (GW5.out.trans g) w5.heap.size g.size).mono ?_
      rintro e W' ⟨u, rfl, ho, hg⟩
      exact hK u W' hg ho
    · refine gOp_one rfl rfl rfl fun K hK => ?_
      simp only [gFr] at hK ⊢
      obtain ⟨k0, k1, k2, k3, k4, k5, k6, k7, k8, k9, k10, k11, k12, k13, k14⟩ := (ItAt.e (ItAt.grow ⟨fun j u hu => by rw [Nat.zero_add, cell_of_row w5 (w.heap.size + 1) j _ _ _ HIX.out]; simpa using hu, HX.out.grow GW5.out⟩ (Array.getElem?_eq_some_iff.1 HIX.out).1 g) : _)
      go_simp
      exact hK _ _ (G.refl _) rfl
    · refine gOp_one rfl rfl rfl fun K hK => ?_
      obtain ⟨d3, _⟩ := d
      change vals 3 = _ at d3
      simp only [gFr, d3] at hK ⊢
      go_simp
      exact hK _ _ ((G.refl _).alloc _) ⟨W.heap.size, rfl, heap_alloc_new W _⟩
  · intro vals W g d
    obtain ⟨d0, d1, d2, d3, ⟨b, d4, d5⟩, _⟩ := d
    change vals 0 = _ at d0
    change vals 1 = _ at d1
    change OwnR w5.heap.size W (vals 2) k cs at d2
    change vals 3 = _ at d3
    have GW := hid (GW5.out.trans g)
    have BC := hid ((g.below.block _ (Array.getElem?_eq_some_iff.1 HBX.out).1).trans HBX.out)
    have BZ := hid ((g.below.block _ (Array.getElem?_eq_some_iff.1 HZX.out).1).trans HZX.out)
    have hCZ : w.heap.size + 1 + 1 < w5.heap.size := (Array.getElem?_eq_some_iff.1 HZX.out).1
    have hgz := g.size
    have GG := hid g
    have R2 := hid d2
    show wpList _ _ _ [_, _, _] _ _
    simp only [gFr, d0, d1, d3, d4]
    clear d2 d0 d1 d3 d4
    go_wp2_with (at_builtin; (refine wpList_append_own _ rfl _ _ 22 rfl w5.heap.size 32 i0 _ 15 176 Tryd.underlying22 hi hz0 hz1 hz2 rfl (by decide) _ _ _ rfl R2.out ⟨b, 0, none⟩ 1 1 (x.cells (.slice pa x.ps.length pc) (.slice la x.v.ps.length lc)) rfl rfl (fun j u hu => by rw [addr_add, Nat.zero_add, cell_of_row W b j _ _ _ d5]; simpa using hu) HX.out.one (by unfold maxLen; omega) (by omega) hgz ?_; intro v' w1 hown' hgrow hnil; obtain ⟨⟨b', cap', rfl⟩, hB⟩ := OwnR.snoc R2.out GG.out.below hgz hgrow hown'; have hO := hown'; clear hown' hgrow hnil; have B1C := hid ((hB.block _ (Array.getElem?_eq_some_iff.1 HBX.out).1).trans HBX.out); have B1Z := hid ((hB.block _ (Array.getElem?_eq_some_iff.1 HZX.out).1).trans HZX.out); have HO := hid hO; have HB := hid hB; clear hO hB d5 hCZ; clear BC BZ GG R2 HIX; obtain ⟨c1, f1, t0, t1, z0, y0, z1, y1, r0, r1⟩ := two_boxes (show w.heap.size ≠ w.heap.size + 1 + 1 by omega) B1C.out B1Z.out (.slice (some ⟨b', 0, none⟩) (k + 1) cap')))
    have hW : G w (((w1.setCell ⟨w.heap.size, 1, none⟩ (.slice (some ⟨b', 0, none⟩) (k + 1) cap')).setCell ⟨w.heap.size + 1 + 1, 0, none⟩ (.int .i64 ver)).setCell ⟨w.heap.size + 1 + 1, 1, none⟩ (.slice (some ⟨b', 0, none⟩) (k + 1) cap')) := by
      refine Below.setCell (Below.setCell (Below.setCell (GW5.out.below.trans (HB.out.mono GW5.out.size)) ?_ _) ?_ _) ?_ _ <;> simp only <;> omega
    have hZ : w.heap.size + 1 + 1 < w5.heap.size := (Array.getElem?_eq_some_iff.1 HZX.out).1
    refine bodyPost_ret (v := cardV ver (.slice (some ⟨b', 0, none⟩) (k + 1) cap')) ?_ rfl ⟨_, rfl, ⟨_, rfl, ownsRow_mono (OwnR.same HO.out fun b hb _ => ?_) (by omega)⟩, hW⟩
    · unfold cardV
      simp only [results, Tryd.f12]
      go_simp
    · rw [Below.heap_setCell _ _ _ _ (by simp only; omega), Below.heap_setCell _ _ _ _ (by simp only; omega), Below.heap_setCell _ _ _ _ (by simp only; omega)]

end Go.Proofs.YtniidkkldoijcaaDoor
