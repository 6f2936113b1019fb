/-
  CONTRACT of ann: a card that is right.
-/
import Derived.Test.YtniidkkldoijcaaDoorMItems
import Derived.Test.YtniidkkldoijcaaDoorMVeil
namespace Go.Proofs.YtniidkkldoijcaaDoor
open Go.RowKit
set_option linter.unusedVariables false
set_option linter.unusedSimpArgs false

/-- a fresh box of two cells that is filled -/
theorem box_filled {w : World} {Z : Nat} {z0 z1 : Value} {t : TypeId} (hZ : w.heap[Z]? = some (.cells #[z0, z1] t (0, 0))) (a V : Value) :
    w.cell? ⟨Z, 0, none⟩ = some z0 ∧ w.frozen? ⟨Z, 0, none⟩ = false ∧ (w.setCell ⟨Z, 0, none⟩ a).cell? ⟨Z, 1, none⟩ = some z1 ∧ (w.setCell ⟨Z, 0, none⟩ a).frozen? ⟨Z, 1, none⟩ = false ∧ ((w.setCell ⟨Z, 0, none⟩ a).setCell ⟨Z, 1, none⟩ V).cell? ⟨Z, 0, none⟩ = some a ∧ ((w.setCell ⟨Z, 0, none⟩ a).setCell ⟨Z, 1, none⟩ V).cell? ⟨Z, 1, none⟩ = some V := by
  have d0 : w.cell? ⟨Z, 0, none⟩ = some z0 := (cell_of_row w Z 0 _ _ _ hZ).trans rfl
  have d1 : w.cell? ⟨Z, 1, none⟩ = some z1 := (cell_of_row w Z 1 _ _ _ hZ).trans rfl
  have near : ∀ (w : World) (b i j : Nat) (v : Value), i ≠ j → (w.setCell ⟨b, i, none⟩ v).cell? ⟨b, j, none⟩ = w.cell? ⟨b, j, none⟩ := fun w b i j v h => World.cell?_setCell_other _ _ _ _ (by intro e; injection e with _ e; exact h e)
  have g1 := (near w Z 0 1 a (by decide)).trans d1
  refine ⟨d0, Lib.frozen_of_heap hZ 0, g1, by rw [World.frozen?_setCell]; exact Lib.frozen_of_heap hZ 1, ?_, World.cell?_setCell_same _ _ _ g1⟩
  rw [near _ _ _ _ _ (by decide)]
  exact World.cell?_setCell_same _ _ _ d0

theorem new_at (w : World) (o : Obj) (n : Nat) (h : n = w.heap.size) : (w.alloc o).heap[n]? = some o := by subst h; exact heap_alloc_new w o
theorem news8 (w : World) (o0 o1 o2 o3 o4 o5 o6 o7 : Obj) (W : World) (hW : ((((((((w.alloc o0).alloc o1).alloc o2).alloc o3).alloc o4).alloc o5).alloc o6).alloc o7) = W) :
    W.heap[w.heap.size + 1]? = some o1 ∧ W.heap[w.heap.size + 2]? = some o2 ∧ W.heap[w.heap.size + 3]? = some o3 ∧ W.heap[w.heap.size + 4]? = some o4 ∧ W.heap[w.heap.size + 5]? = some o5 ∧ W.heap[w.heap.size + 6]? = some o6 ∧ W.heap[w.heap.size + 7]? = some o7 := by
  subst hW
  refine ⟨?_, ?_, ?_, ?_, ?_, ?_, ?_⟩ <;> repeat (first | exact new_at _ _ _ (by simp) | rw [Lib.alloc_old _ _ _ (by simp)] | rw [Lib.alloc_old _ _ _ (by simp; omega)])
def annFN : It := ⟨[], [70, 78], [], ⟨1, [65, 110, 110], [], St0, 0⟩⟩
def annN : It := ⟨[], [78], [], ⟨3, [], [[[65]], [[65, 110, 110]], [[]], [[]], [[]]], St0, 0⟩⟩
def annXs : List It := [annFN, annN]
/-- a row of one text -/
def OneS (W : World) (v : Value) (s : List UInt8) : Prop := ∃ b, v = .slice (some ⟨b, 0, none⟩) 1 1 ∧ W.heap[b]? = some (.cells #[.string (S s)] 9 (0, 0))
theorem OneS.grow {W W' : World} {v : Value} {s : List UInt8} (h : OneS W v s) (g : G W W') : OneS W' v s := by
  obtain ⟨b, e, h⟩ := h
  exact ⟨b, e, (g.below.block b (Array.getElem?_eq_some_iff.1 h).1).trans h⟩
theorem OneS.strs {W : World} {v : Value} {s : List UInt8} (h : OneS W v s) : IsStrs W v [s] := by
  obtain ⟨b, rfl, h⟩ := h
  refine ⟨⟨rfl, by simp [Value.oneCell'], .inr ⟨b, 0, 1, rfl, (Array.getElem?_eq_some_iff.1 h).1, Nat.le_refl _, fun j hj => ?_⟩⟩, Nat.le_refl _⟩
  have hj0 : j = 0 := by simp at hj; omega
  subst hj0
  rw [cell_of_row W b _ _ _ _ h]; rfl
theorem ok_fn (W : World) : ItOk W annFN (.slice none 0 0) (.slice none 0 0) :=
  ⟨⟨_, _, rfl, Nat.le_refl _, fun h => absurd rfl h⟩, ⟨[], ⟨rfl, by simp, .inl ⟨rfl, .inl rfl⟩⟩, Nat.le_refl _, by simp [annFN]⟩, .inl rfl, by decide, by decide⟩
theorem ok_n {W : World} {a : Option Addr} (h : IsLists W (.slice a 5 5) annN.v.ps) : ItOk W annN (.slice none 0 0) (.slice a 5 5) :=
  ⟨⟨_, _, rfl, Nat.le_refl _, fun h => absurd rfl h⟩, h, .inl rfl, by decide, by decide⟩
set_option maxRecDepth 100000 in
set_option maxHeartbeats 4000000 in
theorem ann_any (ver : Int) (w : World) : Makes 35 #[.int .i64 ver] w (fun v w' => ∃ u, v = cardV ver u ∧ IsItems w' u annXs ∧ ∃ b c, u = .slice (some b) 2 c) := by
  go_enter Tryd.func35, Tryd.ntmps35
  go_wp2_with fail
  refine bodyPost_ret (v := cardV ver (.slice (some ⟨w.heap.size + 7, 0, none⟩) 2 2)) ?_ rfl ⟨_, rfl, ⟨_, rfl, ?_, _, _, rfl⟩, ?_⟩
  · unfold cardV
    simp only [results, Tryd.f35]
    go_simp
  · generalize hW : ((((((((w.alloc _).alloc _).alloc _).alloc _).alloc _).alloc _).alloc _).alloc _) = W
    obtain ⟨e1, e2, e3, e4, e5, e6, e7⟩ := news8 _ _ _ _ _ _ _ _ _ _ hW
    clear hW
    have s1 : IsStrs W (.slice (some ⟨w.heap.size + 1, 0, none⟩) 1 1) [[65]] := OneS.strs ⟨_, rfl, e1⟩
    have s2 : IsStrs W (.slice (some ⟨w.heap.size + 2, 0, none⟩) 1 1) [[65, 110, 110]] := OneS.strs ⟨_, rfl, e2⟩
    have s3 : IsStrs W (.slice (some ⟨w.heap.size + 3, 0, none⟩) 1 1) [[]] := OneS.strs ⟨_, rfl, e3⟩
    have s4 : IsStrs W (.slice (some ⟨w.heap.size + 4, 0, none⟩) 1 1) [[]] := OneS.strs ⟨_, rfl, e4⟩
    have s5 : IsStrs W (.slice (some ⟨w.heap.size + 5, 0, none⟩) 1 1) [[]] := OneS.strs ⟨_, rfl, e5⟩
    have hl : IsLists W (.slice (some ⟨w.heap.size + 6, 0, none⟩) 5 5) annN.v.ps := by
      refine ⟨[.slice (some ⟨w.heap.size + 1, 0, none⟩) 1 1, .slice (some ⟨w.heap.size + 2, 0, none⟩) 1 1, .slice (some ⟨w.heap.size + 3, 0, none⟩) 1 1, .slice (some ⟨w.heap.size + 4, 0, none⟩) 1 1, .slice (some ⟨w.heap.size + 5, 0, none⟩) 1 1], ⟨rfl, by simp [Value.oneCell'], .inr ⟨w.heap.size + 6, 0, 5, rfl, (Array.getElem?_eq_some_iff.1 e6).1, by simp [annN], fun j hj => ?_⟩⟩, Nat.le_refl _, fun i l hi => ?_⟩
      · rw [cell_of_row W _ _ _ _ _ e6, Nat.zero_add]; simp
      · match i, hi with
        | 0, hi => cases hi; exact ⟨_, rfl, s1⟩
        | 1, hi => cases hi; exact ⟨_, rfl, s2⟩
        | 2, hi => cases hi; exact ⟨_, rfl, s3⟩
        | 3, hi => cases hi; exact ⟨_, rfl, s4⟩
        | 4, hi => cases hi; exact ⟨_, rfl, s5⟩
        | n + 5, hi => simp [annN] at hi
    exact items_of_cells (xs := annXs) (cap := 2) ⟨_, _, _, rfl, ok_fn W, _, _, _, rfl, ok_n hl, rfl⟩ (Array.getElem?_eq_some_iff.1 e7).1 (fun j u hu => by
      rw [cell_of_row W _ _ _ _ _ e7, Nat.zero_add]
      rw [List.getElem?_toArray]
      exact hu) (Nat.le_refl _)
  · repeat (first | exact G.refl _ | refine G.alloc ?_ _)

end Go.Proofs.YtniidkkldoijcaaDoor
