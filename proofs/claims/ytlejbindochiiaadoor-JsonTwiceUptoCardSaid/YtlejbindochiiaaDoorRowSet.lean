/-
  Blocks of cells: a store, a new block. Plain.
-/
import Derived.Test.YtlejbindochiiaaDoorBase
namespace Go.Proofs.YtlejbindochiiaaDoor
open Go.RowKit
set_option linter.unusedVariables false
set_option linter.unusedSimpArgs false

theorem lt_of_row {w : World} {b : Nat} {o : Obj} (h : w.heap[b]? = some o) : b < w.heap.size := by
  rcases Nat.lt_or_ge b w.heap.size with h' | h'
  · exact h'
  · rw [Array.getElem?_eq_none h'] at h; cases h

theorem cell_alloc_ne (W : World) (o : Obj) (b i : Nat) (h : ¬ b = W.heap.size) : (W.alloc o).cell? ⟨b, i, none⟩ = W.cell? ⟨b, i, none⟩ := by
  refine World.cell?_of_block ?_
  show (W.heap.push o)[b]? = W.heap[b]?
  rw [Array.getElem?_push]
  rw [if_neg h]

theorem cell_alloc_at (W : World) (cs : Array Value) (t : TypeId) (b i : Nat) (h : b = W.heap.size) : (W.alloc (.cells cs t)).cell? ⟨b, i, none⟩ = cs[i]? := by subst h; exact World.cell?_alloc_new W cs t i
theorem row_setE {W : World} {b i : Nat} {v : Value} {cs cs' : Array Value} {T : TypeId} {fr : Nat × Nat} (h : W.heap[b]? = some (.cells cs T fr)) (e : cs.setIfInBounds i v = cs') : (W.setCell ⟨b, i, none⟩ v).heap[b]? = some (.cells cs' T fr) := by
  subst e
  simp [World.setCell, Array.getElem?_modify, h]
theorem row_drew {W : World} {b : Nat} {o : Obj} (h : W.heap[b]? = some o) : W.drew.heap[b]? = some o := h
theorem row_alloc {W : World} {b : Nat} {o x : Obj} (h : W.heap[b]? = some o) (hb : b < W.heap.size) : (W.alloc x).heap[b]? = some o := by rw [Below.heap_alloc W x b hb]; exact h


end Go.Proofs.YtlejbindochiiaaDoor
