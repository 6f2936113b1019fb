/-
  A struct api.Json in its box; a box whose list grows by one element. Plain.
-/
import Derived.Test.YtlejbindochiiaaDoorJsonRd
import Derived.Test.YtlejbindochiiaaDoorJsonMem
import Derived.Test.YtlejbindochiiaaDoorRowSet
import Derived.Deep.AppendLies
import Derived.Laws.AppendOwn
namespace Go.Proofs.YtlejbindochiiaaDoor
open Go.RowKit
set_option linter.unusedVariables false
set_option linter.unusedSimpArgs false

theorem mv_put {a b : World} {R X j : Nat} {v : Value} (h : a.grownBy b (some R)) (hX : a.heap.size ≤ X) : a.grownBy (b.setCell ⟨X, j, none⟩ v) (some R) :=
  ⟨h.os, h.tape, h.output, by simpa using h.size, fun i hi hne => (Below.heap_setCell _ _ _ _ (by simp; omega)).trans (h.block i hi hne)⟩
/-- a struct stored into its box, cell by cell -/
theorem box_put {W : World} {X : Nat} {a0 a1 a2 a3 b0 b1 b2 b3 : Value} {T : TypeId} (h : W.heap[X]? = some (.cells #[a0, a1, a2, a3] T)) :
    ((((W.setCell ⟨X, 0, none⟩ b0).setCell ⟨X, 1, none⟩ b1).setCell ⟨X, 2, none⟩ b2).setCell ⟨X, 3, none⟩ b3).heap[X]? = some (.cells #[b0, b1, b2, b3] T) := by
  simp [World.setCell, Array.getElem?_modify, h]
theorem RdO.putX {T : TypeId} {tl : List Value} {W : World} {R X k : Nat} {s : List UInt8} {b0 b1 b2 b3 : Value} (h : RdO T tl W R s k) (hX : R ≠ X) : RdO T tl ((((W.setCell ⟨X, 0, none⟩ b0).setCell ⟨X, 1, none⟩ b1).setCell ⟨X, 2, none⟩ b2).setCell ⟨X, 3, none⟩ b3) R s k := by
  unfold RdO at *
  rw [Below.heap_setCell _ _ _ _ hX, Below.heap_setCell _ _ _ _ hX, Below.heap_setCell _ _ _ _ hX, Below.heap_setCell _ _ _ _ hX]
  exact h
theorem mv_putX {a b : World} {R X : Nat} {b0 b1 b2 b3 : Value} (h : a.grownBy b (some R)) (hX : a.heap.size ≤ X) : a.grownBy ((((b.setCell ⟨X, 0, none⟩ b0).setCell ⟨X, 1, none⟩ b1).setCell ⟨X, 2, none⟩ b2).setCell ⟨X, 3, none⟩ b3) (some R) :=
  mv_put (mv_put (mv_put (mv_put h hX) hX) hX) hX
/-- a result that lies in its box -/
theorem box_ret {fn : Func} {Q : Ending → World → Prop} {a : Act} {W : World} {X : Nat} {cs : Array Value} (hres : fn.results = #[.cell 4 25]) (hp : a.tmps.getD 4 undef = .pointer (some ⟨X, 0, none⟩)) (hd : a.defers = []) (hg : W.heap[X]? = some (.cells cs 25)) (h4 : cs.size = 4) (hQ : Q (.returned (.agg cs)) W) : bodyPost Tryd.prog fn Q .ret a W :=
  bodyPost_ret (results_cell_row hres a.tmps W X 25 cs (0, 0) _ hp hg Tryd.underlying25 (by kernel_rfl) (by rw [h4]; kernel_rfl)) hd hQ

theorem infoJson : (Tryd.prog.info? 25).map (fun i => (i.zero, i.size, i.bytes)) = some (some (.agg #[.int .i64 0, .string ⟨#[]⟩, .slice none 0 0, .slice none 0 0]), 4, 72) := by kernel_rfl
theorem news4 (w : World) (a b c d : Value) (t : TypeId) : ∀ (j : Nat) (u : Value), [a, b, c, d][j]? = some u → (w.alloc (.cells #[a, b, c, d] t)).cell? ((⟨w.heap.size, 0, none⟩ : Addr).add j) = some u :=
  World.news_of_block (MapKept.heap_alloc w (.cells #[a, b, c, d] t)).1
theorem mv_ownJ {a b c : World} {R : Nat} {row : Option Nat} (h : a.grownBy b (some R)) (k : b.grownBy c row) (hr : ∀ j, row = some j → j = R ∨ a.heap.size ≤ j) : a.grownBy c (some R) :=
  ⟨k.os.trans h.os, k.tape.trans h.tape, k.output.trans h.output, Nat.le_trans h.size k.size, fun i hi hne => (k.block i (Nat.lt_of_lt_of_le hi h.size) (fun e => by rcases hr i e.symm with h' | h'; (· exact hne (by rw [h'])); omega)).trans (h.block i hi hne)⟩
theorem box_last {W : World} {J : Nat} {a0 a1 a2 a3 b : Value} {T : TypeId} (h : W.heap[J]? = some (.cells #[a0, a1, a2, a3] T)) : (W.setCell ⟨J, 3, none⟩ b).heap[J]? = some (.cells #[a0, a1, a2, b] T) := by
  simp [World.setCell, Array.getElem?_modify, h]
theorem box_third {W : World} {J : Nat} {a0 a1 a2 a3 b : Value} {T : TypeId} (h : W.heap[J]? = some (.cells #[a0, a1, a2, a3] T)) : (W.setCell ⟨J, 2, none⟩ b).heap[J]? = some (.cells #[a0, a1, b, a3] T) := by
  simp [World.setCell, Array.getElem?_modify, h]
/-- a tree appended to a box's list: what stands then -/
theorem ElQ.box {q : Nat → Prop} {w wc w9 w5 : World} {R X J J' d g cap : Nat} {s u : List UInt8} {xs : List Jt} {lv k0 t0 kv c0 c1 c2 c3 : Value} {cX : Array Value} {vs : List Value} {y : Jt}
    (hm : w.grownBy wc (some R)) (hR : R < w.heap.size) (hwX : w.heap.size ≤ X) (hXJ : X < J) (hE : ElQ q wc J' d xs lv vs) (hJ' : J ≤ J') (hJ2 : J' < wc.heap.size) (hq : ∀ b, wc.heap.size ≤ b → q b) (hj : wc.heap[J]? = some (.cells #[k0, t0, kv, lv] 25)) (hx : wc.heap[X]? = some (.cells cX 25))
    (m9 : wc.grownBy w9 (some R)) (rd : JRd w9 R s u) (hu : JAt d (fun b => wc.heap.size ≤ b) w9 (.agg #[c0, c1, c2, c3]) y)
    (hgrow : (w9.alloc (.cells #[c0, c1, c2, c3] 25)).grownBy w5 lv.ownBlock) (hown : w5.ownsRow (J' + 1) 25 4 (.slice (some ⟨g, 0, none⟩) (xs.length + 1) cap) (xs.length + 1) (cellsJ vs ++ [c0, c1, c2, c3]))
    (hgg : lv.ownBlock = some g ∨ g = (w9.alloc (.cells #[c0, c1, c2, c3] 25)).heap.size) :
    w.grownBy (w5.setCell ⟨J, 3, none⟩ (.slice (some ⟨g, 0, none⟩) (xs.length + 1) cap)) (some R) ∧ JRd (w5.setCell ⟨J, 3, none⟩ (.slice (some ⟨g, 0, none⟩) (xs.length + 1) cap)) R s u ∧
    (w5.setCell ⟨J, 3, none⟩ (.slice (some ⟨g, 0, none⟩) (xs.length + 1) cap)).heap[X]? = some (.cells cX 25) ∧
    (w5.setCell ⟨J, 3, none⟩ (.slice (some ⟨g, 0, none⟩) (xs.length + 1) cap)).heap[J]? = some (.cells #[k0, t0, kv, .slice (some ⟨g, 0, none⟩) (xs.length + 1) cap] 25) ∧
    ElQ q (w5.setCell ⟨J, 3, none⟩ (.slice (some ⟨g, 0, none⟩) (xs.length + 1) cap)) J' d (xs ++ [y]) (.slice (some ⟨g, 0, none⟩) (xs.length + 1) cap) (vs ++ [.agg #[c0, c1, c2, c3]]) := by
  have hJ := lt_of_row hj
  have hX := lt_of_row hx
  have hRw := hm.size
  have h9 := m9.size
  have ga : G w9 (w9.alloc (.cells #[c0, c1, c2, c3] 25)) := (G.refl _).alloc _
  have own : ∀ b, lv.ownBlock = some b → J' + 1 ≤ b ∧ b < wc.heap.size := fun b e => hE.row.lt b e
  have fr9 : ∀ b, b < w9.heap.size → (∀ j, lv.ownBlock = some j → j ≠ b) → w5.heap[b]? = w9.heap[b]? := fun b hb hn => (hgrow.block b (by simp; omega) (fun e => hn b e.symm rfl)).trans (ga.below.block b hb)
  have fr : ∀ b, b < wc.heap.size → b ≠ R → (∀ j, lv.ownBlock = some j → j ≠ b) → w5.heap[b]? = wc.heap[b]? := fun b hb hn ho => (fr9 b (by omega) ho).trans (m9.block b hb (by simp; omega))
  refine ⟨mv_put (mv_ownJ (mv_g (mv_trans hm m9) ga) hgrow fun j e => .inr (by have := own j e; omega)) (by omega), ?_, ?_, box_last ((fr J hJ (by omega) fun j e => by have := own j e; omega).trans hj), ?_⟩
  · obtain ⟨p, e, h⟩ := rd
    refine ⟨p, e, ?_⟩
    show (w5.setCell _ _).heap[R]? = _
    rw [Below.heap_setCell _ _ _ _ (by simp; omega), fr9 R h.lt fun j e => by have := own j e; omega]
    exact h
  · rw [Below.heap_setCell _ _ _ _ (by simp; omega), fr X hX (by omega) fun j e => by have := own j e; omega]
    exact hx
  · exact ((hE.mv m9 (by omega)).push hu (lo := wc.heap.size) hJ2 hq (fun b e => (own b e).2) ga hgrow hown hgg).mv (mv_set _ _ _ _) hJ'

end Go.Proofs.YtlejbindochiiaaDoor
