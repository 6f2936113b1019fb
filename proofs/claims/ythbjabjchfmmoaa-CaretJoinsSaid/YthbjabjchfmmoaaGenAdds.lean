/-
  The three calls of strings.trieNode's add by which strings.makeGenericReplacer makes caret.Decode's trie.
-/
import Derived.Test.YthbjabjchfmmoaaTrieSplit
namespace Go.Proofs.Ythbjabjchfmmoaa
open Go.RowKit
set_option linter.unusedVariables false
set_option linter.unusedSimpArgs false

/-- a cell that is there stays, away from the blocks named -/
theorem Away.held {bs : List Nat} {w w' : World} (a : Away bs w w') {b o : Nat} {v : Value} (h : w.cell? ⟨b, o, none⟩ = some v) (hn : b ∉ bs) : w'.cell? ⟨b, o, none⟩ = some v :=
  (a.cell b o (World.block_lt_of_cell? _ _ h) hn).trans h
/-- the replacer while its trie is made -/
structure GC (w0 w : World) (R T : Nat) : Prop where
  g : G w0 w
  rl : w0.heap.size ≤ R
  tl : w0.heap.size ≤ T
  rt : R ≠ T
  root : Node w R 0 [] 0 [] (.pointer none) (.slice (some ⟨T, 0, none⟩) 3 3)
  c5 : w.cell? ⟨R, 5, none⟩ = some (.int .i64 3)
  map : ∀ c : UInt8, w.cell? ⟨R, 6 + c.toNat, none⟩ = some (.int .u8 (mapF c))
  t0 : w.cell? ⟨T, 0, none⟩ = some (.pointer none)
  t2 : w.cell? ⟨T, 2, none⟩ = some (.pointer none)
theorem GC.away {bs : List Nat} {w0 w w' : World} {R T : Nat} (h : GC w0 w R T) (a : Away bs w w') (hR : R ∉ bs) (hs : ∀ b ∈ bs, w0.heap.size ≤ b) (h0 : w'.cell? ⟨T, 0, none⟩ = some (.pointer none)) (h2 : w'.cell? ⟨T, 2, none⟩ = some (.pointer none)) : GC w0 w' R T :=
  ⟨a.g h.g hs, h.rl, h.tl, h.rt, h.root.away a hR, a.held h.c5 hR, fun c => a.held (h.map c) hR, h0, h2⟩
structure G0 (w0 w : World) (R T : Nat) : Prop where
  gc : GC w0 w R T
  t1 : w.cell? ⟨T, 1, none⟩ = some (.pointer none)
  tf : w.frozen? ⟨T, 1, none⟩ = false
structure G1 (w0 w : World) (R T M B : Nat) : Prop where
  gc : GC w0 w R T
  t1 : w.cell? ⟨T, 1, none⟩ = some (.pointer (some ⟨M, 0, none⟩))
  ml : w0.heap.size ≤ M
  bl : w0.heap.size ≤ B
  mr : M ≠ R
  mt : M ≠ T
  mb : M ≠ B
  nm : Node w M 0 [] 0 [94] (.pointer (some ⟨B, 0, none⟩)) (.slice none 0 0)
  nb : Node w B 0 [94] 6 [] (.pointer none) (.slice none 0 0)
structure G2 (w0 w : World) (R T M B C U : Nat) : Prop where
  gc : GC w0 w R T
  t1 : w.cell? ⟨T, 1, none⟩ = some (.pointer (some ⟨M, 0, none⟩))
  ml : w0.heap.size ≤ M
  bl : w0.heap.size ≤ B
  cl : w0.heap.size ≤ C
  ul : w0.heap.size ≤ U
  ur : U ≠ R
  ut : U ≠ T
  um : U ≠ M
  ub : U ≠ B
  uc : U ≠ C
  nm : Node w M 0 [] 0 [] (.pointer none) (.slice (some ⟨U, 0, none⟩) 3 3)
  nb : Node w B 0 [94] 6 [] (.pointer none) (.slice none 0 0)
  nc : Node w C 0 [10] 4 [] (.pointer none) (.slice none 0 0)
  u0 : w.cell? ⟨U, 0, none⟩ = some (.pointer none)
  u1 : w.cell? ⟨U, 1, none⟩ = some (.pointer (some ⟨B, 0, none⟩))
  u2 : w.cell? ⟨U, 2, none⟩ = some (.pointer (some ⟨C, 0, none⟩))
  uf : w.frozen? ⟨U, 0, none⟩ = false
def Rel (w0 w : World) (R T : Nat) : Nat → Prop
  | 0 => G0 w0 w R T
  | 1 => ∃ M B, G1 w0 w R T M B
  | 2 => ∃ M B C U, G2 w0 w R T M B C U
  | _ => G w0 w ∧ ∃ A B C D U, Trie w R A B C D T U ∧ ∀ b ∈ [R, A, B, C, D, T, U], w0.heap.size ≤ b

theorem Node.lt {w : World} {B o : Nat} {val : List UInt8} {pr : Int} {pre : List UInt8} {nx tb : Value} (h : Node w B o val pr pre nx tb) : B < w.heap.size := World.block_lt_of_cell? _ _ h.c0
theorem GC.keep {w0 w w' : World} {R T : Nat} (h : GC w0 w R T) (a : Away [] w w') : GC w0 w' R T := h.away a (by simp) (by simp) (a.held h.t0 (by simp)) (a.held h.t2 (by simp))
theorem G0.keep {w0 w w' : World} {R T : Nat} (h : G0 w0 w R T) (a : Away [] w w') : G0 w0 w' R T :=
  ⟨h.gc.keep a, a.held h.t1 (by simp), (a.fz T 1 (World.block_lt_of_cell? _ _ h.t1)).trans h.tf⟩
theorem G1.keep {w0 w w' : World} {R T M B : Nat} (h : G1 w0 w R T M B) (a : Away [] w w') : G1 w0 w' R T M B :=
  ⟨h.gc.keep a, a.held h.t1 (by simp), h.ml, h.bl, h.mr, h.mt, h.mb, h.nm.away a (by simp), h.nb.away a (by simp)⟩
theorem G2.keep {w0 w w' : World} {R T M B C U : Nat} (h : G2 w0 w R T M B C U) (a : Away [] w w') : G2 w0 w' R T M B C U :=
  ⟨h.gc.keep a, a.held h.t1 (by simp), h.ml, h.bl, h.cl, h.ul, h.ur, h.ut, h.um, h.ub, h.uc, h.nm.away a (by simp), h.nb.away a (by simp), h.nc.away a (by simp), a.held h.u0 (by simp), a.held h.u1 (by simp), a.held h.u2 (by simp), (a.fz U 0 (World.block_lt_of_cell? _ _ h.u0)).trans h.uf⟩
theorem Rel.keep {w0 w w' : World} {R T k : Nat} (h : Rel w0 w R T k) (a : Away [] w w') (hg : G w w') : Rel w0 w' R T k := by
  match k, h with
  | 0, h => exact G0.keep h a
  | 1, ⟨M, B, h⟩ => exact ⟨M, B, G1.keep h a⟩
  | 2, ⟨M, B, C, U, h⟩ => exact ⟨M, B, C, U, h.keep a⟩
  | k + 3, ⟨g, A, B, C, D, U, h, hb⟩ => exact ⟨g.trans hg, A, B, C, D, U, h.grow hg, hb⟩
theorem Rel.g {w0 w : World} {R T k : Nat} (h : Rel w0 w R T k) : G w0 w := by
  match k, h with
  | 0, h => exact (show G0 w0 w R T from h).gc.g
  | 1, ⟨M, B, h⟩ => exact h.gc.g
  | 2, ⟨M, B, C, U, h⟩ => exact h.gc.g
  | k + 3, ⟨g, _⟩ => exact g

set_option maxRecDepth 100000 in
set_option maxHeartbeats 1000000 in
theorem adds0 (w0 w : World) (R T : Nat) (h : G0 w0 w R T) : Calls Try.prog 37 #[.pointer (some ⟨R, 0, none⟩), .string (S [94, 94]), .string (S [94]), .int .i64 6, .pointer (some ⟨R, 0, none⟩)] w fun e w' => e = .returned (.tuple #[]) ∧ Rel w0 w' R T 1 := by
  have hR := h.gc.root.lt
  have hT := World.block_lt_of_cell? _ _ h.gc.t0
  have hg := h.gc.g.size
  have htl := h.gc.tl
  have hrl := h.gc.rl
  have hrt := h.gc.rt
  refine add_new w R 0 R T 1 94 [94] [94] [] 6 0 _ (fun w' => Rel w0 w' R T 1) h.gc.root (h.gc.map 94) (by omega) h.t1 h.tf hrt (by simp) (fun W M hM aw nd tm tj => ?_)
  refine (add_fresh W M 94 [94] 6 (.pointer (some ⟨R, 0, none⟩)) nd).mono ?_
  rintro e w' ⟨he, n1, n2, a2, hl⟩
  have hMW := nd.lt
  have hW := aw.size
  have hMT : M ≠ T := by simp at hT; omega
  have hMR : M ≠ R := by omega
  have a : Away [T] w w' := aw.trans a2 (by simp; omega)
  have t0 : w'.cell? ⟨T, 0, none⟩ = some (.pointer none) := a2.held ((tj 0 (by omega)).trans h.gc.t0) (by simp; omega)
  have t2 : w'.cell? ⟨T, 2, none⟩ = some (.pointer none) := a2.held ((tj 2 (by omega)).trans h.gc.t2) (by simp; omega)
  have t1 : w'.cell? ⟨T, 1, none⟩ = some (.pointer (some ⟨M, 0, none⟩)) := a2.held tm (by simp; omega)
  have gc := h.gc.away a (by simp; omega) (by simp; omega) t0 t2
  exact ⟨he, ⟨M, W.heap.size, gc, t1, by omega, by omega, hMR, hMT, by omega, n1, n2⟩, gc.root.c4, t1⟩

set_option maxRecDepth 100000 in
set_option maxHeartbeats 1000000 in
theorem adds1 (w0 w : World) (R T M B : Nat) (h : G1 w0 w R T M B) : Calls Try.prog 37 #[.pointer (some ⟨R, 0, none⟩), .string (S [94, 110]), .string (S [10]), .int .i64 4, .pointer (some ⟨R, 0, none⟩)] w fun e w' => e = .returned (.tuple #[]) ∧ Rel w0 w' R T 2 := by
  refine add_down w R 0 R T M 0 1 94 [110] [10] [] 4 0 _ (fun w' => Rel w0 w' R T 2) h.gc.root (h.gc.map 94) (by omega) h.t1 (by simp) (fun W gW => ?_)
  have h := h.keep (away_of_g gW)
  have hg := h.gc.g.size
  have hR := h.gc.root.lt
  have hT := World.block_lt_of_cell? _ _ h.gc.t0
  have hM := h.nm.lt
  have hB := h.nb.lt
  have htl := h.gc.tl
  have hrl := h.gc.rl
  have hml := h.ml
  have hmr := h.mr
  have hmt := h.mt
  have hmb := h.mb
  simp only at hT
  refine (add_split W M R B 2 110 [10] 4 h.nm (by decide) h.gc.c5 (h.gc.map 94) (h.gc.map 110) (by omega) (by omega) hmr).mono ?_
  rintro e w' ⟨he, C, U, hC, hU, hCU, n1, n2, a, uj, um, uf⟩
  have t0 := a.held h.gc.t0 (by simp; omega)
  have t2 := a.held h.gc.t2 (by simp; omega)
  have t1 := a.held h.t1 (by simp; omega)
  have gc := h.gc.away a (by simp; omega) (by simp; omega) t0 t2
  exact ⟨he, ⟨M, B, C, U, gc, t1, hml, h.bl, by omega, by omega, by omega, by omega, by omega, by omega, by omega, n1, h.nb.away a (by simp; omega), n2, uj 0 (by omega) (by omega), uj 1 (by omega) (by omega), um, uf 0⟩, gc.root.c4, t1⟩

set_option maxRecDepth 100000 in
set_option maxHeartbeats 1000000 in
theorem adds2 (w0 w : World) (R T M B C U : Nat) (h : G2 w0 w R T M B C U) : Calls Try.prog 37 #[.pointer (some ⟨R, 0, none⟩), .string (S [94, 39]), .string (S [34]), .int .i64 2, .pointer (some ⟨R, 0, none⟩)] w fun e w' => e = .returned (.tuple #[]) ∧ Rel w0 w' R T 3 := by
  refine add_down w R 0 R T M 0 1 94 [39] [34] [] 2 0 _ (fun w' => Rel w0 w' R T 3) h.gc.root (h.gc.map 94) (by omega) h.t1 (by simp) (fun W gW => ?_)
  have h := h.keep (away_of_g gW)
  have hg := h.gc.g.size
  have hR := h.gc.root.lt
  have hT := World.block_lt_of_cell? _ _ h.gc.t0
  have hM := h.nm.lt
  have hB := h.nb.lt
  have hC := h.nc.lt
  have htl := h.gc.tl
  have hrl := h.gc.rl
  have hml := h.ml
  have hul := h.ul
  have h1 := h.ur
  have h2 := h.ut
  have h3 := h.um
  have h4 := h.ub
  have h5 := h.uc
  simp only at hT
  refine add_new W M 0 R U 0 39 [] [34] [] 2 0 _ (fun w' => Rel w0 w' R T 3 ∧ w'.cell? ⟨R, 0 + 4, none⟩ = some (.slice (some ⟨T, 0, none⟩) 3 3) ∧ w'.cell? ⟨T, 1, none⟩ = some (.pointer (some ⟨M, 0, none⟩))) h.nm (h.gc.map 39) (by omega) h.u0 h.uf (by omega) (by simp) (fun W2 D hD aw nd um uj => ?_)
  refine (add_leaf W2 D 0 [] [34] [] 2 _ _ (.pointer (some ⟨R, 0, none⟩)) nd).mono ?_
  rintro e w' ⟨he, n1, a2⟩
  have hW := aw.size
  have hDW := nd.lt
  have hUW := World.block_lt_of_cell? _ _ um
  simp only at hUW
  have hU : U < W.heap.size := World.block_lt_of_cell? _ _ h.u0
  have a : Away [U] W w' := aw.trans a2 (by simp; omega)
  have t0 := a.held h.gc.t0 (by simp; omega)
  have t2 := a.held h.gc.t2 (by simp; omega)
  have t1 := a.held h.t1 (by simp; omega)
  have gc := h.gc.away a (by simp; omega) (by simp; omega) t0 t2
  have u0 := a2.held um (by simp; omega)
  have u1 := a2.held ((uj 1 (by omega)).trans h.u1) (by simp; omega)
  have u2 := a2.held ((uj 2 (by omega)).trans h.u2) (by simp; omega)
  have nm := h.nm.away a (by simp; omega)
  have nb := h.nb.away a (by simp; omega)
  have nc := h.nc.away a (by simp; omega)
  refine ⟨he, ⟨⟨gc.g, M, B, C, D, U, ⟨⟨gc.root.c1, gc.root.c4⟩, gc.c5, gc.map, t0, t1, t2, ⟨nm.c1, nm.c4⟩, u0, u1, u2, ⟨nb.c0, nb.c1, nb.c2, nb.c4⟩, ⟨nc.c0, nc.c1, nc.c2, nc.c4⟩, ⟨n1.c0, n1.c1, n1.c2, n1.c4⟩⟩, ?_⟩, gc.root.c4, t1⟩, nm.c4, u0⟩
  have hbl := h.bl
  have hcl := h.cl
  simp
  omega
def keyK : Nat → List UInt8 | 0 => [94, 94] | 1 => [94, 110] | _ => [94, 39]
def valK : Nat → List UInt8 | 0 => [94] | 1 => [10] | _ => [34]
theorem adds (w0 w : World) (R T k : Nat) (hk : k < 3) (h : Rel w0 w R T k) : Calls Try.prog 37 #[.pointer (some ⟨R, 0, none⟩), .string (S (keyK k)), .string (S (valK k)), .int .i64 (6 - ((2 * k : Nat) : Int)), .pointer (some ⟨R, 0, none⟩)] w fun e w' => e = .returned (.tuple #[]) ∧ Rel w0 w' R T (k + 1) := by
  match k, h with
  | 0, h => exact adds0 w0 w R T h
  | 1, ⟨M, B, h⟩ => exact adds1 w0 w R T M B h
  | 2, ⟨M, B, C, U, h⟩ => exact adds2 w0 w R T M B C U h

end Go.Proofs.Ythbjabjchfmmoaa
