/-
  Texts merged into one: Trie, TrieAdd, TrieSplit, GenAdds.
-/
import Derived.Test.YtccaknanagmmhaaGreatCaretPlain
import Derived.OwnWalk
import Derived.Laws.Cover3
import Derived.LoopN
import Derived.Deep.RegionHeld3
import Derived.Deep.OwnRows
import Derived.StillTailTactics
namespace Go.Proofs.YtccaknanagmmhaaGreat
open Go.RowKit
set_option linter.unusedVariables false
set_option linter.unusedSimpArgs false

def mapF (c : UInt8) : Int := if c = 39 then 0 else if c = 94 then 1 else if c = 110 then 2 else 3
/-- a node that has a table, of no key itself -/
structure Inner (w : World) (B o T : Nat) : Prop where
  v1 : w.cell? ⟨B, o + 1, none⟩ = some (.int .i64 0)
  v4 : w.cell? ⟨B, o + 4, none⟩ = some (.slice (some ⟨T, 0, none⟩) 3 3)
/-- a node at a key's end -/
structure Leaf (w : World) (B : Nat) (v : UInt8) (p : Int) : Prop where
  v0 : w.cell? ⟨B, 0, none⟩ = some (.string (S [v]))
  v1 : w.cell? ⟨B, 1, none⟩ = some (.int .i64 p)
  v2 : w.cell? ⟨B, 2, none⟩ = some (.string ⟨#[]⟩)
  v4 : w.cell? ⟨B, 4, none⟩ = some (.slice none 0 0)
structure Trie (w : World) (R A B C D T U : Nat) : Prop where
  root : Inner w R 0 T
  size : w.cell? ⟨R, 5, none⟩ = some (.int .i64 3)
  map : ∀ c : UInt8, w.cell? ⟨R, 6 + c.toNat, none⟩ = some (.int .u8 (mapF c))
  t0 : w.cell? ⟨T, 0, none⟩ = some (.pointer none)
  t1 : w.cell? ⟨T, 1, none⟩ = some (.pointer (some ⟨A, 0, none⟩))
  t2 : w.cell? ⟨T, 2, none⟩ = some (.pointer none)
  inner : Inner w A 0 U
  u0 : w.cell? ⟨U, 0, none⟩ = some (.pointer (some ⟨D, 0, none⟩))
  u1 : w.cell? ⟨U, 1, none⟩ = some (.pointer (some ⟨B, 0, none⟩))
  u2 : w.cell? ⟨U, 2, none⟩ = some (.pointer (some ⟨C, 0, none⟩))
  lb : Leaf w B 94 6
  lc : Leaf w C 10 4
  ld : Leaf w D 34 2
theorem Inner.grow {w w' : World} {B o T : Nat} (h : Inner w B o T) (g : G w w') : Inner w' B o T := ⟨(g.cell (World.block_lt_of_cell? _ _ h.v1)).trans h.v1, (g.cell (World.block_lt_of_cell? _ _ h.v4)).trans h.v4⟩
theorem Leaf.grow {w w' : World} {B : Nat} {v : UInt8} {p : Int} (h : Leaf w B v p) (g : G w w') : Leaf w' B v p := ⟨(g.cell (World.block_lt_of_cell? _ _ h.v0)).trans h.v0, (g.cell (World.block_lt_of_cell? _ _ h.v1)).trans h.v1, (g.cell (World.block_lt_of_cell? _ _ h.v2)).trans h.v2, (g.cell (World.block_lt_of_cell? _ _ h.v4)).trans h.v4⟩
theorem Trie.grow {w w' : World} {R A B C D T U : Nat} (h : Trie w R A B C D T U) (g : G w w') : Trie w' R A B C D T U :=
  ⟨h.root.grow g, (g.cell (World.block_lt_of_cell? _ _ h.size)).trans h.size, fun c => (g.cell (World.block_lt_of_cell? _ _ (h.map c))).trans (h.map c), (g.cell (World.block_lt_of_cell? _ _ h.t0)).trans h.t0, (g.cell (World.block_lt_of_cell? _ _ h.t1)).trans h.t1, (g.cell (World.block_lt_of_cell? _ _ h.t2)).trans h.t2, h.inner.grow g, (g.cell (World.block_lt_of_cell? _ _ h.u0)).trans h.u0, (g.cell (World.block_lt_of_cell? _ _ h.u1)).trans h.u1, (g.cell (World.block_lt_of_cell? _ _ h.u2)).trans h.u2, h.lb.grow g, h.lc.grow g, h.ld.grow g⟩
/-- what lookup finds -/
def lookV (l : List UInt8) : Value := match mtL l with | some v => .tuple #[.string (S [v]), .int .i64 2, .bool true] | none => .tuple #[.string ⟨#[]⟩, .int .i64 0, .bool false]

set_option maxRecDepth 100000 in
set_option maxHeartbeats 4000000 in
theorem lookup_nil (w : World) (R A B C D T U : Nat) (h : Trie w R A B C D T U) : Gives 122 #[.pointer (some ⟨R, 0, none⟩), .string (S []), .bool false] w (lookV []) := by
  have r1 := h.root.v1
  simp only [Nat.zero_add] at r1
  clear h
  go_enter Tryz.func122, Tryz.ntmps122
  go_wp2_with fail
  refine wp_loop_rounds 1 ?_
  rw [rounds_succ]
  go_wp2_with fail
  go_ret3
  exact ⟨rfl, (by repeat (first | exact G.refl _ | assumption | apply G.drew | apply G.drewN | apply G.alloc | refine G.trans ?_ (by assumption)))⟩
set_option maxRecDepth 100000 in
set_option maxHeartbeats 4000000 in
theorem lookup_off (w : World) (R A B C D T U : Nat) (h : Trie w R A B C D T U) (c : UInt8) (r : List UInt8) (hm : mapF c = 3) : Gives 122 #[.pointer (some ⟨R, 0, none⟩), .string (S (c :: r)), .bool false] w (.tuple #[.string ⟨#[]⟩, .int .i64 0, .bool false]) := by
  have r1 := h.root.v1
  have r4 := h.root.v4
  have r5 := h.size
  have hc := h.map c
  rw [hm] at hc
  simp only [Nat.zero_add] at r1 r4
  have hlt : R < w.heap.size := World.block_lt_of_cell? _ _ r5
  have hc256 : (c.toNat : Int) < 256 := by have := c.toNat_lt; omega
  have ne : (c :: r == []) = false := rfl
  clear h hm
  go_enter Tryz.func122, Tryz.ntmps122
  go_wp2_with fail
  refine wp_loop_rounds 1 ?_
  rw [rounds_succ]
  go_wp2_with fail
  refine wp_region_grow (by kernel_rfl) (by kernel_rfl) ?_
  repeat (first | go_big_quiet_skip | (go_big_quiet_want; go_big_quiet_op; first | go_big_quiet_on | (apply Exists.intro; apply And.intro; (focus (intro _ hg; (rw [G.cell hg (p := ⟨R, 6 + c.toNat, none⟩) hlt, hc]; exact ⟨rfl, rfl⟩))); go_big_quiet_on) | (refine ⟨_, fun _ _ => rfl, ?_⟩; go_big_quiet_on)))
  refine wpQuiet_nil ?_
  intro wq gq
  have q5 := (G.cell gq (p := ⟨R, 5, none⟩) hlt).trans r5
  go_wp2_with fail
  go_ret3
  exact ⟨rfl, gq⟩

set_option maxRecDepth 100000 in
set_option maxHeartbeats 4000000 in
/-- a byte whose place in the root's table is empty -/
theorem lookup_out (w : World) (R A B C D T U : Nat) (h : Trie w R A B C D T U) (c : UInt8) (r : List UInt8) (hm : c = 39 ∨ c = 110) (hr : r.length ≤ 1000000) : Gives 122 #[.pointer (some ⟨R, 0, none⟩), .string (S (c :: r)), .bool false] w (.tuple #[.string ⟨#[]⟩, .int .i64 0, .bool false]) := by
  have r1 := h.root.v1
  have r4 := h.root.v4
  have r5 := h.size
  have hc := h.map c
  have t0 := h.t0
  have t2 := h.t2
  simp only [Nat.zero_add] at r1 r4
  have hlt : R < w.heap.size := World.block_lt_of_cell? _ _ r5
  have htl : T < w.heap.size := World.block_lt_of_cell? _ _ t0
  have hc256 : (c.toNat : Int) < 256 := by have := c.toNat_lt; omega
  have ne : (c :: r == []) = false := rfl
  obtain ⟨m, hmc, hm0⟩ : ∃ m : Nat, mapF c = (m : Int) ∧ (m = 0 ∨ m = 2) := by
    rcases hm with rfl | rfl
    · exact ⟨0, rfl, .inl rfl⟩
    · exact ⟨2, rfl, .inr rfl⟩
  rw [hmc] at hc
  clear h hm hmc
  rcases hm0 with rfl | rfl
  all_goals
    go_enter Tryz.func122, Tryz.ntmps122
    go_wp2_with fail
    refine wp_loop_rounds 2 ?_
    rw [rounds_succ]
    go_wp2_with fail
    refine wp_region_grow (by kernel_rfl) (by kernel_rfl) ?_
    repeat (first | go_big_quiet_skip | (go_big_quiet_want; go_big_quiet_op; first | go_big_quiet_on | (apply Exists.intro; apply And.intro; (focus (intro _ hg; (rw [G.cell hg (p := ⟨R, 6 + c.toNat, none⟩) hlt, hc]; exact ⟨rfl, rfl⟩))); go_big_quiet_on) | (refine ⟨_, fun _ _ => rfl, ?_⟩; go_big_quiet_on)))
    refine wpQuiet_nil ?_
    intro wq gq
    have q5 := (G.cell gq (p := ⟨R, 5, none⟩) hlt).trans r5
    have q4 := (G.cell gq (p := ⟨R, 4, none⟩) hlt).trans r4
    have k0 := (G.cell gq (p := ⟨T, 0, none⟩) htl).trans t0
    have k2 := (G.cell gq (p := ⟨T, 2, none⟩) htl).trans t2
    go_wp2_with fail
    rw [rounds_succ]
    go_wp2_with fail
    go_ret3
    exact ⟨rfl, gq⟩
set_option maxRecDepth 100000 in
set_option maxHeartbeats 4000000 in
/-- a caret at the text's end, or with a byte behind it that is of no key -/
theorem lookup_one (w : World) (R A B C D T U : Nat) (h : Trie w R A B C D T U) : Gives 122 #[.pointer (some ⟨R, 0, none⟩), .string (S [94]), .bool false] w (.tuple #[.string ⟨#[]⟩, .int .i64 0, .bool false]) := by
  have r1 := h.root.v1
  have r4 := h.root.v4
  have r5 := h.size
  have hc : w.cell? ⟨R, 100, none⟩ = some (.int .u8 1) := h.map 94
  have t1 := h.t1
  have a1 := h.inner.v1
  simp only [Nat.zero_add] at r1 r4 a1
  have hlt : R < w.heap.size := World.block_lt_of_cell? _ _ r5
  have htl : T < w.heap.size := World.block_lt_of_cell? _ _ t1
  have hal : A < w.heap.size := World.block_lt_of_cell? _ _ a1
  clear h
  go_enter Tryz.func122, Tryz.ntmps122
  go_wp2_with fail
  refine wp_loop_rounds 2 ?_
  rw [rounds_succ]
  go_wp2_with fail
  refine wp_region_grow (by kernel_rfl) (by kernel_rfl) ?_
  repeat (first | go_big_quiet_skip | (go_big_quiet_want; go_big_quiet_op; first | go_big_quiet_on | (apply Exists.intro; apply And.intro; (focus (intro _ hg; (rw [G.cell hg (p := ⟨R, 100, none⟩) hlt, hc]; exact ⟨rfl, rfl⟩))); go_big_quiet_on) | (refine ⟨_, fun _ _ => rfl, ?_⟩; go_big_quiet_on)))
  refine wpQuiet_nil ?_
  intro wq gq
  have q5 := (G.cell gq (p := ⟨R, 5, none⟩) hlt).trans r5
  have q4 := (G.cell gq (p := ⟨R, 4, none⟩) hlt).trans r4
  have k1 := (G.cell gq (p := ⟨T, 1, none⟩) htl).trans t1
  have b1 := (G.cell gq (p := ⟨A, 1, none⟩) hal).trans a1
  go_wp2_with fail
  rw [rounds_succ]
  go_wp2_with fail
  go_ret3
  exact ⟨rfl, gq⟩

set_option maxRecDepth 100000 in
set_option maxHeartbeats 4000000 in
theorem lookup_far (w : World) (R A B C D T U : Nat) (h : Trie w R A B C D T U) (d : UInt8) (r : List UInt8) (hm : mapF d = 3) (hr : r.length ≤ 1000000) : Gives 122 #[.pointer (some ⟨R, 0, none⟩), .string (S (94 :: d :: r)), .bool false] w (.tuple #[.string ⟨#[]⟩, .int .i64 0, .bool false]) := by
  have r1 := h.root.v1
  have r4 := h.root.v4
  have r5 := h.size
  have hc : w.cell? ⟨R, 100, none⟩ = some (.int .u8 1) := h.map 94
  have hd := h.map d
  have t1 := h.t1
  have a1 := h.inner.v1
  have a4 := h.inner.v4
  simp only [Nat.zero_add] at r1 r4 a1 a4
  have hlt : R < w.heap.size := World.block_lt_of_cell? _ _ r5
  have htl : T < w.heap.size := World.block_lt_of_cell? _ _ t1
  have hal : A < w.heap.size := World.block_lt_of_cell? _ _ a1
  have hd256 : (d.toNat : Int) < 256 := by have := d.toNat_lt; omega
  have ne : (94 :: d :: r == []) = false := rfl
  have ne2 : (d :: r == []) = false := rfl
  rw [hm] at hd
  clear h hm
  go_enter Tryz.func122, Tryz.ntmps122
  go_wp2_with fail
  refine wp_loop_rounds 3 ?_
  rw [rounds_succ]
  go_wp2_with fail
  refine wp_region_grow (by kernel_rfl) (by kernel_rfl) ?_
  repeat (first | go_big_quiet_skip | (go_big_quiet_want; go_big_quiet_op; first | go_big_quiet_on | (apply Exists.intro; apply And.intro; (focus (intro _ hg; (rw [G.cell hg (p := ⟨R, 100, none⟩) hlt, hc]; exact ⟨rfl, rfl⟩))); go_big_quiet_on) | (refine ⟨_, fun _ _ => rfl, ?_⟩; go_big_quiet_on)))
  refine wpQuiet_nil ?_
  intro wq gq
  have q5 := (G.cell gq (p := ⟨R, 5, none⟩) hlt).trans r5
  have q4 := (G.cell gq (p := ⟨R, 4, none⟩) hlt).trans r4
  have k1 := (G.cell gq (p := ⟨T, 1, none⟩) htl).trans t1
  have b1 := (G.cell gq (p := ⟨A, 1, none⟩) hal).trans a1
  have b4 := (G.cell gq (p := ⟨A, 4, none⟩) hal).trans a4
  have qd := (G.cell gq (p := ⟨R, 6 + d.toNat, none⟩) hlt).trans hd
  have hlq : R < wq.heap.size := World.block_lt_of_cell? _ _ q5
  go_wp2_with fail
  rw [rounds_succ]
  go_wp2_with fail
  have GQ := hid gq
  obtain ⟨wr, hwr⟩ : ∃ wr, wr = wq := ⟨_, rfl⟩
  subst hwr
  clear gq
  refine wp_region_grow (by kernel_rfl) (by kernel_rfl) ?_
  repeat (first | go_big_quiet_skip | (go_big_quiet_want; go_big_quiet_op; first | go_big_quiet_on | (apply Exists.intro; apply And.intro; (focus (intro _ hg; (rw [G.cell hg (p := ⟨R, 6 + d.toNat, none⟩) hlq, qd]; exact ⟨rfl, rfl⟩))); go_big_quiet_on) | (refine ⟨_, fun _ _ => rfl, ?_⟩; go_big_quiet_on)))
  refine wpQuiet_nil ?_
  intro wq gq
  have p5 := (G.cell gq (p := ⟨R, 5, none⟩) hlq).trans q5
  go_wp2_with fail
  go_ret3
  exact ⟨rfl, GQ.out.trans gq⟩
set_option maxRecDepth 100000 in
set_option maxHeartbeats 4000000 in
theorem lookup_hit (w : World) (R A B C D T U : Nat) (h : Trie w R A B C D T U) (d v : UInt8) (r : List UInt8) (m X : Nat) (p : Int) (hm : mapF d = (m : Int)) (hm3 : m < 3) (hu : w.cell? ⟨U, m, none⟩ = some (.pointer (some ⟨X, 0, none⟩))) (hx : Leaf w X v p) (hp : 0 < p) (hr : r.length ≤ 1000000) : Gives 122 #[.pointer (some ⟨R, 0, none⟩), .string (S (94 :: d :: r)), .bool false] w (.tuple #[.string (S [v]), .int .i64 2, .bool true]) := by
  have r1 := h.root.v1
  have r4 := h.root.v4
  have r5 := h.size
  have hc : w.cell? ⟨R, 100, none⟩ = some (.int .u8 1) := h.map 94
  have hd := h.map d
  have t1 := h.t1
  have a1 := h.inner.v1
  have a4 := h.inner.v4
  simp only [Nat.zero_add] at r1 r4 a1 a4
  have hlt : R < w.heap.size := World.block_lt_of_cell? _ _ r5
  have htl : T < w.heap.size := World.block_lt_of_cell? _ _ t1
  have hal : A < w.heap.size := World.block_lt_of_cell? _ _ a1
  have hd256 : (d.toNat : Int) < 256 := by have := d.toNat_lt; omega
  have ne : (94 :: d :: r == []) = false := rfl
  have ne2 : (d :: r == []) = false := rfl
  have x0 := hx.v0
  have x1 := hx.v1
  have x2 := hx.v2
  have x4 := hx.v4
  have hul : U < w.heap.size := World.block_lt_of_cell? _ _ hu
  have hxl : X < w.heap.size := World.block_lt_of_cell? _ _ x0
  have hm3' : ((m : Int) == 3) = false := beq_eq_false_iff_ne.2 (by omega)
  have hp' : decide (0 < p) = true := decide_eq_true hp
  rw [hm] at hd
  clear h hm hx
  go_enter Tryz.func122, Tryz.ntmps122
  go_wp2_with fail
  refine wp_loop_rounds 3 ?_
  rw [rounds_succ]
  go_wp2_with fail
  refine wp_region_grow (by kernel_rfl) (by kernel_rfl) ?_
  repeat (first | go_big_quiet_skip | (go_big_quiet_want; go_big_quiet_op; first | go_big_quiet_on | (apply Exists.intro; apply And.intro; (focus (intro _ hg; (rw [G.cell hg (p := ⟨R, 100, none⟩) hlt, hc]; exact ⟨rfl, rfl⟩))); go_big_quiet_on) | (refine ⟨_, fun _ _ => rfl, ?_⟩; go_big_quiet_on)))
  refine wpQuiet_nil ?_
  intro wq gq
  have q5 := (G.cell gq (p := ⟨R, 5, none⟩) hlt).trans r5
  have q4 := (G.cell gq (p := ⟨R, 4, none⟩) hlt).trans r4
  have k1 := (G.cell gq (p := ⟨T, 1, none⟩) htl).trans t1
  have b1 := (G.cell gq (p := ⟨A, 1, none⟩) hal).trans a1
  have b4 := (G.cell gq (p := ⟨A, 4, none⟩) hal).trans a4
  have qd := (G.cell gq (p := ⟨R, 6 + d.toNat, none⟩) hlt).trans hd
  have hlq : R < wq.heap.size := World.block_lt_of_cell? _ _ q5
  go_wp2_with fail
  rw [rounds_succ]
  go_wp2_with fail
  have GQ := hid gq
  obtain ⟨wr, hwr⟩ : ∃ wr, wr = wq := ⟨_, rfl⟩
  subst hwr
  clear gq
  refine wp_region_grow (by kernel_rfl) (by kernel_rfl) ?_
  repeat (first | go_big_quiet_skip | (go_big_quiet_want; go_big_quiet_op; first | go_big_quiet_on | (apply Exists.intro; apply And.intro; (focus (intro _ hg; (rw [G.cell hg (p := ⟨R, 6 + d.toNat, none⟩) hlq, qd]; exact ⟨rfl, rfl⟩))); go_big_quiet_on) | (refine ⟨_, fun _ _ => rfl, ?_⟩; go_big_quiet_on)))
  refine wpQuiet_nil ?_
  intro wq gq
  have p5 := (G.cell gq (p := ⟨R, 5, none⟩) hlq).trans q5
  have n4 := (G.cell gq (p := ⟨A, 4, none⟩) (World.block_lt_of_cell? _ _ b4)).trans b4
  have GG := hid (GQ.out.trans gq)
  have nu := (G.cell GG.out (p := ⟨U, m, none⟩) hul).trans hu
  have y0 := (G.cell GG.out (p := ⟨X, 0, none⟩) hxl).trans x0
  have y1 := (G.cell GG.out (p := ⟨X, 1, none⟩) hxl).trans x1
  have y2 := (G.cell GG.out (p := ⟨X, 2, none⟩) hxl).trans x2
  have y4 := (G.cell GG.out (p := ⟨X, 4, none⟩) hxl).trans x4
  go_wp2_with fail
  rw [rounds_succ]
  go_wp2_with fail
  all_goals
    go_ret3
    exact ⟨rfl, GG.out⟩
theorem mapF_off {c : UInt8} (h1 : c ≠ 39) (h2 : c ≠ 94) (h3 : c ≠ 110) : mapF c = 3 := by unfold mapF; rw [if_neg h1, if_neg h2, if_neg h3]
theorem lookup_any (w : World) (R A B C D T U : Nat) (h : Trie w R A B C D T U) (l : List UInt8) (hl : l.length ≤ 1000000) : Gives 122 #[.pointer (some ⟨R, 0, none⟩), .string (S l), .bool false] w (lookV l) := by
  match l, hl with
  | [], _ => exact lookup_nil w R A B C D T U h
  | c :: r, hl =>
    simp only [List.length_cons] at hl
    by_cases hc : c = 94
    · subst hc
      match r, hl with
      | [], _ => exact lookup_one w R A B C D T U h
      | d :: r, hl =>
        simp only [List.length_cons] at hl
        by_cases h1 : d = 94
        · subst h1; exact lookup_hit w R A B C D T U h 94 94 r 1 B 6 rfl (by omega) h.u1 h.lb (by omega) (by omega)
        · by_cases h2 : d = 110
          · subst h2; exact lookup_hit w R A B C D T U h 110 10 r 2 C 4 rfl (by omega) h.u2 h.lc (by omega) (by omega)
          · by_cases h3 : d = 39
            · subst h3; exact lookup_hit w R A B C D T U h 39 34 r 0 D 2 rfl (by omega) h.u0 h.ld (by omega) (by omega)
            · have e : lookV (94 :: d :: r) = .tuple #[.string ⟨#[]⟩, .int .i64 0, .bool false] := by
                have hm : mtL (94 :: d :: r) = none := by simp [mtL, h1, h2, h3]
                unfold lookV
                rw [hm]
              rw [e]
              exact lookup_far w R A B C D T U h d r (mapF_off h3 h1 h2) (by omega)
    · have e : lookV (c :: r) = .tuple #[.string ⟨#[]⟩, .int .i64 0, .bool false] := by
        unfold lookV
        rw [mtL_no hc]
      rw [e]
      by_cases h1 : c = 39 ∨ c = 110
      · exact lookup_out w R A B C D T U h c r h1 (by omega)
      · exact lookup_off w R A B C D T U h c r (mapF_off (fun h => h1 (.inl h)) hc (fun h => h1 (.inr h)))

end Go.Proofs.YtccaknanagmmhaaGreat

namespace Go.Proofs.YtccaknanagmmhaaGreat
open Go.RowKit
set_option linter.unusedVariables false
set_option linter.unusedSimpArgs false

/-- a node in memory: its value, its priority, its prefix, what follows, its table -/
structure Node (w : World) (B o : Nat) (val : List UInt8) (pr : Int) (pre : List UInt8) (nx tb : Value) : Prop where
  c0 : w.cell? ⟨B, o, none⟩ = some (.string (S val))
  c1 : w.cell? ⟨B, o + 1, none⟩ = some (.int .i64 pr)
  c2 : w.cell? ⟨B, o + 2, none⟩ = some (.string (S pre))
  c3 : w.cell? ⟨B, o + 3, none⟩ = some nx
  c4 : w.cell? ⟨B, o + 4, none⟩ = some tb
  fz : ∀ j, w.frozen? ⟨B, j, none⟩ = false
/-- nothing but the blocks named has turned -/
structure Away (bs : List Nat) (w w' : World) : Prop where
  size : w.heap.size ≤ w'.heap.size
  bl : ∀ b, b < w.heap.size → b ∉ bs → w'.heap[b]? = w.heap[b]?
  fz : ∀ b o, b < w.heap.size → w'.frozen? ⟨b, o, none⟩ = w.frozen? ⟨b, o, none⟩
  os : w'.os = w.os
  tape : w'.tape = w.tape
  output : w'.output = w.output
theorem Away.cell {bs : List Nat} {w w' : World} (h : Away bs w w') (b o : Nat) (hb : b < w.heap.size) (hn : b ∉ bs) : w'.cell? ⟨b, o, none⟩ = w.cell? ⟨b, o, none⟩ := World.cell?_of_block (w := w) (h.bl b hb hn)
theorem Away.refl (bs : List Nat) (w : World) : Away bs w w := ⟨Nat.le_refl _, fun _ _ _ => rfl, fun _ _ _ => rfl, rfl, rfl, rfl⟩
theorem Away.drew {bs : List Nat} {w w' : World} (h : Away bs w w') : Away bs w w'.drew := ⟨h.size, h.bl, h.fz, h.os, h.tape, h.output⟩
theorem Away.trans {bs cs : List Nat} {a b c : World} (h : Away bs a b) (k : Away cs b c) (hs : ∀ x ∈ cs, x ∈ bs ∨ a.heap.size ≤ x) : Away bs a c :=
  ⟨Nat.le_trans h.size k.size, fun x hx hn => (k.bl x (Nat.lt_of_lt_of_le hx h.size) (fun hc => by rcases hs x hc with h1 | h1; exact hn h1; omega)).trans (h.bl x hx hn),
    fun x o hx => (k.fz x o (Nat.lt_of_lt_of_le hx h.size)).trans (h.fz x o hx), k.os.trans h.os, k.tape.trans h.tape, k.output.trans h.output⟩
/-- what was ahead of the blocks named stays -/
theorem Away.g {bs : List Nat} {w0 w w' : World} (h : Away bs w w') (g : G w0 w) (hs : ∀ b ∈ bs, w0.heap.size ≤ b) : G w0 w' :=
  g.below.trans ⟨h.os, h.tape, h.output, h.size, fun k hk => h.bl k (Nat.lt_of_lt_of_le hk g.size) (fun hc => by have := hs k hc; omega)⟩
theorem Away.set {bs : List Nat} {w w' : World} (h : Away bs w w') (b o : Nat) (v : Value) (hb : b ∈ bs ∨ w.heap.size ≤ b) : Away bs w (w'.setCell ⟨b, o, none⟩ v) :=
  ⟨by simpa [World.setCell] using h.size, fun c hc hn => by
    rw [Below.heap_setCell _ _ _ _ (by
      have : b ≠ c := by rintro rfl; rcases hb with h1 | h1; exact hn h1; omega
      exact Ne.symm this)]
    exact h.bl c hc hn, fun c j hc => by rw [World.frozen?_setCell]; exact h.fz c j hc, h.os, h.tape, h.output⟩
theorem Away.alloc {bs : List Nat} {w w' : World} (h : Away bs w w') (o : Obj) : Away bs w (w'.alloc o) :=
  ⟨by have := h.size; simp; omega, fun c hc hn => by rw [Below.heap_alloc _ _ _ (Nat.lt_of_lt_of_le hc h.size)]; exact h.bl c hc hn,
    fun c j hc => by
      have := h.fz c j hc
      rw [← this]
      exact World.frozen?_of_block (Below.heap_alloc _ _ _ (Nat.lt_of_lt_of_le hc h.size)), h.os, h.tape, h.output⟩
theorem Node.set0 {w : World} {B o : Nat} {val : List UInt8} {pr : Int} {pre : List UInt8} {nx tb : Value} (h : Node w B o val pr pre nx tb) (x : List UInt8) : Node (w.setCell ⟨B, o, none⟩ (.string (S x))) B o x pr pre nx tb :=
  ⟨World.cell?_setCell_same _ _ _ h.c0, by rw [World.cell?_setCell_other _ _ _ _ (by simp)]; exact h.c1, by rw [World.cell?_setCell_other _ _ _ _ (by simp)]; exact h.c2, by rw [World.cell?_setCell_other _ _ _ _ (by simp)]; exact h.c3, by rw [World.cell?_setCell_other _ _ _ _ (by simp)]; exact h.c4, fun j => by rw [World.frozen?_setCell]; exact h.fz j⟩
theorem Node.set1 {w : World} {B o : Nat} {val : List UInt8} {pr : Int} {pre : List UInt8} {nx tb : Value} (h : Node w B o val pr pre nx tb) (x : Int) : Node (w.setCell ⟨B, o + 1, none⟩ (.int .i64 x)) B o val x pre nx tb :=
  ⟨by rw [World.cell?_setCell_other _ _ _ _ (by simp)]; exact h.c0, World.cell?_setCell_same _ _ _ h.c1, by rw [World.cell?_setCell_other _ _ _ _ (by simp)]; exact h.c2, by rw [World.cell?_setCell_other _ _ _ _ (by simp)]; exact h.c3, by rw [World.cell?_setCell_other _ _ _ _ (by simp)]; exact h.c4, fun j => by rw [World.frozen?_setCell]; exact h.fz j⟩
theorem Node.set2 {w : World} {B o : Nat} {val : List UInt8} {pr : Int} {pre : List UInt8} {nx tb : Value} (h : Node w B o val pr pre nx tb) (x : List UInt8) : Node (w.setCell ⟨B, o + 2, none⟩ (.string (S x))) B o val pr x nx tb :=
  ⟨by rw [World.cell?_setCell_other _ _ _ _ (by simp)]; exact h.c0, by rw [World.cell?_setCell_other _ _ _ _ (by simp)]; exact h.c1, World.cell?_setCell_same _ _ _ h.c2, by rw [World.cell?_setCell_other _ _ _ _ (by simp)]; exact h.c3, by rw [World.cell?_setCell_other _ _ _ _ (by simp)]; exact h.c4, fun j => by rw [World.frozen?_setCell]; exact h.fz j⟩
theorem Node.set3 {w : World} {B o : Nat} {val : List UInt8} {pr : Int} {pre : List UInt8} {nx tb : Value} (h : Node w B o val pr pre nx tb) (x : Value) : Node (w.setCell ⟨B, o + 3, none⟩ x) B o val pr pre x tb :=
  ⟨by rw [World.cell?_setCell_other _ _ _ _ (by simp)]; exact h.c0, by rw [World.cell?_setCell_other _ _ _ _ (by simp)]; exact h.c1, by rw [World.cell?_setCell_other _ _ _ _ (by simp)]; exact h.c2, World.cell?_setCell_same _ _ _ h.c3, by rw [World.cell?_setCell_other _ _ _ _ (by simp)]; exact h.c4, fun j => by rw [World.frozen?_setCell]; exact h.fz j⟩
theorem Node.set4 {w : World} {B o : Nat} {val : List UInt8} {pr : Int} {pre : List UInt8} {nx tb : Value} (h : Node w B o val pr pre nx tb) (x : Value) : Node (w.setCell ⟨B, o + 4, none⟩ x) B o val pr pre nx x :=
  ⟨by rw [World.cell?_setCell_other _ _ _ _ (by simp)]; exact h.c0, by rw [World.cell?_setCell_other _ _ _ _ (by simp)]; exact h.c1, by rw [World.cell?_setCell_other _ _ _ _ (by simp)]; exact h.c2, by rw [World.cell?_setCell_other _ _ _ _ (by simp)]; exact h.c3, World.cell?_setCell_same _ _ _ h.c4, fun j => by rw [World.frozen?_setCell]; exact h.fz j⟩
theorem Node.away {w w' : World} {bs : List Nat} {B o : Nat} {val : List UInt8} {pr : Int} {pre : List UInt8} {nx tb : Value} (h : Node w B o val pr pre nx tb) (a : Away bs w w') (hB : B ∉ bs) : Node w' B o val pr pre nx tb := by
  have hb : B < w.heap.size := World.block_lt_of_cell? _ _ h.c0
  exact ⟨(a.cell B _ hb hB).trans h.c0, (a.cell B _ hb hB).trans h.c1, (a.cell B _ hb hB).trans h.c2, (a.cell B _ hb hB).trans h.c3, (a.cell B _ hb hB).trans h.c4, fun j => (a.fz B j hb).trans (h.fz j)⟩
theorem Node.new (w : World) (t : TypeId) : Node (w.alloc (.cells #[.string ⟨#[]⟩, .int .i64 0, .string ⟨#[]⟩, .pointer none, .slice none 0 0] t)) w.heap.size 0 [] 0 [] (.pointer none) (.slice none 0 0) := by
  refine ⟨?_, ?_, ?_, ?_, ?_, fun j => World.frozen?_alloc_at _ _ _ _ rfl⟩ <;> simp [go_sem] <;> rfl

set_option maxRecDepth 100000 in
set_option maxHeartbeats 1000000 in
theorem add_leaf (w : World) (B o : Nat) (val x pre : List UInt8) (p : Int) (nx tb rr : Value) (h : Node w B o val 0 pre nx tb) :
    Calls Tryz.prog 78 #[.pointer (some ⟨B, o, none⟩), .string (S []), .string (S x), .int .i64 p, rr] w fun e w' => e = .returned (.tuple #[]) ∧ Node w' B o x p pre nx tb ∧ Away [B] w w' := by
  have c0 := h.c0
  have c1 := h.c1
  have f0 := h.fz o
  have f1 := h.fz (o + 1)
  have H := hid h
  clear h
  go_enter Tryz.func78, Tryz.ntmps78
  go_wp2_with fail
  refine bodyPost_ret (results_none rfl _ _ _) rfl ⟨rfl, (H.out.set0 x).set1 p, ((Away.refl _ _).set _ _ _ (.inl (by simp))).set _ _ _ (.inl (by simp))⟩
set_option maxRecDepth 100000 in
set_option maxHeartbeats 2000000 in
theorem add_fresh (w : World) (B : Nat) (k : UInt8) (x : List UInt8) (p : Int) (rr : Value) (h : Node w B 0 [] 0 [] (.pointer none) (.slice none 0 0)) :
    Calls Tryz.prog 78 #[.pointer (some ⟨B, 0, none⟩), .string (S [k]), .string (S x), .int .i64 p, rr] w fun e w' => e = .returned (.tuple #[]) ∧ Node w' B 0 [] 0 [k] (.pointer (some ⟨w.heap.size, 0, none⟩)) (.slice none 0 0) ∧ Node w' w.heap.size 0 x p [] (.pointer none) (.slice none 0 0) ∧ Away [B] w w' ∧ w.heap.size < w'.heap.size := by
  have hb : B < w.heap.size := World.block_lt_of_cell? _ _ h.c0
  have c2 := h.c2
  have c3 := h.c3
  have c4 := h.c4
  have f2 := h.fz 2
  have f3 := h.fz 3
  simp only [Nat.zero_add] at c2 c3 c4
  have H := hid h
  have ne : ([k] == []) = false := rfl
  clear h
  go_enter Tryz.func78, Tryz.ntmps78
  go_wp2_with fail
  have h2 := (H.out.set2 [k]).set3 (.pointer (some ⟨w.heap.size, 0, none⟩))
  have a2 : Away [B] w ((w.setCell ⟨B, 0 + 2, none⟩ (.string (S [k]))).setCell ⟨B, 0 + 3, none⟩ (.pointer (some ⟨w.heap.size, 0, none⟩))) := ((Away.refl _ _).set _ _ _ (.inl (by simp))).set _ _ _ (.inl (by simp))
  simp only [Nat.zero_add] at h2 a2
  generalize hW2 : (w.setCell ⟨B, 2, none⟩ (.string (S [k]))).setCell ⟨B, 3, none⟩ (.pointer (some ⟨w.heap.size, 0, none⟩)) = W2 at h2 a2 ⊢
  have hs2 : W2.heap.size = w.heap.size := by rw [← hW2]; simp [World.setCell]
  have hn := Node.new W2 139
  rw [hs2] at hn
  have h3 := h2.away ((Away.refl [] W2).alloc (.cells #[.string ⟨#[]⟩, .int .i64 0, .string ⟨#[]⟩, .pointer none, .slice none 0 0] 139)) (by simp)
  have a3 := a2.alloc (.cells #[.string ⟨#[]⟩, .int .i64 0, .string ⟨#[]⟩, .pointer none, .slice none 0 0] 139)
  have hs3 : w.heap.size < (W2.alloc (.cells #[.string ⟨#[]⟩, .int .i64 0, .string ⟨#[]⟩, .pointer none, .slice none 0 0] 139)).heap.size := by simp; omega
  have H3 := hid h3
  have A3 := hid a3
  have HS3 := hid hs3
  refine (add_leaf _ w.heap.size 0 [] x [] p (.pointer none) (.slice none 0 0) rr hn).mono ?_
  rintro e w3 ⟨rfl, hl, hal⟩
  have HL := hid hl
  have HAL := hid hal
  clear h2 a2 hn h3 a3 hs3 hl hal hW2 H c2 c3 c4 f2 f3
  go_wp2_with fail
  refine bodyPost_end (results_none rfl _ _ _) rfl ⟨rfl, H3.out.away HAL.out (by simp; omega), HL.out, ?_, Nat.lt_of_lt_of_le HS3.out HAL.out.size⟩
  exact A3.out.trans HAL.out (by simp)

set_option maxRecDepth 100000 in
set_option maxHeartbeats 4000000 in
/-- a node with a table, whose place for the key's first byte holds a node already: the rest is put there -/
theorem add_down (w : World) (B o R T X xo m : Nat) (k : UInt8) (ks x val : List UInt8) (p pr : Int) (nx : Value) (Q : World → Prop) (h : Node w B o val pr [] nx (.slice (some ⟨T, 0, none⟩) 3 3)) (hm : w.cell? ⟨R, 6 + k.toNat, none⟩ = some (.int .u8 m)) (hm3 : m < 3)
    (ht : w.cell? ⟨T, m, none⟩ = some (.pointer (some ⟨X, xo, none⟩))) (hks : ks.length ≤ 100)
    (hc : ∀ W : World, G w W → Calls Tryz.prog 78 #[.pointer (some ⟨X, xo, none⟩), .string (S ks), .string (S x), .int .i64 p, .pointer (some ⟨R, 0, none⟩)] W fun e w' => e = .returned (.tuple #[]) ∧ Q w' ∧ w'.cell? ⟨B, o + 4, none⟩ = some (.slice (some ⟨T, 0, none⟩) 3 3) ∧ w'.cell? ⟨T, m, none⟩ = some (.pointer (some ⟨X, xo, none⟩))) :
    Calls Tryz.prog 78 #[.pointer (some ⟨B, o, none⟩), .string (S (k :: ks)), .string (S x), .int .i64 p, .pointer (some ⟨R, 0, none⟩)] w fun e w' => e = .returned (.tuple #[]) ∧ Q w' := by
  have c2 := h.c2
  have c4 := h.c4
  have hb : B < w.heap.size := World.block_lt_of_cell? _ _ h.c0
  have hr : R < w.heap.size := World.block_lt_of_cell? _ _ hm
  have htl : T < w.heap.size := World.block_lt_of_cell? _ _ ht
  have hk256 : (k.toNat : Int) < 256 := by have := k.toNat_lt; omega
  have ne : (k :: ks == []) = false := rfl
  have HC := hid hc
  clear h hc
  go_enter Tryz.func78, Tryz.ntmps78
  go_wp2_with fail
  refine wp_region_grow (by kernel_rfl) (by kernel_rfl) ?_
  repeat (first | go_big_quiet_skip | (go_big_quiet_want; go_big_quiet_op; first | go_big_quiet_on | (apply Exists.intro; apply And.intro; (focus (intro _ hg; (rw [G.cell hg (p := ⟨R, 6 + k.toNat, none⟩) hr, hm]; exact ⟨rfl, rfl⟩))); go_big_quiet_on) | (refine ⟨_, fun _ _ => rfl, ?_⟩; go_big_quiet_on)))
  refine wpQuiet_nil ?_
  intro wq gq
  have d4 := (G.cell gq (p := ⟨B, o + 4, none⟩) hb).trans c4
  have dt := (G.cell gq (p := ⟨T, m, none⟩) htl).trans ht
  have GQ := hid gq
  clear gq c2 c4 hm ht
  go_wp2_with fail
  have hm3i : (m : Int) < 3 := by omega
  have hm0i : (0 : Int) ≤ (m : Int) := by omega
  have hsl1 : (1 : Int) ≤ (ks.length : Int) + 1 := by omega
  have hsl0 : (0 : Int) ≤ (ks.length : Int) := by omega
  go_region_held3 (fun w' => w'.cell? ⟨B, o + 4, none⟩ = some (.slice (some ⟨T, 0, none⟩) 3 3) ∧ w'.cell? ⟨T, m, none⟩ = some (.pointer (some ⟨X, xo, none⟩))) (first | exact ⟨s4, st⟩ | go_keep)
    (first
      | (go_at_call 78; refine (HC.out _ ?_).mono ?_; (· first | with_reducible exact GQ.out | with_reducible exact GQ.out.drew); rintro e w3 ⟨rfl, hq, s4, st⟩; have HQ := hid hq; clear hq))
  all_goals
    go_wp2_with fail
    refine bodyPost_end (results_none rfl _ _ _) rfl ⟨rfl, HQ.out⟩

theorem away_of_g {w W : World} (g : G w W) : Away [] w W := ⟨g.size, fun b hb _ => g.below.block b hb, fun b o hb => g.below.frozen (p := ⟨b, o, none⟩) hb, g.below.os, g.below.tape, g.below.output⟩
theorem Away.mono {bs cs : List Nat} {w W : World} (h : Away bs w W) (hs : ∀ b ∈ bs, b ∈ cs ∨ w.heap.size ≤ b) : Away cs w W :=
  ⟨h.size, fun b hb hn => h.bl b hb (fun hc => by rcases hs b hc with h1 | h1; exact hn h1; omega), h.fz, h.os, h.tape, h.output⟩
set_option maxRecDepth 100000 in
set_option maxHeartbeats 4000000 in
/-- a node with a table, whose place for the key's first byte is empty: a new node comes there, the rest is put into it -/
theorem add_new (w : World) (B o R T m : Nat) (k : UInt8) (ks x val : List UInt8) (p pr : Int) (nx : Value) (Q : World → Prop) (h : Node w B o val pr [] nx (.slice (some ⟨T, 0, none⟩) 3 3)) (hm : w.cell? ⟨R, 6 + k.toNat, none⟩ = some (.int .u8 m)) (hm3 : m < 3)
    (ht : w.cell? ⟨T, m, none⟩ = some (.pointer none)) (htz : w.frozen? ⟨T, m, none⟩ = false) (hBT : B ≠ T) (hks : ks.length ≤ 100)
    (hc : ∀ (W : World) (M : Nat), w.heap.size ≤ M → Away [T] w W → Node W M 0 [] 0 [] (.pointer none) (.slice none 0 0) → W.cell? ⟨T, m, none⟩ = some (.pointer (some ⟨M, 0, none⟩)) → (∀ j, j ≠ m → W.cell? ⟨T, j, none⟩ = w.cell? ⟨T, j, none⟩) →
      Calls Tryz.prog 78 #[.pointer (some ⟨M, 0, none⟩), .string (S ks), .string (S x), .int .i64 p, .pointer (some ⟨R, 0, none⟩)] W fun e w' => e = .returned (.tuple #[]) ∧ Q w' ∧ w'.cell? ⟨B, o + 4, none⟩ = some (.slice (some ⟨T, 0, none⟩) 3 3) ∧ w'.cell? ⟨T, m, none⟩ = some (.pointer (some ⟨M, 0, none⟩))) :
    Calls Tryz.prog 78 #[.pointer (some ⟨B, o, none⟩), .string (S (k :: ks)), .string (S x), .int .i64 p, .pointer (some ⟨R, 0, none⟩)] w fun e w' => e = .returned (.tuple #[]) ∧ Q w' := by
  have c2 := h.c2
  have c4 := h.c4
  have hb : B < w.heap.size := World.block_lt_of_cell? _ _ h.c0
  have hr : R < w.heap.size := World.block_lt_of_cell? _ _ hm
  have htl : T < w.heap.size := World.block_lt_of_cell? _ _ ht
  have hk256 : (k.toNat : Int) < 256 := by have := k.toNat_lt; omega
  have ne : (k :: ks == []) = false := rfl
  have HC := hid hc
  clear h hc
  go_enter Tryz.func78, Tryz.ntmps78
  go_wp2_with fail
  refine wp_region_grow (by kernel_rfl) (by kernel_rfl) ?_
  repeat (first | go_big_quiet_skip | (go_big_quiet_want; go_big_quiet_op; first | go_big_quiet_on | (apply Exists.intro; apply And.intro; (focus (intro _ hg; (rw [G.cell hg (p := ⟨R, 6 + k.toNat, none⟩) hr, hm]; exact ⟨rfl, rfl⟩))); go_big_quiet_on) | (refine ⟨_, fun _ _ => rfl, ?_⟩; go_big_quiet_on)))
  refine wpQuiet_nil ?_
  intro wq gq
  have d4 := (G.cell gq (p := ⟨B, o + 4, none⟩) hb).trans c4
  have dt := (G.cell gq (p := ⟨T, m, none⟩) htl).trans ht
  have ft : wq.frozen? ⟨T, m, none⟩ = false := (gq.below.frozen (p := ⟨T, m, none⟩) htl).trans htz
  have htq : T < wq.heap.size := World.block_lt_of_cell? _ _ dt
  have hbq : B < wq.heap.size := World.block_lt_of_cell? _ _ d4
  have et : ∀ ob, (wq.alloc ob).cell? ⟨T, m, none⟩ = some (.pointer none) := fun ob => by rw [World.cell?_alloc_lt _ _ ⟨T, m, none⟩ htq]; exact dt
  have ef : ∀ ob, (wq.alloc ob).frozen? ⟨T, m, none⟩ = false := fun ob => by rw [← ft]; exact World.frozen?_of_block (Below.heap_alloc _ _ _ htq)
  have GQ := hid gq
  clear gq c2 c4 hm ht htz
  go_wp2_with fail
  generalize hW2 : wq.setCell ⟨T, m, none⟩ (.pointer (some ⟨wq.heap.size, 0, none⟩)) = W2
  have hs2 : W2.heap.size = wq.heap.size := by rw [← hW2]; simp [World.setCell]
  have a2 : Away [T] w W2 := by
    rw [← hW2]
    exact ((away_of_g GQ.out).mono (fun b hb' => by cases hb')).set T m _ (.inl (by simp))
  have t2 : W2.cell? ⟨T, m, none⟩ = some (.pointer (some ⟨wq.heap.size, 0, none⟩)) := by rw [← hW2]; exact World.cell?_setCell_same _ _ _ dt
  have t3 : ∀ j, j ≠ m → W2.cell? ⟨T, j, none⟩ = w.cell? ⟨T, j, none⟩ := fun j hj => by
    rw [← hW2, World.cell?_setCell_other _ _ _ _ (by first | (simp; done) | (simp; omega) | (simp; exact Ne.symm hj))]
    exact GQ.out.cell (p := ⟨T, j, none⟩) htl
  have b2 : W2.cell? ⟨B, o + 4, none⟩ = some (.slice (some ⟨T, 0, none⟩) 3 3) := by
    rw [← hW2, World.cell?_setCell_other _ _ _ _ (by simp [Ne.symm hBT])]; exact d4
  have hn := Node.new W2 139
  obtain ⟨M, hM⟩ : ∃ M, M = wq.heap.size := ⟨_, rfl⟩
  rw [hs2, ← hM] at hn
  rw [← hM] at t2 ⊢
  generalize hW3 : W2.alloc _ = W3 at hn ⊢
  have a3 : Away [T] w W3 := by rw [← hW3]; exact a2.alloc _
  have x3 : ∀ c j, c < W2.heap.size → W3.cell? ⟨c, j, none⟩ = W2.cell? ⟨c, j, none⟩ := fun c j hc => by rw [← hW3]; exact World.cell?_alloc_lt _ _ ⟨c, j, none⟩ hc
  have t4 := (x3 T m (by omega)).trans t2
  have b4 := (x3 B (o + 4) (by omega)).trans b2
  have t5 : ∀ j, j ≠ m → W3.cell? ⟨T, j, none⟩ = w.cell? ⟨T, j, none⟩ := fun j hj => (x3 T j (by omega)).trans (t3 j hj)
  have hMw : w.heap.size ≤ M := by rw [hM]; exact GQ.out.size
  have nd : Node W3.drew M 0 [] 0 [] (.pointer none) (.slice none 0 0) := ⟨hn.c0, hn.c1, hn.c2, hn.c3, hn.c4, hn.fz⟩
  have ad : Away [T] w W3.drew := a3.drew
  have CC := hid (HC.out W3.drew M hMw ad nd t4 t5)
  have BT4 := hid b4
  have TT4 := hid t4
  clear hW2 hs2 a2 t2 t3 b2 hM hW3 a3 x3 t5 hMw nd ad hn d4 dt ft et ef htq hbq HC GQ
  have hm3i : (m : Int) < 3 := by omega
  have hm0i : (0 : Int) ≤ (m : Int) := by omega
  have hsl1 : (1 : Int) ≤ (ks.length : Int) + 1 := by omega
  have hsl0 : (0 : Int) ≤ (ks.length : Int) := by omega
  go_region_held3 (fun w' => w'.cell? ⟨B, o + 4, none⟩ = some (.slice (some ⟨T, 0, none⟩) 3 3) ∧ w'.cell? ⟨T, m, none⟩ = some (.pointer (some ⟨M, 0, none⟩))) (first | exact ⟨s4, st⟩ | go_keep)
    (first
      | (go_at_call 78; (with_reducible refine CC.out.mono ?_); rintro e w3 ⟨rfl, hq, s4, st⟩; have HQ := hid hq; clear hq))
  all_goals
    go_wp2_with fail
    refine bodyPost_end (results_none rfl _ _ _) rfl ⟨rfl, HQ.out⟩

end Go.Proofs.YtccaknanagmmhaaGreat

namespace Go.Proofs.YtccaknanagmmhaaGreat
open Go.RowKit
set_option linter.unusedVariables false
set_option linter.unusedSimpArgs false

theorem infoPtr : (Tryz.prog.info? 136).map (fun i => (i.zero, i.size, i.bytes)) = some (some (.pointer none), 1, 8) := by kernel_rfl
set_option maxRecDepth 100000 in
set_option maxHeartbeats 4000000 in
theorem add_split (w : World) (A R Bq m : Nat) (c : UInt8) (x : List UInt8) (p : Int) (h : Node w A 0 [] 0 [94] (.pointer (some ⟨Bq, 0, none⟩)) (.slice none 0 0)) (hne : c ≠ 94)
    (h5 : w.cell? ⟨R, 5, none⟩ = some (.int .i64 3)) (hm1 : w.cell? ⟨R, 100, none⟩ = some (.int .u8 1)) (hm : w.cell? ⟨R, 6 + c.toNat, none⟩ = some (.int .u8 m)) (hm3 : m < 3) (hm0 : m ≠ 1) (hAR : A ≠ R) :
    Calls Tryz.prog 78 #[.pointer (some ⟨A, 0, none⟩), .string (S [c]), .string (S x), .int .i64 p, .pointer (some ⟨R, 0, none⟩)] w fun e w' => e = .returned (.tuple #[]) ∧ ∃ C U : Nat, w.heap.size ≤ C ∧ w.heap.size ≤ U ∧ C ≠ U ∧
      Node w' A 0 [] 0 [] (.pointer none) (.slice (some ⟨U, 0, none⟩) 3 3) ∧ Node w' C 0 x p [] (.pointer none) (.slice none 0 0) ∧ Away [A] w w' ∧ (∀ j, j < 3 → j ≠ m → w'.cell? ⟨U, j, none⟩ = some (if j = 1 then .pointer (some ⟨Bq, 0, none⟩) else .pointer none)) ∧ w'.cell? ⟨U, m, none⟩ = some (.pointer (some ⟨C, 0, none⟩)) ∧ ∀ j, w'.frozen? ⟨U, j, none⟩ = false := by
  have c2 := h.c2
  have c3 := h.c3
  have f2 := h.fz 2
  have f3 := h.fz 3
  have f4 := h.fz 4
  have c4 := h.c4
  simp only [Nat.zero_add] at c2 c3 c4
  have ha : A < w.heap.size := World.block_lt_of_cell? _ _ c2
  have hr : R < w.heap.size := World.block_lt_of_cell? _ _ h5
  have hk256 : (c.toNat : Int) < 256 := by have := c.toNat_lt; omega
  have ne : ([c] == []) = false := rfl
  have hcb : ((94 : Int) != (c.toNat : Int)) = true := by
    simp
    intro e
    exact hne (UInt8.toNat_inj.1 (by show c.toNat = 94; omega))
  have hmk : ∀ W : World, (Instr.makeSlice 137 (.int .i64 3) (.int .i64 3)).run Tryz.prog W = .ok (.slice (some ⟨W.heap.size, 0, none⟩) 3 3) (W.alloc (.cells #[.pointer none, .pointer none, .pointer none] 136)) := fun W => by
    have h := run_make_row' (P := Tryz.prog) 137 136 (.pointer none) 8 Tryz.underlying137 infoPtr rfl .i64 .i64 3 (by omega) (by omega) W
    have e : madeCells #[Value.pointer none] 3 = #[.pointer none, .pointer none, .pointer none] := by
      apply Array.ext
      · simp [madeCells]
      · intro i h1 h2
        simp [madeCells] at h1 ⊢
        have : i = 0 ∨ i = 1 ∨ i = 2 := by omega
        rcases this with rfl | rfl | rfl <;> simp
    rw [e] at h
    exact h
  have H := hid h
  clear h
  go_enter Tryz.func78, Tryz.ntmps78
  go_wp2_with fail
  refine wp_loop_rounds 1 ?_
  rw [rounds_succ]
  go_wp2_with fail
  refine wp_region_grow (by kernel_rfl) (by kernel_rfl) ?_
  repeat (first | go_big_quiet_skip | (go_big_quiet_want; go_big_quiet_op; first | go_big_quiet_on | (apply Exists.intro; apply And.intro; (focus (intro _ hg; (rw [G.cell hg (p := ⟨A, 2, none⟩) ha, c2]; exact ⟨rfl, rfl⟩))); go_big_quiet_on) | (refine ⟨_, fun _ _ => rfl, ?_⟩; go_big_quiet_on)))
  refine wpQuiet_nil ?_
  intro wq gq
  have GQ := hid gq
  have d2 := (G.cell gq (p := ⟨A, 2, none⟩) ha).trans c2
  have d3 := (G.cell gq (p := ⟨A, 3, none⟩) ha).trans c3
  have d5 := (G.cell gq (p := ⟨R, 5, none⟩) hr).trans h5
  have hrq : R < wq.heap.size := World.block_lt_of_cell? _ _ d5
  have e5 : ∀ ob, (wq.alloc ob).cell? ⟨R, 5, none⟩ = some (.int .i64 3) := fun ob => by rw [World.cell?_alloc_lt _ _ ⟨R, 5, none⟩ hrq]; exact d5
  have d4 := (G.cell gq (p := ⟨A, 4, none⟩) ha).trans c4
  have haq : A < wq.heap.size := World.block_lt_of_cell? _ _ d4
  have g4 : wq.frozen? ⟨A, 4, none⟩ = false := (gq.below.frozen (p := ⟨A, 4, none⟩) ha).trans f4
  have e4 : ∀ o1 o2, ((wq.alloc o1).alloc o2).cell? ⟨A, 4, none⟩ = some (.slice none 0 0) := fun o1 o2 => by rw [World.cell?_alloc_lt _ _ ⟨A, 4, none⟩ (by simp; omega), World.cell?_alloc_lt _ _ ⟨A, 4, none⟩ haq]; exact d4
  have h4 : ∀ o1 o2, ((wq.alloc o1).alloc o2).frozen? ⟨A, 4, none⟩ = false := fun o1 o2 => by
    rw [← g4]
    exact World.frozen?_of_block ((Below.heap_alloc _ _ _ (by simp; omega)).trans (Below.heap_alloc _ _ _ haq))
  have dm1 := (G.cell gq (p := ⟨R, 100, none⟩) hr).trans hm1
  have dmc := (G.cell gq (p := ⟨R, 6 + c.toNat, none⟩) hr).trans hm
  have hwq := gq.size
  clear gq
  go_wp2_with fail
  generalize hW1 : wq.setCell ⟨A, 4, none⟩ (.slice (some ⟨wq.heap.size + 1, 0, none⟩) 3 3) = W1
  have hs1 : W1.heap.size = wq.heap.size := by rw [← hW1]; simp [World.setCell]
  have a1 : Away [A] w W1 := by rw [← hW1]; exact ((away_of_g GQ.out).mono (fun b hb' => by cases hb')).set A 4 _ (.inl (by simp))
  have n1 : Node W1 A 0 [] 0 [94] (.pointer (some ⟨Bq, 0, none⟩)) (.slice (some ⟨wq.heap.size + 1, 0, none⟩) 3 3) := by
    have := ((H.out.away (away_of_g GQ.out) (by simp)).set4 (.slice (some ⟨wq.heap.size + 1, 0, none⟩) 3 3))
    simp only [Nat.zero_add] at this
    rw [← hW1]; exact this
  have r1 : W1.cell? ⟨R, 100, none⟩ = some (.int .u8 1) := by rw [← hW1, World.cell?_setCell_other _ _ _ _ (by simp [hAR])]; exact dm1
  have rc : W1.cell? ⟨R, 6 + c.toNat, none⟩ = some (.int .u8 m) := by rw [← hW1, World.cell?_setCell_other _ _ _ _ (by simp [hAR])]; exact dmc
  generalize hW2 : W1.alloc (.cells #[.string ⟨#[]⟩, .int .i64 0, .string ⟨#[]⟩, .pointer none, .slice none 0 0] 139) = W2
  have n2c : Node W2 wq.heap.size 0 [] 0 [] (.pointer none) (.slice none 0 0) := by rw [← hW2, ← hs1]; exact Node.new W1 _
  have hs2 : W2.heap.size = wq.heap.size + 1 := by rw [← hW2]; simp [hs1]
  have a12 : Away [] W1 W2 := by rw [← hW2]; exact (Away.refl _ _).alloc _
  generalize hW3 : W2.alloc (.cells #[.pointer none, .pointer none, .pointer none] 136) = W3
  have a23 : Away [] W2 W3 := by rw [← hW3]; exact (Away.refl _ _).alloc _
  have u0 : W3.cell? ⟨wq.heap.size + 1, 0, none⟩ = some (.pointer none) := by rw [← hW3, ← hs2]; simp [go_sem]
  have u1 : W3.cell? ⟨wq.heap.size + 1, 1, none⟩ = some (.pointer none) := by rw [← hW3, ← hs2]; simp [go_sem]
  have u2 : W3.cell? ⟨wq.heap.size + 1, 2, none⟩ = some (.pointer none) := by rw [← hW3, ← hs2]; simp [go_sem]
  have uf : ∀ j, W3.frozen? ⟨wq.heap.size + 1, j, none⟩ = false := fun j => by rw [← hW3, ← hs2]; exact World.frozen?_alloc_at _ _ _ _ rfl
  have hs3 : W3.heap.size = wq.heap.size + 2 := by rw [← hW3]; simp [hs2]
  have n3 := (n1.away a12 (by simp)).away a23 (by simp)
  have n3c := n2c.away a23 (by simp)
  have r3 : W3.cell? ⟨R, 100, none⟩ = some (.int .u8 1) := by rw [a23.cell R 100 (by omega) (by simp), a12.cell R 100 (by omega) (by simp)]; exact r1
  have rc3 : W3.cell? ⟨R, 6 + c.toNat, none⟩ = some (.int .u8 m) := by rw [a23.cell R _ (by omega) (by simp), a12.cell R _ (by omega) (by simp)]; exact rc
  have m2 := n3.c2
  have m4 := n3.c4
  simp only [Nat.zero_add] at m2 m4
  have N3 := hid n3
  have N3C := hid n3c
  have A13 : Hid (Away [A] w W3) := hid ((a1.trans a12 (by simp)).trans a23 (by simp))
  have HQW := hid hwq
  obtain ⟨U, hU⟩ : ∃ U, U = wq.heap.size + 1 := ⟨_, rfl⟩
  rw [← hU] at u0 u1 u2 uf m4 N3 ⊢
  have hAU : A ≠ U := by omega
  have hRU : R ≠ U := by omega
  have uf1 := uf 1
  have UF := hid uf
  have u1d : W3.drew.cell? ⟨U, 1, none⟩ = some (.pointer none) := u1
  have uf1d : W3.drew.frozen? ⟨U, 1, none⟩ = false := uf1
  clear hW1 hs1 a1 n1 r1 rc hW2 n2c hs2 a12 hW3 a23 n3 n3c uf d2 d3 d4 d5 dm1 dmc e4 h4 e5 g4 GQ c2 c3 c4 f2 f3 f4 h5 hm1 hm hmk
  have x4 : W3.drew.cell? ⟨A, 4, none⟩ = some (.slice (some ⟨U, 0, none⟩) 3 3) := m4
  have x2 : W3.drew.cell? ⟨A, 2, none⟩ = some (.string (S [94])) := m2
  have xr : W3.drew.cell? ⟨R, 100, none⟩ = some (.int .u8 1) := r3
  have HU := hid hU
  clear hU
  go_still_tail 16, (by kernel_rfl)
  change wpList _ _ _ _ _ W3.drew
  generalize hWd : W3.drew = Wd at u1d uf1d x4 x2 xr ⊢
  clear m4 m2 r3
  go_wp2_with fail
  have hdf : ∀ q, Wd.frozen? q = W3.frozen? q := fun q => by rw [← hWd]; rfl
  have hdc : ∀ q, Wd.cell? q = W3.cell? q := fun q => by rw [← hWd]; rfl
  have hds : Wd.heap.size = wq.heap.size + 2 := by rw [← hWd]; exact hs3
  have nd : Node Wd A 0 [] 0 [94] (.pointer (some ⟨Bq, 0, none⟩)) (.slice (some ⟨U, 0, none⟩) 3 3) := by rw [← hWd]; exact ⟨N3.out.c0, N3.out.c1, N3.out.c2, N3.out.c3, N3.out.c4, N3.out.fz⟩
  have ndc : Node Wd wq.heap.size 0 [] 0 [] (.pointer none) (.slice none 0 0) := by rw [← hWd]; exact ⟨N3C.out.c0, N3C.out.c1, N3C.out.c2, N3C.out.c3, N3C.out.c4, N3C.out.fz⟩
  have ad : Away [A] w Wd := by rw [← hWd]; exact A13.out.drew
  generalize hW4 : Wd.setCell ⟨U, 1, none⟩ (.pointer (some ⟨Bq, 0, none⟩)) = W4
  have hUw : w.heap.size ≤ U := by have := HU.out; omega
  have a4 : Away [A] w W4 := by rw [← hW4]; exact ad.set U 1 _ (.inr hUw)
  have ab : Away [U] Wd W4 := by rw [← hW4]; exact (Away.refl _ _).set U 1 _ (.inl (by simp))
  have n4 := nd.away ab (by simp [hAU])
  have n4c := ndc.away ab (by have := HU.out; simp; omega)
  have yc : W4.cell? ⟨R, 6 + c.toNat, none⟩ = some (.int .u8 m) := by rw [← hW4, World.cell?_setCell_other _ _ _ _ (by simp [Ne.symm hRU]), hdc]; exact rc3
  have zj : ∀ j, j < 3 → W4.cell? ⟨U, j, none⟩ = some (if j = 1 then .pointer (some ⟨Bq, 0, none⟩) else .pointer none) := fun j hj => by
    rcases (show j = 0 ∨ j = 1 ∨ j = 2 by omega) with rfl | rfl | rfl
    · rw [← hW4, World.cell?_setCell_other _ _ _ _ (by simp), hdc]; exact u0
    · rw [← hW4]; exact World.cell?_setCell_same _ _ _ u1d
    · rw [← hW4, World.cell?_setCell_other _ _ _ _ (by simp), hdc]; exact u2
  have zf : ∀ j, W4.frozen? ⟨U, j, none⟩ = false := fun j => by rw [← hW4, World.frozen?_setCell, hdf]; exact UF.out j
  have hs4 : W4.heap.size = wq.heap.size + 2 := by rw [← hW4]; simp [World.setCell, hds]
  clear hW4 hdf hdc hds nd ndc ad ab hWd u1d uf1d x4 x2 xr u0 u1 u2 hs3 rc3 uf1 N3 N3C A13 UF
  obtain ⟨C, hC⟩ : ∃ C, C = wq.heap.size := ⟨_, rfl⟩
  rw [← hC] at n4c ⊢
  have HC := hid hC
  clear hC
  have k4 := n4.c4
  simp only [Nat.zero_add] at k4
  have km := zj m hm3
  rw [if_neg hm0] at km
  have kf := zf m
  have k2 := n4.c2
  have k3 := n4.c3
  have f2 := n4.fz 2
  have f3 := n4.fz 3
  simp only [Nat.zero_add] at k2 k3
  have N4 := hid n4
  have N4C := hid n4c
  have A4 := hid a4
  have ZJ := hid zj
  have ZF := hid zf
  have HS4 := hid hs4
  clear n4 n4c a4 zj zf hs4
  have x4 : W4.drew.cell? ⟨A, 4, none⟩ = some (.slice (some ⟨U, 0, none⟩) 3 3) := k4
  have xm : W4.drew.cell? ⟨U, m, none⟩ = some (.pointer none) := km
  have xmf : W4.drew.frozen? ⟨U, m, none⟩ = false := kf
  have xc : W4.drew.cell? ⟨R, 6 + c.toNat, none⟩ = some (.int .u8 m) := yc
  have x2 : W4.drew.cell? ⟨A, 2, none⟩ = some (.string (S [94])) := k2
  have x3 : W4.drew.cell? ⟨A, 3, none⟩ = some (.pointer (some ⟨Bq, 0, none⟩)) := k3
  have y2 : W4.drew.frozen? ⟨A, 2, none⟩ = false := f2
  have y3 : W4.drew.frozen? ⟨A, 3, none⟩ = false := f3
  have hm3i : (m : Int) < 3 := by omega
  go_still_tail 13, (by kernel_rfl)
  change wpList _ _ _ _ _ W4.drew
  generalize hWe : W4.drew = We at xm xmf x4 xc x2 x3 y2 y3 ⊢
  clear k4 km kf k2 k3 f2 f3 yc
  go_wp2_with fail
  have ne4 : Node We A 0 [] 0 [94] (.pointer (some ⟨Bq, 0, none⟩)) (.slice (some ⟨U, 0, none⟩) 3 3) := by rw [← hWe]; exact ⟨N4.out.c0, N4.out.c1, N4.out.c2, N4.out.c3, N4.out.c4, N4.out.fz⟩
  have nec : Node We C 0 [] 0 [] (.pointer none) (.slice none 0 0) := by rw [← hWe]; exact ⟨N4C.out.c0, N4C.out.c1, N4C.out.c2, N4C.out.c3, N4C.out.c4, N4C.out.fz⟩
  have ae : Away [A] w We := by rw [← hWe]; exact A4.out.drew
  have zj : ∀ j, j < 3 → We.cell? ⟨U, j, none⟩ = some (if j = 1 then .pointer (some ⟨Bq, 0, none⟩) else .pointer none) := fun j hj => by rw [← hWe]; exact ZJ.out j hj
  have zf : ∀ j, We.frozen? ⟨U, j, none⟩ = false := fun j => by rw [← hWe]; exact ZF.out j
  have hs : We.heap.size = wq.heap.size + 2 := by rw [← hWe]; exact HS4.out
  have hCq := HC.out
  have hUq := HU.out
  have hAC : A ≠ C := by omega
  have hUC : U ≠ C := by omega
  have a5 : Away [A, U] We (((We.setCell ⟨U, m, none⟩ (.pointer (some ⟨C, 0, none⟩))).setCell ⟨A, 2, none⟩ (.string ⟨#[]⟩)).setCell ⟨A, 3, none⟩ (.pointer none)) :=
    (((Away.refl _ _).set U m _ (.inl (by simp))).set A 2 _ (.inl (by simp))).set A 3 _ (.inl (by simp))
  have na := (((ne4.away ((Away.refl [U] _).set U m (.pointer (some ⟨C, 0, none⟩)) (.inl (by simp))) (by simp [hAU])).set2 []).set3 (.pointer none))
  simp only [Nat.zero_add] at na
  change Node (((We.setCell ⟨U, m, none⟩ (.pointer (some ⟨C, 0, none⟩))).setCell ⟨A, 2, none⟩ (.string ⟨#[]⟩)).setCell ⟨A, 3, none⟩ (.pointer none)) A 0 [] 0 [] (.pointer none) (.slice (some ⟨U, 0, none⟩) 3 3) at na
  have z5 : ∀ j, j < 3 → j ≠ m → (((We.setCell ⟨U, m, none⟩ (.pointer (some ⟨C, 0, none⟩))).setCell ⟨A, 2, none⟩ (.string ⟨#[]⟩)).setCell ⟨A, 3, none⟩ (.pointer none)).cell? ⟨U, j, none⟩ = some (if j = 1 then .pointer (some ⟨Bq, 0, none⟩) else .pointer none) := fun j hj hn => by
    rw [World.cell?_setCell_other _ _ _ _ (by simp [hAU]), World.cell?_setCell_other _ _ _ _ (by simp [hAU]), World.cell?_setCell_other _ _ _ _ (by simp [Ne.symm hn])]
    exact zj j hj
  have z6 : (((We.setCell ⟨U, m, none⟩ (.pointer (some ⟨C, 0, none⟩))).setCell ⟨A, 2, none⟩ (.string ⟨#[]⟩)).setCell ⟨A, 3, none⟩ (.pointer none)).cell? ⟨U, m, none⟩ = some (.pointer (some ⟨C, 0, none⟩)) := by
    rw [World.cell?_setCell_other _ _ _ _ (by simp [hAU]), World.cell?_setCell_other _ _ _ _ (by simp [hAU])]
    exact World.cell?_setCell_same _ _ _ xm
  have z7 : ∀ j, (((We.setCell ⟨U, m, none⟩ (.pointer (some ⟨C, 0, none⟩))).setCell ⟨A, 2, none⟩ (.string ⟨#[]⟩)).setCell ⟨A, 3, none⟩ (.pointer none)).frozen? ⟨U, j, none⟩ = false := fun j => by
    rw [World.frozen?_setCell, World.frozen?_setCell, World.frozen?_setCell]; exact zf j
  have aw : Away [A] w (((We.setCell ⟨U, m, none⟩ (.pointer (some ⟨C, 0, none⟩))).setCell ⟨A, 2, none⟩ (.string ⟨#[]⟩)).setCell ⟨A, 3, none⟩ (.pointer none)) :=
    ((ae.set U m _ (.inr hUw)).set A 2 _ (.inl (by simp))).set A 3 _ (.inl (by simp))
  generalize ((We.setCell ⟨U, m, none⟩ (.pointer (some ⟨C, 0, none⟩))).setCell ⟨A, 2, none⟩ (.string ⟨#[]⟩)).setCell ⟨A, 3, none⟩ (.pointer none) = W7 at *
  have nc := nec.away a5 (by simp; omega)
  have hs7 : We.heap.size ≤ W7.heap.size := a5.size
  have NA := hid na
  have Z5 := hid z5
  have Z6 := hid z6
  have Z7 := hid z7
  have AW := hid aw
  have HAC := hid hAC
  have HUC := hid hUC
  have HUW := hid hUw
  have HS7 := hid hs7
  have HS := hid hs
  have HWQ := hid hwq
  clear na z5 z6 z7 aw hAC hUC hUw ne4 nec ae zj zf hs hCq hUq a5 xm xmf x4 xc x2 x3 y2 y3 hWe hs7 hwq
  show Calls _ _ #[.pointer (some ⟨C, 0, none⟩), .string (S []), .string (S x), .int .i64 p, .pointer (some ⟨R, 0, none⟩)] _ _
  refine (add_leaf W7 C 0 [] x [] p (.pointer none) (.slice none 0 0) (.pointer (some ⟨R, 0, none⟩)) nc).mono ?_
  rintro e w3 ⟨rfl, hl, hal⟩
  have HL := hid hl
  have HAL := hid hal
  clear hl hal nc
  go_wp2_with fail
  have hUs : U < W7.heap.size := by have := HS7.out; have := HS.out; have := HU.out; omega
  have hss : w.heap.size ≤ W7.heap.size := by have := HS7.out; have := HS.out; have := HWQ.out; omega
  refine bodyPost_end (results_none rfl _ _ _) rfl ⟨rfl, C, U, by have := HC.out; have := HWQ.out; omega, HUW.out, Ne.symm HUC.out, NA.out.away HAL.out (by simp [HAC.out]), HL.out, ?_, fun j hj hn => (HAL.out.cell U j hUs (by simp [HUC.out])).trans (Z5.out j hj hn), (HAL.out.cell U m hUs (by simp [HUC.out])).trans Z6.out, fun j => (HAL.out.fz U j hUs).trans (Z7.out j)⟩
  exact AW.out.trans HAL.out (by have := HC.out; have := HWQ.out; simp; omega)

end Go.Proofs.YtccaknanagmmhaaGreat

namespace Go.Proofs.YtccaknanagmmhaaGreat
open Go.RowKit
set_option linter.unusedVariables false
set_option linter.unusedSimpArgs false

/-- a cell that is there stays, away from the blocks named -/
theorem Away.held {bs : List Nat} {w w' : World} (a : Away bs w w') {b o : Nat} {v : Value} (h : w.cell? ⟨b, o, none⟩ = some v) (hn : b ∉ bs) : w'.cell? ⟨b, o, none⟩ = some v :=
  (a.cell b o (World.block_lt_of_cell? _ _ h) hn).trans h
/-- the replacer while its trie is made -/
structure GC (w0 w : World) (R T : Nat) : Prop where
  g : G w0 w
  rl : w0.heap.size ≤ R
  tl : w0.heap.size ≤ T
  rt : R ≠ T
  root : Node w R 0 [] 0 [] (.pointer none) (.slice (some ⟨T, 0, none⟩) 3 3)
  c5 : w.cell? ⟨R, 5, none⟩ = some (.int .i64 3)
  map : ∀ c : UInt8, w.cell? ⟨R, 6 + c.toNat, none⟩ = some (.int .u8 (mapF c))
  t0 : w.cell? ⟨T, 0, none⟩ = some (.pointer none)
  t2 : w.cell? ⟨T, 2, none⟩ = some (.pointer none)
theorem GC.away {bs : List Nat} {w0 w w' : World} {R T : Nat} (h : GC w0 w R T) (a : Away bs w w') (hR : R ∉ bs) (hs : ∀ b ∈ bs, w0.heap.size ≤ b) (h0 : w'.cell? ⟨T, 0, none⟩ = some (.pointer none)) (h2 : w'.cell? ⟨T, 2, none⟩ = some (.pointer none)) : GC w0 w' R T :=
  ⟨a.g h.g hs, h.rl, h.tl, h.rt, h.root.away a hR, a.held h.c5 hR, fun c => a.held (h.map c) hR, h0, h2⟩
structure G0 (w0 w : World) (R T : Nat) : Prop where
  gc : GC w0 w R T
  t1 : w.cell? ⟨T, 1, none⟩ = some (.pointer none)
  tf : w.frozen? ⟨T, 1, none⟩ = false
structure G1 (w0 w : World) (R T M B : Nat) : Prop where
  gc : GC w0 w R T
  t1 : w.cell? ⟨T, 1, none⟩ = some (.pointer (some ⟨M, 0, none⟩))
  ml : w0.heap.size ≤ M
  bl : w0.heap.size ≤ B
  mr : M ≠ R
  mt : M ≠ T
  mb : M ≠ B
  nm : Node w M 0 [] 0 [94] (.pointer (some ⟨B, 0, none⟩)) (.slice none 0 0)
  nb : Node w B 0 [94] 6 [] (.pointer none) (.slice none 0 0)
structure G2 (w0 w : World) (R T M B C U : Nat) : Prop where
  gc : GC w0 w R T
  t1 : w.cell? ⟨T, 1, none⟩ = some (.pointer (some ⟨M, 0, none⟩))
  ml : w0.heap.size ≤ M
  bl : w0.heap.size ≤ B
  cl : w0.heap.size ≤ C
  ul : w0.heap.size ≤ U
  ur : U ≠ R
  ut : U ≠ T
  um : U ≠ M
  ub : U ≠ B
  uc : U ≠ C
  nm : Node w M 0 [] 0 [] (.pointer none) (.slice (some ⟨U, 0, none⟩) 3 3)
  nb : Node w B 0 [94] 6 [] (.pointer none) (.slice none 0 0)
  nc : Node w C 0 [10] 4 [] (.pointer none) (.slice none 0 0)
  u0 : w.cell? ⟨U, 0, none⟩ = some (.pointer none)
  u1 : w.cell? ⟨U, 1, none⟩ = some (.pointer (some ⟨B, 0, none⟩))
  u2 : w.cell? ⟨U, 2, none⟩ = some (.pointer (some ⟨C, 0, none⟩))
  uf : w.frozen? ⟨U, 0, none⟩ = false
def Rel (w0 w : World) (R T : Nat) : Nat → Prop
  | 0 => G0 w0 w R T
  | 1 => ∃ M B, G1 w0 w R T M B
  | 2 => ∃ M B C U, G2 w0 w R T M B C U
  | _ => G w0 w ∧ ∃ A B C D U, Trie w R A B C D T U ∧ ∀ b ∈ [R, A, B, C, D, T, U], w0.heap.size ≤ b

theorem Node.lt {w : World} {B o : Nat} {val : List UInt8} {pr : Int} {pre : List UInt8} {nx tb : Value} (h : Node w B o val pr pre nx tb) : B < w.heap.size := World.block_lt_of_cell? _ _ h.c0
theorem GC.keep {w0 w w' : World} {R T : Nat} (h : GC w0 w R T) (a : Away [] w w') : GC w0 w' R T := h.away a (by simp) (by simp) (a.held h.t0 (by simp)) (a.held h.t2 (by simp))
theorem G0.keep {w0 w w' : World} {R T : Nat} (h : G0 w0 w R T) (a : Away [] w w') : G0 w0 w' R T :=
  ⟨h.gc.keep a, a.held h.t1 (by simp), (a.fz T 1 (World.block_lt_of_cell? _ _ h.t1)).trans h.tf⟩
theorem G1.keep {w0 w w' : World} {R T M B : Nat} (h : G1 w0 w R T M B) (a : Away [] w w') : G1 w0 w' R T M B :=
  ⟨h.gc.keep a, a.held h.t1 (by simp), h.ml, h.bl, h.mr, h.mt, h.mb, h.nm.away a (by simp), h.nb.away a (by simp)⟩
theorem G2.keep {w0 w w' : World} {R T M B C U : Nat} (h : G2 w0 w R T M B C U) (a : Away [] w w') : G2 w0 w' R T M B C U :=
  ⟨h.gc.keep a, a.held h.t1 (by simp), h.ml, h.bl, h.cl, h.ul, h.ur, h.ut, h.um, h.ub, h.uc, h.nm.away a (by simp), h.nb.away a (by simp), h.nc.away a (by simp), a.held h.u0 (by simp), a.held h.u1 (by simp), a.held h.u2 (by simp), (a.fz U 0 (World.block_lt_of_cell? _ _ h.u0)).trans h.uf⟩
theorem Rel.keep {w0 w w' : World} {R T k : Nat} (h : Rel w0 w R T k) (a : Away [] w w') (hg : G w w') : Rel w0 w' R T k := by
  match k, h with
  | 0, h => exact G0.keep h a
  | 1, ⟨M, B, h⟩ => exact ⟨M, B, G1.keep h a⟩
  | 2, ⟨M, B, C, U, h⟩ => exact ⟨M, B, C, U, h.keep a⟩
  | k + 3, ⟨g, A, B, C, D, U, h, hb⟩ => exact ⟨g.trans hg, A, B, C, D, U, h.grow hg, hb⟩
theorem Rel.g {w0 w : World} {R T k : Nat} (h : Rel w0 w R T k) : G w0 w := by
  match k, h with
  | 0, h => exact (show G0 w0 w R T from h).gc.g
  | 1, ⟨M, B, h⟩ => exact h.gc.g
  | 2, ⟨M, B, C, U, h⟩ => exact h.gc.g
  | k + 3, ⟨g, _⟩ => exact g

set_option maxRecDepth 100000 in
set_option maxHeartbeats 1000000 in
theorem adds0 (w0 w : World) (R T : Nat) (h : G0 w0 w R T) : Calls Tryz.prog 78 #[.pointer (some ⟨R, 0, none⟩), .string (S [94, 94]), .string (S [94]), .int .i64 6, .pointer (some ⟨R, 0, none⟩)] w fun e w' => e = .returned (.tuple #[]) ∧ Rel w0 w' R T 1 := by
  have hR := h.gc.root.lt
  have hT := World.block_lt_of_cell? _ _ h.gc.t0
  have hg := h.gc.g.size
  have htl := h.gc.tl
  have hrl := h.gc.rl
  have hrt := h.gc.rt
  refine add_new w R 0 R T 1 94 [94] [94] [] 6 0 _ (fun w' => Rel w0 w' R T 1) h.gc.root (h.gc.map 94) (by omega) h.t1 h.tf hrt (by simp) (fun W M hM aw nd tm tj => ?_)
  refine (add_fresh W M 94 [94] 6 (.pointer (some ⟨R, 0, none⟩)) nd).mono ?_
  rintro e w' ⟨he, n1, n2, a2, hl⟩
  have hMW := nd.lt
  have hW := aw.size
  have hMT : M ≠ T := by simp at hT; omega
  have hMR : M ≠ R := by omega
  have a : Away [T] w w' := aw.trans a2 (by simp; omega)
  have t0 : w'.cell? ⟨T, 0, none⟩ = some (.pointer none) := a2.held ((tj 0 (by omega)).trans h.gc.t0) (by simp; omega)
  have t2 : w'.cell? ⟨T, 2, none⟩ = some (.pointer none) := a2.held ((tj 2 (by omega)).trans h.gc.t2) (by simp; omega)
  have t1 : w'.cell? ⟨T, 1, none⟩ = some (.pointer (some ⟨M, 0, none⟩)) := a2.held tm (by simp; omega)
  have gc := h.gc.away a (by simp; omega) (by simp; omega) t0 t2
  exact ⟨he, ⟨M, W.heap.size, gc, t1, by omega, by omega, hMR, hMT, by omega, n1, n2⟩, gc.root.c4, t1⟩

set_option maxRecDepth 100000 in
set_option maxHeartbeats 1000000 in
theorem adds1 (w0 w : World) (R T M B : Nat) (h : G1 w0 w R T M B) : Calls Tryz.prog 78 #[.pointer (some ⟨R, 0, none⟩), .string (S [94, 110]), .string (S [10]), .int .i64 4, .pointer (some ⟨R, 0, none⟩)] w fun e w' => e = .returned (.tuple #[]) ∧ Rel w0 w' R T 2 := by
  refine add_down w R 0 R T M 0 1 94 [110] [10] [] 4 0 _ (fun w' => Rel w0 w' R T 2) h.gc.root (h.gc.map 94) (by omega) h.t1 (by simp) (fun W gW => ?_)
  have h := h.keep (away_of_g gW)
  have hg := h.gc.g.size
  have hR := h.gc.root.lt
  have hT := World.block_lt_of_cell? _ _ h.gc.t0
  have hM := h.nm.lt
  have hB := h.nb.lt
  have htl := h.gc.tl
  have hrl := h.gc.rl
  have hml := h.ml
  have hmr := h.mr
  have hmt := h.mt
  have hmb := h.mb
  simp only at hT
  refine (add_split W M R B 2 110 [10] 4 h.nm (by decide) h.gc.c5 (h.gc.map 94) (h.gc.map 110) (by omega) (by omega) hmr).mono ?_
  rintro e w' ⟨he, C, U, hC, hU, hCU, n1, n2, a, uj, um, uf⟩
  have t0 := a.held h.gc.t0 (by simp; omega)
  have t2 := a.held h.gc.t2 (by simp; omega)
  have t1 := a.held h.t1 (by simp; omega)
  have gc := h.gc.away a (by simp; omega) (by simp; omega) t0 t2
  exact ⟨he, ⟨M, B, C, U, gc, t1, hml, h.bl, by omega, by omega, by omega, by omega, by omega, by omega, by omega, n1, h.nb.away a (by simp; omega), n2, uj 0 (by omega) (by omega), uj 1 (by omega) (by omega), um, uf 0⟩, gc.root.c4, t1⟩

set_option maxRecDepth 100000 in
set_option maxHeartbeats 1000000 in
theorem adds2 (w0 w : World) (R T M B C U : Nat) (h : G2 w0 w R T M B C U) : Calls Tryz.prog 78 #[.pointer (some ⟨R, 0, none⟩), .string (S [94, 39]), .string (S [34]), .int .i64 2, .pointer (some ⟨R, 0, none⟩)] w fun e w' => e = .returned (.tuple #[]) ∧ Rel w0 w' R T 3 := by
  refine add_down w R 0 R T M 0 1 94 [39] [34] [] 2 0 _ (fun w' => Rel w0 w' R T 3) h.gc.root (h.gc.map 94) (by omega) h.t1 (by simp) (fun W gW => ?_)
  have h := h.keep (away_of_g gW)
  have hg := h.gc.g.size
  have hR := h.gc.root.lt
  have hT := World.block_lt_of_cell? _ _ h.gc.t0
  have hM := h.nm.lt
  have hB := h.nb.lt
  have hC := h.nc.lt
  have htl := h.gc.tl
  have hrl := h.gc.rl
  have hml := h.ml
  have hul := h.ul
  have h1 := h.ur
  have h2 := h.ut
  have h3 := h.um
  have h4 := h.ub
  have h5 := h.uc
  simp only at hT
  refine add_new W M 0 R U 0 39 [] [34] [] 2 0 _ (fun w' => Rel w0 w' R T 3 ∧ w'.cell? ⟨R, 0 + 4, none⟩ = some (.slice (some ⟨T, 0, none⟩) 3 3) ∧ w'.cell? ⟨T, 1, none⟩ = some (.pointer (some ⟨M, 0, none⟩))) h.nm (h.gc.map 39) (by omega) h.u0 h.uf (by omega) (by simp) (fun W2 D hD aw nd um uj => ?_)
  refine (add_leaf W2 D 0 [] [34] [] 2 _ _ (.pointer (some ⟨R, 0, none⟩)) nd).mono ?_
  rintro e w' ⟨he, n1, a2⟩
  have hW := aw.size
  have hDW := nd.lt
  have hUW := World.block_lt_of_cell? _ _ um
  simp only at hUW
  have hU : U < W.heap.size := World.block_lt_of_cell? _ _ h.u0
  have a : Away [U] W w' := aw.trans a2 (by simp; omega)
  have t0 := a.held h.gc.t0 (by simp; omega)
  have t2 := a.held h.gc.t2 (by simp; omega)
  have t1 := a.held h.t1 (by simp; omega)
  have gc := h.gc.away a (by simp; omega) (by simp; omega) t0 t2
  have u0 := a2.held um (by simp; omega)
  have u1 := a2.held ((uj 1 (by omega)).trans h.u1) (by simp; omega)
  have u2 := a2.held ((uj 2 (by omega)).trans h.u2) (by simp; omega)
  have nm := h.nm.away a (by simp; omega)
  have nb := h.nb.away a (by simp; omega)
  have nc := h.nc.away a (by simp; omega)
  refine ⟨he, ⟨⟨gc.g, M, B, C, D, U, ⟨⟨gc.root.c1, gc.root.c4⟩, gc.c5, gc.map, t0, t1, t2, ⟨nm.c1, nm.c4⟩, u0, u1, u2, ⟨nb.c0, nb.c1, nb.c2, nb.c4⟩, ⟨nc.c0, nc.c1, nc.c2, nc.c4⟩, ⟨n1.c0, n1.c1, n1.c2, n1.c4⟩⟩, ?_⟩, gc.root.c4, t1⟩, nm.c4, u0⟩
  have hbl := h.bl
  have hcl := h.cl
  simp
  omega
def keyK : Nat → List UInt8 | 0 => [94, 94] | 1 => [94, 110] | _ => [94, 39]
def valK : Nat → List UInt8 | 0 => [94] | 1 => [10] | _ => [34]
theorem adds (w0 w : World) (R T k : Nat) (hk : k < 3) (h : Rel w0 w R T k) : Calls Tryz.prog 78 #[.pointer (some ⟨R, 0, none⟩), .string (S (keyK k)), .string (S (valK k)), .int .i64 (6 - ((2 * k : Nat) : Int)), .pointer (some ⟨R, 0, none⟩)] w fun e w' => e = .returned (.tuple #[]) ∧ Rel w0 w' R T (k + 1) := by
  match k, h with
  | 0, h => exact adds0 w0 w R T h
  | 1, ⟨M, B, h⟩ => exact adds1 w0 w R T M B h
  | 2, ⟨M, B, C, U, h⟩ => exact adds2 w0 w R T M B C U h

end Go.Proofs.YtccaknanagmmhaaGreat
