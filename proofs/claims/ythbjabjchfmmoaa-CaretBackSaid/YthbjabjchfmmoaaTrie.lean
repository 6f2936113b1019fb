/-
  The trie of caret.Decode's replacer in memory; CONTRACT of its lookup.
-/
import Derived.Test.YthbjabjchfmmoaaCaretPlain
import Derived.OwnWalk
import Derived.Laws.Cover3
import Derived.LoopN
namespace Go.Proofs.Ythbjabjchfmmoaa
open Go.RowKit
set_option linter.unusedVariables false
set_option linter.unusedSimpArgs false

def mapF (c : UInt8) : Int := if c = 39 then 0 else if c = 94 then 1 else if c = 110 then 2 else 3
/-- a node that has a table, of no key itself -/
structure Inner (w : World) (B o T : Nat) : Prop where
  v1 : w.cell? ⟨B, o + 1, none⟩ = some (.int .i64 0)
  v4 : w.cell? ⟨B, o + 4, none⟩ = some (.slice (some ⟨T, 0, none⟩) 3 3)
/-- a node at a key's end -/
structure Leaf (w : World) (B : Nat) (v : UInt8) (p : Int) : Prop where
  v0 : w.cell? ⟨B, 0, none⟩ = some (.string (S [v]))
  v1 : w.cell? ⟨B, 1, none⟩ = some (.int .i64 p)
  v2 : w.cell? ⟨B, 2, none⟩ = some (.string ⟨#[]⟩)
  v4 : w.cell? ⟨B, 4, none⟩ = some (.slice none 0 0)
structure Trie (w : World) (R A B C D T U : Nat) : Prop where
  root : Inner w R 0 T
  size : w.cell? ⟨R, 5, none⟩ = some (.int .i64 3)
  map : ∀ c : UInt8, w.cell? ⟨R, 6 + c.toNat, none⟩ = some (.int .u8 (mapF c))
  t0 : w.cell? ⟨T, 0, none⟩ = some (.pointer none)
  t1 : w.cell? ⟨T, 1, none⟩ = some (.pointer (some ⟨A, 0, none⟩))
  t2 : w.cell? ⟨T, 2, none⟩ = some (.pointer none)
  inner : Inner w A 0 U
  u0 : w.cell? ⟨U, 0, none⟩ = some (.pointer (some ⟨D, 0, none⟩))
  u1 : w.cell? ⟨U, 1, none⟩ = some (.pointer (some ⟨B, 0, none⟩))
  u2 : w.cell? ⟨U, 2, none⟩ = some (.pointer (some ⟨C, 0, none⟩))
  lb : Leaf w B 94 6
  lc : Leaf w C 10 4
  ld : Leaf w D 34 2
theorem Inner.grow {w w' : World} {B o T : Nat} (h : Inner w B o T) (g : G w w') : Inner w' B o T := ⟨(g.cell (World.block_lt_of_cell? _ _ h.v1)).trans h.v1, (g.cell (World.block_lt_of_cell? _ _ h.v4)).trans h.v4⟩
theorem Leaf.grow {w w' : World} {B : Nat} {v : UInt8} {p : Int} (h : Leaf w B v p) (g : G w w') : Leaf w' B v p := ⟨(g.cell (World.block_lt_of_cell? _ _ h.v0)).trans h.v0, (g.cell (World.block_lt_of_cell? _ _ h.v1)).trans h.v1, (g.cell (World.block_lt_of_cell? _ _ h.v2)).trans h.v2, (g.cell (World.block_lt_of_cell? _ _ h.v4)).trans h.v4⟩
theorem Trie.grow {w w' : World} {R A B C D T U : Nat} (h : Trie w R A B C D T U) (g : G w w') : Trie w' R A B C D T U :=
  ⟨h.root.grow g, (g.cell (World.block_lt_of_cell? _ _ h.size)).trans h.size, fun c => (g.cell (World.block_lt_of_cell? _ _ (h.map c))).trans (h.map c), (g.cell (World.block_lt_of_cell? _ _ h.t0)).trans h.t0, (g.cell (World.block_lt_of_cell? _ _ h.t1)).trans h.t1, (g.cell (World.block_lt_of_cell? _ _ h.t2)).trans h.t2, h.inner.grow g, (g.cell (World.block_lt_of_cell? _ _ h.u0)).trans h.u0, (g.cell (World.block_lt_of_cell? _ _ h.u1)).trans h.u1, (g.cell (World.block_lt_of_cell? _ _ h.u2)).trans h.u2, h.lb.grow g, h.lc.grow g, h.ld.grow g⟩
/-- what lookup finds -/
def lookV (l : List UInt8) : Value := match mtL l with | some v => .tuple #[.string (S [v]), .int .i64 2, .bool true] | none => .tuple #[.string ⟨#[]⟩, .int .i64 0, .bool false]

set_option maxRecDepth 100000 in
set_option maxHeartbeats 4000000 in
theorem lookup_nil (w : World) (R A B C D T U : Nat) (h : Trie w R A B C D T U) : Gives 85 #[.pointer (some ⟨R, 0, none⟩), .string (S []), .bool false] w (lookV []) := by
  have r1 := h.root.v1
  simp only [Nat.zero_add] at r1
  clear h
  go_enter Try.func85, Try.ntmps85
  go_wp2_with fail
  refine wp_loop_rounds 1 ?_
  rw [rounds_succ]
  go_wp2_with fail
  go_ret3
  exact ⟨rfl, (by repeat (first | exact G.refl _ | assumption | apply G.drew | apply G.alloc | refine G.trans ?_ (by assumption)))⟩
set_option maxRecDepth 100000 in
set_option maxHeartbeats 4000000 in
theorem lookup_off (w : World) (R A B C D T U : Nat) (h : Trie w R A B C D T U) (c : UInt8) (r : List UInt8) (hm : mapF c = 3) : Gives 85 #[.pointer (some ⟨R, 0, none⟩), .string (S (c :: r)), .bool false] w (.tuple #[.string ⟨#[]⟩, .int .i64 0, .bool false]) := by
  have r1 := h.root.v1
  have r4 := h.root.v4
  have r5 := h.size
  have hc := h.map c
  rw [hm] at hc
  simp only [Nat.zero_add] at r1 r4
  have hlt : R < w.heap.size := World.block_lt_of_cell? _ _ r5
  have hc256 : (c.toNat : Int) < 256 := by have := c.toNat_lt; omega
  have ne : (c :: r == []) = false := rfl
  clear h hm
  go_enter Try.func85, Try.ntmps85
  go_wp2_with fail
  refine wp_loop_rounds 1 ?_
  rw [rounds_succ]
  go_wp2_with fail
  refine wp_region_grow (by kernel_rfl) (by kernel_rfl) ?_
  repeat (first | go_big_quiet_skip | (go_big_quiet_want; go_big_quiet_op; first | go_big_quiet_on | (apply Exists.intro; apply And.intro; (focus (intro _ hg; (rw [G.cell hg (p := ⟨R, 6 + c.toNat, none⟩) hlt, hc]; exact ⟨rfl, rfl⟩))); go_big_quiet_on) | (refine ⟨_, fun _ _ => rfl, ?_⟩; go_big_quiet_on)))
  refine wpQuiet_nil ?_
  intro wq gq
  have q5 := (G.cell gq (p := ⟨R, 5, none⟩) hlt).trans r5
  go_wp2_with fail
  go_ret3
  exact ⟨rfl, gq⟩

set_option maxRecDepth 100000 in
set_option maxHeartbeats 4000000 in
/-- a byte whose place in the root's table is empty -/
theorem lookup_out (w : World) (R A B C D T U : Nat) (h : Trie w R A B C D T U) (c : UInt8) (r : List UInt8) (hm : c = 39 ∨ c = 110) (hr : r.length ≤ 1000000) : Gives 85 #[.pointer (some ⟨R, 0, none⟩), .string (S (c :: r)), .bool false] w (.tuple #[.string ⟨#[]⟩, .int .i64 0, .bool false]) := by
  have r1 := h.root.v1
  have r4 := h.root.v4
  have r5 := h.size
  have hc := h.map c
  have t0 := h.t0
  have t2 := h.t2
  simp only [Nat.zero_add] at r1 r4
  have hlt : R < w.heap.size := World.block_lt_of_cell? _ _ r5
  have htl : T < w.heap.size := World.block_lt_of_cell? _ _ t0
  have hc256 : (c.toNat : Int) < 256 := by have := c.toNat_lt; omega
  have ne : (c :: r == []) = false := rfl
  obtain ⟨m, hmc, hm0⟩ : ∃ m : Nat, mapF c = (m : Int) ∧ (m = 0 ∨ m = 2) := by
    rcases hm with rfl | rfl
    · exact ⟨0, rfl, .inl rfl⟩
    · exact ⟨2, rfl, .inr rfl⟩
  rw [hmc] at hc
  clear h hm hmc
  rcases hm0 with rfl | rfl
  all_goals
    go_enter Try.func85, Try.ntmps85
    go_wp2_with fail
    refine wp_loop_rounds 2 ?_
    rw [rounds_succ]
    go_wp2_with fail
    refine wp_region_grow (by kernel_rfl) (by kernel_rfl) ?_
    repeat (first | go_big_quiet_skip | (go_big_quiet_want; go_big_quiet_op; first | go_big_quiet_on | (apply Exists.intro; apply And.intro; (focus (intro _ hg; (rw [G.cell hg (p := ⟨R, 6 + c.toNat, none⟩) hlt, hc]; exact ⟨rfl, rfl⟩))); go_big_quiet_on) | (refine ⟨_, fun _ _ => rfl, ?_⟩; go_big_quiet_on)))
    refine wpQuiet_nil ?_
    intro wq gq
    have q5 := (G.cell gq (p := ⟨R, 5, none⟩) hlt).trans r5
    have q4 := (G.cell gq (p := ⟨R, 4, none⟩) hlt).trans r4
    have k0 := (G.cell gq (p := ⟨T, 0, none⟩) htl).trans t0
    have k2 := (G.cell gq (p := ⟨T, 2, none⟩) htl).trans t2
    go_wp2_with fail
    rw [rounds_succ]
    go_wp2_with fail
    go_ret3
    exact ⟨rfl, gq⟩
set_option maxRecDepth 100000 in
set_option maxHeartbeats 4000000 in
/-- a caret at the text's end, or with a byte behind it that is of no key -/
theorem lookup_one (w : World) (R A B C D T U : Nat) (h : Trie w R A B C D T U) : Gives 85 #[.pointer (some ⟨R, 0, none⟩), .string (S [94]), .bool false] w (.tuple #[.string ⟨#[]⟩, .int .i64 0, .bool false]) := by
  have r1 := h.root.v1
  have r4 := h.root.v4
  have r5 := h.size
  have hc : w.cell? ⟨R, 100, none⟩ = some (.int .u8 1) := h.map 94
  have t1 := h.t1
  have a1 := h.inner.v1
  simp only [Nat.zero_add] at r1 r4 a1
  have hlt : R < w.heap.size := World.block_lt_of_cell? _ _ r5
  have htl : T < w.heap.size := World.block_lt_of_cell? _ _ t1
  have hal : A < w.heap.size := World.block_lt_of_cell? _ _ a1
  clear h
  go_enter Try.func85, Try.ntmps85
  go_wp2_with fail
  refine wp_loop_rounds 2 ?_
  rw [rounds_succ]
  go_wp2_with fail
  refine wp_region_grow (by kernel_rfl) (by kernel_rfl) ?_
  repeat (first | go_big_quiet_skip | (go_big_quiet_want; go_big_quiet_op; first | go_big_quiet_on | (apply Exists.intro; apply And.intro; (focus (intro _ hg; (rw [G.cell hg (p := ⟨R, 100, none⟩) hlt, hc]; exact ⟨rfl, rfl⟩))); go_big_quiet_on) | (refine ⟨_, fun _ _ => rfl, ?_⟩; go_big_quiet_on)))
  refine wpQuiet_nil ?_
  intro wq gq
  have q5 := (G.cell gq (p := ⟨R, 5, none⟩) hlt).trans r5
  have q4 := (G.cell gq (p := ⟨R, 4, none⟩) hlt).trans r4
  have k1 := (G.cell gq (p := ⟨T, 1, none⟩) htl).trans t1
  have b1 := (G.cell gq (p := ⟨A, 1, none⟩) hal).trans a1
  go_wp2_with fail
  rw [rounds_succ]
  go_wp2_with fail
  go_ret3
  exact ⟨rfl, gq⟩

set_option maxRecDepth 100000 in
set_option maxHeartbeats 4000000 in
theorem lookup_far (w : World) (R A B C D T U : Nat) (h : Trie w R A B C D T U) (d : UInt8) (r : List UInt8) (hm : mapF d = 3) (hr : r.length ≤ 1000000) : Gives 85 #[.pointer (some ⟨R, 0, none⟩), .string (S (94 :: d :: r)), .bool false] w (.tuple #[.string ⟨#[]⟩, .int .i64 0, .bool false]) := by
  have r1 := h.root.v1
  have r4 := h.root.v4
  have r5 := h.size
  have hc : w.cell? ⟨R, 100, none⟩ = some (.int .u8 1) := h.map 94
  have hd := h.map d
  have t1 := h.t1
  have a1 := h.inner.v1
  have a4 := h.inner.v4
  simp only [Nat.zero_add] at r1 r4 a1 a4
  have hlt : R < w.heap.size := World.block_lt_of_cell? _ _ r5
  have htl : T < w.heap.size := World.block_lt_of_cell? _ _ t1
  have hal : A < w.heap.size := World.block_lt_of_cell? _ _ a1
  have hd256 : (d.toNat : Int) < 256 := by have := d.toNat_lt; omega
  have ne : (94 :: d :: r == []) = false := rfl
  have ne2 : (d :: r == []) = false := rfl
  rw [hm] at hd
  clear h hm
  go_enter Try.func85, Try.ntmps85
  go_wp2_with fail
  refine wp_loop_rounds 3 ?_
  rw [rounds_succ]
  go_wp2_with fail
  refine wp_region_grow (by kernel_rfl) (by kernel_rfl) ?_
  repeat (first | go_big_quiet_skip | (go_big_quiet_want; go_big_quiet_op; first | go_big_quiet_on | (apply Exists.intro; apply And.intro; (focus (intro _ hg; (rw [G.cell hg (p := ⟨R, 100, none⟩) hlt, hc]; exact ⟨rfl, rfl⟩))); go_big_quiet_on) | (refine ⟨_, fun _ _ => rfl, ?_⟩; go_big_quiet_on)))
  refine wpQuiet_nil ?_
  intro wq gq
  have q5 := (G.cell gq (p := ⟨R, 5, none⟩) hlt).trans r5
  have q4 := (G.cell gq (p := ⟨R, 4, none⟩) hlt).trans r4
  have k1 := (G.cell gq (p := ⟨T, 1, none⟩) htl).trans t1
  have b1 := (G.cell gq (p := ⟨A, 1, none⟩) hal).trans a1
  have b4 := (G.cell gq (p := ⟨A, 4, none⟩) hal).trans a4
  have qd := (G.cell gq (p := ⟨R, 6 + d.toNat, none⟩) hlt).trans hd
  have hlq : R < wq.heap.size := World.block_lt_of_cell? _ _ q5
  go_wp2_with fail
  rw [rounds_succ]
  go_wp2_with fail
  have GQ := hid gq
  obtain ⟨wr, hwr⟩ : ∃ wr, wr = wq := ⟨_, rfl⟩
  subst hwr
  clear gq
  refine wp_region_grow (by kernel_rfl) (by kernel_rfl) ?_
  repeat (first | go_big_quiet_skip | (go_big_quiet_want; go_big_quiet_op; first | go_big_quiet_on | (apply Exists.intro; apply And.intro; (focus (intro _ hg; (rw [G.cell hg (p := ⟨R, 6 + d.toNat, none⟩) hlq, qd]; exact ⟨rfl, rfl⟩))); go_big_quiet_on) | (refine ⟨_, fun _ _ => rfl, ?_⟩; go_big_quiet_on)))
  refine wpQuiet_nil ?_
  intro wq gq
  have p5 := (G.cell gq (p := ⟨R, 5, none⟩) hlq).trans q5
  go_wp2_with fail
  go_ret3
  exact ⟨rfl, GQ.out.trans gq⟩
set_option maxRecDepth 100000 in
set_option maxHeartbeats 4000000 in
theorem lookup_hit (w : World) (R A B C D T U : Nat) (h : Trie w R A B C D T U) (d v : UInt8) (r : List UInt8) (m X : Nat) (p : Int) (hm : mapF d = (m : Int)) (hm3 : m < 3) (hu : w.cell? ⟨U, m, none⟩ = some (.pointer (some ⟨X, 0, none⟩))) (hx : Leaf w X v p) (hp : 0 < p) (hr : r.length ≤ 1000000) : Gives 85 #[.pointer (some ⟨R, 0, none⟩), .string (S (94 :: d :: r)), .bool false] w (.tuple #[.string (S [v]), .int .i64 2, .bool true]) := by
  have r1 := h.root.v1
  have r4 := h.root.v4
  have r5 := h.size
  have hc : w.cell? ⟨R, 100, none⟩ = some (.int .u8 1) := h.map 94
  have hd := h.map d
  have t1 := h.t1
  have a1 := h.inner.v1
  have a4 := h.inner.v4
  simp only [Nat.zero_add] at r1 r4 a1 a4
  have hlt : R < w.heap.size := World.block_lt_of_cell? _ _ r5
  have htl : T < w.heap.size := World.block_lt_of_cell? _ _ t1
  have hal : A < w.heap.size := World.block_lt_of_cell? _ _ a1
  have hd256 : (d.toNat : Int) < 256 := by have := d.toNat_lt; omega
  have ne : (94 :: d :: r == []) = false := rfl
  have ne2 : (d :: r == []) = false := rfl
  have x0 := hx.v0
  have x1 := hx.v1
  have x2 := hx.v2
  have x4 := hx.v4
  have hul : U < w.heap.size := World.block_lt_of_cell? _ _ hu
  have hxl : X < w.heap.size := World.block_lt_of_cell? _ _ x0
  have hm3' : ((m : Int) == 3) = false := beq_eq_false_iff_ne.2 (by omega)
  have hp' : decide (0 < p) = true := decide_eq_true hp
  rw [hm] at hd
  clear h hm hx
  go_enter Try.func85, Try.ntmps85
  go_wp2_with fail
  refine wp_loop_rounds 3 ?_
  rw [rounds_succ]
  go_wp2_with fail
  refine wp_region_grow (by kernel_rfl) (by kernel_rfl) ?_
  repeat (first | go_big_quiet_skip | (go_big_quiet_want; go_big_quiet_op; first | go_big_quiet_on | (apply Exists.intro; apply And.intro; (focus (intro _ hg; (rw [G.cell hg (p := ⟨R, 100, none⟩) hlt, hc]; exact ⟨rfl, rfl⟩))); go_big_quiet_on) | (refine ⟨_, fun _ _ => rfl, ?_⟩; go_big_quiet_on)))
  refine wpQuiet_nil ?_
  intro wq gq
  have q5 := (G.cell gq (p := ⟨R, 5, none⟩) hlt).trans r5
  have q4 := (G.cell gq (p := ⟨R, 4, none⟩) hlt).trans r4
  have k1 := (G.cell gq (p := ⟨T, 1, none⟩) htl).trans t1
  have b1 := (G.cell gq (p := ⟨A, 1, none⟩) hal).trans a1
  have b4 := (G.cell gq (p := ⟨A, 4, none⟩) hal).trans a4
  have qd := (G.cell gq (p := ⟨R, 6 + d.toNat, none⟩) hlt).trans hd
  have hlq : R < wq.heap.size := World.block_lt_of_cell? _ _ q5
  go_wp2_with fail
  rw [rounds_succ]
  go_wp2_with fail
  have GQ := hid gq
  obtain ⟨wr, hwr⟩ : ∃ wr, wr = wq := ⟨_, rfl⟩
  subst hwr
  clear gq
  refine wp_region_grow (by kernel_rfl) (by kernel_rfl) ?_
  repeat (first | go_big_quiet_skip | (go_big_quiet_want; go_big_quiet_op; first | go_big_quiet_on | (apply Exists.intro; apply And.intro; (focus (intro _ hg; (rw [G.cell hg (p := ⟨R, 6 + d.toNat, none⟩) hlq, qd]; exact ⟨rfl, rfl⟩))); go_big_quiet_on) | (refine ⟨_, fun _ _ => rfl, ?_⟩; go_big_quiet_on)))
  refine wpQuiet_nil ?_
  intro wq gq
  have p5 := (G.cell gq (p := ⟨R, 5, none⟩) hlq).trans q5
  have n4 := (G.cell gq (p := ⟨A, 4, none⟩) (World.block_lt_of_cell? _ _ b4)).trans b4
  have GG := hid (GQ.out.trans gq)
  have nu := (G.cell GG.out (p := ⟨U, m, none⟩) hul).trans hu
  have y0 := (G.cell GG.out (p := ⟨X, 0, none⟩) hxl).trans x0
  have y1 := (G.cell GG.out (p := ⟨X, 1, none⟩) hxl).trans x1
  have y2 := (G.cell GG.out (p := ⟨X, 2, none⟩) hxl).trans x2
  have y4 := (G.cell GG.out (p := ⟨X, 4, none⟩) hxl).trans x4
  go_wp2_with fail
  rw [rounds_succ]
  go_wp2_with fail
  all_goals
    go_ret3
    exact ⟨rfl, GG.out⟩
theorem mapF_off {c : UInt8} (h1 : c ≠ 39) (h2 : c ≠ 94) (h3 : c ≠ 110) : mapF c = 3 := by unfold mapF; rw [if_neg h1, if_neg h2, if_neg h3]
theorem lookup_any (w : World) (R A B C D T U : Nat) (h : Trie w R A B C D T U) (l : List UInt8) (hl : l.length ≤ 1000000) : Gives 85 #[.pointer (some ⟨R, 0, none⟩), .string (S l), .bool false] w (lookV l) := by
  match l, hl with
  | [], _ => exact lookup_nil w R A B C D T U h
  | c :: r, hl =>
    simp only [List.length_cons] at hl
    by_cases hc : c = 94
    · subst hc
      match r, hl with
      | [], _ => exact lookup_one w R A B C D T U h
      | d :: r, hl =>
        simp only [List.length_cons] at hl
        by_cases h1 : d = 94
        · subst h1; exact lookup_hit w R A B C D T U h 94 94 r 1 B 6 rfl (by omega) h.u1 h.lb (by omega) (by omega)
        · by_cases h2 : d = 110
          · subst h2; exact lookup_hit w R A B C D T U h 110 10 r 2 C 4 rfl (by omega) h.u2 h.lc (by omega) (by omega)
          · by_cases h3 : d = 39
            · subst h3; exact lookup_hit w R A B C D T U h 39 34 r 0 D 2 rfl (by omega) h.u0 h.ld (by omega) (by omega)
            · have e : lookV (94 :: d :: r) = .tuple #[.string ⟨#[]⟩, .int .i64 0, .bool false] := by
                have hm : mtL (94 :: d :: r) = none := by simp [mtL, h1, h2, h3]
                unfold lookV
                rw [hm]
              rw [e]
              exact lookup_far w R A B C D T U h d r (mapF_off h3 h1 h2) (by omega)
    · have e : lookV (c :: r) = .tuple #[.string ⟨#[]⟩, .int .i64 0, .bool false] := by
        unfold lookV
        rw [mtL_no hc]
      rw [e]
      by_cases h1 : c = 39 ∨ c = 110
      · exact lookup_out w R A B C D T U h c r h1 (by omega)
      · exact lookup_off w R A B C D T U h c r (mapF_off (fun h => h1 (.inl h)) hc (fun h => h1 (.inr h)))

end Go.Proofs.Ythbjabjchfmmoaa
