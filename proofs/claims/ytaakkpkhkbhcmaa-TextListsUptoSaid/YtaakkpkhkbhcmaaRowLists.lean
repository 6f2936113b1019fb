/-
  CONTRACTS of slices.Grow at nil and slices.Concat of two slices, at elements of type []string, on the level of cells.
-/
import Derived.Test.YtaakkpkhkbhcmaaRow
import Derived.Lib.AppendZerosOnto
import Derived.Lib.AppendZeros
import Derived.Laws.AppendOwnNone
namespace Go.Proofs.Ytaakkpkhkbhcmaa
open Go.RowKit
set_option linter.unusedVariables false
set_option linter.unusedSimpArgs false

theorem info_lists : (Try.prog.info? 31).map (fun i => (i.zero, i.size, i.bytes)) = some (some (.slice none 0 0), 1, 24) := by kernel_rfl
set_option maxRecDepth 100000 in
set_option maxHeartbeats 400000 in
theorem grow_lists (n : Nat) (w : World) (hn : n ≤ 1000000) : Makes 37 #[.slice none 0 0, .int .i64 n] w (fun v w' => w'.ownsRow w.heap.size 31 1 v 0 [] ∧ (n = 0 → v = .slice none 0 0)) := by
  by_cases h0 : n = 0
  · subst h0
    go_enter Try.func37, Try.ntmps37
    go_wp2
    go_ret
    exact ⟨_, rfl, ⟨World.ownsRow_nil _ _ _ _, fun _ => rfl⟩, G.refl _⟩
  · obtain ⟨i0, hi, hz0, hz1, hz2⟩ := info_parts info_lists
    have hrz : ∀ ty, ∃ C : Array Value, C.size = grownCap w n 0 31 * 1 ∧ (Builtin.append_ #[34, 3] ty #[.slice none 0 0, .int .i64 (n : Int)]).run Try.prog w = .ok (.slice (some ⟨w.heap.size, 0, none⟩) n (grownCap w n 0 31)) (w.drew.alloc (.cells C 31)) := fun ty => by
      have h := Lib.run_append_grow_zeros (P := Try.prog) w 34 3 ty 31 i0 (.slice none 0 0) .i64 .i64 Try.underlying34 Try.underlying3 hi hz0 none 0 0 [] (run_firstCells_none w.drew i0.size 0 0 0) n (by omega) (by omega) (by omega) (by omega) (by rw [hz2]; omega) (by rw [Nat.zero_add]; exact growslice_fits (by omega) (by rw [hz2]; omega))
      rw [Nat.zero_add] at h
      refine ⟨_, ?_, h⟩
      have hG := grownCap_ge w n 0 31
      simp [Builtin.zeroCells, Value.cells, hz1]
      omega
    obtain ⟨C, hC, hr⟩ := hrz 34
    have hG := grownCap_ge w n 0 31
    have hG2 := grownCap_le_maxLen w n 0 31 (by unfold maxLen; omega)
    unfold maxLen at hG2
    have hn0 : 0 < (n : Int) := by omega
    have Hown : ∀ cap, grownCap w n 0 31 = cap → (w.drew.alloc (.cells C 31)).ownsRow w.heap.size 31 1 (.slice (some ⟨w.heap.size, 0, none⟩) 0 cap) 0 [] := fun cap hcap =>
      World.ownsRow_made (e := 31) (size := 1) (base := w.heap.size) w.drew C cap (Nat.le_refl _) (by unfold maxLen; omega) (by rw [← hcap]; exact hC)
    have HO := hid Hown
    clear Hown hC
    generalize hcap : grownCap w n 0 31 = cap at *
    have hcap' := hid hcap
    clear hcap
    go_enter Try.func37, Try.ntmps37
    go_wp2_with (at_builtin; refine Lib.wpList_append_run _ rfl _ _ _ _ rfl _ _ rfl rfl _ _ hr ?_)
    go_ret
    exact ⟨_, rfl, ⟨HO.out cap rfl, fun h => absurd h h0⟩, ((G.refl w).alloc _).drew⟩

/-- xs = append(xs, ys...) where xs is the call's own -/
theorem wpList_append_lists {ops : Array Oper} {rest : List Oper} {o : Oper} {a : Act} {Q : Exit → Act → World → Prop} {w wr : World} (hgd : o.guard = none) (s x : Operand)
    (ho : o.op = .call { callee := .builtin .append, args := #[s, x], argTypes := #[34, 34] })
    (v : Value) (n : Nat) (xs : List Value) (hs : a.eval s = v) (hown : wr.ownsRow w.heap.size 31 1 v n xs) (hg : G w wr)
    (src : Value) (m : Nat) (ys : List Value) (hx : a.eval x = src) (hsrc : IsRow 1 wr src m ys) (hb : n + m ≤ 1000000)
    (h : ∀ v' w', w'.ownsRow w.heap.size 31 1 v' (n + m) (xs ++ ys) → G w w' → (v' = .slice none 0 0 ↔ v = .slice none 0 0 ∧ m = 0) → wpList Try.prog ops Q rest (a.put o.dst v') w') :
    wpList Try.prog ops Q (o :: rest) a wr := by
  obtain ⟨i0, hi, hz0, hz1, hz2⟩ := info_parts info_lists
  obtain ⟨hyl, h1c, hsrc⟩ := hsrc
  have key : ∀ (ad : Addr) (c : Nat), src = .slice (some ad) m c → (∀ j u, ys[j]? = some u → wr.cell? (ad.add j) = some u) → wpList Try.prog ops Q (o :: rest) a wr := by
    intro ad c hv hc
    refine wpList_append_own _ hgd s x 34 ho w.heap.size 31 i0 _ 1 24 Try.underlying34 hi hz0 hz1 hz2 rfl (by decide) v n _ hs hown ad m c ys (by rw [hx, hv]) hyl hc h1c (by unfold maxLen; omega) (by omega) (by have := hg.size; omega) ?_
    intro v' w' h2 h3 h4
    refine h v' w' h2 ?_ ?_
    · exact Below.grown hg h3 (by have := hg.size; omega) (fun k hk => (hown.lt k hk).1)
    · rw [h4]
  rcases hsrc with ⟨rfl, hv | ⟨ad, c, hv⟩⟩ | ⟨b, off, cap, hv, hlt, hm0, hc⟩
  · have hy0 : ys = [] := List.eq_nil_of_length_eq_zero (by omega)
    subst hy0
    exact wpList_append_own_none hgd s x 34 ho w.heap.size 31 i0 1 Try.underlying34 hi v n _ hs hown (by rw [hx, hv]) (h v wr (by simpa using hown) hg (by simp))
  · have hy0 : ys = [] := List.eq_nil_of_length_eq_zero (by omega)
    subst hy0
    exact key ad c hv (by intro j u hj; simp at hj)
  · refine key ⟨b, off, none⟩ cap hv ?_
    intro j u hj
    have hjl : j < ys.length := by
      rcases Nat.lt_or_ge j ys.length with h | h
      · exact h
      · rw [List.getElem?_eq_none h] at hj; cases hj
    have e : (⟨b, off, none⟩ : Addr).add j = ⟨b, off + j, none⟩ := by unfold Addr.add; split <;> simp_all
    rw [e, hc j hjl]
    simpa [List.getElem?_eq_getElem hjl] using hj

set_option maxRecDepth 100000 in
set_option maxHeartbeats 1000000 in
theorem concat_lists {q : Nat} {a b : Value} {n m : Nat} {xs ys : List Value} {w : World} (h0 : w.cell? ⟨q, 0, none⟩ = some a) (h1 : w.cell? ⟨q, 1, none⟩ = some b) (hq : q < w.heap.size) (ha : IsRow 1 w a n xs) (hb : IsRow 1 w b m ys) (lx : n ≤ 100000) (ly : m ≤ 100000) :
    Makes 23 #[.slice (some ⟨q, 0, none⟩) 2 2] w (fun v w' => w'.ownsRow w.heap.size 31 1 v (n + m) (xs ++ ys) ∧ (n + m = 0 → v = .slice none 0 0)) := by
  obtain ⟨pa, ca, hva⟩ := ha.len
  obtain ⟨pb, cb, hvb⟩ := hb.len
  subst hva; subst hvb
  have Ha := hid ha
  have Hb := hid hb
  clear ha hb
  go_enter Try.func23, Try.ntmps23
  go_wp2
  refine wp_loop_rounds 3 ?_
  rw [rounds_succ]
  go_wp2
  rw [rounds_succ]
  go_wp2
  rw [rounds_succ]
  go_wp2_with fail
  have Hg := grow_lists (n + m) w (by omega)
  rw [show ((n + m : Nat) : Int) = (n : Int) + m from by omega] at Hg
  refine Hg.use ?_
  rintro v w1 ⟨hown, hnil⟩ g1
  have Hn := hid hnil
  clear hnil Hg
  have c0 := h0
  rw [← g1.cell (p := ⟨q, 0, none⟩) hq] at c0
  have c1 := h1
  rw [← g1.cell (p := ⟨q, 1, none⟩) hq] at c1
  go_wp2_with fail
  refine wp_loop_rounds 3 ?_
  rw [rounds_succ]
  go_wp2_with (at_builtin; refine wpList_append_lists (w := w) rfl _ _ rfl _ 0 [] rfl hown g1 _ n xs rfl (Ha.out.grow g1) (by omega) ?_; intro v2 w2 hown2 g2 hn2)
  rw [rounds_succ]
  have c2 := h1
  rw [← g2.cell (p := ⟨q, 1, none⟩) hq] at c2
  have HN2 := hid hn2
  clear hn2 c0 c1
  go_wp2_with (at_builtin; refine wpList_append_lists (w := w) rfl _ _ rfl _ _ _ rfl hown2 g2 _ m ys rfl (Hb.out.grow g2) (by omega) ?_; intro v3 w3 hown3 g3 hn3)
  rw [rounds_succ]
  have HN3 := hid hn3
  clear hn3
  go_wp2_with fail
  go_ret
  refine ⟨_, rfl, ⟨by simpa using hown3, ?_⟩, g3⟩
  intro he
  show v3 = _
  exact HN3.out.2 ⟨HN2.out.2 ⟨Hn.out he, by omega⟩, by omega⟩

end Go.Proofs.Ytaakkpkhkbhcmaa
