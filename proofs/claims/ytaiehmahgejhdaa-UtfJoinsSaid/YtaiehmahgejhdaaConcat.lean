/-
  CONTRACTS of slices.Grow at nil and slices.Concat of two slices of ints.
-/
import Derived.Test.YtaiehmahgejhdaaIntsEq
import Derived.Lib.AppendZerosOnto
import Derived.Lib.AppendZeros
import Derived.Laws.AppendOwnNone
namespace Go.Proofs.Ytaiehmahgejhdaa
open Go.RowKit
set_option linter.unusedVariables false
set_option linter.unusedSimpArgs false

set_option maxRecDepth 100000 in
set_option maxHeartbeats 400000 in
theorem growInts_any (n : Nat) (w : World) (hn : n ≤ 1000000) : Makes 53 #[.slice none 0 0, .int .i64 n] w (fun v w' => w'.ownsRow w.heap.size 3 1 v 0 [] ∧ (n = 0 → v = .slice none 0 0)) := by
  by_cases h0 : n = 0
  · subst h0
    go_enter Try.func53, Try.ntmps53
    go_wp2
    go_ret
    exact ⟨_, rfl, ⟨World.ownsRow_nil _ _ _ _, fun _ => rfl⟩, G.refl _⟩
  · obtain ⟨i0, hi, hz0, hz1, hz2⟩ := info_parts info_int
    have hrz : ∀ ty, ∃ C : Array Value, C.size = grownCap w n 0 3 ∧ (Builtin.append_ #[34, 3] ty #[.slice none 0 0, .int .i64 (n : Int)]).run Try.prog w = .ok (.slice (some ⟨w.heap.size, 0, none⟩) n (grownCap w n 0 3)) (w.drew.alloc (.cells C 3)) := fun ty => by
      have h := Lib.run_append_grow_zeros (P := Try.prog) w 34 3 ty 3 i0 (.int .i64 0) .i64 .i64 Try.underlying34 Try.underlying3 hi hz0 none 0 0 [] (run_firstCells_none w.drew i0.size 0 0 0) n (by omega) (by omega) (by omega) (by omega) (by rw [hz2]; omega) (by rw [Nat.zero_add]; exact growslice_fits (by omega) (by rw [hz2]; omega))
      rw [Nat.zero_add] at h
      refine ⟨_, ?_, h⟩
      have hG := grownCap_ge w n 0 3
      simp [Builtin.zeroCells, Value.cells]
      omega
    obtain ⟨C, hC, hr⟩ := hrz 34
    have hG := grownCap_ge w n 0 3
    have hG2 := grownCap_le_maxLen w n 0 3 (by unfold maxLen; omega)
    unfold maxLen at hG2
    have hn0 : 0 < (n : Int) := by omega
    have Hown : ∀ cap, grownCap w n 0 3 = cap → (w.drew.alloc (.cells C 3)).ownsRow w.heap.size 3 1 (.slice (some ⟨w.heap.size, 0, none⟩) 0 cap) 0 [] := fun cap hcap =>
      World.ownsRow_made (e := 3) (size := 1) (base := w.heap.size) w.drew C cap (Nat.le_refl _) (by unfold maxLen; omega) (by rw [Nat.mul_one, ← hcap]; exact hC)
    have HO := hid Hown
    clear Hown hC
    generalize hcap : grownCap w n 0 3 = cap at *
    have hcap' := hid hcap
    clear hcap
    go_enter Try.func53, Try.ntmps53
    go_wp2_with (at_builtin; refine Lib.wpList_append_run _ rfl _ _ _ _ rfl _ _ rfl rfl _ _ hr ?_)
    go_ret
    exact ⟨_, rfl, ⟨HO.out cap rfl, fun h => absurd h h0⟩, ((G.refl w).alloc _).drew⟩

/-- xs = append(xs, ys...) where xs is the call's own -/
theorem wpList_appendInts {ops : Array Oper} {rest : List Oper} {o : Oper} {a : Act} {Q : Exit → Act → World → Prop} {w wr : World} (hgd : o.guard = none) (s x : Operand)
    (ho : o.op = .call { callee := .builtin .append, args := #[s, x], argTypes := #[34, 34] })
    (v : Value) (xs : List Int) (hs : a.eval s = v) (hown : wr.ownsRow w.heap.size 3 1 v xs.length (xs.map (Value.int .i64))) (hg : G w wr)
    (src : Value) (ys : List Int) (hx : a.eval x = src) (hsrc : IsInts wr src ys) (hb : xs.length + ys.length ≤ 1000000)
    (h : ∀ v' w', w'.ownsRow w.heap.size 3 1 v' (xs ++ ys).length ((xs ++ ys).map (Value.int .i64)) → G w w' → (v' = .slice none 0 0 ↔ v = .slice none 0 0 ∧ ys = []) → wpList Try.prog ops Q rest (a.put o.dst v') w') :
    wpList Try.prog ops Q (o :: rest) a wr := by
  obtain ⟨i0, hi, hz0, hz1, hz2⟩ := info_parts info_int
  rcases hsrc with ⟨rfl, rfl⟩ | ⟨b, cap, rfl, hlt, hne, hc⟩
  · refine wpList_append_own_none hgd s x 34 ho w.heap.size 3 i0 1 Try.underlying34 hi v xs.length _ hs hown hx (h v wr (by simpa using hown) hg (by simp))
  · refine wpList_append_own _ hgd s x 34 ho w.heap.size 3 i0 _ 1 8 Try.underlying34 hi hz0 hz1 hz2 rfl (by decide) v xs.length _ hs hown ⟨b, 0, none⟩ ys.length cap (ys.map (Value.int .i64)) hx (by simp) ?_ (by intro u hu; obtain ⟨n, _, rfl⟩ := List.mem_map.1 hu; rfl) (by unfold maxLen; omega) (by omega) (by have := hg.size; omega) ?_
    · intro j u hj
      have hjl : j < ys.length := by
        rcases Nat.lt_or_ge j ys.length with h | h
        · exact h
        · rw [List.getElem?_eq_none (by simpa using h)] at hj; cases hj
      have e : (⟨b, 0, none⟩ : Addr).add j = ⟨b, j, none⟩ := by unfold Addr.add; split <;> simp_all
      rw [e, hc j hjl]
      simpa [List.getElem?_eq_getElem hjl] using hj
    · intro v' w' h2 h3 h4
      refine h v' w' (by simpa using h2) ?_ ?_
      · exact Below.grown hg h3 (by have := hg.size; omega) (fun k hk => (hown.lt k hk).1)
      · rw [h4]
        constructor
        · intro ⟨h5, h6⟩; exact ⟨h5, List.eq_nil_of_length_eq_zero h6⟩
        · intro ⟨h5, h6⟩; exact ⟨h5, by simp [h6]⟩

set_option maxRecDepth 100000 in
set_option maxHeartbeats 1000000 in
theorem concatInts_any {q : Nat} {a b : Value} {xs ys : List Int} {w : World} (h0 : w.cell? ⟨q, 0, none⟩ = some a) (h1 : w.cell? ⟨q, 1, none⟩ = some b) (hq : q < w.heap.size) (ha : IsInts w a xs) (hb : IsInts w b ys) (lx : xs.length ≤ 1000) (ly : ys.length ≤ 1000) :
    Makes 37 #[.slice (some ⟨q, 0, none⟩) 2 2] w (fun v w' => IsInts w' v (xs ++ ys)) := by
  obtain ⟨pa, ca, hva⟩ := ha.len
  obtain ⟨pb, cb, hvb⟩ := hb.len
  subst hva; subst hvb
  have Ha := hid ha
  have Hb := hid hb
  clear ha hb
  go_enter Try.func37, Try.ntmps37
  go_wp2
  refine wp_loop_rounds 3 ?_
  rw [rounds_succ]
  go_wp2
  rw [rounds_succ]
  go_wp2
  rw [rounds_succ]
  go_wp2_with fail
  have Hg := growInts_any (xs.length + ys.length) w (by omega)
  rw [show ((xs.length + ys.length : Nat) : Int) = (xs.length : Int) + ys.length from by omega] at Hg
  refine Hg.use ?_
  rintro v w1 ⟨hown, hnil⟩ g1
  have Hn := hid hnil
  clear hnil Hg
  have c0 := h0
  rw [← g1.cell (p := ⟨q, 0, none⟩) hq] at c0
  have c1 := h1
  rw [← g1.cell (p := ⟨q, 1, none⟩) hq] at c1
  go_wp2_with fail
  refine wp_loop_rounds 3 ?_
  rw [rounds_succ]
  go_wp2_with (at_builtin; refine wpList_appendInts (w := w) rfl _ _ rfl _ [] rfl hown g1 _ xs rfl (Ha.out.grow g1) (by simp; omega) ?_; intro v2 w2 hown2 g2 hn2)
  rw [rounds_succ]
  have c2 := h1
  rw [← g2.cell (p := ⟨q, 1, none⟩) hq] at c2
  have HN2 := hid hn2
  clear hn2 c0 c1
  go_wp2_with (at_builtin; refine wpList_appendInts (w := w) rfl _ _ rfl _ _ rfl hown2 g2 _ ys rfl (Hb.out.grow g2) (by simp; omega) ?_; intro v3 w3 hown3 g3 hn3)
  rw [rounds_succ]
  have HN3 := hid hn3
  clear hn3
  go_wp2_with fail
  go_ret
  refine ⟨_, rfl, IsInts.own hown3 ?_, g3⟩
  intro he
  show v3 = _
  have : xs = [] ∧ ys = [] := by simpa using he
  obtain ⟨rfl, rfl⟩ := this
  exact HN3.out.2 ⟨HN2.out.2 ⟨Hn.out rfl, rfl⟩, rfl⟩

end Go.Proofs.Ytaiehmahgejhdaa
