/-
  Texts merged into one: Edit, Hole.
-/
import Derived.Test.YtniidkkldoijcaaDoorMFn
import Derived.Test.YtniidkkldoijcaaDoorMItems
namespace Go.Proofs.YtniidkkldoijcaaDoor
open Go.RowKit
set_option linter.unusedVariables false
set_option linter.unusedSimpArgs false

set_option maxRecDepth 100000 in
set_option maxHeartbeats 1000000 in
theorem clone_pm (v : Value) (n : Nat) (cs : List Value) (w : World) (hP : IsRow 2 w v n cs) (hl : n ≤ 100000) (W : World) (gW : G w W) :
    Calls Tryd.prog 24 #[v] W fun e w' => ∃ u, e = .returned u ∧ w'.ownsRow W.heap.size 52 2 u n cs ∧ G W w' := by
  obtain ⟨i0, hi, hz0, hz1, hz2⟩ := info_parts infoParam
  have heq := fun W a n c => Lib.run_eql_slice_nil (P := Tryd.prog) W 25 52 a n c 0 0 Tryd.underlying25
  obtain ⟨hnl, hone, ⟨rfl, rfl | ⟨a, c, rfl⟩⟩ | ⟨b, off, cap, rfl, hb, h0, hc⟩⟩ := hP
  · obtain rfl : cs = [] := List.eq_nil_of_length_eq_zero (by simpa using hnl)
    clear gW
    go_enter Tryd.func24, Tryd.ntmps24
    go_wp2_with fail
    go_ret
    exact ⟨_, rfl, World.ownsRow_nil _ _ _ _, (by repeat (first | exact G.refl _ | assumption | apply G.drew | apply G.drewN | apply G.alloc | refine G.trans ?_ (by assumption)))⟩
  · obtain rfl : cs = [] := List.eq_nil_of_length_eq_zero (by simpa using hnl)
    clear gW
    go_enter Tryd.func24, Tryd.ntmps24
    go_wp2_with fail
    go_ret
    exact ⟨_, rfl, World.ownsRow_made W #[] 0 (Nat.le_refl _) (by unfold maxLen; omega) rfl, (by repeat (first | exact G.refl _ | assumption | apply G.drew | apply G.drewN | apply G.alloc | refine G.trans ?_ (by assumption)))⟩
  · have hadd : ∀ j, (⟨b, off, none⟩ : Addr).add j = ⟨b, off + j, none⟩ := fun j => by unfold Addr.add; split <;> simp_all
    have hcc : ∀ (j : Nat) (u : Value), cs[j]? = some u → (W.alloc (.cells #[] 52)).cell? ((⟨b, off, none⟩ : Addr).add j) = some u := fun j u hu => by
      obtain ⟨hj, rfl⟩ := List.getElem?_eq_some_iff.1 hu
      rw [hadd, (gW.alloc _).cell (p := ⟨b, off + j, none⟩) hb]; exact hc j hj
    have HCC := hid hcc
    have HN := hid hnl
    have HONE := hid hone
    have hown0 : (W.alloc (.cells #[] 52)).ownsRow W.heap.size 52 2 (.slice (some ⟨W.heap.size, 0, none⟩) 0 0) 0 [] := World.ownsRow_made W #[] 0 (Nat.le_refl _) (by unfold maxLen; omega) rfl
    have HOWN := hid hown0
    clear hcc hc hnl hone hown0 hadd gW hb
    go_enter Tryd.func24, Tryd.ntmps24
    go_wp2_with (at_builtin; refine wpList_append_own _ rfl _ _ 25 rfl W.heap.size 52 i0 _ 2 40 Tryd.underlying25 hi hz0 hz1 hz2 rfl (by decide) _ _ _ rfl HOWN.out ⟨b, off, none⟩ n cap cs rfl HN.out HCC.out HONE.out (by unfold maxLen; omega) (by omega) (by simp) ?_; intro v' w1 hown' hgrow _)
    go_ret
    have hgrow' : (W.alloc (.cells #[] 52)).grownBy w1 (some W.heap.size) := hgrow
    have hG : G W w1 := Below.grown ((Below.refl W.heap.size W).alloc (Nat.le_refl _) (.cells #[] 52)) hgrow' (by simp) (fun j hj => by cases hj; exact Nat.le_refl _)
    exact ⟨_, rfl, by simpa using hown', hG⟩
theorem own_wo {w : World} {D base : Nat} {t : TypeId} {k n : Nat} {v : Value} {cs : List Value} (h : w.ownsRow base t k v n cs) (hD : D < base) : (Wo D w).ownsRow base t k v n cs := by
  refine ⟨h.1, ?_⟩
  rcases h.2 with e | ⟨g, cap, cur, e, hb, hg, r⟩
  · exact .inl e
  · exact .inr ⟨g, cap, cur, e, hb, by rw [Wo.other D w g (by omega)]; exact hg, r⟩
/-- a row of parameters and one more -/
theorem params_more {w w' : World} {base : Nat} {u sv : Value} {xs : List PmC} {nm : List UInt8} {vs : List (List UInt8)} {t : TypeId} (hs : ∀ x ∈ xs, IsStrs w (slP x) x.1.2) (hsv : IsStrs w sv vs) (hg : G w w') (hr : w'.ownsRow base t 2 u (xs.length + 1) (xs.flatMap cellsP ++ [.string (S nm), sv])) : IsParams w' u (xs.map (·.1) ++ [(nm, vs)]) := by
  rw [cells_pm] at hr
  refine params_snoc (ps := xs.map (·.1)) (vs0 := xs.map slP) (by simp) (fun i p x hp hx => ?_) hsv hg (by simpa using hr)
  rw [List.getElem?_map] at hp hx
  cases hi : xs[i]? with
  | none => rw [hi] at hp; cases hp
  | some y =>
    rw [hi] at hp hx
    cases hp; cases hx
    exact hs y (List.mem_of_getElem? hi)
theorem params_rows {w w' : World} {base : Nat} {u : Value} {xs : List PmC} {t : TypeId} (hs : ∀ x ∈ xs, IsStrs w' (slP x) x.1.2) (hr : w'.ownsRow base t 2 u xs.length (xs.flatMap cellsP)) : IsParams w' u (xs.map (·.1)) := by
  rw [cells_pm] at hr
  refine params_of_row (ps := xs.map (·.1)) (vs := xs.map slP) (by simp) (fun i p x hp hx => ?_) (by simpa using hr)
  rw [List.getElem?_map] at hp hx
  cases hi : xs[i]? with
  | none => rw [hi] at hp; cases hp
  | some y =>
    rw [hi] at hp hx
    cases hp; cases hx
    exact hs y (List.mem_of_getElem? hi)

/-- an item of a row, and the row with other parameters there -/
theorem ItRow.setPs {w : World} : ∀ {xs : List It} {cs : List Value}, ItRow w xs cs → ∀ {i : Nat} {x : It}, xs[i]? = some x → ∃ pv lv, ItOk w x pv lv ∧ (∀ (j : Nat) (u : Value), (x.cells pv lv)[j]? = some u → cs[i * 15 + j]? = some u) ∧
    ∀ (ps' : List Pm) (pv' : Value), ItOk w { x with ps := ps' } pv' lv → ItRow w (xs.set i { x with ps := ps' }) (cs.set (i * 15 + 2) pv')
  | [], _, _, i, x, h => by simp at h
  | y :: xs, cs, ⟨pv, lv, ds, e, h1, h2⟩, 0, x, h => by
    simp at h
    subst h
    refine ⟨pv, lv, h1, fun j u hu => ?_, fun ps' pv' hok => ?_⟩
    · rw [e, Nat.zero_mul, Nat.zero_add, List.getElem?_append_left (List.getElem?_eq_some_iff.1 hu).1]; exact hu
    · exact ⟨pv', lv, ds, by rw [e]; rfl, hok, h2⟩
  | y :: xs, cs, ⟨pv, lv, ds, e, h1, h2⟩, i + 1, x, h => by
    obtain ⟨pv2, lv2, k1, k2, k3⟩ := ItRow.setPs h2 (i := i) (x := x) (by simpa using h)
    have hl : (y.cells pv lv).length = 15 := rfl
    refine ⟨pv2, lv2, k1, fun j u hu => ?_, fun ps' pv' hok => ?_⟩
    · rw [e, List.getElem?_append_right (by rw [hl]; omega), hl, show (i + 1) * 15 + j - 15 = i * 15 + j by omega]
      exact k2 j u hu
    · refine ⟨pv, lv, ds.set (i * 15 + 2) pv', ?_, h1, k3 ps' pv' hok⟩
      rw [e, List.set_append_right _ _ (by rw [hl]; omega), hl, show (i + 1) * 15 + 2 - 15 = i * 15 + 2 by omega]

/-- block D holds these items; what they point to lies elsewhere; besides D nothing old has turned -/
def ED (w0 : World) (D cap : Nat) (xs : List It) (W : World) : Prop :=
  ∃ cur, BR w0 D 32 cur W ∧ cur.length = cap * 15 ∧ xs.length ≤ cap ∧ ItRow (Wo D W) xs (cur.take (xs.length * 15))
section
variable {w0 W W' : World} {D cap : Nat} {xs : List It}
theorem ED.mv (h : ED w0 D cap xs W) : w0.grownBy W (some D) := by obtain ⟨cur, h1, _⟩ := h; exact h1.mv
theorem ED.lt (h : ED w0 D cap xs W) : D < W.heap.size := by obtain ⟨cur, h1, _⟩ := h; exact h1.lt
theorem ED.grow (h : ED w0 D cap xs W) (g : G W W') : ED w0 D cap xs W' := by
  obtain ⟨cur, h1, h2, h3, h4⟩ := h
  exact ⟨cur, h1.grow g, h2, h3, h4.grow (Wo.g g)⟩
theorem ED.start {v0 : World} {base n : Nat} {cs : List Value} (h : OwnR base W (.slice (some ⟨D, 0, none⟩) n cap) n cs) (hr : ItRow v0 xs cs) (hn : xs.length = n) (g : G v0 W) (hD : v0.heap.size ≤ D) : ED W D cap xs W := by
  rcases h.2 with ⟨e, _⟩ | ⟨b, c, cur, e, hb, hg, h1, h2, h3, h4⟩
  · cases e
  · cases e
    refine ⟨cur.toList, ⟨mv_refl _ _, by simpa using hg⟩, by rw [Array.length_toList]; exact h3, by omega, ?_⟩
    rw [hn, h4]
    exact hr.grow (Wo.of g hD)
theorem ED.at_ (h : ED w0 D cap xs W) {i : Nat} {x : It} (hx : xs[i]? = some x) : ∃ pv lv, ItOk (Wo D W) x pv lv ∧ (∀ (j : Nat) (u : Value), (x.cells pv lv)[j]? = some u → W.cell? ⟨D, i * 15 + j, none⟩ = some u) ∧ (∀ j, W.frozen? ⟨D, j, none⟩ = false) ∧
    ∀ (W' : World) (ps' : List Pm) (pv' : Value), G W W' → ItOk (Wo D W') { x with ps := ps' } pv' lv → ED w0 D cap (xs.set i { x with ps := ps' }) (W'.setCell ⟨D, i * 15 + 2, none⟩ pv') := by
  obtain ⟨cur, h1, h2, h3, h4⟩ := h
  obtain ⟨pv, lv, k1, k2, _⟩ := h4.setPs hx
  have hi := (List.getElem?_eq_some_iff.1 hx).1
  refine ⟨pv, lv, k1, fun j u hu => ?_, fun j => h1.fz j, fun W' ps' pv' g hok => ?_⟩
  · have := k2 j u hu
    rw [List.getElem?_take] at this
    split at this
    · exact h1.cell this
    · cases this
  · obtain ⟨pv3, lv3, m1, m2, m3⟩ := (h4.grow (Wo.g g)).setPs hx
    have e3 : lv3 = lv := by
      have a1 := k2 5 lv rfl
      have a2 := m2 5 lv3 rfl
      rw [a1] at a2
      exact (Option.some.inj a2).symm
    subst e3
    refine ⟨cur.set (i * 15 + 2) pv', (h1.grow g).set _ _, by simpa using h2, by simpa using h3, ?_⟩
    rw [Wo.set, List.length_set, List.take_set]
    exact m3 ps' pv' hok
theorem ED.items (h : ED w0 D cap xs W) : IsItems W (.slice (some ⟨D, 0, none⟩) xs.length cap) xs := by
  obtain ⟨cur, h1, h2, h3, h4⟩ := h
  refine items_of_cells (h4.sub (Wo.sub D W)) h1.lt (fun j u hu => ?_) h3
  rw [List.getElem?_take] at hu
  split at hu
  · rw [Nat.zero_add]; exact h1.cell hu
  · cases hu
end
end Go.Proofs.YtniidkkldoijcaaDoor

namespace Go.Proofs.YtniidkkldoijcaaDoor
open Go.RowKit
set_option linter.unusedVariables false
set_option linter.unusedSimpArgs false

/-- memory without two blocks -/
abbrev Wo2 (B D : Nat) (w : World) : World := Wo B (Wo D w)
theorem Wo.mv {B : Nat} {a b : World} (h : a.grownBy b (some B)) : G (Wo B a) (Wo B b) := by
  refine ⟨h.os, h.tape, h.output, by rw [Wo.size, Wo.size]; exact h.size, fun k hk => ?_⟩
  rw [Wo.size] at hk
  by_cases e : k = B
  · subst e
    have hk' := Nat.lt_of_lt_of_le hk h.size
    unfold Wo
    simp [hk, hk']
  · rw [Wo.other B _ _ e, Wo.other B _ _ e]
    exact h.block k hk (fun e2 => e (Option.some.inj e2))
theorem Wo.mvD {B D : Nat} {a b : World} (h : a.grownBy b (some B)) : (Wo D a).grownBy (Wo D b) (some B) := by
  refine ⟨h.os, h.tape, h.output, by rw [Wo.size, Wo.size]; exact h.size, fun k hk e => ?_⟩
  rw [Wo.size] at hk
  by_cases e2 : k = D
  · subst e2
    have hk' := Nat.lt_of_lt_of_le hk h.size
    unfold Wo
    simp [hk, hk']
  · rw [Wo.other D _ _ e2, Wo.other D _ _ e2]
    exact h.block k hk e
/-- what is held by a block that is none -/
theorem g_wo {B : Nat} {w : World} (h : w.heap.size ≤ B) : Wo B w = w := by
  unfold Wo
  congr 1
  apply Array.ext_getElem?
  intro j
  rw [Array.getElem?_setIfInBounds]
  split
  · rename_i e
    subst e
    rw [if_neg (by omega)]
    exact (Array.getElem?_eq_none h).symm
  · rfl
/-- the cells of block D are those of these items; what item i points to lies in memory f i -/
def EX (w0 : World) (D cap : Nat) (xs : List It) (f : Nat → World → World) (W : World) : Prop :=
  ∃ cur, BR w0 D 32 cur W ∧ cur.length = cap * 15 ∧ xs.length ≤ cap ∧ ∀ (i : Nat) (x : It), xs[i]? = some x → ∃ pv lv, ItOk (f i W) x pv lv ∧ ∀ (j : Nat) (u : Value), (x.cells pv lv)[j]? = some u → cur[i * 15 + j]? = some u
section
variable {w0 W W' : World} {D cap : Nat} {xs : List It} {f : Nat → World → World}
theorem EX.mv (h : EX w0 D cap xs f W) : w0.grownBy W (some D) := by obtain ⟨cur, h1, _⟩ := h; exact h1.mv
theorem EX.lt (h : EX w0 D cap xs f W) : D < W.heap.size := by obtain ⟨cur, h1, _⟩ := h; exact h1.lt
theorem EX.fz (h : EX w0 D cap xs f W) (j : Nat) : W.frozen? ⟨D, j, none⟩ = false := by obtain ⟨cur, h1, _⟩ := h; exact h1.fz j
theorem EX.at_ (h : EX w0 D cap xs f W) {i : Nat} {x : It} (hx : xs[i]? = some x) : ∃ pv lv, ItOk (f i W) x pv lv ∧ ∀ (j : Nat) (u : Value), (x.cells pv lv)[j]? = some u → W.cell? ⟨D, i * 15 + j, none⟩ = some u := by
  obtain ⟨cur, h1, h2, h3, h4⟩ := h
  obtain ⟨pv, lv, k1, k2⟩ := h4 i x hx
  exact ⟨pv, lv, k1, fun j u hu => h1.cell (k2 j u hu)⟩
/-- memory grows, block D as it was; what each item points to is carried along -/
theorem EX.turn (h : EX w0 D cap xs f W) {f' : Nat → World → World} (hm : w0.grownBy W' (some D)) (hD : W'.heap[D]? = W.heap[D]?) (hf : ∀ (i : Nat) (x : It) (pv lv : Value), xs[i]? = some x → (∀ (j : Nat) (u : Value), (x.cells pv lv)[j]? = some u → W.cell? ⟨D, i * 15 + j, none⟩ = some u) → ItOk (f i W) x pv lv → ItOk (f' i W') x pv lv) : EX w0 D cap xs f' W' := by
  obtain ⟨cur, h1, h2, h3, h4⟩ := h
  refine ⟨cur, ⟨hm, hD.trans h1.b⟩, h2, h3, fun i x hx => ?_⟩
  obtain ⟨pv, lv, k1, k2⟩ := h4 i x hx
  exact ⟨pv, lv, hf i x pv lv hx (fun j u hu => h1.cell (k2 j u hu)) k1, k2⟩
theorem EX.grow (h : EX w0 D cap xs f W) (hfm : ∀ i a b, G a b → G (f i a) (f i b)) (g : G W W') : EX w0 D cap xs f W' :=
  h.turn (mv_g h.mv g) (g.below.block _ h.lt) fun i x pv lv _ _ hk => hk.grow (hfm i _ _ g)
/-- item i gets other parameters -/
theorem EX.set (h : EX w0 D cap xs f W) {i : Nat} {x : It} (hx : xs[i]? = some x) {pv lv : Value} (hc : ∀ (j : Nat) (u : Value), (x.cells pv lv)[j]? = some u → W.cell? ⟨D, i * 15 + j, none⟩ = some u) {f' : Nat → World → World} (ps' : List Pm) (pv' : Value) (hok : ItOk (f' i (W.setCell ⟨D, i * 15 + 2, none⟩ pv')) { x with ps := ps' } pv' lv)
    (hf : ∀ (j : Nat) (y : It) (qv mv : Value), xs[j]? = some y → j ≠ i → ItOk (f j W) y qv mv → ItOk (f' j (W.setCell ⟨D, i * 15 + 2, none⟩ pv')) y qv mv) : EX w0 D cap (xs.set i { x with ps := ps' }) f' (W.setCell ⟨D, i * 15 + 2, none⟩ pv') := by
  obtain ⟨cur, h1, h2, h3, h4⟩ := h
  refine ⟨cur.set (i * 15 + 2) pv', h1.set _ _, by simpa using h2, by simpa using h3, fun j y hy => ?_⟩
  rw [List.getElem?_set] at hy
  by_cases e : i = j
  · subst e
    rw [if_pos rfl] at hy
    split at hy
    · cases hy
      refine ⟨pv', lv, hok, fun k u hu => ?_⟩
      rw [List.getElem?_set]
      have hk : k < 15 := by
        have := (List.getElem?_eq_some_iff.1 hu).1
        exact this
      have hi := (List.getElem?_eq_some_iff.1 hx).1
      by_cases e2 : k = 2
      · subst e2
        rw [if_pos rfl, if_pos (by rw [h2]; have := Nat.mul_le_mul_right 15 (show i + 1 ≤ cap by omega); omega)]
        exact hu
      · rw [if_neg (by omega)]
        have h5 : (x.cells pv lv)[k]? = some u := by
          rw [← hu]
          match k, hk, e2 with
          | 0, _, _ => rfl | 1, _, _ => rfl | 2, _, e2 => exact absurd rfl e2
          | 3, _, _ => rfl | 4, _, _ => rfl | 5, _, _ => rfl | 6, _, _ => rfl | 7, _, _ => rfl | 8, _, _ => rfl | 9, _, _ => rfl | 10, _, _ => rfl | 11, _, _ => rfl | 12, _, _ => rfl | 13, _, _ => rfl | 14, _, _ => rfl
        have h6 := hc k u h5
        rw [cell_of_row W D (i * 15 + k) _ _ _ h1.b] at h6
        simpa using h6
    · cases hy
  · rw [if_neg e] at hy
    obtain ⟨qv, mv, k1, k2⟩ := h4 j y hy
    refine ⟨qv, mv, hf j y qv mv hy (fun e2 => e e2.symm) k1, fun k u hu => ?_⟩
    have hk : k < 15 := (List.getElem?_eq_some_iff.1 hu).1
    rw [List.getElem?_set, if_neg (by omega)]
    exact k2 k u hu
/-- memory turns as it may; the box as it was -/
theorem EX.turnTo (h : EX w0 D cap xs f W) {f' : Nat → World → World} (hD : W'.heap[D]? = W.heap[D]?) (hf : ∀ (i : Nat) (x : It) (pv lv : Value), xs[i]? = some x → ItOk (f i W) x pv lv → ItOk (f' i W') x pv lv) : EX W' D cap xs f' W' := by
  obtain ⟨cur, h1, h2, h3, h4⟩ := h
  refine ⟨cur, ⟨mv_refl _ _, hD.trans h1.b⟩, h2, h3, fun i x hx => ?_⟩
  obtain ⟨pv, lv, k1, k2⟩ := h4 i x hx
  exact ⟨pv, lv, hf i x pv lv hx k1, k2⟩
theorem EX.items (h : EX w0 D cap xs f W) (hs : ∀ i, Sub (f i W) W) : IsItems W (.slice (some ⟨D, 0, none⟩) xs.length cap) xs := by
  obtain ⟨cur, h1, h2, h3, h4⟩ := h
  refine ⟨_, _, rfl, h3, fun _ => ⟨D, 0, rfl, h1.lt, fun i x hx => ?_⟩⟩
  obtain ⟨pv, lv, k1, k2⟩ := h4 i x hx
  exact ⟨pv, lv, ⟨fun j u hu => by rw [Nat.zero_add]; exact h1.cell (k2 j u hu), k1.sub (hs i)⟩⟩
theorem EX.start {v0 : World} {base n : Nat} {cs : List Value} (h : OwnR base W (.slice (some ⟨D, 0, none⟩) n cap) n cs) (hr : ItRow v0 xs cs) (hn : xs.length = n) (g : G v0 W) (hD : v0.heap.size ≤ D) : EX W D cap xs (fun _ => Wo D) W := by
  rcases h.2 with ⟨e, _⟩ | ⟨b, c, cur, e, hb, hg, h1, h2, h3, h4⟩
  · cases e
  · cases e
    refine ⟨cur.toList, ⟨mv_refl _ _, by simpa using hg⟩, by rw [Array.length_toList]; exact h3, by omega, fun i x hx => ?_⟩
    obtain ⟨pv, lv, k1, k2⟩ := hr.at_ i x hx
    refine ⟨pv, lv, k1.grow (Wo.of g hD), fun j u hu => ?_⟩
    have := k2 j u hu
    rw [← h4, List.getElem?_take] at this
    split at this
    · exact this
    · cases this
end
end Go.Proofs.YtniidkkldoijcaaDoor
