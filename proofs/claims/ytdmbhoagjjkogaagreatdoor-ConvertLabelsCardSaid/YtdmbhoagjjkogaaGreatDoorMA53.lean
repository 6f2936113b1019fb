/-
  Texts merged into one: Edit, ConvRow, With, Hole.
-/
import Derived.Test.YtdmbhoagjjkogaaGreatDoorMFn
import Derived.Test.YtdmbhoagjjkogaaGreatDoorMA48
import Derived.Test.YtdmbhoagjjkogaaGreatDoorMA39
import Derived.Test.YtdmbhoagjjkogaaGreatDoorMA45
import Derived.Test.YtdmbhoagjjkogaaGreatDoorMVeil
import Derived.Deep.AppendLies
namespace Go.Proofs.YtdmbhoagjjkogaaGreatDoor
open Go.RowKit
set_option linter.unusedVariables false
set_option linter.unusedSimpArgs false
set_option maxRecDepth 100000 in
set_option maxHeartbeats 1000000 in
theorem clone_pm (v : Value) (n : Nat) (cs : List Value) (w : World) (hP : IsRow 2 w v n cs) (hl : n ≤ 100000) (W : World) (gW : G w W) :
    Calls Tryz.prog 108 #[v] W fun e w' => ∃ u, e = .returned u ∧ w'.ownsRow W.heap.size 46 2 u n cs ∧ G W w' := by
  obtain ⟨i0, hi, hz0, hz1, hz2⟩ := info_parts infoParam
  have heq := fun W a n c => Lib.run_eql_slice_nil (P := Tryz.prog) W 29 46 a n c 0 0 Tryz.underlying29
  obtain ⟨hnl, hone, ⟨rfl, rfl | ⟨a, c, rfl⟩⟩ | ⟨b, off, cap, rfl, hb, h0, hc⟩⟩ := hP
  · obtain rfl : cs = [] := List.eq_nil_of_length_eq_zero (by simpa using hnl)
    clear gW
    go_enter Tryz.func108, Tryz.ntmps108
    go_wp2_with fail
    go_ret
    exact ⟨_, rfl, World.ownsRow_nil _ _ _ _, (by repeat (first | exact G.refl _ | assumption | apply G.drew | apply G.drewN | apply G.alloc | refine G.trans ?_ (by assumption)))⟩
  · obtain rfl : cs = [] := List.eq_nil_of_length_eq_zero (by simpa using hnl)
    clear gW
    go_enter Tryz.func108, Tryz.ntmps108
    go_wp2_with fail
    go_ret
    exact ⟨_, rfl, World.ownsRow_made W #[] 0 (Nat.le_refl _) (by unfold maxLen; omega) rfl, (by repeat (first | exact G.refl _ | assumption | apply G.drew | apply G.drewN | apply G.alloc | refine G.trans ?_ (by assumption)))⟩
  · have hadd : ∀ j, (⟨b, off, none⟩ : Addr).add j = ⟨b, off + j, none⟩ := fun j => by unfold Addr.add; split <;> simp_all
    have hcc : ∀ (j : Nat) (u : Value), cs[j]? = some u → (W.alloc (.cells #[] 46)).cell? ((⟨b, off, none⟩ : Addr).add j) = some u := fun j u hu => by
      obtain ⟨hj, rfl⟩ := List.getElem?_eq_some_iff.1 hu
      rw [hadd, (gW.alloc _).cell (p := ⟨b, off + j, none⟩) hb]; exact hc j hj
    have HCC := hid hcc
    have HN := hid hnl
    have HONE := hid hone
    have hown0 : (W.alloc (.cells #[] 46)).ownsRow W.heap.size 46 2 (.slice (some ⟨W.heap.size, 0, none⟩) 0 0) 0 [] := World.ownsRow_made W #[] 0 (Nat.le_refl _) (by unfold maxLen; omega) rfl
    have HOWN := hid hown0
    clear hcc hc hnl hone hown0 hadd gW hb
    go_enter Tryz.func108, Tryz.ntmps108
    go_wp2_with (at_builtin; refine wpList_append_own _ rfl _ _ 29 rfl W.heap.size 46 i0 _ 2 40 Tryz.underlying29 hi hz0 hz1 hz2 rfl (by decide) _ _ _ rfl HOWN.out ⟨b, off, none⟩ n cap cs rfl HN.out HCC.out HONE.out (by unfold maxLen; omega) (by omega) (by simp) ?_; intro v' w1 hown' hgrow _)
    go_ret
    have hgrow' : (W.alloc (.cells #[] 46)).grownBy w1 (some W.heap.size) := hgrow
    have hG : G W w1 := Below.grown ((Below.refl W.heap.size W).alloc (Nat.le_refl _) (.cells #[] 46)) hgrow' (by simp) (fun j hj => by cases hj; exact Nat.le_refl _)
    exact ⟨_, rfl, by simpa using hown', hG⟩
theorem own_wo {w : World} {D base : Nat} {t : TypeId} {k n : Nat} {v : Value} {cs : List Value} (h : w.ownsRow base t k v n cs) (hD : D < base) : (Wo D w).ownsRow base t k v n cs := by
  refine ⟨h.1, ?_⟩
  rcases h.2 with e | ⟨g, cap, cur, e, hb, hg, r⟩
  · exact .inl e
  · exact .inr ⟨g, cap, cur, e, hb, by rw [Wo.other D w g (by omega)]; exact hg, r⟩
theorem params_more {w w' : World} {base : Nat} {u sv : Value} {xs : List PmC} {nm : List UInt8} {vs : List (List UInt8)} {t : TypeId} (hs : ∀ x ∈ xs, IsStrs w (slP x) x.1.2) (hsv : IsStrs w sv vs) (hg : G w w') (hr : w'.ownsRow base t 2 u (xs.length + 1) (xs.flatMap cellsP ++ [.string (S nm), sv])) : IsParams w' u (xs.map (·.1) ++ [(nm, vs)]) := by
  rw [cells_pm] at hr
  refine params_snoc (ps := xs.map (·.1)) (vs0 := xs.map slP) (by simp) (fun i p x hp hx => ?_) hsv hg (by simpa using hr)
  rw [List.getElem?_map] at hp hx
  cases hi : xs[i]? with
  | none => rw [hi] at hp; cases hp
  | some y =>
    rw [hi] at hp hx
    cases hp; cases hx
    exact hs y (List.mem_of_getElem? hi)
theorem params_rows {w w' : World} {base : Nat} {u : Value} {xs : List PmC} {t : TypeId} (hs : ∀ x ∈ xs, IsStrs w' (slP x) x.1.2) (hr : w'.ownsRow base t 2 u xs.length (xs.flatMap cellsP)) : IsParams w' u (xs.map (·.1)) := by
  rw [cells_pm] at hr
  refine params_of_row (ps := xs.map (·.1)) (vs := xs.map slP) (by simp) (fun i p x hp hx => ?_) (by simpa using hr)
  rw [List.getElem?_map] at hp hx
  cases hi : xs[i]? with
  | none => rw [hi] at hp; cases hp
  | some y =>
    rw [hi] at hp hx
    cases hp; cases hx
    exact hs y (List.mem_of_getElem? hi)
theorem ItRow.setPs {w : World} : ∀ {xs : List It} {cs : List Value}, ItRow w xs cs → ∀ {i : Nat} {x : It}, xs[i]? = some x → ∃ pv lv, ItOk w x pv lv ∧ (∀ (j : Nat) (u : Value), (x.cells pv lv)[j]? = some u → cs[i * 15 + j]? = some u) ∧
    ∀ (ps' : List Pm) (pv' : Value), ItOk w { x with ps := ps' } pv' lv → ItRow w (xs.set i { x with ps := ps' }) (cs.set (i * 15 + 2) pv')
  | [], _, _, i, x, h => by simp at h
  | y :: xs, cs, ⟨pv, lv, ds, e, h1, h2⟩, 0, x, h => by
    simp at h
    subst h
    refine ⟨pv, lv, h1, fun j u hu => ?_, fun ps' pv' hok => ?_⟩
    · rw [e, Nat.zero_mul, Nat.zero_add, List.getElem?_append_left (List.getElem?_eq_some_iff.1 hu).1]; exact hu
    · exact ⟨pv', lv, ds, by rw [e]; rfl, hok, h2⟩
  | y :: xs, cs, ⟨pv, lv, ds, e, h1, h2⟩, i + 1, x, h => by
    obtain ⟨pv2, lv2, k1, k2, k3⟩ := ItRow.setPs h2 (i := i) (x := x) (by simpa using h)
    have hl : (y.cells pv lv).length = 15 := rfl
    refine ⟨pv2, lv2, k1, fun j u hu => ?_, fun ps' pv' hok => ?_⟩
    · rw [e, List.getElem?_append_right (by rw [hl]; omega), hl, show (i + 1) * 15 + j - 15 = i * 15 + j by omega]
      exact k2 j u hu
    · refine ⟨pv, lv, ds.set (i * 15 + 2) pv', ?_, h1, k3 ps' pv' hok⟩
      rw [e, List.set_append_right _ _ (by rw [hl]; omega), hl, show (i + 1) * 15 + 2 - 15 = i * 15 + 2 by omega]
def ED (w0 : World) (D cap : Nat) (xs : List It) (W : World) : Prop :=
  ∃ cur, BR w0 D 31 cur W ∧ cur.length = cap * 15 ∧ xs.length ≤ cap ∧ ItRow (Wo D W) xs (cur.take (xs.length * 15))
section
variable {w0 W W' : World} {D cap : Nat} {xs : List It}
theorem ED.mv (h : ED w0 D cap xs W) : w0.grownBy W (some D) := by obtain ⟨cur, h1, _⟩ := h; exact h1.mv
theorem ED.lt (h : ED w0 D cap xs W) : D < W.heap.size := by obtain ⟨cur, h1, _⟩ := h; exact h1.lt
theorem ED.grow (h : ED w0 D cap xs W) (g : G W W') : ED w0 D cap xs W' := by
  obtain ⟨cur, h1, h2, h3, h4⟩ := h
  exact ⟨cur, h1.grow g, h2, h3, h4.grow (Wo.g g)⟩
theorem ED.start {v0 : World} {base n : Nat} {cs : List Value} (h : OwnR base W (.slice (some ⟨D, 0, none⟩) n cap) n cs) (hr : ItRow v0 xs cs) (hn : xs.length = n) (g : G v0 W) (hD : v0.heap.size ≤ D) : ED W D cap xs W := by
  rcases h.2 with ⟨e, _⟩ | ⟨b, c, cur, e, hb, hg, h1, h2, h3, h4⟩
  · cases e
  · cases e
    refine ⟨cur.toList, ⟨mv_refl _ _, by simpa using hg⟩, by rw [Array.length_toList]; exact h3, by omega, ?_⟩
    rw [hn, h4]
    exact hr.grow (Wo.of g hD)
theorem ED.at_ (h : ED w0 D cap xs W) {i : Nat} {x : It} (hx : xs[i]? = some x) : ∃ pv lv, ItOk (Wo D W) x pv lv ∧ (∀ (j : Nat) (u : Value), (x.cells pv lv)[j]? = some u → W.cell? ⟨D, i * 15 + j, none⟩ = some u) ∧ (∀ j, W.frozen? ⟨D, j, none⟩ = false) ∧
    ∀ (W' : World) (ps' : List Pm) (pv' : Value), G W W' → ItOk (Wo D W') { x with ps := ps' } pv' lv → ED w0 D cap (xs.set i { x with ps := ps' }) (W'.setCell ⟨D, i * 15 + 2, none⟩ pv') := by
  obtain ⟨cur, h1, h2, h3, h4⟩ := h
  obtain ⟨pv, lv, k1, k2, _⟩ := h4.setPs hx
  have hi := (List.getElem?_eq_some_iff.1 hx).1
  refine ⟨pv, lv, k1, fun j u hu => ?_, fun j => h1.fz j, fun W' ps' pv' g hok => ?_⟩
  · have := k2 j u hu
    rw [List.getElem?_take] at this
    split at this
    · exact h1.cell this
    · cases this
  · obtain ⟨pv3, lv3, m1, m2, m3⟩ := (h4.grow (Wo.g g)).setPs hx
    have e3 : lv3 = lv := by
      have a1 := k2 5 lv rfl
      have a2 := m2 5 lv3 rfl
      rw [a1] at a2
      exact (Option.some.inj a2).symm
    subst e3
    refine ⟨cur.set (i * 15 + 2) pv', (h1.grow g).set _ _, by simpa using h2, by simpa using h3, ?_⟩
    rw [Wo.set, List.length_set, List.take_set]
    exact m3 ps' pv' hok
theorem ED.items (h : ED w0 D cap xs W) : IsItems W (.slice (some ⟨D, 0, none⟩) xs.length cap) xs := by
  obtain ⟨cur, h1, h2, h3, h4⟩ := h
  refine items_of_cells (h4.sub (Wo.sub D W)) h1.lt (fun j u hu => ?_) h3
  rw [List.getElem?_take] at hu
  split at hu
  · rw [Nat.zero_add]; exact h1.cell hu
  · cases hu
end
end Go.Proofs.YtdmbhoagjjkogaaGreatDoor

namespace Go.Proofs.YtdmbhoagjjkogaaGreatDoor
open Go.RowKit
set_option linter.unusedVariables false
set_option linter.unusedSimpArgs false
def Frm (v : Value) : Prop := v = .slice none 0 0 ∨ ∃ a n c, v = .slice (some a) n c
theorem own_frm {w : World} {base : Nat} {t : TypeId} {k n : Nat} {v : Value} {cs : List Value} (h : w.ownsRow base t k v n cs) : Frm v := by
  rcases h.2 with ⟨e, _⟩ | ⟨g, cap, cur, e, _⟩
  · exact .inl e
  · exact .inr ⟨_, _, _, e⟩
theorem own_sl {w : World} {base : Nat} {t : TypeId} {k n : Nat} {v : Value} {cs : List Value} (h : w.ownsRow base t k v n cs) : ∃ a c, v = .slice a n c := by
  rcases h.2 with ⟨e, h0⟩ | ⟨g, cap, cur, e, _⟩
  · exact ⟨none, 0, by rw [e, h0]⟩
  · exact ⟨_, _, e⟩
theorem own_succ {w : World} {base : Nat} {t : TypeId} {k n : Nat} {v : Value} {cs : List Value} (h : w.ownsRow base t k v (n + 1) cs) : ∃ g cap, v = .slice (some ⟨g, 0, none⟩) (n + 1) cap := by
  rcases h.2 with ⟨_, h0⟩ | ⟨g, cap, cur, e, _⟩
  · omega
  · exact ⟨g, cap, e⟩
structure PmR (w : World) (u : Value) (ps : List Pm) : Prop where
  p : IsParams w u ps
  f : Frm u
theorem PmR.grow {w w' : World} {u : Value} {ps : List Pm} (h : PmR w u ps) (g : G w w') : PmR w' u ps := ⟨h.p.grow g, h.f⟩
theorem PmR.sub {w w' : World} {u : Value} {ps : List Pm} (h : PmR w u ps) (g : Sub w w') : PmR w' u ps := ⟨h.p.sub g, h.f⟩
theorem Sub.refl (w : World) : Sub w w := ⟨Nat.le_refl _, fun _ _ h => h⟩
theorem Sub.trans {a b c : World} (h : Sub a b) (k : Sub b c) : Sub a c := ⟨Nat.le_trans h.size k.size, fun p u e => k.cell p u (h.cell p u e)⟩
theorem Wo.not {C : Nat} {w : World} {p : Addr} {u : Value} (h : (Wo C w).cell? p = some u) : p.block ≠ C := by
  intro hb
  unfold World.cell? at h
  by_cases hl : C < w.heap.size
  · have : (Wo C w).heap[p.block]? = some (.cells #[] 0 (0, 0)) := by rw [hb]; unfold Wo; simp [hl]
    rw [this] at h
    simp at h
  · have : (Wo C w).heap[p.block]? = none := by rw [hb]; exact Array.getElem?_eq_none (by rw [Wo.size]; omega)
    rw [this] at h
    simp at h
theorem Sub.wo {a b : World} (h : Sub a b) (C : Nat) : Sub (Wo C a) (Wo C b) := ⟨by rw [Wo.size, Wo.size]; exact h.size, fun p u e => by
  have hn := Wo.not e
  rw [World.cell?_of_block (Wo.other C b _ hn)]
  exact h.cell p u (Wo.cell C a p u e)⟩
def Wl : List Nat → World → World
  | [], w => w
  | X :: L, w => Wl L (Wo X w)
theorem Wl.size : ∀ (L : List Nat) (w : World), (Wl L w).heap.size = w.heap.size
  | [], w => rfl
  | X :: L, w => (Wl.size L _).trans (Wo.size X w)
theorem Wl.g {w w' : World} (h : G w w') : ∀ {L : List Nat}, G (Wl L w) (Wl L w') := by
  intro L
  induction L generalizing w w' with
  | nil => exact h
  | cons X L ih => exact ih (Wo.g h)
theorem Wl.sub : ∀ (L : List Nat) (w : World), Sub (Wl L w) w
  | [], w => Sub.refl w
  | X :: L, w => (Wl.sub L _).trans (Wo.sub X w)
theorem Wl.mono {a b : World} (h : Sub a b) : ∀ {L : List Nat}, Sub (Wl L a) (Wl L b) := by
  intro L
  induction L generalizing a b with
  | nil => exact h
  | cons X L ih => exact ih (h.wo X)
theorem Wl.tail (X : Nat) (L : List Nat) (w : World) : Sub (Wl (X :: L) w) (Wl L w) := Wl.mono (Wo.sub X w)
theorem Wl.own {base : Nat} {t : TypeId} {k n : Nat} {v : Value} {cs : List Value} : ∀ {L : List Nat} {w : World}, w.ownsRow base t k v n cs → (∀ X ∈ L, X < base) → (Wl L w).ownsRow base t k v n cs
  | [], w, h, _ => h
  | X :: L, w, h, hX => Wl.own (L := L) (own_wo h (hX X List.mem_cons_self)) (fun Y hY => hX Y (List.mem_cons_of_mem _ hY))
theorem Wl.other {b : Nat} : ∀ {L : List Nat} {w : World}, (∀ X ∈ L, b ≠ X) → (Wl L w).heap[b]? = w.heap[b]?
  | [], w, _ => rfl
  | X :: L, w, h => (Wl.other (L := L) (fun Y hY => h Y (List.mem_cons_of_mem _ hY))).trans (Wo.other X w b (h X List.mem_cons_self))
theorem Wl.set (X : Nat) (L : List Nat) (w : World) (i : Nat) (v : Value) : Wl (X :: L) (w.setCell ⟨X, i, none⟩ v) = Wl (X :: L) w := by
  show Wl L (Wo X _) = Wl L (Wo X w)
  rw [Wo.set]
theorem Wl.into {X : Nat} {L : List Nat} {w w' : World} (h : G w w') (hX : w.heap.size ≤ X) : G (Wl L w) (Wl (X :: L) w') := Wl.g (Wo.of h hX)
theorem PmR.wo {w w' : World} {u : Value} {ps : List Pm} {L : List Nat} (h : PmR (Wl L w) u ps) (g : G w w') : PmR (Wl L w') u ps := h.grow (Wl.g g)
theorem PmR.un {w : World} {u : Value} {ps : List Pm} {L : List Nat} (h : PmR (Wl L w) u ps) : PmR w u ps := h.sub (Wl.sub L w)
theorem PmR.into {w w' : World} {u : Value} {ps : List Pm} {X : Nat} {L : List Nat} (h : PmR (Wl L w) u ps) (g : G w w') (hX : w.heap.size ≤ X) : PmR (Wl (X :: L) w') u ps := h.grow (Wl.into g hX)
set_option maxRecDepth 100000 in
set_option maxHeartbeats 2000000 in
theorem cwith_any (L : List Nat) (l : Value) (nm : List UInt8) (sv : Value) (vs : List (List UInt8)) (ps : List Pm) (w : World) (hX : ∀ X ∈ L, X < w.heap.size) (h : PmR (Wl L w) l ps) (hv : IsStrs (Wl L w) sv vs) (hl : ps.length ≤ 10000) : Makes 66 #[l, .string (S nm), sv] w (fun u w' => PmR (Wl L w') u (ps ++ [(nm, vs)])) := by
  obtain ⟨xs, hxs, hst, hrow0⟩ := h.p.row h.f
  have hrow := hrow0.sub (Wl.sub L w)
  clear hrow0
  subst hxs
  obtain ⟨i0, hi, hz0, hz1, hz2⟩ := info_parts infoParam
  have CL := hid (clone_pm l xs.length _ w hrow (by simp at hl; omega) w (G.refl w))
  have HST := hid hst
  have HV := hid hv
  have hxl : xs.length ≤ 10000 := by simpa using hl
  obtain ⟨la, lc, rfl⟩ : ∃ a c, l = .slice a xs.length c := by
    obtain ⟨a, c, e, _⟩ := h.p
    exact ⟨a, c, by simpa using e⟩
  obtain ⟨sa, sc, rfl, _⟩ := hv.len
  clear h hrow hst hv hl
  go_enter Tryz.func66, Tryz.ntmps66
  go_wp2_with fail
  refine CL.out.mono ?_
  rintro e w2 ⟨u, rfl, hown, hg⟩
  have HOWN := hid hown
  have HG := hid hg
  obtain ⟨ua, uc, rfl⟩ := own_sl hown
  have hsz := hg.size
  clear hown hg
  go_wp2_with (at_builtin; refine wpList_append_own _ rfl _ _ 29 rfl w.heap.size 46 i0 _ 2 40 Tryz.underlying29 hi hz0 hz1 hz2 rfl (by decide) _ _ _ rfl (HOWN.out.alloc _) ⟨w2.heap.size, 0, none⟩ 1 1 [.string (S nm), .slice sa vs.length sc] rfl rfl (fun j x hx => by rw [addr_add, Nat.zero_add, cell_of_row _ _ j _ _ _ (heap_alloc_new w2 _)]; simpa using hx) (by intro x hx; simp at hx; rcases hx with rfl | rfl <;> rfl) (by unfold maxLen; omega) (by omega) (by simp; omega) ?_; intro v' w3 hown' hgrow hnil)
  obtain ⟨b', cap', rfl⟩ := own_succ hown'
  go_wp2_with fail
  go_ret
  have g3 : G w w3 := Below.grown (HG.out.alloc _) hgrow (by simp; omega) (fun j hj => (HOWN.out.lt j hj).1)
  refine ⟨_, rfl, ⟨params_more (w := Wl L w) HST.out HV.out (Wl.g g3) (Wl.own hown' hX), .inr ⟨_, _, _, rfl⟩⟩, g3⟩
set_option maxRecDepth 100000 in
set_option maxHeartbeats 1000000 in
theorem without_fn (x : PmC) (n : List UInt8) (nb : Nat) (W : World) (hc : W.cell? ⟨nb, 0, none⟩ = some (.string (S n))) (hx : x.1.1.length ≤ 1000000) (hn : n.length ≤ 1000000) : Gives 117 #[valP x, .pointer (some ⟨nb, 0, none⟩)] W (.bool (sameL x.1.1 n)) := by
  have hc2 : (W.alloc (.cells #[.string (S x.1.1), .slice x.2.1 x.2.2.1 x.2.2.2] 46)).cell? ⟨nb, 0, none⟩ = some (.string (S n)) := by rw [((G.refl W).alloc _).cell (World.block_lt_of_cell? _ _ hc)]; exact hc
  go_enter Tryz.func117, Tryz.ntmps117
  go_wp2_with fail
  refine (same_any x.1.1 n _ (by omega) (by omega)).use ?_
  intro w2 g2
  go_wp2_with fail
  go_ret
  exact ⟨rfl, ((G.refl W).alloc _).trans g2⟩
set_option maxRecDepth 100000 in
set_option maxHeartbeats 2000000 in
theorem without_any (L : List Nat) (l : Value) (n : List UInt8) (ps : List Pm) (w : World) (hX : ∀ X ∈ L, X < w.heap.size) (h : PmR (Wl L w) l ps) (hl : ps.length ≤ 10000) (hp : ∀ p ∈ ps, p.1.length ≤ 1000000) (hn : n.length ≤ 1000000) : Makes 71 #[l, .string (S n)] w (fun u w' => PmR (Wl L w') u (withoutL ps n)) := by
  obtain ⟨xs, hxs, hst, hrow0⟩ := h.p.row h.f
  have hrow := hrow0.sub (Wl.sub L w)
  clear hrow0
  subst hxs
  have CL := hid (fun W (g : G w W) => clone_pm l xs.length _ w hrow (by simp at hl; omega) W g)
  have HST := hid hst
  have hxl : xs.length ≤ 10000 := by simpa using hl
  have HN := hid (show ∀ x ∈ xs, x.1.1.length ≤ 1000000 from fun x hx => hp x.1 (List.mem_map_of_mem hx))
  obtain ⟨la, lc, rfl⟩ : ∃ a c, l = .slice a xs.length c := by
    obtain ⟨a, c, e, _⟩ := h.p
    exact ⟨a, c, by simpa using e⟩
  clear h hrow hst hl hp
  go_enter Tryz.func71, Tryz.ntmps71
  go_wp2_with fail
  refine (CL.out _ ((G.refl w).alloc _)).mono ?_
  rintro e w2 ⟨u, rfl, hown, hg⟩
  have hcell : w2.cell? ⟨w.heap.size, 0, none⟩ = some (.string (S n)) := by rw [hg.cell (by simp)]; exact World.cell?_alloc_new w _ _ 0
  have hdel := deleteP_any 117 #[.pointer (some ⟨w.heap.size, 0, none⟩)] (enters_of Tryz.func117 (by kernel_rfl) rfl) (fun y => sameL y.1.1 n) (w.alloc (.cells #[.string (S n)] 9)).heap.size u xs w2 hown (by omega) (fun W gW y hy => without_fn y n w.heap.size W (by
    have hne : u.ownBlock ≠ some w.heap.size := fun e => by have := (hown.lt _ e).1; simp at this; omega
    rw [World.cell?_of_block (gW.block w.heap.size (Nat.lt_of_lt_of_le (by simp) hg.size) (fun e => hne e.symm))]; exact hcell) (HN.out y hy) hn)
  have HD := hid hdel
  have HG := hid (((G.refl w).alloc _).trans hg)
  have HOWN := hid hown
  obtain ⟨ua, uc, rfl⟩ := own_sl hown
  clear hdel hg hown hcell
  go_wp2_with fail
  refine HD.out.mono ?_
  rintro e w3 ⟨v, rfl, ho3, hgr, _⟩
  have H3 := hid ho3
  obtain ⟨va, vc, rfl⟩ := own_sl ho3
  have g3 : G w w3 := Below.grown HG.out hgr HG.out.size (fun j hj => by have := (HOWN.out.lt j hj).1; simp at this; omega)
  have hpr : PmR (Wl L w3) (.slice va (xs.filter fun x => !sameL x.1.1 n).length vc) (withoutL (xs.map (·.1)) n) := by
    refine ⟨?_, own_frm ho3⟩
    have e : withoutL (xs.map (·.1)) n = (xs.filter fun x => !sameL x.1.1 n).map (·.1) := by
      unfold withoutL
      rw [List.filter_map]; rfl
    rw [e]
    exact params_rows (w := w3) (fun x hx => (HST.out x (List.mem_filter.1 hx).1).grow (Wl.g g3)) (Wl.own ho3 (fun X hx => by have := hX X hx; simp; omega))
  have HPR := hid hpr
  have G3 := hid g3
  clear ho3 hgr g3 hpr
  go_wp2_with fail
  go_ret
  exact ⟨_, rfl, HPR.out, G3.out⟩
end Go.Proofs.YtdmbhoagjjkogaaGreatDoor

namespace Go.Proofs.YtdmbhoagjjkogaaGreatDoor
open Go.RowKit
set_option linter.unusedVariables false
set_option linter.unusedSimpArgs false
theorem two_boxes {w : World} {C Z : Nat} (hne : C ≠ Z) {a0 a1 z0 z1 : Value} {t t' : TypeId} (hC : w.heap[C]? = some (.cells #[a0, a1] t (0, 0))) (hZ : w.heap[Z]? = some (.cells #[z0, z1] t' (0, 0))) (V : Value) :
    w.cell? ⟨C, 1, none⟩ = some a1 ∧ w.frozen? ⟨C, 1, none⟩ = false ∧ (w.setCell ⟨C, 1, none⟩ V).cell? ⟨C, 0, none⟩ = some a0 ∧ (w.setCell ⟨C, 1, none⟩ V).cell? ⟨C, 1, none⟩ = some V ∧ (w.setCell ⟨C, 1, none⟩ V).cell? ⟨Z, 0, none⟩ = some z0 ∧ (w.setCell ⟨C, 1, none⟩ V).frozen? ⟨Z, 0, none⟩ = false ∧ ((w.setCell ⟨C, 1, none⟩ V).setCell ⟨Z, 0, none⟩ a0).cell? ⟨Z, 1, none⟩ = some z1 ∧ ((w.setCell ⟨C, 1, none⟩ V).setCell ⟨Z, 0, none⟩ a0).frozen? ⟨Z, 1, none⟩ = false ∧ (((w.setCell ⟨C, 1, none⟩ V).setCell ⟨Z, 0, none⟩ a0).setCell ⟨Z, 1, none⟩ V).cell? ⟨Z, 0, none⟩ = some a0 ∧ (((w.setCell ⟨C, 1, none⟩ V).setCell ⟨Z, 0, none⟩ a0).setCell ⟨Z, 1, none⟩ V).cell? ⟨Z, 1, none⟩ = some V := by
  have c0 : w.cell? ⟨C, 0, none⟩ = some a0 := (cell_of_row w C 0 _ _ _ hC).trans rfl
  have c1 : w.cell? ⟨C, 1, none⟩ = some a1 := (cell_of_row w C 1 _ _ _ hC).trans rfl
  have d0 : w.cell? ⟨Z, 0, none⟩ = some z0 := (cell_of_row w Z 0 _ _ _ hZ).trans rfl
  have d1 : w.cell? ⟨Z, 1, none⟩ = some z1 := (cell_of_row w Z 1 _ _ _ hZ).trans rfl
  have far : ∀ (w : World) (i j : Nat) (v : Value), (w.setCell ⟨C, i, none⟩ v).cell? ⟨Z, j, none⟩ = w.cell? ⟨Z, j, none⟩ := fun w i j v => World.cell?_setCell_other _ _ _ _ (by intro e; injection e with e; exact hne e)
  have near : ∀ (w : World) (b i j : Nat) (v : Value), i ≠ j → (w.setCell ⟨b, i, none⟩ v).cell? ⟨b, j, none⟩ = w.cell? ⟨b, j, none⟩ := fun w b i j v h => World.cell?_setCell_other _ _ _ _ (by intro e; injection e with _ e; exact h e)
  have same : ∀ (w : World) (b i : Nat) (u v : Value), w.cell? ⟨b, i, none⟩ = some u → (w.setCell ⟨b, i, none⟩ v).cell? ⟨b, i, none⟩ = some v := fun w b i u v h => World.cell?_setCell_same _ _ _ h
  have e0 := (far w 1 0 V).trans d0
  have e1 := (far w 1 1 V).trans d1
  have g1 := (near (w.setCell ⟨C, 1, none⟩ V) Z 0 1 a0 (by decide)).trans e1
  refine ⟨c1, Lib.frozen_of_heap hC 1, (near _ _ _ _ _ (by decide)).trans c0, same _ _ _ _ _ c1, e0, by rw [World.frozen?_setCell]; exact Lib.frozen_of_heap hZ 0, g1, by rw [World.frozen?_setCell, World.frozen?_setCell]; exact Lib.frozen_of_heap hZ 1, ?_, same _ _ _ _ _ g1⟩
  rw [near _ _ _ _ _ (by decide)]
  exact same _ _ _ _ _ e0
def withPhi (C : Nat) (iv xv : Value) (x : It) (pv lv : Value) (n m : Nat) (cs : List Value) (k : Nat) (v : Value) (W : World) : Prop :=
  match k with
  | 0 => v = .pointer (some ⟨C, 1, none⟩)
  | 1 => v = iv
  | 2 => OwnR n W v m cs
  | 3 => v = xv
  | 4 => ∃ b, v = .slice (some ⟨b, 0, none⟩) 1 1 ∧ W.heap[b]? = some (.cells (x.cells pv lv).toArray 31 (0, 0))
  | _ => True
set_option maxRecDepth 100000 in
set_option maxHeartbeats 4000000 in
theorem with_any (ver : Int) (iv : Value) (k : Nat) (cs : List Value) (x : It) (pv lv : Value) (w : World) (h : Lies w iv k cs) (hf : iv = .slice none 0 0 ∨ ∃ a n c, iv = .slice (some a) n c) (hx : ItOk w x pv lv) (hl : k ≤ 1000) :
    Makes 9 #[cardV ver iv, x.val pv lv] w (fun v w' => ∃ u, v = cardV ver u ∧ OwnR (w.heap.size + 1) w' u (k + 1) (cs ++ x.cells pv lv)) := by
  have hcl := clone_items iv k cs w h hf (by omega)
  have HCL := hid hcl
  have HX := hid hx
  obtain ⟨pa, pc, rfl⟩ := hx.pv
  obtain ⟨la, lc, rfl⟩ := hx.lv
  obtain ⟨ia, ic, rfl⟩ := h.form
  obtain ⟨i0, hi, hz0, hz1, hz2⟩ := info_parts infoItem
  clear hcl hx h hf
  unfold cardV
  go_enter Tryz.func9, Tryz.ntmps9
  go_wp2_with fail
  generalize hw5 : ((World.alloc (World.alloc (World.alloc _ _) _) _)) = w5
  have GW5 : Hid (G w w5) := hid (by rw [← hw5]; exact (((G.refl w).alloc _).alloc _).alloc _)
  have HBX := hid (show w5.heap[w.heap.size]? = some (.cells #[.int .i64 ver, .slice ia k ic] 35 (0, 0)) by rw [← hw5, Lib.alloc_old _ _ _ (by simp; omega), Lib.alloc_old _ _ _ (by simp)]; exact heap_alloc_new w _)
  have HIX := hid (show w5.heap[w.heap.size + 1]? = some (.cells (x.cells (.slice pa x.ps.length pc) (.slice la x.v.ps.length lc)).toArray 31 (0, 0)) by rw [← hw5, Lib.alloc_old _ _ _ (by simp)]; have := heap_alloc_new (w.alloc (.cells #[.int .i64 ver, .slice ia k ic] 35)) (.cells (x.cells (.slice pa x.ps.length pc) (.slice la x.v.ps.length lc)).toArray 31); simpa [It.cells] using this)
  have HZX := hid (show w5.heap[w.heap.size + 1 + 1]? = some (.cells #[.int .i64 0, .slice none 0 0] 35 (0, 0)) by
    rw [← hw5]
    have := heap_alloc_new ((w.alloc (.cells #[.int .i64 ver, .slice ia k ic] 35)).alloc (.cells (x.cells (.slice pa x.ps.length pc) (.slice la x.v.ps.length lc)).toArray 31)) (.cells #[.int .i64 0, .slice none 0 0] 35)
    simpa [It.cells] using this)
  clear hw5
  refine wp_region_any (by kernel_rfl) ?_
  refine wpAny_gentle (E := #[false, false, false, false, false, false, false, false]) G 5 (withPhi w.heap.size (.slice ia k ic) (x.val (.slice pa x.ps.length pc) (.slice la x.v.ps.length lc)) x (.slice pa x.ps.length pc) (.slice la x.v.ps.length lc) w5.heap.size k cs) [some [], some [(0, 5)], some [(1, 6)], some [], some [(3, 8)], none, none, none] [(0, 5), (1, 6), (2, 7), (3, 8), (4, 9)] _ (by kernel_rfl) (by decide) (by kernel_rfl) (by kernel_rfl) rfl G.refl (fun _ _ _ => G.trans) (w0 := w5) ((G.refl w5).drew) ?_ ?_ ?_
  · intro i v W W' g h
    match i, h with
    | 0, h => exact h
    | 1, h => exact h
    | 2, h => exact OwnR.grow h g
    | 3, h => exact h
    | 4, ⟨b, e, h⟩ => exact ⟨b, e, (g.below.block b (Array.getElem?_eq_some_iff.1 h).1).trans h⟩
    | n + 5, h => trivial
  · refine ⟨fun vals W g d => ?_, ⟨fun vals W g d => ?_, ⟨fun vals W g d => ?_, ⟨fun vals W g d => ?_, ⟨fun vals W g d => ?_, trivial⟩⟩⟩⟩⟩
    · refine gOp_one rfl rfl rfl fun K hK => ?_
      simp only [gFr] at hK ⊢
      go_simp
      exact hK _ _ (G.refl _) rfl
    · refine gOp_one rfl rfl rfl fun K hK => ?_
      obtain ⟨d0, _⟩ := d
      change vals 0 = _ at d0
      simp only [gFr, d0] at hK ⊢
      have c1 : W.cell? ⟨w.heap.size, 1, none⟩ = some (.slice ia k ic) := by rw [g.cell (World.block_lt_of_cell? _ _ (by rw [cell_of_row w5 w.heap.size 1 _ _ _ HBX.out]; rfl)), cell_of_row w5 w.heap.size 1 _ _ _ HBX.out]; rfl
      go_simp
      exact hK _ _ (G.refl _) rfl
    · refine gOp_one rfl rfl rfl fun K hK => ?_
      obtain ⟨d1, _⟩ := d
      change vals 1 = _ at d1
      simp only [gFr, d1] at hK ⊢
      go_simp
      refine (HCL.out W (GW5.out.trans g) w5.heap.size g.size).mono ?_
      rintro e W' ⟨u, rfl, ho, hg⟩
      exact hK u W' hg ho
    · refine gOp_one rfl rfl rfl fun K hK => ?_
      simp only [gFr] at hK ⊢
      obtain ⟨k0, k1, k2, k3, k4, k5, k6, k7, k8, k9, k10, k11, k12, k13, k14⟩ := (ItAt.e (ItAt.grow ⟨fun j u hu => by rw [Nat.zero_add, cell_of_row w5 (w.heap.size + 1) j _ _ _ HIX.out]; simpa using hu, HX.out.grow GW5.out⟩ (Array.getElem?_eq_some_iff.1 HIX.out).1 g) : _)
      go_simp
      exact hK _ _ (G.refl _) rfl
    · refine gOp_one rfl rfl rfl fun K hK => ?_
      obtain ⟨d3, _⟩ := d
      change vals 3 = _ at d3
      simp only [gFr, d3] at hK ⊢
      go_simp
      exact hK _ _ ((G.refl _).alloc _) ⟨W.heap.size, rfl, heap_alloc_new W _⟩
  · intro vals W g d
    obtain ⟨d0, d1, d2, d3, ⟨b, d4, d5⟩, _⟩ := d
    change vals 0 = _ at d0
    change vals 1 = _ at d1
    change OwnR w5.heap.size W (vals 2) k cs at d2
    change vals 3 = _ at d3
    have GW := hid (GW5.out.trans g)
    have BC := hid ((g.below.block _ (Array.getElem?_eq_some_iff.1 HBX.out).1).trans HBX.out)
    have BZ := hid ((g.below.block _ (Array.getElem?_eq_some_iff.1 HZX.out).1).trans HZX.out)
    have hCZ : w.heap.size + 1 + 1 < w5.heap.size := (Array.getElem?_eq_some_iff.1 HZX.out).1
    have hgz := g.size
    have GG := hid g
    have R2 := hid d2
    show wpList _ _ _ [_, _, _] _ _
    simp only [gFr, d0, d1, d3, d4]
    clear d2 d0 d1 d3 d4
    go_wp2_with (at_builtin; (refine wpList_append_own _ rfl _ _ 33 rfl w5.heap.size 31 i0 _ 15 176 Tryz.underlying33 hi hz0 hz1 hz2 rfl (by decide) _ _ _ rfl R2.out ⟨b, 0, none⟩ 1 1 (x.cells (.slice pa x.ps.length pc) (.slice la x.v.ps.length lc)) rfl rfl (fun j u hu => by rw [addr_add, Nat.zero_add, cell_of_row W b j _ _ _ d5]; simpa using hu) HX.out.one (by unfold maxLen; omega) (by omega) hgz ?_; intro v' w1 hown' hgrow hnil; obtain ⟨⟨b', cap', rfl⟩, hB⟩ := OwnR.snoc R2.out GG.out.below hgz hgrow hown'; have hO := hown'; clear hown' hgrow hnil; have B1C := hid ((hB.block _ (Array.getElem?_eq_some_iff.1 HBX.out).1).trans HBX.out); have B1Z := hid ((hB.block _ (Array.getElem?_eq_some_iff.1 HZX.out).1).trans HZX.out); have HO := hid hO; have HB := hid hB; clear hO hB d5 hCZ; clear BC BZ GG R2 HIX; obtain ⟨c1, f1, t0, t1, z0, y0, z1, y1, r0, r1⟩ := two_boxes (show w.heap.size ≠ w.heap.size + 1 + 1 by omega) B1C.out B1Z.out (.slice (some ⟨b', 0, none⟩) (k + 1) cap')))
    have hW : G w (((w1.setCell ⟨w.heap.size, 1, none⟩ (.slice (some ⟨b', 0, none⟩) (k + 1) cap')).setCell ⟨w.heap.size + 1 + 1, 0, none⟩ (.int .i64 ver)).setCell ⟨w.heap.size + 1 + 1, 1, none⟩ (.slice (some ⟨b', 0, none⟩) (k + 1) cap')) := by
      refine Below.setCell (Below.setCell (Below.setCell (GW5.out.below.trans (HB.out.mono GW5.out.size)) ?_ _) ?_ _) ?_ _ <;> simp only <;> omega
    have hZ : w.heap.size + 1 + 1 < w5.heap.size := (Array.getElem?_eq_some_iff.1 HZX.out).1
    refine bodyPost_ret (v := cardV ver (.slice (some ⟨b', 0, none⟩) (k + 1) cap')) ?_ rfl ⟨_, rfl, ⟨_, rfl, ownsRow_mono (OwnR.same HO.out fun b hb _ => ?_) (by omega)⟩, hW⟩
    · unfold cardV
      simp only [results, Tryz.f9]
      go_simp
    · rw [Below.heap_setCell _ _ _ _ (by simp only; omega), Below.heap_setCell _ _ _ _ (by simp only; omega), Below.heap_setCell _ _ _ _ (by simp only; omega)]
end Go.Proofs.YtdmbhoagjjkogaaGreatDoor

namespace Go.Proofs.YtdmbhoagjjkogaaGreatDoor
open Go.RowKit
set_option linter.unusedVariables false
set_option linter.unusedSimpArgs false
theorem Wo.mv {B : Nat} {a b : World} (h : a.grownBy b (some B)) : G (Wo B a) (Wo B b) := by
  refine ⟨h.os, h.tape, h.output, by rw [Wo.size, Wo.size]; exact h.size, fun k hk => ?_⟩
  rw [Wo.size] at hk
  by_cases e : k = B
  · subst e
    have hk' := Nat.lt_of_lt_of_le hk h.size
    unfold Wo
    simp [hk, hk']
  · rw [Wo.other B _ _ e, Wo.other B _ _ e]
    exact h.block k hk (fun e2 => e (Option.some.inj e2))
def EX (w0 : World) (D cap : Nat) (xs : List It) (f : Nat → World → World) (W : World) : Prop :=
  ∃ cur, BR w0 D 31 cur W ∧ cur.length = cap * 15 ∧ xs.length ≤ cap ∧ ∀ (i : Nat) (x : It), xs[i]? = some x → ∃ pv lv, ItOk (f i W) x pv lv ∧ ∀ (j : Nat) (u : Value), (x.cells pv lv)[j]? = some u → cur[i * 15 + j]? = some u
section
variable {w0 W W' : World} {D cap : Nat} {xs : List It} {f : Nat → World → World}
theorem EX.mv (h : EX w0 D cap xs f W) : w0.grownBy W (some D) := by obtain ⟨cur, h1, _⟩ := h; exact h1.mv
theorem EX.lt (h : EX w0 D cap xs f W) : D < W.heap.size := by obtain ⟨cur, h1, _⟩ := h; exact h1.lt
theorem EX.fz (h : EX w0 D cap xs f W) (j : Nat) : W.frozen? ⟨D, j, none⟩ = false := by obtain ⟨cur, h1, _⟩ := h; exact h1.fz j
theorem EX.at_ (h : EX w0 D cap xs f W) {i : Nat} {x : It} (hx : xs[i]? = some x) : ∃ pv lv, ItOk (f i W) x pv lv ∧ ∀ (j : Nat) (u : Value), (x.cells pv lv)[j]? = some u → W.cell? ⟨D, i * 15 + j, none⟩ = some u := by
  obtain ⟨cur, h1, h2, h3, h4⟩ := h
  obtain ⟨pv, lv, k1, k2⟩ := h4 i x hx
  exact ⟨pv, lv, k1, fun j u hu => h1.cell (k2 j u hu)⟩
theorem EX.turn (h : EX w0 D cap xs f W) {f' : Nat → World → World} (hm : w0.grownBy W' (some D)) (hD : W'.heap[D]? = W.heap[D]?) (hf : ∀ (i : Nat) (x : It) (pv lv : Value), xs[i]? = some x → (∀ (j : Nat) (u : Value), (x.cells pv lv)[j]? = some u → W.cell? ⟨D, i * 15 + j, none⟩ = some u) → ItOk (f i W) x pv lv → ItOk (f' i W') x pv lv) : EX w0 D cap xs f' W' := by
  obtain ⟨cur, h1, h2, h3, h4⟩ := h
  refine ⟨cur, ⟨hm, hD.trans h1.b⟩, h2, h3, fun i x hx => ?_⟩
  obtain ⟨pv, lv, k1, k2⟩ := h4 i x hx
  exact ⟨pv, lv, hf i x pv lv hx (fun j u hu => h1.cell (k2 j u hu)) k1, k2⟩
theorem EX.grow (h : EX w0 D cap xs f W) (hfm : ∀ i a b, G a b → G (f i a) (f i b)) (g : G W W') : EX w0 D cap xs f W' :=
  h.turn (mv_g h.mv g) (g.below.block _ h.lt) fun i x pv lv _ _ hk => hk.grow (hfm i _ _ g)
theorem EX.set (h : EX w0 D cap xs f W) {i : Nat} {x : It} (hx : xs[i]? = some x) {pv lv : Value} (hc : ∀ (j : Nat) (u : Value), (x.cells pv lv)[j]? = some u → W.cell? ⟨D, i * 15 + j, none⟩ = some u) {f' : Nat → World → World} (ps' : List Pm) (pv' : Value) (hok : ItOk (f' i (W.setCell ⟨D, i * 15 + 2, none⟩ pv')) { x with ps := ps' } pv' lv)
    (hf : ∀ (j : Nat) (y : It) (qv mv : Value), xs[j]? = some y → j ≠ i → ItOk (f j W) y qv mv → ItOk (f' j (W.setCell ⟨D, i * 15 + 2, none⟩ pv')) y qv mv) : EX w0 D cap (xs.set i { x with ps := ps' }) f' (W.setCell ⟨D, i * 15 + 2, none⟩ pv') := by
  obtain ⟨cur, h1, h2, h3, h4⟩ := h
  refine ⟨cur.set (i * 15 + 2) pv', h1.set _ _, by simpa using h2, by simpa using h3, fun j y hy => ?_⟩
  rw [List.getElem?_set] at hy
  by_cases e : i = j
  · subst e
    rw [if_pos rfl] at hy
    split at hy
    · cases hy
      refine ⟨pv', lv, hok, fun k u hu => ?_⟩
      rw [List.getElem?_set]
      have hk : k < 15 := by
        have := (List.getElem?_eq_some_iff.1 hu).1
        exact this
      have hi := (List.getElem?_eq_some_iff.1 hx).1
      by_cases e2 : k = 2
      · subst e2
        rw [if_pos rfl, if_pos (by rw [h2]; have := Nat.mul_le_mul_right 15 (show i + 1 ≤ cap by omega); omega)]
        exact hu
      · rw [if_neg (by omega)]
        have h5 : (x.cells pv lv)[k]? = some u := by
          rw [← hu]
          match k, hk, e2 with
          | 0, _, _ => rfl | 1, _, _ => rfl | 2, _, e2 => exact absurd rfl e2
          | 3, _, _ => rfl | 4, _, _ => rfl | 5, _, _ => rfl | 6, _, _ => rfl | 7, _, _ => rfl | 8, _, _ => rfl | 9, _, _ => rfl | 10, _, _ => rfl | 11, _, _ => rfl | 12, _, _ => rfl | 13, _, _ => rfl | 14, _, _ => rfl
        have h6 := hc k u h5
        rw [cell_of_row W D (i * 15 + k) _ _ _ h1.b] at h6
        simpa using h6
    · cases hy
  · rw [if_neg e] at hy
    obtain ⟨qv, mv, k1, k2⟩ := h4 j y hy
    refine ⟨qv, mv, hf j y qv mv hy (fun e2 => e e2.symm) k1, fun k u hu => ?_⟩
    have hk : k < 15 := (List.getElem?_eq_some_iff.1 hu).1
    rw [List.getElem?_set, if_neg (by omega)]
    exact k2 k u hu
theorem EX.items (h : EX w0 D cap xs f W) (hs : ∀ i, Sub (f i W) W) : IsItems W (.slice (some ⟨D, 0, none⟩) xs.length cap) xs := by
  obtain ⟨cur, h1, h2, h3, h4⟩ := h
  refine ⟨_, _, rfl, h3, fun _ => ⟨D, 0, rfl, h1.lt, fun i x hx => ?_⟩⟩
  obtain ⟨pv, lv, k1, k2⟩ := h4 i x hx
  exact ⟨pv, lv, ⟨fun j u hu => by rw [Nat.zero_add]; exact h1.cell (k2 j u hu), k1.sub (hs i)⟩⟩
theorem EX.start {v0 : World} {base n : Nat} {cs : List Value} (h : OwnR base W (.slice (some ⟨D, 0, none⟩) n cap) n cs) (hr : ItRow v0 xs cs) (hn : xs.length = n) (g : G v0 W) (hD : v0.heap.size ≤ D) : EX W D cap xs (fun _ => Wo D) W := by
  rcases h.2 with ⟨e, _⟩ | ⟨b, c, cur, e, hb, hg, h1, h2, h3, h4⟩
  · cases e
  · cases e
    refine ⟨cur.toList, ⟨mv_refl _ _, by simpa using hg⟩, by rw [Array.length_toList]; exact h3, by omega, fun i x hx => ?_⟩
    obtain ⟨pv, lv, k1, k2⟩ := hr.at_ i x hx
    refine ⟨pv, lv, k1.grow (Wo.of g hD), fun j u hu => ?_⟩
    have := k2 j u hu
    rw [← h4, List.getElem?_take] at this
    split at this
    · exact this
    · cases this
end
end Go.Proofs.YtdmbhoagjjkogaaGreatDoor
