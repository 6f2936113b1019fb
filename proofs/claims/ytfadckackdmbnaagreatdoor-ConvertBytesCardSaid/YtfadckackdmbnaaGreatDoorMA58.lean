/-
  Texts merged into one: ItemsRow, Sub, Holds, ValPlain, ValSpec.
-/
import Derived.Test.YtfadckackdmbnaaGreatDoorMA62
import Derived.Deep.OwnRows
import Derived.Deep.Slices
import Derived.OwnWalk
import Derived.Lib.SliceRun
import Derived.Laws.Cover3
import Derived.Laws.AppendOwn
import Derived.Test.YtfadckackdmbnaaGreatDoorMUtf
import Derived.Test.YtfadckackdmbnaaGreatDoorMA63
import Derived.Test.YtfadckackdmbnaaGreatDoorMA45
import Derived.Test.YtfadckackdmbnaaGreatDoorMA49
import Derived.Test.YtfadckackdmbnaaGreatDoorMLaws
namespace Go.Proofs.YtfadckackdmbnaaGreatDoor
open Go.RowKit
set_option linter.unusedVariables false
set_option linter.unusedSimpArgs false
theorem addr_add (b o j : Nat) : (⟨b, o, none⟩ : Addr).add j = ⟨b, o + j, none⟩ := by unfold Addr.add; split <;> simp_all
theorem ItOk.one {w : World} {x : It} {pv lv : Value} (h : ItOk w x pv lv) : ∀ u ∈ x.cells pv lv, u.oneCell' = true := by
  obtain ⟨a, c, rfl⟩ := h.pv
  obtain ⟨a', c', rfl⟩ := h.lv
  intro u hu
  simp only [It.cells, List.mem_cons, List.mem_nil_iff, or_false] at hu
  rcases hu with rfl | rfl | rfl | rfl | rfl | rfl | rfl | rfl | rfl | rfl | rfl | rfl | rfl | rfl | rfl <;> rfl
def ItRow (w : World) : List It → List Value → Prop
  | [], cs => cs = []
  | x :: xs, cs => ∃ pv lv ds, cs = x.cells pv lv ++ ds ∧ ItOk w x pv lv ∧ ItRow w xs ds
theorem ItRow.grow {w w' : World} (g : G w w') : ∀ {xs : List It} {cs : List Value}, ItRow w xs cs → ItRow w' xs cs
  | [], _, h => h
  | x :: xs, _, ⟨pv, lv, ds, e, h1, h2⟩ => ⟨pv, lv, ds, e, h1.grow g, h2.grow g⟩
theorem ItRow.len {w : World} : ∀ {xs : List It} {cs : List Value}, ItRow w xs cs → cs.length = xs.length * 15
  | [], _, h => by rw [show _ = ([] : List Value) from h]; rfl
  | x :: xs, _, ⟨pv, lv, ds, e, h1, h2⟩ => by rw [e, List.length_append, h2.len]; simp [It.cells]; omega
theorem ItRow.one {w : World} : ∀ {xs : List It} {cs : List Value}, ItRow w xs cs → ∀ u ∈ cs, u.oneCell' = true
  | [], _, h, u, hu => by rw [show _ = ([] : List Value) from h] at hu; cases hu
  | x :: xs, _, ⟨pv, lv, ds, e, h1, h2⟩, u, hu => by
    rw [e] at hu
    rcases List.mem_append.1 hu with hu | hu
    · exact h1.one u hu
    · exact h2.one u hu
theorem ItRow.append {w : World} : ∀ {xs ys : List It} {cs ds : List Value}, ItRow w xs cs → ItRow w ys ds → ItRow w (xs ++ ys) (cs ++ ds)
  | [], _, _, _, h, g => by rw [show _ = ([] : List Value) from h]; exact g
  | x :: xs, _, _, _, ⟨pv, lv, es, e, h1, h2⟩, g => ⟨pv, lv, _, by rw [e, List.append_assoc], h1, h2.append g⟩
theorem ItRow.single {w : World} {x : It} {pv lv : Value} (h : ItOk w x pv lv) : ItRow w [x] (x.cells pv lv) := ⟨pv, lv, [], by simp, h, rfl⟩
theorem ItRow.at_ {w : World} : ∀ {xs : List It} {cs : List Value}, ItRow w xs cs → ∀ (i : Nat) (x : It), xs[i]? = some x → ∃ pv lv, ItOk w x pv lv ∧ ∀ (j : Nat) (u : Value), (x.cells pv lv)[j]? = some u → cs[i * 15 + j]? = some u
  | [], _, _, i, x, hx => by simp at hx
  | y :: xs, _, ⟨pv, lv, ds, e, h1, h2⟩, 0, x, hx => by
    simp at hx; subst hx
    refine ⟨pv, lv, h1, fun j u hu => ?_⟩
    rw [e, Nat.zero_mul, Nat.zero_add, List.getElem?_append_left (List.getElem?_eq_some_iff.1 hu).1]
    exact hu
  | y :: xs, _, ⟨pv, lv, ds, e, h1, h2⟩, i + 1, x, hx => by
    obtain ⟨pv', lv', h3, h4⟩ := h2.at_ i x (by simpa using hx)
    refine ⟨pv', lv', h3, fun j u hu => ?_⟩
    have hl : (y.cells pv lv).length = 15 := rfl
    rw [e, List.getElem?_append_right (by rw [hl]; omega), hl]
    have : (i + 1) * 15 + j - 15 = i * 15 + j := by omega
    rw [this]; exact h4 j u hu
theorem items_of_cells {w : World} {b off cap : Nat} {xs : List It} {cs : List Value} (h : ItRow w xs cs) (hb : b < w.heap.size) (hc : ∀ (j : Nat) (u : Value), cs[j]? = some u → w.cell? ⟨b, off + j, none⟩ = some u) (hn : xs.length ≤ cap) : IsItems w (.slice (some ⟨b, off, none⟩) xs.length cap) xs :=
  ⟨_, _, rfl, hn, fun _ => ⟨b, off, rfl, hb, fun i x hx => by
    obtain ⟨pv, lv, h1, h2⟩ := h.at_ i x hx
    exact ⟨pv, lv, fun j u hu => by rw [Nat.add_assoc]; exact hc _ u (h2 j u hu), h1⟩⟩⟩
theorem items_nil (w : World) (a : Option Addr) (c : Nat) : IsItems w (.slice a 0 c) [] := ⟨a, c, rfl, Nat.zero_le _, fun h => absurd rfl h⟩
theorem ownsRow_mono {W : World} {base base' : Nat} {e : TypeId} {size : Nat} {v : Value} {n : Nat} {xs : List Value} (h : W.ownsRow base e size v n xs) (g : base' ≤ base) : W.ownsRow base' e size v n xs := by
  refine ⟨h.1, h.2.imp id ?_⟩
  rintro ⟨b, cap, cur, e1, e2, r⟩
  exact ⟨b, cap, cur, e1, Nat.le_trans g e2, r⟩
def Lies (w : World) (v : Value) (n : Nat) (cs : List Value) : Prop :=
  cs.length = n * 15 ∧ (∀ u ∈ cs, u.oneCell' = true) ∧ ∃ a cap, v = .slice a n cap ∧ n ≤ cap ∧ (n ≠ 0 → ∃ b off, a = some ⟨b, off, none⟩ ∧ b < w.heap.size ∧ ∀ (j : Nat) (u : Value), cs[j]? = some u → w.cell? ⟨b, off + j, none⟩ = some u)
theorem Lies.grow {w w' : World} {v : Value} {n : Nat} {cs : List Value} (h : Lies w v n cs) (g : G w w') : Lies w' v n cs := by
  obtain ⟨h1, h2, a, cap, e, hc, h⟩ := h
  refine ⟨h1, h2, a, cap, e, hc, fun h0 => ?_⟩
  obtain ⟨b, off, e2, hb, h⟩ := h h0
  exact ⟨b, off, e2, Nat.lt_of_lt_of_le hb g.size, fun j u hu => by rw [g.cell hb]; exact h j u hu⟩
theorem Lies.form {w : World} {v : Value} {n : Nat} {cs : List Value} (h : Lies w v n cs) : ∃ a c, v = .slice a n c := by
  obtain ⟨_, _, a, c, e, _⟩ := h
  exact ⟨a, c, e⟩
theorem Lies.items {w : World} {v : Value} {xs : List It} {cs : List Value} (h : Lies w v xs.length cs) (hr : ItRow w xs cs) : IsItems w v xs := by
  obtain ⟨_, _, a, cap, rfl, hc, h⟩ := h
  by_cases h0 : xs = []
  · subst h0; exact items_nil _ _ _
  · obtain ⟨b, off, rfl, hb, h⟩ := h (by cases xs <;> simp_all)
    exact items_of_cells hr hb h hc
abbrev OwnR (n : Nat) (w : World) (v : Value) (k : Nat) (cs : List Value) : Prop := w.ownsRow n 37 15 v k cs
theorem OwnR.lies {n : Nat} {w : World} {v : Value} {k : Nat} {cs : List Value} (h : OwnR n w v k cs) (h1 : ∀ u ∈ cs, u.oneCell' = true) : Lies w v k cs := by
  have hh := h
  refine ⟨h.1, h1, ?_⟩
  rcases h.2 with ⟨rfl, rfl⟩ | ⟨g', cap, cur, rfl, hb, hg, hn, hm, hs, ht⟩
  · exact ⟨_, _, rfl, Nat.le_refl _, fun h => absurd rfl h⟩
  · exact ⟨_, _, rfl, hn, fun _ => ⟨g', 0, rfl, (Array.getElem?_eq_some_iff.1 hg).1, fun j u hu => by rw [← addr_add]; exact World.ownsRow.cells hh (g := g') rfl j u hu⟩⟩
theorem OwnR.same {n : Nat} {w w' : World} {v : Value} {k : Nat} {cs : List Value} (h : OwnR n w v k cs) (g : ∀ b, n ≤ b → b < w.heap.size → w'.heap[b]? = w.heap[b]?) : OwnR n w' v k cs := by
  refine ⟨h.1, ?_⟩
  rcases h.2 with h0 | ⟨g', cap, cur, rfl, hb, hg, r⟩
  · exact .inl h0
  · exact .inr ⟨g', cap, cur, rfl, hb, (g g' hb (Array.getElem?_eq_some_iff.1 hg).1).trans hg, r⟩
theorem OwnR.grow {n : Nat} {w w' : World} {v : Value} {k : Nat} {cs : List Value} (h : OwnR n w v k cs) (g : G w w') : OwnR n w' v k cs := h.same fun b _ hb => g.below.block b hb
theorem OwnR.snoc {n : Nat} {w2 W w1 : World} {v v' : Value} {k : Nat} {cs ds : List Value} (r : OwnR n W v k cs) (g : Below n w2 W) (hn : n ≤ W.heap.size) (hgrow : W.grownBy w1 v.ownBlock) (h : OwnR n w1 v' (k + 1) ds) :
    (∃ b cap, v' = .slice (some ⟨b, 0, none⟩) (k + 1) cap) ∧ Below n w2 w1 := by
  refine ⟨?_, Below.grown g hgrow hn fun j hj => (r.lt j hj).1⟩
  rcases h.2 with ⟨_, h0⟩ | ⟨b, cap, cur, e, _⟩
  · omega
  · exact ⟨b, cap, e⟩
theorem IsItems.cells {w : World} {v : Value} {xs : List It} (h : IsItems w v xs) (h0 : xs ≠ []) : ∃ (b off cap : Nat) (cs : List Value), v = .slice (some ⟨b, off, none⟩) xs.length cap ∧ b < w.heap.size ∧ ItRow w xs cs ∧ ∀ (j : Nat) (u : Value), cs[j]? = some u → w.cell? ⟨b, off + j, none⟩ = some u := by
  obtain ⟨a, cap, rfl, hc, h⟩ := h
  obtain ⟨b, off, rfl, hb, h⟩ := h h0
  refine ⟨b, off, cap, ?_⟩
  have key : ∀ (ys : List It) (o : Nat), (∀ (i : Nat) (x : It), ys[i]? = some x → ∃ pv lv, ItAt w b (o + i * 15) x pv lv) → ∃ cs, ItRow w ys cs ∧ ∀ (j : Nat) (u : Value), cs[j]? = some u → w.cell? ⟨b, o + j, none⟩ = some u := by
    intro ys
    induction ys with
    | nil => intro o _; exact ⟨[], rfl, by simp⟩
    | cons y ys ih =>
      intro o hy
      obtain ⟨pv, lv, h1⟩ := hy 0 y rfl
      obtain ⟨ds, h2, h3⟩ := ih (o + 15) (fun i x hx => by
        obtain ⟨p, l, h4⟩ := hy (i + 1) x (by simpa using hx)
        exact ⟨p, l, by have e : o + (i + 1) * 15 = o + 15 + i * 15 := by omega
                        rw [e] at h4; exact h4⟩)
      refine ⟨y.cells pv lv ++ ds, ⟨pv, lv, ds, rfl, h1.ok, h2⟩, fun j u hu => ?_⟩
      have hl : (y.cells pv lv).length = 15 := rfl
      rcases Nat.lt_or_ge j 15 with hj | hj
      · rw [List.getElem?_append_left (by omega)] at hu
        have := h1.c j u hu
        rw [Nat.zero_mul, Nat.add_zero] at this
        exact this
      · rw [List.getElem?_append_right (by omega), hl] at hu
        have := h3 _ u hu
        have e : o + 15 + (j - 15) = o + j := by omega
        rw [e] at this; exact this
  obtain ⟨cs, h1, h2⟩ := key xs off h
  exact ⟨cs, rfl, hb, h1, h2⟩
theorem IsItems.lies {w : World} {v : Value} {xs : List It} (h : IsItems w v xs) : ∃ cs, Lies w v xs.length cs ∧ ItRow w xs cs := by
  by_cases h0 : xs = []
  · subst h0
    obtain ⟨a, c, e, hc, _⟩ := h
    exact ⟨[], ⟨rfl, by simp, a, c, e, hc, fun h => absurd rfl h⟩, rfl⟩
  · obtain ⟨b, off, cap, cs, rfl, hb, hr, hc⟩ := h.cells h0
    obtain ⟨a, c, e, hcap, _⟩ := h
    cases e
    exact ⟨cs, ⟨hr.len, hr.one, _, _, rfl, hcap, fun _ => ⟨b, off, rfl, hb, hc⟩⟩, hr⟩
theorem infoItem : (Tryz.prog.info? 37).map (fun i => (i.zero, i.size, i.bytes)) = some (some (.agg #[.string ⟨#[]⟩, .string ⟨#[]⟩, .slice none 0 0, .int .i64 0, .string ⟨#[]⟩, .slice none 0 0, .int .i64 0, .int .i64 0, .int .i64 0, .int .i64 0, .int .i64 0, .int .i64 0, .bool false, .int .i64 0, .int .i64 0]), 15, 176) := by kernel_rfl
set_option maxRecDepth 100000 in
set_option maxHeartbeats 1000000 in
theorem clone_items (v : Value) (k : Nat) (cs : List Value) (w0 : World) (hP : Lies w0 v k cs) (hf : v = .slice none 0 0 ∨ ∃ a n c, v = .slice (some a) n c) (hl : k ≤ 100000) (w : World) (gw : G w0 w) (b0 : Nat) (hb0 : b0 ≤ w.heap.size) :
    Calls Tryz.prog 50 #[v] w fun e w' => ∃ u, e = .returned u ∧ OwnR b0 w' u k cs ∧ G w w' := by
  obtain ⟨i0, hi, hz0, hz1, hz2⟩ := info_parts infoItem
  have heq := fun W a n c => Lib.run_eql_slice_nil (P := Tryz.prog) W 25 37 a n c 0 0 Tryz.underlying25
  obtain ⟨hnl, hone, a', cap, rfl, hcap, hP⟩ := hP
  by_cases h0 : k = 0
  · subst h0
    obtain rfl : cs = [] := List.eq_nil_of_length_eq_zero (by simpa using hnl)
    have GW := hid gw
    clear gw
    rcases hf with hf | ⟨a, n, c, hf⟩
    · cases hf
      go_enter Tryz.func50, Tryz.ntmps50
      go_wp2_with fail
      go_ret
      exact ⟨_, rfl, World.ownsRow_nil _ _ _ _, (by repeat (first | exact G.refl _ | assumption | apply G.drew | apply G.drewN | apply G.alloc | refine G.trans ?_ (by assumption)))⟩
    · cases hf
      go_enter Tryz.func50, Tryz.ntmps50
      go_wp2_with fail
      go_ret
      exact ⟨_, rfl, World.ownsRow_made w #[] 0 hb0 (by unfold maxLen; omega) rfl, (by repeat (first | exact G.refl _ | assumption | apply G.drew | apply G.drewN | apply G.alloc | refine G.trans ?_ (by assumption)))⟩
  · obtain ⟨b, off, rfl, hb, hc⟩ := hP h0
    have HCC := hid (fun (j : Nat) (u : Value) (hu : cs[j]? = some u) => show (w.alloc (.cells #[] 37)).cell? ((⟨b, off, none⟩ : Addr).add j) = some u by rw [addr_add, (gw.alloc _).cell (p := ⟨b, off + j, none⟩) hb]; exact hc j u hu)
    have HN := hid hnl
    have HONE := hid hone
    have hown0 : (w.alloc (.cells #[] 37)).ownsRow w.heap.size 37 15 (.slice (some ⟨w.heap.size, 0, none⟩) 0 0) 0 [] := World.ownsRow_made w #[] 0 (Nat.le_refl _) (by unfold maxLen; omega) rfl
    have HOWN := hid hown0
    have GW := hid gw
    clear hc hnl hone hown0 hP hf hb gw
    go_enter Tryz.func50, Tryz.ntmps50
    go_wp2_with (at_builtin; refine wpList_append_own _ rfl _ _ 25 rfl w.heap.size 37 i0 _ 15 176 Tryz.underlying25 hi hz0 hz1 hz2 rfl (by decide) _ _ _ rfl HOWN.out ⟨b, off, none⟩ k cap cs rfl HN.out HCC.out HONE.out (by unfold maxLen; omega) (by omega) (by simp) ?_; intro v' w1 hown' hgrow _)
    go_ret
    have hgrow' : (w.alloc (.cells #[] 37)).grownBy w1 (some w.heap.size) := hgrow
    have hG : G w w1 := Below.grown ((Below.refl w.heap.size w).alloc (Nat.le_refl _) (.cells #[] 37)) hgrow' (by simp) (fun j hj => by cases hj; exact Nat.le_refl _)
    exact ⟨_, rfl, ownsRow_mono (by simpa using hown') hb0, hG⟩
end Go.Proofs.YtfadckackdmbnaaGreatDoor

namespace Go.Proofs.YtfadckackdmbnaaGreatDoor
open Go.RowKit
set_option linter.unusedVariables false
set_option linter.unusedSimpArgs false
structure Sub (w w' : World) : Prop where
  size : w.heap.size ≤ w'.heap.size
  cell : ∀ p u, w.cell? p = some u → w'.cell? p = some u
theorem IsRow.sub {w w' : World} {e n : Nat} {v : Value} {cs : List Value} (h : IsRow e w v n cs) (g : Sub w w') : IsRow e w' v n cs := by
  obtain ⟨h1, h2, h3⟩ := h
  refine ⟨h1, h2, ?_⟩
  rcases h3 with h3 | ⟨b, off, cap, e, hb, hn, hc⟩
  · exact .inl h3
  · exact .inr ⟨b, off, cap, e, Nat.lt_of_lt_of_le hb g.size, hn, fun j hj => g.cell _ _ (hc j hj)⟩
theorem IsStrs.sub {w w' : World} {v : Value} {ls : List (List UInt8)} (h : IsStrs w v ls) (g : Sub w w') : IsStrs w' v ls := ⟨h.1.sub g, h.2⟩
theorem IsLists.sub {w w' : World} {v : Value} {ls : List (List (List UInt8))} (h : IsLists w v ls) (g : Sub w w') : IsLists w' v ls := by
  obtain ⟨cells, h1, h2, h3⟩ := h
  refine ⟨cells, h1.sub g, h2, fun i l hl => ?_⟩
  obtain ⟨sv, h4, h5⟩ := h3 i l hl
  exact ⟨sv, h4, h5.sub g⟩
theorem IsParams.sub {w w' : World} {v : Value} {ps : List Pm} (h : IsParams w v ps) (g : Sub w w') : IsParams w' v ps := by
  obtain ⟨a, cap, e, hc, h⟩ := h
  refine ⟨a, cap, e, hc, fun h0 => ?_⟩
  obtain ⟨b, off, e2, hb, h⟩ := h h0
  refine ⟨b, off, e2, Nat.lt_of_lt_of_le hb g.size, fun i p hp => ?_⟩
  obtain ⟨sv, h1, h2, h3⟩ := h i p hp
  exact ⟨sv, g.cell _ _ h1, g.cell _ _ h2, h3.sub g⟩
theorem ItOk.sub {w w' : World} {x : It} {pv lv : Value} (h : ItOk w x pv lv) (g : Sub w w') : ItOk w' x pv lv := ⟨h.p.sub g, h.l.sub g, h.f, h.y, h.t⟩
theorem ItRow.sub {w w' : World} (g : Sub w w') : ∀ {xs : List It} {cs : List Value}, ItRow w xs cs → ItRow w' xs cs
  | [], _, h => h
  | x :: xs, _, ⟨pv, lv, ds, e, h1, h2⟩ => ⟨pv, lv, ds, e, h1.sub g, h2.sub g⟩
theorem Lies.sub {w w' : World} {v : Value} {n : Nat} {cs : List Value} (h : Lies w v n cs) (g : Sub w w') : Lies w' v n cs := by
  obtain ⟨h1, h2, a, cap, e, hc, h⟩ := h
  refine ⟨h1, h2, a, cap, e, hc, fun h0 => ?_⟩
  obtain ⟨b, off, e2, hb, h⟩ := h h0
  exact ⟨b, off, e2, Nat.lt_of_lt_of_le hb g.size, fun j u hu => g.cell _ _ (h j u hu)⟩
theorem IsItems.sub0 {w w' : World} {v : Value} {xs : List It} (h : IsItems w v xs) (g : Sub w w') : IsItems w' v xs := by
  obtain ⟨cs, h1, h2⟩ := h.lies
  exact (h1.sub g).items (h2.sub g)
def Wo (C : Nat) (w : World) : World := { w with heap := w.heap.setIfInBounds C (.cells #[] 0 (0, 0)) }
theorem Wo.size (C : Nat) (w : World) : (Wo C w).heap.size = w.heap.size := by simp [Wo]
theorem Wo.other (C : Nat) (w : World) (b : Nat) (h : b ≠ C) : (Wo C w).heap[b]? = w.heap[b]? := by
  unfold Wo
  simp only [Array.getElem?_setIfInBounds]
  rw [if_neg (fun e => h e.symm)]
theorem Wo.cell (C : Nat) (w : World) (p : Addr) (u : Value) (h : (Wo C w).cell? p = some u) : w.cell? p = some u := by
  by_cases hb : p.block = C
  · unfold World.cell? at h
    by_cases hl : C < w.heap.size
    · have : (Wo C w).heap[p.block]? = some (.cells #[] 0 (0, 0)) := by rw [hb]; unfold Wo; simp [hl]
      rw [this] at h
      simp at h
    · have : (Wo C w).heap[p.block]? = none := by rw [hb]; exact Array.getElem?_eq_none (by rw [Wo.size]; omega)
      rw [this] at h
      simp at h
  · rw [← World.cell?_of_block (w := w) (w' := Wo C w) (Wo.other C w _ hb)]
    exact h
theorem Wo.sub (C : Nat) (w : World) : Sub (Wo C w) w := ⟨by rw [Wo.size]; exact Nat.le_refl _, Wo.cell C w⟩
theorem Wo.set (C : Nat) (w : World) (i : Nat) (v : Value) : Wo C (w.setCell ⟨C, i, none⟩ v) = Wo C w := by
  unfold Wo World.setCell
  congr 1
  apply Array.ext_getElem?
  intro j
  simp only [Array.getElem?_setIfInBounds, Array.getElem?_modify, Array.size_modify]
  split
  · rfl
  · rfl
theorem Wo.g {C : Nat} {w w' : World} (h : G w w') : G (Wo C w) (Wo C w') := by
  have hb := h.below
  refine ⟨hb.os, hb.tape, hb.output, by rw [Wo.size, Wo.size]; exact h.size, fun b hl => ?_⟩
  rw [Wo.size] at hl
  by_cases hC : b = C
  · subst hC
    have hl' := Nat.lt_of_lt_of_le hl h.size
    unfold Wo
    simp [hl, hl']
  · rw [Wo.other C _ _ hC, Wo.other C _ _ hC]
    exact hb.block b hl
theorem Wo.of {C : Nat} {w w' : World} (h : G w w') (hC : w.heap.size ≤ C) : G w (Wo C w') := by
  have hb := h.below
  refine ⟨hb.os, hb.tape, hb.output, by rw [Wo.size]; exact h.size, fun b hl => ?_⟩
  rw [Wo.other C _ _ (by omega)]
  exact hb.block b hl
theorem OwnR.wo {C n : Nat} {w : World} {v : Value} {k : Nat} {cs : List Value} (h : OwnR n w v k cs) (hC : C < n) : OwnR n (Wo C w) v k cs := h.same fun b hb _ => Wo.other C w b (by omega)
end Go.Proofs.YtfadckackdmbnaaGreatDoor

namespace Go.Proofs.YtfadckackdmbnaaGreatDoor
open Go.RowKit
set_option linter.unusedVariables false
set_option linter.unusedSimpArgs false
set_option maxRecDepth 100000 in
set_option maxHeartbeats 1000000 in
theorem holds_any (s : List UInt8) (lines : Bool) (w : World) (hs : s.length ≤ 1000000) : Pure 137 #[.string (S s), .bool lines] w (.bool (holdsB s lines)) := by
  have hbad := fun W => bad_any s W (by omega)
  have HB := hid hbad
  obtain ⟨o, ho⟩ : ∃ o, badL s = o := ⟨_, rfl⟩
  rw [ho] at HB
  have HO := hid ho
  clear hbad ho
  cases lines with
  | false =>
    go_enter Tryz.func137, Tryz.ntmps137
    go_wp2_with fail
    go_loop [9] (fun i => ∃ k : Nat, k ≤ s.length ∧ i = .int .i64 k ∧ (s.take k).all (txtP false) = true) (fun i => s.length - (intOf i).toNat)
    case atStart => exact ⟨0, Nat.zero_le _, rfl, rfl⟩
    case round =>
      obtain ⟨k, hk, rfl, hr⟩ := hrel
      have HR := hid hr; clear hr
      by_cases hlt : k < s.length
      case neg =>
        have HA := hid (all_end HR.out (by omega))
        cases o with
        | none =>
          go_wp2_with fail
          refine (HB.out _).use ?_
          simp only [badV]
          go_wp2_with fail
          go_ret
          exact ⟨ret_bool (holds_yes HA.out HO.out).symm, rfl⟩
        | some p =>
          go_wp2_with fail
          refine (HB.out _).use ?_
          simp only [badV]
          go_wp2_with fail
          go_ret
          exact ⟨ret_bool (holds_bad HO.out).symm, rfl⟩
      have hb := s[k].toNat_lt
      go_wp2_with fail
      all_goals try (go_ret; refine ⟨ret_bool (holds_no (all_at hlt (by unfold txtP; rw [decide_eq_false_iff_not]; (try simp only [Bool.false_eq_true, and_false, or_false, and_true]); ((try simp only [beq_iff_eq, beq_eq_false_iff_ne, bne_iff_ne, bne_eq_false_iff_eq, Bool.not_eq_true, ne_eq] at *); omega)))).symm, rfl⟩; done)
      all_goals go_round
      all_goals try (case measure => simp [intOf]; omega)
      all_goals exact ⟨k + 1, by omega, by go_num, all_step HR.out hlt (by unfold txtP; rw [decide_eq_true_iff]; (try simp only [Bool.false_eq_true, and_false, or_false, and_true]); ((try simp only [beq_iff_eq, beq_eq_false_iff_ne, bne_iff_ne, bne_eq_false_iff_eq, Bool.not_eq_true, ne_eq] at *); omega))⟩
  | true =>
    go_enter Tryz.func137, Tryz.ntmps137
    go_wp2_with fail
    go_loop [9] (fun i => ∃ k : Nat, k ≤ s.length ∧ i = .int .i64 k ∧ (s.take k).all (txtP true) = true) (fun i => s.length - (intOf i).toNat)
    case atStart => exact ⟨0, Nat.zero_le _, rfl, rfl⟩
    case round =>
      obtain ⟨k, hk, rfl, hr⟩ := hrel
      have HR := hid hr; clear hr
      by_cases hlt : k < s.length
      case neg =>
        have HA := hid (all_end HR.out (by omega))
        cases o with
        | none =>
          go_wp2_with fail
          refine (HB.out _).use ?_
          simp only [badV]
          go_wp2_with fail
          go_ret
          exact ⟨ret_bool (holds_yes HA.out HO.out).symm, rfl⟩
        | some p =>
          go_wp2_with fail
          refine (HB.out _).use ?_
          simp only [badV]
          go_wp2_with fail
          go_ret
          exact ⟨ret_bool (holds_bad HO.out).symm, rfl⟩
      have hb := s[k].toNat_lt
      go_wp2_with fail
      all_goals try (go_ret; refine ⟨ret_bool (holds_no (all_at hlt (by unfold txtP; rw [decide_eq_false_iff_not]; (try simp only [Bool.false_eq_true, and_false, or_false, and_true]); ((try simp only [beq_iff_eq, beq_eq_false_iff_ne, bne_iff_ne, bne_eq_false_iff_eq, Bool.not_eq_true, ne_eq] at *); omega)))).symm, rfl⟩; done)
      all_goals go_round
      all_goals try (case measure => simp [intOf]; omega)
      all_goals exact ⟨k + 1, by omega, by go_num, all_step HR.out hlt (by unfold txtP; rw [decide_eq_true_iff]; (try simp only [Bool.false_eq_true, and_false, or_false, and_true]); ((try simp only [beq_iff_eq, beq_eq_false_iff_ne, bne_iff_ne, bne_eq_false_iff_eq, Bool.not_eq_true, ne_eq] at *); omega))⟩
end Go.Proofs.YtfadckackdmbnaaGreatDoor

namespace Go.Proofs.YtfadckackdmbnaaGreatDoor
open Go.RowKit
set_option linter.unusedVariables false
set_option linter.unusedSimpArgs false
theorem escL_high {p : List UInt8} (h : ∀ b ∈ p, 128 ≤ b.toNat) : escL p = p := by
  induction p with
  | nil => rfl
  | cons b t ih =>
    have hb := h b List.mem_cons_self
    have e : rep1 escF b = [b] := by
      unfold rep1 escF
      rw [if_neg (by rintro rfl; exact absurd hb (by decide)), if_neg (by rintro rfl; exact absurd hb (by decide)), if_neg (by rintro rfl; exact absurd hb (by decide)), if_neg (by rintro rfl; exact absurd hb (by decide))]; rfl
    show rep1 escF b ++ escL t = _
    rw [e, ih fun x hx => h x (List.mem_cons_of_mem _ hx)]; rfl
theorem esc_small (c : UInt8) (h : c.toNat < 128) : ∀ b ∈ rep1 escF c, b.toNat < 128 := by
  have key := byte_all (fun c => decide (c.toNat < 128 → ∀ b ∈ rep1 escF c, b.toNat < 128)) (by decide +kernel) c
  exact (of_decide_eq_true key) h
theorem bad_escL : ∀ l, badL l = none → badL (escL l) = none := by
  refine text_ind ?_ ?_
  · exact badL_nil
  · intro l h ih
    have e : l = l.take (stepL l) ++ l.drop (stepL l) := (List.take_append_drop _ _).symm
    rcases step_high h with ⟨h1, b, t, rfl, hb⟩ | hh
    · rw [h1] at ih
      show badL (rep1 escF b ++ escL t) = none
      exact bad_append_none (bad_ascii _ (esc_small b hb)) ih
    · rw [e, show escL (l.take (stepL l) ++ l.drop (stepL l)) = escL (l.take (stepL l)) ++ escL (l.drop (stepL l)) from replL_append _ _ _, escL_high hh]
      exact bad_append_none (bad_take h) ih
theorem txt_esc (c : UInt8) (h : txtP true c = true) : ∀ b ∈ rep1 escF c, txtP false b = true := by
  have key := byte_all (fun c => decide (txtP true c = true → ∀ b ∈ rep1 escF c, txtP false b = true)) (by decide +kernel) c
  exact (of_decide_eq_true key) h
theorem holds_escL {s : List UInt8} (h : holdsB s true = true) : holdsB (escL s) false = true := by
  obtain ⟨h1, h2⟩ := holds_iff.1 h
  refine holds_iff.2 ⟨?_, bad_escL s h2⟩
  intro b hb
  obtain ⟨c, hc, hb⟩ := List.mem_flatMap.1 hb
  exact txt_esc c (h1 c hc) b hb
theorem joinL_holds : ∀ (x : List UInt8) (xs : List (List UInt8)), (∀ s ∈ x :: xs, holdsB s true = true) → holdsB (joinL (x :: xs)) false = true
  | x, [], h => by
    have : joinL [x] = escL x := by rw [joinL_eq]; simp [joinS]
    rw [this]; exact holds_escL (h x List.mem_cons_self)
  | x, y :: ys, h => by
    have := joinL_append [x] (y :: ys) (by simp) (by simp)
    rw [List.singleton_append] at this
    rw [this]
    have e : joinL [x] = escL x := by rw [joinL_eq]; simp [joinS]
    rw [e]
    exact holds_append (holds_escL (h x List.mem_cons_self)) (holds_cons (by decide) (by decide) (joinL_holds y ys fun s hs => h s (List.mem_cons_of_mem _ hs)))
theorem joinL_holds' {l : List (List UInt8)} (h0 : l ≠ []) (h : ∀ s ∈ l, holdsB s true = true) : holdsB (joinL l) false = true := by
  cases l with
  | nil => exact absurd rfl h0
  | cons x xs => exact joinL_holds x xs h
theorem joinP_holds : ∀ (x : List (List UInt8)) (xs : List (List (List UInt8))), (∀ l ∈ x :: xs, l ≠ [] ∧ ∀ s ∈ l, holdsB s true = true) → holdsB (joinP (x :: xs)) false = true
  | x, [], h => by
    have : joinP [x] = joinL x := by rw [joinP_eq]; simp [joinS]
    obtain ⟨h1, h2⟩ := h x List.mem_cons_self
    rw [this]; exact joinL_holds' h1 h2
  | x, y :: ys, h => by
    have e : joinP (x :: y :: ys) = joinL x ++ 59 :: joinP (y :: ys) := by
      rw [joinP_eq, joinP_eq]; simp [joinS]
    obtain ⟨h1, h2⟩ := h x List.mem_cons_self
    rw [e]
    exact holds_append (joinL_holds' h1 h2) (holds_cons (by decide) (by decide) (joinP_holds y ys fun l hl => h l (List.mem_cons_of_mem _ hl)))
theorem dd_print {b : UInt8} (h : dd b) : 32 ≤ b.toNat ∧ b.toNat ≤ 126 := by
  rcases h with h | rfl
  · have := dg_lt h; omega
  · decide
theorem printZ_print {z : Int} (hz : rightZ z = true) : ∀ b ∈ printZ z, 32 ≤ b.toNat ∧ b.toNat ≤ 126 := by
  have hr : -840 ≤ z ∧ z ≤ 840 := by unfold rightZ at hz; simpa using hz
  have key : ∀ k : Fin 1681, (printZ ((k.val : Int) - 840)).all (fun b => decide (32 ≤ b.toNat ∧ b.toNat ≤ 126)) = true := by decide +kernel
  intro b hb
  have h2 := key ⟨(z + 840).toNat, by omega⟩
  have e : (((z + 840).toNat : Nat) : Int) - 840 = z := by omega
  simp only [e] at h2
  simpa using List.all_eq_true.1 h2 b hb
theorem text_print (x : St) (hr : x.right = 0) : ∀ b ∈ x.text, 32 ≤ b.toNat ∧ b.toNat ≤ 126 := by
  have g := St.good hr
  obtain ⟨f1, f2, f3⟩ := bad_forms (St.right_zero hr).1
  obtain ⟨_, hdd⟩ := dateP_text x g f1
  intro b hb
  unfold St.text at hb
  split at hb
  · exact dd_print (hdd b hb)
  · rename_i ht
    have hc := (clock_text x g f2 ht).bytes
    rcases List.mem_append.1 hb with h | h
    · exact dd_print (hdd b h)
    · rcases List.mem_cons.1 h with rfl | h
      · decide
      · rcases List.mem_append.1 h with h | h
        · exact dd_print (hc b h)
        · split at h
          · exact printZ_print g.z b h
          · cases h
theorem letter_print {c : UInt8} (h : letterB c.toNat = true) : 32 ≤ c.toNat ∧ c.toNat ≤ 126 := by
  unfold letterB at h
  rw [decide_eq_true_iff] at h
  omega
theorem lang_print : ∀ (l : List UInt8) (first : Bool) (cur : Nat), scanL first cur l = true → ∀ b ∈ l, 32 ≤ b.toNat ∧ b.toNat ≤ 126
  | [], _, _, _, b, hb => by cases hb
  | c :: t, first, cur, h, b, hb => by
    unfold scanL at h
    split at h
    · rename_i hc
      rw [Bool.and_eq_true] at h
      rcases List.mem_cons.1 hb with rfl | hb
      · rw [hc]; decide
      · exact lang_print t false 0 h.2 b hb
    · rw [Bool.and_eq_true] at h
      rcases List.mem_cons.1 hb with rfl | hb
      · unfold pieceB at h
        rw [Bool.and_eq_true] at h
        exact letter_print h.1.1
      · exact lang_print t first (cur + 1) h.2 b hb
theorem holds_print {s : List UInt8} {l : Bool} (h : ∀ c ∈ s, 32 ≤ c.toNat ∧ c.toNat ≤ 126) : holdsB s l = true := holds_ascii h
end Go.Proofs.YtfadckackdmbnaaGreatDoor

namespace Go.Proofs.YtfadckackdmbnaaGreatDoor
open Go.RowKit
set_option linter.unusedVariables false
set_option linter.unusedSimpArgs false
def isT (k : Int) : Bool := decide (k = 1 ∨ k = 4 ∨ k = 7 ∨ k = 8)
def isL (k : Int) : Bool := decide (k = 2 ∨ k = 3)
def St.isZero (t : St) : Bool := decide (t.y = 0 ∧ t.m = 0 ∧ t.d = 0 ∧ t.h = 0 ∧ t.n = 0 ∧ t.s = 0 ∧ t.zd = false ∧ t.zn = 0)
theorem St.zero_iff {t : St} : t.isZero = true ↔ t = St0 := by
  obtain ⟨y, m, d, h, n, s, zd, zn⟩ := t
  unfold St.isZero St0
  rw [decide_eq_true_iff]
  simp
def Vl.only (v : Vl) : Bool := (isT v.ty || decide (v.tx = [])) && (isL v.ty || decide (v.ps = [])) && (decide (v.ty = 5) || v.st.isZero) && (decide (v.ty = 6) || decide (v.n = 0))
def uriB (l : List UInt8) : Bool := decide (begL l ≠ 0) && (badAt seenP l).isNone && decide (begL l + 1 ≠ l.length)
def listsB (ps : List (List (List UInt8))) : Bool := ps.all fun l => l.all fun s => holdsB s true
def Vl.body (v : Vl) : Bool :=
  if v.ty = 2 ∨ v.ty = 3 then !(decide (v.ps = []) || decide (v.ty = 2 ∧ v.ps.length ≠ 1)) && !(v.ps.any fun l => l.isEmpty) && listsB v.ps
  else if v.ty = 4 then uriB v.tx
  else if v.ty = 5 then decide (v.st.right = 0)
  else if v.ty = 6 then rightZ v.n
  else if v.ty = 7 then langB v.tx
  else holdsB v.tx (decide (v.ty = 1))
def Vl.ok (v : Vl) : Bool := decide (1 ≤ v.ty ∧ v.ty < 9) && v.only && v.body
def Vl.text (v : Vl) : List UInt8 :=
  if v.ty = 1 then escL v.tx else if v.ty = 2 ∨ v.ty = 3 then joinP v.ps else if v.ty = 5 then v.st.text else if v.ty = 6 then printZ v.n else v.tx
def tV (k : Int) (s : List UInt8) : Vl := ⟨k, s, [], St0, 0⟩
def readV (s : List UInt8) (k : Int) : Option Vl :=
  if ¬ (1 ≤ k ∧ k < 9) then none
  else if holdsB s false = false then none
  else if k = 1 then (match piecesGo [] s 0 [] [] [] with | .good (t :: _) _ => some (tV 1 t) | _ => none)
  else if k = 2 then (match piecesGo [44] s 0 [] [] [] with | .good T _ => some ⟨2, [], [T], St0, 0⟩ | _ => none)
  else if k = 3 then (match piecesGo [44, 59] s 0 [] [] [] with | .good (t :: ts) cs => some ⟨3, [], partsOf [t] cs ts, St0, 0⟩ | _ => none)
  else if k = 4 then (if uriB s = true then some (tV 4 s) else none)
  else if k = 5 then (if (parseW s).2 = 0 then some ⟨5, [], [], (parseW s).1, 0⟩ else none)
  else if k = 6 then (if (parseZ s).2 = 0 then some ⟨6, [], [], St0, (parseZ s).1⟩ else none)
  else if k = 7 then (if langB s = true then some (tV 7 s) else none)
  else some (tV 8 s)
theorem unesc_escL (x : List UInt8) : piecesGo [] (escL x) 0 [] [] [] = .good [x] [] := by
  have := pieces_escL [] (by simp) x [] 0 [] [] []
  rw [List.append_nil] at this
  rw [this, pieces_nil]; rfl
theorem list_of {x : List (List UInt8)} (h : x ≠ []) : piecesGo [44] (joinL x) 0 [] [] [] = .good x (List.replicate (x.length - 1) 44) := by
  cases x with
  | nil => exact absurd rfl h
  | cons a t => exact list_back a t
theorem parts_of {ps : List (List (List UInt8))} (h0 : ps ≠ []) (h : ∀ l ∈ ps, l ≠ []) : ∃ t ts cs, piecesGo [44, 59] (joinP ps) 0 [] [] [] = .good (t :: ts) cs ∧ partsOf [t] cs ts = ps := by
  cases ps with
  | nil => exact absurd rfl h0
  | cons l ls =>
    obtain ⟨x, xs, C, e1, _, e3⟩ := parts_pieces ls l (h l List.mem_cons_self) (fun m hm => h m (List.mem_cons_of_mem _ hm)) 0 [] []
    exact ⟨x, xs, C, by simpa using e1, e3⟩
theorem only_parts {v : Vl} (h : v.only = true) : (isT v.ty = false → v.tx = []) ∧ (isL v.ty = false → v.ps = []) ∧ (v.ty ≠ 5 → v.st = St0) ∧ (v.ty ≠ 6 → v.n = 0) := by
  unfold Vl.only at h
  simp only [Bool.and_eq_true, Bool.or_eq_true, decide_eq_true_eq, St.zero_iff] at h
  obtain ⟨⟨⟨h1, h2⟩, h3⟩, h4⟩ := h
  refine ⟨fun e => ?_, fun e => ?_, fun e => ?_, fun e => ?_⟩
  · rcases h1 with h | h
    · rw [e] at h; cases h
    · exact h
  · rcases h2 with h | h
    · rw [e] at h; cases h
    · exact h
  · rcases h3 with h | h
    · exact absurd h e
    · exact h
  · rcases h4 with h | h
    · exact absurd h e
    · exact h
theorem listsB_iff {ps : List (List (List UInt8))} : listsB ps = true ↔ ∀ l ∈ ps, ∀ s ∈ l, holdsB s true = true := by
  unfold listsB; simp [List.all_eq_true]
theorem uri_holds {s : List UInt8} (h : uriB s = true) : holdsB s false = true := by
  unfold uriB at h
  simp only [Bool.and_eq_true, Option.isNone_iff_eq_none] at h
  have := badAt_none.1 h.1.2
  refine holds_print fun c hc => ?_
  have := List.all_eq_true.1 this c hc
  unfold seenP at this
  rw [decide_eq_true_iff] at this
  omega
theorem val_back (v : Vl) (h : v.ok = true) : readV v.text v.ty = some v ∧ holdsB v.text false = true := by
  unfold Vl.ok at h
  simp only [Bool.and_eq_true, decide_eq_true_eq] at h
  obtain ⟨⟨⟨h1, h9⟩, ho⟩, hb⟩ := h
  obtain ⟨o1, o2, o3, o4⟩ := only_parts ho
  obtain ⟨ty, tx, ps, st, n⟩ := v
  simp only at h1 h9 o1 o2 o3 o4
  have hk : ty = 1 ∨ ty = 2 ∨ ty = 3 ∨ ty = 4 ∨ ty = 5 ∨ ty = 6 ∨ ty = 7 ∨ ty = 8 := by omega
  rcases hk with rfl | rfl | rfl | rfl | rfl | rfl | rfl | rfl
  · obtain rfl := o2 rfl
    obtain rfl := o3 (by decide)
    obtain rfl := o4 (by decide)
    have hb : holdsB tx true = true := hb
    have hh := holds_escL hb
    refine ⟨?_, hh⟩
    show readV (escL tx) 1 = _
    unfold readV
    rw [if_neg (by decide), if_neg (by rw [hh]; decide), if_pos rfl, unesc_escL]; rfl
  · obtain rfl := o1 rfl
    obtain rfl := o3 (by decide)
    obtain rfl := o4 (by decide)
    unfold Vl.body at hb
    rw [if_pos (.inl rfl)] at hb
    simp only [Bool.and_eq_true, Bool.not_eq_true', Bool.or_eq_false_iff, decide_eq_false_iff_not] at hb
    obtain ⟨⟨⟨b1, b2⟩, b3⟩, b4⟩ := hb
    have hl : ps.length = 1 := by simpa using b2
    obtain ⟨l, rfl⟩ := List.length_eq_one_iff.1 hl
    have hne : l ≠ [] := by
      intro e; subst e; simp at b3
    have hj : joinP [l] = joinL l := by rw [joinP_eq]; simp [joinS]
    have hh := joinL_holds' hne (listsB_iff.1 b4 l List.mem_cons_self)
    show readV (joinP [l]) 2 = _ ∧ holdsB (joinP [l]) false = true
    rw [hj]
    refine ⟨?_, hh⟩
    unfold readV
    rw [if_neg (by decide), if_neg (by rw [hh]; decide), if_neg (by decide), if_pos rfl, list_of hne]
  · obtain rfl := o1 rfl
    obtain rfl := o3 (by decide)
    obtain rfl := o4 (by decide)
    unfold Vl.body at hb
    rw [if_pos (.inr rfl)] at hb
    simp only [Bool.and_eq_true, Bool.not_eq_true', Bool.or_eq_false_iff, decide_eq_false_iff_not] at hb
    obtain ⟨⟨⟨b1, b2⟩, b3⟩, b4⟩ := hb
    have hne : ∀ l ∈ ps, l ≠ [] := by
      intro l hl e
      subst e
      rw [List.any_eq_false] at b3
      exact b3 [] hl rfl
    have hh : holdsB (joinP ps) false = true := by
      cases ps with
      | nil => exact absurd rfl b1
      | cons x xs => exact joinP_holds x xs fun l hl => ⟨hne l hl, listsB_iff.1 b4 l hl⟩
    obtain ⟨t, ts, cs, e1, e2⟩ := parts_of b1 hne
    show readV (joinP ps) 3 = _ ∧ holdsB (joinP ps) false = true
    refine ⟨?_, hh⟩
    unfold readV
    rw [if_neg (by decide), if_neg (by rw [hh]; decide), if_neg (by decide), if_neg (by decide), if_pos rfl, e1]
    simp only [e2]
  · obtain rfl := o2 rfl
    obtain rfl := o3 (by decide)
    obtain rfl := o4 (by decide)
    have hb : uriB tx = true := hb
    have hh := uri_holds hb
    show readV tx 4 = _ ∧ holdsB tx false = true
    refine ⟨?_, hh⟩
    unfold readV
    rw [if_neg (by decide), if_neg (by rw [hh]; decide), if_neg (by decide), if_neg (by decide), if_neg (by decide), if_pos rfl, if_pos hb]; rfl
  · obtain rfl := o1 rfl
    obtain rfl := o2 rfl
    obtain rfl := o4 (by decide)
    have hb : decide (st.right = 0) = true := hb
    have hr : st.right = 0 := by simpa using hb
    have hh : holdsB st.text false = true := holds_print (text_print st hr)
    show readV st.text 5 = _ ∧ holdsB st.text false = true
    refine ⟨?_, hh⟩
    unfold readV
    rw [if_neg (by decide), if_neg (by rw [hh]; decide), if_neg (by decide), if_neg (by decide), if_neg (by decide), if_neg (by decide), if_pos rfl, parse_text st hr]; rfl
  · obtain rfl := o1 rfl
    obtain rfl := o2 rfl
    obtain rfl := o3 (by decide)
    have hb : rightZ n = true := hb
    have hh : holdsB (printZ n) false = true := holds_print (printZ_print hb)
    show readV (printZ n) 6 = _ ∧ holdsB (printZ n) false = true
    refine ⟨?_, hh⟩
    unfold readV
    rw [if_neg (by decide), if_neg (by rw [hh]; decide), if_neg (by decide), if_neg (by decide), if_neg (by decide), if_neg (by decide), if_neg (by decide), if_pos rfl, print_parse n hb]; rfl
  · obtain rfl := o2 rfl
    obtain rfl := o3 (by decide)
    obtain rfl := o4 (by decide)
    have hb : langB tx = true := hb
    have hh : holdsB tx false = true := holds_print (lang_print tx true 0 hb)
    show readV tx 7 = _ ∧ holdsB tx false = true
    refine ⟨?_, hh⟩
    unfold readV
    rw [if_neg (by decide), if_neg (by rw [hh]; decide), if_neg (by decide), if_neg (by decide), if_neg (by decide), if_neg (by decide), if_neg (by decide), if_neg (by decide), if_pos rfl, if_pos hb]; rfl
  · obtain rfl := o2 rfl
    obtain rfl := o3 (by decide)
    obtain rfl := o4 (by decide)
    have hh : holdsB tx false = true := hb
    show readV tx 8 = _ ∧ holdsB tx false = true
    refine ⟨?_, hh⟩
    unfold readV
    rw [if_neg (by decide), if_neg (by rw [hh]; decide), if_neg (by decide), if_neg (by decide), if_neg (by decide), if_neg (by decide), if_neg (by decide), if_neg (by decide), if_neg (by decide)]; rfl
end Go.Proofs.YtfadckackdmbnaaGreatDoor
