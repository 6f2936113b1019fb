/-
  Texts merged into one: ParamsRow, ItemsRow, Sub, CardSmall.
-/
import Derived.Test.YtdmbhoagjjkogaaGreatDoorMA36
import Derived.Deep.OwnRows
import Derived.Deep.Slices
import Derived.OwnWalk
import Derived.Lib.SliceRun
import Derived.Laws.Cover3
import Derived.Laws.AppendOwn
import Derived.Test.YtdmbhoagjjkogaaGreatDoorMA39
import Derived.Test.YtdmbhoagjjkogaaGreatDoorValWrite
namespace Go.Proofs.YtdmbhoagjjkogaaGreatDoor
open Go.RowKit
set_option linter.unusedVariables false
set_option linter.unusedSimpArgs false
def cellsPm : List Pm → List Value → List Value
  | p :: ps, v :: vs => .string (S p.1) :: v :: cellsPm ps vs
  | _, _ => []
theorem cellsPm_length : ∀ (ps : List Pm) (vs : List Value), vs.length = ps.length → (cellsPm ps vs).length = ps.length * 2
  | [], vs, h => by cases vs with | nil => rfl | cons _ _ => simp at h
  | p :: ps, [], h => by simp at h
  | p :: ps, v :: vs, h => by
    have := cellsPm_length ps vs (by simpa using h)
    simp only [cellsPm, List.length_cons, this]; omega
theorem cellsPm_at : ∀ (ps : List Pm) (vs : List Value) (i : Nat) (p : Pm) (v : Value), ps[i]? = some p → vs[i]? = some v → (cellsPm ps vs)[i * 2]? = some (.string (S p.1)) ∧ (cellsPm ps vs)[i * 2 + 1]? = some v
  | [], _, i, p, v, h, _ => by simp at h
  | q :: ps, [], i, p, v, _, h => by simp at h
  | q :: ps, u :: vs, 0, p, v, h, h' => by simp at h h'; subst h; subst h'; simp [cellsPm]
  | q :: ps, u :: vs, i + 1, p, v, h, h' => by
    have := cellsPm_at ps vs i p v (by simpa using h) (by simpa using h')
    have e1 : (i + 1) * 2 = i * 2 + 1 + 1 := by omega
    rw [e1]
    simpa [cellsPm] using this
theorem cellsPm_append : ∀ (ps : List Pm) (vs : List Value) (qs : List Pm) (us : List Value), vs.length = ps.length → cellsPm (ps ++ qs) (vs ++ us) = cellsPm ps vs ++ cellsPm qs us
  | [], vs, qs, us, h => by cases vs with | nil => rfl | cons _ _ => simp at h
  | p :: ps, [], qs, us, h => by simp at h
  | p :: ps, v :: vs, qs, us, h => by
    have := cellsPm_append ps vs qs us (by simpa using h)
    simp only [List.cons_append, cellsPm, this]
theorem IsParams.slices {w : World} {v : Value} {ps : List Pm} (h : IsParams w v ps) (h0 : ps ≠ []) : ∃ (b off cap : Nat) (vs : List Value), v = .slice (some ⟨b, off, none⟩) ps.length cap ∧ b < w.heap.size ∧ vs.length = ps.length ∧
    (∀ (i : Nat) (p : Pm) (u : Value), ps[i]? = some p → vs[i]? = some u → IsStrs w u p.2) ∧ (∀ (j : Nat) (u : Value), (cellsPm ps vs)[j]? = some u → w.cell? ⟨b, off + j, none⟩ = some u) := by
  obtain ⟨a, cap, rfl, hc, h⟩ := h
  obtain ⟨b, off, rfl, hb, h⟩ := h h0
  obtain ⟨f, hf⟩ := Deep.choose_lt (α := Value) (n := ps.length) (p := fun i sv => ∀ p, ps[i]? = some p → w.cell? ⟨b, off + i * 2, none⟩ = some (.string (S p.1)) ∧ w.cell? ⟨b, off + i * 2 + 1, none⟩ = some sv ∧ IsStrs w sv p.2) (fun i hi => by
    obtain ⟨sv, h1, h2, h3⟩ := h i _ (List.getElem?_eq_getElem hi)
    refine ⟨sv, fun p hp => ?_⟩
    rw [List.getElem?_eq_getElem hi] at hp
    injection hp with hp
    subst hp
    exact ⟨h1, h2, h3⟩)
  have hlen : ((List.range ps.length).map f).length = ps.length := by simp
  have hat : ∀ i, i < ps.length → ((List.range ps.length).map f)[i]? = some (f i) := fun i hi => by simp [List.getElem?_range hi]
  refine ⟨b, off, cap, (List.range ps.length).map f, rfl, hb, hlen, ?_, ?_⟩
  · intro i p u hp hu
    have hi : i < ps.length := (List.getElem?_eq_some_iff.1 hp).1
    rw [hat i hi] at hu
    injection hu with hu
    subst hu
    exact (hf i hi p hp).2.2
  · intro j u hu
    have hj : j < ps.length * 2 := by rw [← cellsPm_length ps _ hlen]; exact (List.getElem?_eq_some_iff.1 hu).1
    have hi : j / 2 < ps.length := by omega
    have hp := List.getElem?_eq_getElem hi
    obtain ⟨k1, k2, _⟩ := hf _ hi _ hp
    obtain ⟨m1, m2⟩ := cellsPm_at ps _ _ _ _ hp (hat _ hi)
    rcases Nat.mod_two_eq_zero_or_one j with h2 | h2
    · have ej : j / 2 * 2 = j := by omega
      rw [ej] at k1 m1
      rw [k1, ← hu, m1]
    · have ej : j / 2 * 2 + 1 = j := by omega
      rw [Nat.add_assoc, ej] at k2
      rw [ej] at m2
      rw [k2, ← hu, m2]
theorem params_of_row {w : World} {base : Nat} {u : Value} {ps : List Pm} {vs : List Value} {t : TypeId} (hl : vs.length = ps.length) (hs : ∀ (i : Nat) (p : Pm) (v : Value), ps[i]? = some p → vs[i]? = some v → IsStrs w v p.2)
    (hr : w.ownsRow base t 2 u ps.length (cellsPm ps vs)) : IsParams w u ps := by
  rcases hr.2 with ⟨rfl, h0⟩ | ⟨g, cap, cur, rfl, _, hg, hc, _⟩
  · have : ps = [] := List.length_eq_zero_iff.1 h0
    subst this
    exact ⟨_, _, rfl, by simp, fun h => absurd rfl h⟩
  · refine ⟨_, _, rfl, hc, fun h0 => ⟨g, 0, rfl, (Array.getElem?_eq_some_iff.1 hg).1, fun i p hp => ?_⟩⟩
    have hi : i < ps.length := (List.getElem?_eq_some_iff.1 hp).1
    have hv := List.getElem?_eq_getElem (show i < vs.length by omega)
    obtain ⟨m1, m2⟩ := cellsPm_at ps vs i p _ hp hv
    have ea : ∀ j, (⟨g, 0, none⟩ : Addr).add j = ⟨g, 0 + j, none⟩ := fun j => by unfold Addr.add; split <;> simp_all
    have c1 := hr.cells (g := g) rfl _ _ m1
    have c2 := hr.cells (g := g) rfl _ _ m2
    rw [ea] at c1 c2
    exact ⟨_, c1, by rw [Nat.add_assoc]; exact c2, hs i p _ hp hv⟩
theorem infoParam : (Tryz.prog.info? 46).map (fun i => (i.zero, i.size, i.bytes)) = some (some (.agg #[.string ⟨#[]⟩, .slice none 0 0]), 2, 40) := by kernel_rfl
theorem params_snoc {w5 w' : World} {base : Nat} {u sv : Value} {ps : List Pm} {vs0 : List Value} {nm : List UInt8} {vs : List (List UInt8)} {t : TypeId} (hl : vs0.length = ps.length) (hs : ∀ (i : Nat) (p : Pm) (x : Value), ps[i]? = some p → vs0[i]? = some x → IsStrs w5 x p.2)
    (hsv : IsStrs w5 sv vs) (hg : G w5 w') (hr : w'.ownsRow base t 2 u (ps.length + 1) (cellsPm ps vs0 ++ [.string (S nm), sv])) : IsParams w' u (ps ++ [(nm, vs)]) := by
  refine params_of_row (vs := vs0 ++ [sv]) (by simp [hl]) ?_ (by rw [List.length_append, cellsPm_append _ _ _ _ hl]; exact hr)
  intro i p x hp hx
  rcases Nat.lt_or_ge i ps.length with hi | hi
  · rw [List.getElem?_append_left hi] at hp
    rw [List.getElem?_append_left (by omega)] at hx
    exact (hs i p x hp hx).grow hg
  · have hi2 : i = ps.length := by
      have := (List.getElem?_eq_some_iff.1 hp).1
      simp at this
      omega
    subst hi2
    rw [List.getElem?_append_right (Nat.le_refl _)] at hp
    rw [List.getElem?_append_right (by omega)] at hx
    simp [hl] at hp hx
    subst hp; subst hx
    exact hsv.grow hg
end Go.Proofs.YtdmbhoagjjkogaaGreatDoor

namespace Go.Proofs.YtdmbhoagjjkogaaGreatDoor
open Go.RowKit
set_option linter.unusedVariables false
set_option linter.unusedSimpArgs false
theorem addr_add (b o j : Nat) : (⟨b, o, none⟩ : Addr).add j = ⟨b, o + j, none⟩ := by unfold Addr.add; split <;> simp_all
theorem ItOk.one {w : World} {x : It} {pv lv : Value} (h : ItOk w x pv lv) : ∀ u ∈ x.cells pv lv, u.oneCell' = true := by
  obtain ⟨a, c, rfl⟩ := h.pv
  obtain ⟨a', c', rfl⟩ := h.lv
  intro u hu
  simp only [It.cells, List.mem_cons, List.mem_nil_iff, or_false] at hu
  rcases hu with rfl | rfl | rfl | rfl | rfl | rfl | rfl | rfl | rfl | rfl | rfl | rfl | rfl | rfl | rfl <;> rfl
def ItRow (w : World) : List It → List Value → Prop
  | [], cs => cs = []
  | x :: xs, cs => ∃ pv lv ds, cs = x.cells pv lv ++ ds ∧ ItOk w x pv lv ∧ ItRow w xs ds
theorem ItRow.grow {w w' : World} (g : G w w') : ∀ {xs : List It} {cs : List Value}, ItRow w xs cs → ItRow w' xs cs
  | [], _, h => h
  | x :: xs, _, ⟨pv, lv, ds, e, h1, h2⟩ => ⟨pv, lv, ds, e, h1.grow g, h2.grow g⟩
theorem ItRow.len {w : World} : ∀ {xs : List It} {cs : List Value}, ItRow w xs cs → cs.length = xs.length * 15
  | [], _, h => by rw [show _ = ([] : List Value) from h]; rfl
  | x :: xs, _, ⟨pv, lv, ds, e, h1, h2⟩ => by rw [e, List.length_append, h2.len]; simp [It.cells]; omega
theorem ItRow.one {w : World} : ∀ {xs : List It} {cs : List Value}, ItRow w xs cs → ∀ u ∈ cs, u.oneCell' = true
  | [], _, h, u, hu => by rw [show _ = ([] : List Value) from h] at hu; cases hu
  | x :: xs, _, ⟨pv, lv, ds, e, h1, h2⟩, u, hu => by
    rw [e] at hu
    rcases List.mem_append.1 hu with hu | hu
    · exact h1.one u hu
    · exact h2.one u hu
theorem ItRow.append {w : World} : ∀ {xs ys : List It} {cs ds : List Value}, ItRow w xs cs → ItRow w ys ds → ItRow w (xs ++ ys) (cs ++ ds)
  | [], _, _, _, h, g => by rw [show _ = ([] : List Value) from h]; exact g
  | x :: xs, _, _, _, ⟨pv, lv, es, e, h1, h2⟩, g => ⟨pv, lv, _, by rw [e, List.append_assoc], h1, h2.append g⟩
theorem ItRow.single {w : World} {x : It} {pv lv : Value} (h : ItOk w x pv lv) : ItRow w [x] (x.cells pv lv) := ⟨pv, lv, [], by simp, h, rfl⟩
theorem ItRow.at_ {w : World} : ∀ {xs : List It} {cs : List Value}, ItRow w xs cs → ∀ (i : Nat) (x : It), xs[i]? = some x → ∃ pv lv, ItOk w x pv lv ∧ ∀ (j : Nat) (u : Value), (x.cells pv lv)[j]? = some u → cs[i * 15 + j]? = some u
  | [], _, _, i, x, hx => by simp at hx
  | y :: xs, _, ⟨pv, lv, ds, e, h1, h2⟩, 0, x, hx => by
    simp at hx; subst hx
    refine ⟨pv, lv, h1, fun j u hu => ?_⟩
    rw [e, Nat.zero_mul, Nat.zero_add, List.getElem?_append_left (List.getElem?_eq_some_iff.1 hu).1]
    exact hu
  | y :: xs, _, ⟨pv, lv, ds, e, h1, h2⟩, i + 1, x, hx => by
    obtain ⟨pv', lv', h3, h4⟩ := h2.at_ i x (by simpa using hx)
    refine ⟨pv', lv', h3, fun j u hu => ?_⟩
    have hl : (y.cells pv lv).length = 15 := rfl
    rw [e, List.getElem?_append_right (by rw [hl]; omega), hl]
    have : (i + 1) * 15 + j - 15 = i * 15 + j := by omega
    rw [this]; exact h4 j u hu
theorem items_of_cells {w : World} {b off cap : Nat} {xs : List It} {cs : List Value} (h : ItRow w xs cs) (hb : b < w.heap.size) (hc : ∀ (j : Nat) (u : Value), cs[j]? = some u → w.cell? ⟨b, off + j, none⟩ = some u) (hn : xs.length ≤ cap) : IsItems w (.slice (some ⟨b, off, none⟩) xs.length cap) xs :=
  ⟨_, _, rfl, hn, fun _ => ⟨b, off, rfl, hb, fun i x hx => by
    obtain ⟨pv, lv, h1, h2⟩ := h.at_ i x hx
    exact ⟨pv, lv, fun j u hu => by rw [Nat.add_assoc]; exact hc _ u (h2 j u hu), h1⟩⟩⟩
theorem items_nil (w : World) (a : Option Addr) (c : Nat) : IsItems w (.slice a 0 c) [] := ⟨a, c, rfl, Nat.zero_le _, fun h => absurd rfl h⟩
theorem ownsRow_mono {W : World} {base base' : Nat} {e : TypeId} {size : Nat} {v : Value} {n : Nat} {xs : List Value} (h : W.ownsRow base e size v n xs) (g : base' ≤ base) : W.ownsRow base' e size v n xs := by
  refine ⟨h.1, h.2.imp id ?_⟩
  rintro ⟨b, cap, cur, e1, e2, r⟩
  exact ⟨b, cap, cur, e1, Nat.le_trans g e2, r⟩
def Lies (w : World) (v : Value) (n : Nat) (cs : List Value) : Prop :=
  cs.length = n * 15 ∧ (∀ u ∈ cs, u.oneCell' = true) ∧ ∃ a cap, v = .slice a n cap ∧ n ≤ cap ∧ (n ≠ 0 → ∃ b off, a = some ⟨b, off, none⟩ ∧ b < w.heap.size ∧ ∀ (j : Nat) (u : Value), cs[j]? = some u → w.cell? ⟨b, off + j, none⟩ = some u)
theorem Lies.grow {w w' : World} {v : Value} {n : Nat} {cs : List Value} (h : Lies w v n cs) (g : G w w') : Lies w' v n cs := by
  obtain ⟨h1, h2, a, cap, e, hc, h⟩ := h
  refine ⟨h1, h2, a, cap, e, hc, fun h0 => ?_⟩
  obtain ⟨b, off, e2, hb, h⟩ := h h0
  exact ⟨b, off, e2, Nat.lt_of_lt_of_le hb g.size, fun j u hu => by rw [g.cell hb]; exact h j u hu⟩
theorem Lies.form {w : World} {v : Value} {n : Nat} {cs : List Value} (h : Lies w v n cs) : ∃ a c, v = .slice a n c := by
  obtain ⟨_, _, a, c, e, _⟩ := h
  exact ⟨a, c, e⟩
theorem Lies.items {w : World} {v : Value} {xs : List It} {cs : List Value} (h : Lies w v xs.length cs) (hr : ItRow w xs cs) : IsItems w v xs := by
  obtain ⟨_, _, a, cap, rfl, hc, h⟩ := h
  by_cases h0 : xs = []
  · subst h0; exact items_nil _ _ _
  · obtain ⟨b, off, rfl, hb, h⟩ := h (by cases xs <;> simp_all)
    exact items_of_cells hr hb h hc
abbrev OwnR (n : Nat) (w : World) (v : Value) (k : Nat) (cs : List Value) : Prop := w.ownsRow n 31 15 v k cs
theorem OwnR.lies {n : Nat} {w : World} {v : Value} {k : Nat} {cs : List Value} (h : OwnR n w v k cs) (h1 : ∀ u ∈ cs, u.oneCell' = true) : Lies w v k cs := by
  have hh := h
  refine ⟨h.1, h1, ?_⟩
  rcases h.2 with ⟨rfl, rfl⟩ | ⟨g', cap, cur, rfl, hb, hg, hn, hm, hs, ht⟩
  · exact ⟨_, _, rfl, Nat.le_refl _, fun h => absurd rfl h⟩
  · exact ⟨_, _, rfl, hn, fun _ => ⟨g', 0, rfl, (Array.getElem?_eq_some_iff.1 hg).1, fun j u hu => by rw [← addr_add]; exact World.ownsRow.cells hh (g := g') rfl j u hu⟩⟩
theorem OwnR.same {n : Nat} {w w' : World} {v : Value} {k : Nat} {cs : List Value} (h : OwnR n w v k cs) (g : ∀ b, n ≤ b → b < w.heap.size → w'.heap[b]? = w.heap[b]?) : OwnR n w' v k cs := by
  refine ⟨h.1, ?_⟩
  rcases h.2 with h0 | ⟨g', cap, cur, rfl, hb, hg, r⟩
  · exact .inl h0
  · exact .inr ⟨g', cap, cur, rfl, hb, (g g' hb (Array.getElem?_eq_some_iff.1 hg).1).trans hg, r⟩
theorem OwnR.grow {n : Nat} {w w' : World} {v : Value} {k : Nat} {cs : List Value} (h : OwnR n w v k cs) (g : G w w') : OwnR n w' v k cs := h.same fun b _ hb => g.below.block b hb
theorem OwnR.snoc {n : Nat} {w2 W w1 : World} {v v' : Value} {k : Nat} {cs ds : List Value} (r : OwnR n W v k cs) (g : Below n w2 W) (hn : n ≤ W.heap.size) (hgrow : W.grownBy w1 v.ownBlock) (h : OwnR n w1 v' (k + 1) ds) :
    (∃ b cap, v' = .slice (some ⟨b, 0, none⟩) (k + 1) cap) ∧ Below n w2 w1 := by
  refine ⟨?_, Below.grown g hgrow hn fun j hj => (r.lt j hj).1⟩
  rcases h.2 with ⟨_, h0⟩ | ⟨b, cap, cur, e, _⟩
  · omega
  · exact ⟨b, cap, e⟩
theorem IsItems.cells {w : World} {v : Value} {xs : List It} (h : IsItems w v xs) (h0 : xs ≠ []) : ∃ (b off cap : Nat) (cs : List Value), v = .slice (some ⟨b, off, none⟩) xs.length cap ∧ b < w.heap.size ∧ ItRow w xs cs ∧ ∀ (j : Nat) (u : Value), cs[j]? = some u → w.cell? ⟨b, off + j, none⟩ = some u := by
  obtain ⟨a, cap, rfl, hc, h⟩ := h
  obtain ⟨b, off, rfl, hb, h⟩ := h h0
  refine ⟨b, off, cap, ?_⟩
  have key : ∀ (ys : List It) (o : Nat), (∀ (i : Nat) (x : It), ys[i]? = some x → ∃ pv lv, ItAt w b (o + i * 15) x pv lv) → ∃ cs, ItRow w ys cs ∧ ∀ (j : Nat) (u : Value), cs[j]? = some u → w.cell? ⟨b, o + j, none⟩ = some u := by
    intro ys
    induction ys with
    | nil => intro o _; exact ⟨[], rfl, by simp⟩
    | cons y ys ih =>
      intro o hy
      obtain ⟨pv, lv, h1⟩ := hy 0 y rfl
      obtain ⟨ds, h2, h3⟩ := ih (o + 15) (fun i x hx => by
        obtain ⟨p, l, h4⟩ := hy (i + 1) x (by simpa using hx)
        exact ⟨p, l, by have e : o + (i + 1) * 15 = o + 15 + i * 15 := by omega
                        rw [e] at h4; exact h4⟩)
      refine ⟨y.cells pv lv ++ ds, ⟨pv, lv, ds, rfl, h1.ok, h2⟩, fun j u hu => ?_⟩
      have hl : (y.cells pv lv).length = 15 := rfl
      rcases Nat.lt_or_ge j 15 with hj | hj
      · rw [List.getElem?_append_left (by omega)] at hu
        have := h1.c j u hu
        rw [Nat.zero_mul, Nat.add_zero] at this
        exact this
      · rw [List.getElem?_append_right (by omega), hl] at hu
        have := h3 _ u hu
        have e : o + 15 + (j - 15) = o + j := by omega
        rw [e] at this; exact this
  obtain ⟨cs, h1, h2⟩ := key xs off h
  exact ⟨cs, rfl, hb, h1, h2⟩
theorem IsItems.lies {w : World} {v : Value} {xs : List It} (h : IsItems w v xs) : ∃ cs, Lies w v xs.length cs ∧ ItRow w xs cs := by
  by_cases h0 : xs = []
  · subst h0
    obtain ⟨a, c, e, hc, _⟩ := h
    exact ⟨[], ⟨rfl, by simp, a, c, e, hc, fun h => absurd rfl h⟩, rfl⟩
  · obtain ⟨b, off, cap, cs, rfl, hb, hr, hc⟩ := h.cells h0
    obtain ⟨a, c, e, hcap, _⟩ := h
    cases e
    exact ⟨cs, ⟨hr.len, hr.one, _, _, rfl, hcap, fun _ => ⟨b, off, rfl, hb, hc⟩⟩, hr⟩
theorem infoItem : (Tryz.prog.info? 31).map (fun i => (i.zero, i.size, i.bytes)) = some (some (.agg #[.string ⟨#[]⟩, .string ⟨#[]⟩, .slice none 0 0, .int .i64 0, .string ⟨#[]⟩, .slice none 0 0, .int .i64 0, .int .i64 0, .int .i64 0, .int .i64 0, .int .i64 0, .int .i64 0, .bool false, .int .i64 0, .int .i64 0]), 15, 176) := by kernel_rfl
set_option maxRecDepth 100000 in
set_option maxHeartbeats 1000000 in
theorem clone_items (v : Value) (k : Nat) (cs : List Value) (w0 : World) (hP : Lies w0 v k cs) (hf : v = .slice none 0 0 ∨ ∃ a n c, v = .slice (some a) n c) (hl : k ≤ 100000) (w : World) (gw : G w0 w) (b0 : Nat) (hb0 : b0 ≤ w.heap.size) :
    Calls Tryz.prog 34 #[v] w fun e w' => ∃ u, e = .returned u ∧ OwnR b0 w' u k cs ∧ G w w' := by
  obtain ⟨i0, hi, hz0, hz1, hz2⟩ := info_parts infoItem
  have heq := fun W a n c => Lib.run_eql_slice_nil (P := Tryz.prog) W 33 31 a n c 0 0 Tryz.underlying33
  obtain ⟨hnl, hone, a', cap, rfl, hcap, hP⟩ := hP
  by_cases h0 : k = 0
  · subst h0
    obtain rfl : cs = [] := List.eq_nil_of_length_eq_zero (by simpa using hnl)
    have GW := hid gw
    clear gw
    rcases hf with hf | ⟨a, n, c, hf⟩
    · cases hf
      go_enter Tryz.func34, Tryz.ntmps34
      go_wp2_with fail
      go_ret
      exact ⟨_, rfl, World.ownsRow_nil _ _ _ _, (by repeat (first | exact G.refl _ | assumption | apply G.drew | apply G.drewN | apply G.alloc | refine G.trans ?_ (by assumption)))⟩
    · cases hf
      go_enter Tryz.func34, Tryz.ntmps34
      go_wp2_with fail
      go_ret
      exact ⟨_, rfl, World.ownsRow_made w #[] 0 hb0 (by unfold maxLen; omega) rfl, (by repeat (first | exact G.refl _ | assumption | apply G.drew | apply G.drewN | apply G.alloc | refine G.trans ?_ (by assumption)))⟩
  · obtain ⟨b, off, rfl, hb, hc⟩ := hP h0
    have HCC := hid (fun (j : Nat) (u : Value) (hu : cs[j]? = some u) => show (w.alloc (.cells #[] 31)).cell? ((⟨b, off, none⟩ : Addr).add j) = some u by rw [addr_add, (gw.alloc _).cell (p := ⟨b, off + j, none⟩) hb]; exact hc j u hu)
    have HN := hid hnl
    have HONE := hid hone
    have hown0 : (w.alloc (.cells #[] 31)).ownsRow w.heap.size 31 15 (.slice (some ⟨w.heap.size, 0, none⟩) 0 0) 0 [] := World.ownsRow_made w #[] 0 (Nat.le_refl _) (by unfold maxLen; omega) rfl
    have HOWN := hid hown0
    have GW := hid gw
    clear hc hnl hone hown0 hP hf hb gw
    go_enter Tryz.func34, Tryz.ntmps34
    go_wp2_with (at_builtin; refine wpList_append_own _ rfl _ _ 33 rfl w.heap.size 31 i0 _ 15 176 Tryz.underlying33 hi hz0 hz1 hz2 rfl (by decide) _ _ _ rfl HOWN.out ⟨b, off, none⟩ k cap cs rfl HN.out HCC.out HONE.out (by unfold maxLen; omega) (by omega) (by simp) ?_; intro v' w1 hown' hgrow _)
    go_ret
    have hgrow' : (w.alloc (.cells #[] 31)).grownBy w1 (some w.heap.size) := hgrow
    have hG : G w w1 := Below.grown ((Below.refl w.heap.size w).alloc (Nat.le_refl _) (.cells #[] 31)) hgrow' (by simp) (fun j hj => by cases hj; exact Nat.le_refl _)
    exact ⟨_, rfl, ownsRow_mono (by simpa using hown') hb0, hG⟩
end Go.Proofs.YtdmbhoagjjkogaaGreatDoor

namespace Go.Proofs.YtdmbhoagjjkogaaGreatDoor
open Go.RowKit
set_option linter.unusedVariables false
set_option linter.unusedSimpArgs false
structure Sub (w w' : World) : Prop where
  size : w.heap.size ≤ w'.heap.size
  cell : ∀ p u, w.cell? p = some u → w'.cell? p = some u
theorem IsRow.sub {w w' : World} {e n : Nat} {v : Value} {cs : List Value} (h : IsRow e w v n cs) (g : Sub w w') : IsRow e w' v n cs := by
  obtain ⟨h1, h2, h3⟩ := h
  refine ⟨h1, h2, ?_⟩
  rcases h3 with h3 | ⟨b, off, cap, e, hb, hn, hc⟩
  · exact .inl h3
  · exact .inr ⟨b, off, cap, e, Nat.lt_of_lt_of_le hb g.size, hn, fun j hj => g.cell _ _ (hc j hj)⟩
theorem IsStrs.sub {w w' : World} {v : Value} {ls : List (List UInt8)} (h : IsStrs w v ls) (g : Sub w w') : IsStrs w' v ls := ⟨h.1.sub g, h.2⟩
theorem IsLists.sub {w w' : World} {v : Value} {ls : List (List (List UInt8))} (h : IsLists w v ls) (g : Sub w w') : IsLists w' v ls := by
  obtain ⟨cells, h1, h2, h3⟩ := h
  refine ⟨cells, h1.sub g, h2, fun i l hl => ?_⟩
  obtain ⟨sv, h4, h5⟩ := h3 i l hl
  exact ⟨sv, h4, h5.sub g⟩
theorem IsParams.sub {w w' : World} {v : Value} {ps : List Pm} (h : IsParams w v ps) (g : Sub w w') : IsParams w' v ps := by
  obtain ⟨a, cap, e, hc, h⟩ := h
  refine ⟨a, cap, e, hc, fun h0 => ?_⟩
  obtain ⟨b, off, e2, hb, h⟩ := h h0
  refine ⟨b, off, e2, Nat.lt_of_lt_of_le hb g.size, fun i p hp => ?_⟩
  obtain ⟨sv, h1, h2, h3⟩ := h i p hp
  exact ⟨sv, g.cell _ _ h1, g.cell _ _ h2, h3.sub g⟩
theorem ItOk.sub {w w' : World} {x : It} {pv lv : Value} (h : ItOk w x pv lv) (g : Sub w w') : ItOk w' x pv lv := ⟨h.p.sub g, h.l.sub g, h.f, h.y, h.t⟩
theorem ItRow.sub {w w' : World} (g : Sub w w') : ∀ {xs : List It} {cs : List Value}, ItRow w xs cs → ItRow w' xs cs
  | [], _, h => h
  | x :: xs, _, ⟨pv, lv, ds, e, h1, h2⟩ => ⟨pv, lv, ds, e, h1.sub g, h2.sub g⟩
theorem Lies.sub {w w' : World} {v : Value} {n : Nat} {cs : List Value} (h : Lies w v n cs) (g : Sub w w') : Lies w' v n cs := by
  obtain ⟨h1, h2, a, cap, e, hc, h⟩ := h
  refine ⟨h1, h2, a, cap, e, hc, fun h0 => ?_⟩
  obtain ⟨b, off, e2, hb, h⟩ := h h0
  exact ⟨b, off, e2, Nat.lt_of_lt_of_le hb g.size, fun j u hu => g.cell _ _ (h j u hu)⟩
theorem IsItems.sub0 {w w' : World} {v : Value} {xs : List It} (h : IsItems w v xs) (g : Sub w w') : IsItems w' v xs := by
  obtain ⟨cs, h1, h2⟩ := h.lies
  exact (h1.sub g).items (h2.sub g)
def Wo (C : Nat) (w : World) : World := { w with heap := w.heap.setIfInBounds C (.cells #[] 0 (0, 0)) }
theorem Wo.size (C : Nat) (w : World) : (Wo C w).heap.size = w.heap.size := by simp [Wo]
theorem Wo.other (C : Nat) (w : World) (b : Nat) (h : b ≠ C) : (Wo C w).heap[b]? = w.heap[b]? := by
  unfold Wo
  simp only [Array.getElem?_setIfInBounds]
  rw [if_neg (fun e => h e.symm)]
theorem Wo.cell (C : Nat) (w : World) (p : Addr) (u : Value) (h : (Wo C w).cell? p = some u) : w.cell? p = some u := by
  by_cases hb : p.block = C
  · unfold World.cell? at h
    by_cases hl : C < w.heap.size
    · have : (Wo C w).heap[p.block]? = some (.cells #[] 0 (0, 0)) := by rw [hb]; unfold Wo; simp [hl]
      rw [this] at h
      simp at h
    · have : (Wo C w).heap[p.block]? = none := by rw [hb]; exact Array.getElem?_eq_none (by rw [Wo.size]; omega)
      rw [this] at h
      simp at h
  · rw [← World.cell?_of_block (w := w) (w' := Wo C w) (Wo.other C w _ hb)]
    exact h
theorem Wo.sub (C : Nat) (w : World) : Sub (Wo C w) w := ⟨by rw [Wo.size]; exact Nat.le_refl _, Wo.cell C w⟩
theorem Wo.set (C : Nat) (w : World) (i : Nat) (v : Value) : Wo C (w.setCell ⟨C, i, none⟩ v) = Wo C w := by
  unfold Wo World.setCell
  congr 1
  apply Array.ext_getElem?
  intro j
  simp only [Array.getElem?_setIfInBounds, Array.getElem?_modify, Array.size_modify]
  split
  · rfl
  · rfl
theorem Wo.g {C : Nat} {w w' : World} (h : G w w') : G (Wo C w) (Wo C w') := by
  have hb := h.below
  refine ⟨hb.os, hb.tape, hb.output, by rw [Wo.size, Wo.size]; exact h.size, fun b hl => ?_⟩
  rw [Wo.size] at hl
  by_cases hC : b = C
  · subst hC
    have hl' := Nat.lt_of_lt_of_le hl h.size
    unfold Wo
    simp [hl, hl']
  · rw [Wo.other C _ _ hC, Wo.other C _ _ hC]
    exact hb.block b hl
theorem Wo.of {C : Nat} {w w' : World} (h : G w w') (hC : w.heap.size ≤ C) : G w (Wo C w') := by
  have hb := h.below
  refine ⟨hb.os, hb.tape, hb.output, by rw [Wo.size]; exact h.size, fun b hl => ?_⟩
  rw [Wo.other C _ _ (by omega)]
  exact hb.block b hl
theorem OwnR.wo {C n : Nat} {w : World} {v : Value} {k : Nat} {cs : List Value} (h : OwnR n w v k cs) (hC : C < n) : OwnR n (Wo C w) v k cs := h.same fun b hb _ => Wo.other C w b (by omega)
end Go.Proofs.YtdmbhoagjjkogaaGreatDoor

namespace Go.Proofs.YtdmbhoagjjkogaaGreatDoor
open Go.RowKit
set_option linter.unusedVariables false
set_option linter.unusedSimpArgs false
theorem row_up {w w' : World} {b : Nat} {o : Obj} (h : w.heap[b]? = some o) (g : G w w') : w'.heap[b]? = some o := (g.below.block b (Array.getElem?_eq_some_iff.1 h).1).trans h
theorem box_item {w : World} {b : Nat} {x : It} {pv lv : Value} {t : TypeId} (h : w.heap[b]? = some (.cells (x.cells pv lv).toArray t (0, 0))) : w.cell? ⟨b, 0, none⟩ = some (.string (S x.g)) ∧ w.cell? ⟨b, 1, none⟩ = some (.string (S x.n)) ∧ w.cell? ⟨b, 2, none⟩ = some pv ∧ w.cell? ⟨b, 3, none⟩ = some (.int .i64 x.v.ty) ∧ w.cell? ⟨b, 4, none⟩ = some (.string (S x.v.tx)) ∧ w.cell? ⟨b, 5, none⟩ = some lv ∧ w.cell? ⟨b, 6, none⟩ = some (.int .i64 x.v.st.y) ∧ w.cell? ⟨b, 7, none⟩ = some (.int .i64 x.v.st.m) ∧ w.cell? ⟨b, 8, none⟩ = some (.int .i64 x.v.st.d) ∧ w.cell? ⟨b, 9, none⟩ = some (.int .i64 x.v.st.h) ∧ w.cell? ⟨b, 10, none⟩ = some (.int .i64 x.v.st.n) ∧ w.cell? ⟨b, 11, none⟩ = some (.int .i64 x.v.st.s) ∧ w.cell? ⟨b, 12, none⟩ = some (.bool x.v.st.zd) ∧ w.cell? ⟨b, 13, none⟩ = some (.int .i64 x.v.st.zn) ∧ w.cell? ⟨b, 14, none⟩ = some (.int .i64 x.v.n) := by
  refine ⟨?_, ?_, ?_, ?_, ?_, ?_, ?_, ?_, ?_, ?_, ?_, ?_, ?_, ?_, ?_⟩ <;> (rw [cell_of_row w b _ _ _ _ h]; rfl)
theorem new_2 (w : World) (o p : Obj) : ((w.alloc o).alloc p).heap[w.heap.size + 1]? = some p := by have := heap_alloc_new (w.alloc o) p; simpa using this
theorem put4c {W : World} {X : Nat} {a0 a1 a2 a3 b0 b1 b2 b3 : Value} {T : TypeId} (h : W.heap[X]? = some (.cells #[a0, a1, a2, a3] T (0, 0))) :
    ((((W.setCell ⟨X, 0, none⟩ b0).setCell ⟨X, 1, none⟩ b1).setCell ⟨X, 2, none⟩ b2).setCell ⟨X, 3, none⟩ b3).heap[X]? = some (.cells #[b0, b1, b2, b3] T (0, 0)) := by
  simp [World.setCell, Array.getElem?_modify, h]
theorem g_set {w W : World} {X i : Nat} {v : Value} (h : G w W) (hX : w.heap.size ≤ X) : G w (W.setCell ⟨X, i, none⟩ v) := Below.setCell h (by simpa using hX) _
theorem box4c {w : World} {b : Nat} {a0 a1 a2 a3 : Value} {t : TypeId} (h : w.heap[b]? = some (.cells #[a0, a1, a2, a3] t (0, 0))) : w.cell? ⟨b, 0, none⟩ = some a0 ∧ w.cell? ⟨b, 1, none⟩ = some a1 ∧ w.cell? ⟨b, 2, none⟩ = some a2 ∧ w.cell? ⟨b, 3, none⟩ = some a3 := by
  refine ⟨?_, ?_, ?_, ?_⟩ <;> (rw [cell_of_row w b _ _ _ _ h]; rfl)
theorem PrintP.grow {cf : Bool} {p : Ln} {v : Value} {w w' : World} (h : PrintP cf p v w) (g : G w w') : PrintP cf p v w' := by
  unfold PrintP at h ⊢
  cases he : rightE cf p with
  | none => rw [he] at h; exact h
  | some o =>
    rw [he] at h
    obtain ⟨e, h1, h2, h3⟩ := h
    exact ⟨e, h1, h2.grow g, h3⟩
set_option maxRecDepth 100000 in
set_option maxHeartbeats 400000 in
theorem carets_any (ver : Int) (w : World) : Gives 59 #[.int .i64 ver] w (.bool (ver == 4)) := by
  go_enter Tryz.func59, Tryz.ntmps59
  go_wp2_with fail
  go_ret
  exact ⟨rfl, G.refl _⟩
set_option maxRecDepth 100000 in
set_option maxHeartbeats 1000000 in
theorem frames_any (n : List UInt8) (w : World) (h : n.length ≤ 1000000) : Gives 62 #[.string (S n)] w (.bool (framesB n)) := by
  obtain ⟨u, hu⟩ : ∃ u, u = upperL n := ⟨_, rfl⟩
  have hf : framesB n = (u == nBEGIN || u == nEND || u == nVERSION) := by rw [hu]; rfl
  have up := upper_any n w (by omega)
  rw [← hu] at up
  have UP := hid up
  rw [hf]
  clear hf hu up
  unfold nBEGIN nEND nVERSION
  go_enter Tryz.func62, Tryz.ntmps62
  cases h1 : u == [66, 69, 71, 73, 78] with
  | true =>
    go_wp2_with fail
    refine UP.out.use ?_
    intro w1 g1
    go_wp2_with fail
    go_ret
    exact ⟨ret_bool (by simp [h1]), g1⟩
  | false =>
    cases h2 : u == [69, 78, 68] with
    | true =>
      go_wp2_with fail
      refine UP.out.use ?_
      intro w1 g1
      go_wp2_with fail
      go_ret
      exact ⟨ret_bool (by simp [h1, h2]), g1⟩
    | false =>
      go_wp2_with fail
      refine UP.out.use ?_
      intro w1 g1
      go_wp2_with fail
      go_ret
      exact ⟨ret_bool (by simp [h1, h2]), g1⟩
set_option maxRecDepth 100000 in
set_option maxHeartbeats 2000000 in
theorem prop_any (x : It) (pv lv : Value) (ver : Int) (w : World) (h : ItOk w x pv lv) (hs : Sml x) (hM : HasM w) (hE : LaidE w) (ho : x.v.ok = true) : Gives 57 #[x.val pv lv, .int .i64 ver] w (.tuple #[.agg #[.string (S x.g), .string (S x.n), pv, .string (S x.v.text)], .nilIface]) := by
  have VW : ∀ W, G w W → Gives 94 #[x.v.v lv] W (.tuple #[.string (S x.v.text), .nilIface]) := fun W g => by
    refine Calls.mono (vwrite_any x.v lv W (h.l.grow g) hs.bounds.2.2.2.1 hs.bounds.2.2.2.2.1 h.y (hM.grow g) (hE.grow g)) ?_
    rintro e w' ⟨r, rfl, hr, hg⟩
    unfold WriteP at hr
    rw [if_pos ho] at hr
    subst hr
    exact ⟨rfl, hg⟩
  unfold Vl.v at VW
  have HVW := hid VW
  obtain ⟨pa, pc, rfl⟩ := h.pv
  obtain ⟨la, lc, rfl⟩ := h.lv
  clear VW h hs hM hE ho
  go_enter Tryz.func57, Tryz.ntmps57
  go_wp2_with fail
  generalize hw1 : (w.alloc _).alloc _ = w1
  have G1 := hid (show G w w1 by rw [← hw1]; exact ((G.refl w).alloc _).alloc _)
  have HB := hid (show w1.heap[w.heap.size]? = some (.cells (x.cells (.slice pa x.ps.length pc) (.slice la x.v.ps.length lc)).toArray 31 (0, 0)) by rw [← hw1, Lib.alloc_old _ _ _ (by simp)]; exact heap_alloc_new w _)
  have HP := hid (show w1.heap[w.heap.size + 1]? = some (.cells #[.string ⟨#[]⟩, .string ⟨#[]⟩, .slice none 0 0, .string ⟨#[]⟩] 95 (0, 0)) by rw [← hw1]; exact new_2 _ _ _)
  clear hw1
  obtain ⟨q0, q1, q2, q3, q4, q5, q6, q7, q8, q9, q10, q11, q12, q13, q14⟩ := box_item HB.out
  go_wp2_with fail
  refine (HVW.out _ G1.out).use ?_
  intro w2 g2
  have G2 := hid (G1.out.trans g2)
  have HP2 := hid (row_up HP.out g2)
  have HB2 := hid (row_up HB.out g2)
  clear q0 q1 q2 q3 q4 q5 q6 q7 q8 q9 q10 q11 q12 q13 q14 g2
  obtain ⟨q0, q1, q2, _⟩ := box_item HB2.out
  obtain ⟨c0, c1, c2, c3⟩ := box4c HP2.out
  have f0 := Lib.frozen_of_heap HP2.out 0
  have f1 := Lib.frozen_of_heap HP2.out 1
  have f2 := Lib.frozen_of_heap HP2.out 2
  have f3 := Lib.frozen_of_heap HP2.out 3
  go_wp2_with fail
  have hfin := put4c (b0 := .string (S x.g)) (b1 := .string (S x.n)) (b2 := .slice pa x.ps.length pc) (b3 := .string (S x.v.text)) HP2.out
  obtain ⟨e0, e1, e2, e3⟩ := box4c hfin
  refine bodyPost_ret (v := .tuple #[.agg #[.string (S x.g), .string (S x.n), .slice pa x.ps.length pc, .string (S x.v.text)], .nilIface]) ?_ rfl ⟨rfl, ?_⟩
  · simp only [results, Tryz.f57]
    go_simp
  · exact g_set (g_set (g_set (g_set G2.out (by omega)) (by omega)) (by omega)) (by omega)
end Go.Proofs.YtdmbhoagjjkogaaGreatDoor
