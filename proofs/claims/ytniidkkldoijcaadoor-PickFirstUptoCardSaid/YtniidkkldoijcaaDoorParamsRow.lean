/-
  Parameters as rows of cells; CONTRACT of slices.Clone at []api.Param. 
-/
import Derived.Test.YtniidkkldoijcaaDoorParams
import Derived.Deep.OwnRows
import Derived.Deep.Slices
import Derived.OwnWalk
import Derived.Lib.SliceRun
import Derived.Laws.Cover3
import Derived.Laws.AppendOwn
namespace Go.Proofs.YtniidkkldoijcaaDoor
open Go.RowKit
set_option linter.unusedVariables false
set_option linter.unusedSimpArgs false

def cellsPm : List Pm → List Value → List Value
  | p :: ps, v :: vs => .string (S p.1) :: v :: cellsPm ps vs
  | _, _ => []
theorem cellsPm_length : ∀ (ps : List Pm) (vs : List Value), vs.length = ps.length → (cellsPm ps vs).length = ps.length * 2
  | [], vs, h => by cases vs with | nil => rfl | cons _ _ => simp at h
  | p :: ps, [], h => by simp at h
  | p :: ps, v :: vs, h => by
    have := cellsPm_length ps vs (by simpa using h)
    simp only [cellsPm, List.length_cons, this]; omega
theorem cellsPm_at : ∀ (ps : List Pm) (vs : List Value) (i : Nat) (p : Pm) (v : Value), ps[i]? = some p → vs[i]? = some v → (cellsPm ps vs)[i * 2]? = some (.string (S p.1)) ∧ (cellsPm ps vs)[i * 2 + 1]? = some v
  | [], _, i, p, v, h, _ => by simp at h
  | q :: ps, [], i, p, v, _, h => by simp at h
  | q :: ps, u :: vs, 0, p, v, h, h' => by simp at h h'; subst h; subst h'; simp [cellsPm]
  | q :: ps, u :: vs, i + 1, p, v, h, h' => by
    have := cellsPm_at ps vs i p v (by simpa using h) (by simpa using h')
    have e1 : (i + 1) * 2 = i * 2 + 1 + 1 := by omega
    rw [e1]
    simpa [cellsPm] using this
theorem cellsPm_append : ∀ (ps : List Pm) (vs : List Value) (qs : List Pm) (us : List Value), vs.length = ps.length → cellsPm (ps ++ qs) (vs ++ us) = cellsPm ps vs ++ cellsPm qs us
  | [], vs, qs, us, h => by cases vs with | nil => rfl | cons _ _ => simp at h
  | p :: ps, [], qs, us, h => by simp at h
  | p :: ps, v :: vs, qs, us, h => by
    have := cellsPm_append ps vs qs us (by simpa using h)
    simp only [List.cons_append, cellsPm, this]
theorem cellsPm_one : ∀ (ps : List Pm) (vs : List Value), (∀ v ∈ vs, v.oneCell' = true) → ∀ u ∈ cellsPm ps vs, u.oneCell' = true
  | [], _, _, u, hu => by simp [cellsPm] at hu
  | p :: ps, [], _, u, hu => by simp [cellsPm] at hu
  | p :: ps, v :: vs, h, u, hu => by
    simp only [cellsPm, List.mem_cons] at hu
    rcases hu with rfl | rfl | hu
    · rfl
    · exact h _ (by simp)
    · exact cellsPm_one ps vs (fun v hv => h v (by simp [hv])) u hu
/-- the values' slices, told apart -/
theorem IsParams.slices {w : World} {v : Value} {ps : List Pm} (h : IsParams w v ps) (h0 : ps ≠ []) : ∃ (b off cap : Nat) (vs : List Value), v = .slice (some ⟨b, off, none⟩) ps.length cap ∧ b < w.heap.size ∧ vs.length = ps.length ∧
    (∀ (i : Nat) (p : Pm) (u : Value), ps[i]? = some p → vs[i]? = some u → IsStrs w u p.2) ∧ (∀ (j : Nat) (u : Value), (cellsPm ps vs)[j]? = some u → w.cell? ⟨b, off + j, none⟩ = some u) := by
  obtain ⟨a, cap, rfl, hc, h⟩ := h
  obtain ⟨b, off, rfl, hb, h⟩ := h h0
  obtain ⟨f, hf⟩ := Deep.choose_lt (α := Value) (n := ps.length) (p := fun i sv => ∀ p, ps[i]? = some p → w.cell? ⟨b, off + i * 2, none⟩ = some (.string (S p.1)) ∧ w.cell? ⟨b, off + i * 2 + 1, none⟩ = some sv ∧ IsStrs w sv p.2) (fun i hi => by
    obtain ⟨sv, h1, h2, h3⟩ := h i _ (List.getElem?_eq_getElem hi)
    refine ⟨sv, fun p hp => ?_⟩
    rw [List.getElem?_eq_getElem hi] at hp
    injection hp with hp
    subst hp
    exact ⟨h1, h2, h3⟩)
  have hlen : ((List.range ps.length).map f).length = ps.length := by simp
  have hat : ∀ i, i < ps.length → ((List.range ps.length).map f)[i]? = some (f i) := fun i hi => by simp [List.getElem?_range hi]
  refine ⟨b, off, cap, (List.range ps.length).map f, rfl, hb, hlen, ?_, ?_⟩
  · intro i p u hp hu
    have hi : i < ps.length := (List.getElem?_eq_some_iff.1 hp).1
    rw [hat i hi] at hu
    injection hu with hu
    subst hu
    exact (hf i hi p hp).2.2
  · intro j u hu
    have hj : j < ps.length * 2 := by rw [← cellsPm_length ps _ hlen]; exact (List.getElem?_eq_some_iff.1 hu).1
    have hi : j / 2 < ps.length := by omega
    have hp := List.getElem?_eq_getElem hi
    obtain ⟨k1, k2, _⟩ := hf _ hi _ hp
    obtain ⟨m1, m2⟩ := cellsPm_at ps _ _ _ _ hp (hat _ hi)
    rcases Nat.mod_two_eq_zero_or_one j with h2 | h2
    · have ej : j / 2 * 2 = j := by omega
      rw [ej] at k1 m1
      rw [k1, ← hu, m1]
    · have ej : j / 2 * 2 + 1 = j := by omega
      rw [Nat.add_assoc, ej] at k2
      rw [ej] at m2
      rw [k2, ← hu, m2]
theorem params_of_row {w : World} {base : Nat} {u : Value} {ps : List Pm} {vs : List Value} {t : TypeId} (hl : vs.length = ps.length) (hs : ∀ (i : Nat) (p : Pm) (v : Value), ps[i]? = some p → vs[i]? = some v → IsStrs w v p.2)
    (hr : w.ownsRow base t 2 u ps.length (cellsPm ps vs)) : IsParams w u ps := by
  rcases hr.2 with ⟨rfl, h0⟩ | ⟨g, cap, cur, rfl, _, hg, hc, _⟩
  · have : ps = [] := List.length_eq_zero_iff.1 h0
    subst this
    exact ⟨_, _, rfl, by simp, fun h => absurd rfl h⟩
  · refine ⟨_, _, rfl, hc, fun h0 => ⟨g, 0, rfl, (Array.getElem?_eq_some_iff.1 hg).1, fun i p hp => ?_⟩⟩
    have hi : i < ps.length := (List.getElem?_eq_some_iff.1 hp).1
    have hv := List.getElem?_eq_getElem (show i < vs.length by omega)
    obtain ⟨m1, m2⟩ := cellsPm_at ps vs i p _ hp hv
    have ea : ∀ j, (⟨g, 0, none⟩ : Addr).add j = ⟨g, 0 + j, none⟩ := fun j => by unfold Addr.add; split <;> simp_all
    have c1 := hr.cells (g := g) rfl _ _ m1
    have c2 := hr.cells (g := g) rfl _ _ m2
    rw [ea] at c1 c2
    exact ⟨_, c1, by rw [Nat.add_assoc]; exact c2, hs i p _ hp hv⟩

theorem infoParam : (Tryd.prog.info? 52).map (fun i => (i.zero, i.size, i.bytes)) = some (some (.agg #[.string ⟨#[]⟩, .slice none 0 0]), 2, 40) := by kernel_rfl
set_option maxRecDepth 100000 in
set_option maxHeartbeats 1000000 in
/-- slices.Clone of parameters: a row of its own, of the same cells, whatever world it is called in -/
theorem clone_params (v : Value) (ps : List Pm) (w : World) (hP : IsParams w v ps) (hf : v = .slice none 0 0 ∨ ∃ a n c, v = .slice (some a) n c) (hl : ps.length ≤ 100000) :
    ∃ vs : List Value, vs.length = ps.length ∧ (∀ (i : Nat) (p : Pm) (x : Value), ps[i]? = some p → vs[i]? = some x → IsStrs w x p.2) ∧ ∀ W, G w W →
    Calls Tryd.prog 24 #[v] W fun e w' => ∃ u, e = .returned u ∧ w'.ownsRow W.heap.size 52 2 u ps.length (cellsPm ps vs) ∧ G W w' := by
  obtain ⟨i0, hi, hz0, hz1, hz2⟩ := info_parts infoParam
  have heq := fun W a n c => Lib.run_eql_slice_nil (P := Tryd.prog) W 25 52 a n c 0 0 Tryd.underlying25
  by_cases h0 : ps = []
  · subst h0
    refine ⟨[], rfl, by simp, fun W gW => ?_⟩
    rcases hf with rfl | ⟨a, n, c, rfl⟩
    · clear gW
      go_enter Tryd.func24, Tryd.ntmps24
      go_wp2_with fail
      go_ret
      exact ⟨_, rfl, World.ownsRow_nil _ _ _ _, (by repeat (first | exact G.refl _ | assumption | apply G.drew | apply G.drewN | apply G.alloc | refine G.trans ?_ (by assumption)))⟩
    · obtain ⟨a', cap, e, _, _⟩ := hP
      cases e
      clear gW
      go_enter Tryd.func24, Tryd.ntmps24
      go_wp2_with fail
      go_ret
      exact ⟨_, rfl, World.ownsRow_made W #[] 0 (Nat.le_refl _) (by unfold maxLen; omega) rfl, (by repeat (first | exact G.refl _ | assumption | apply G.drew | apply G.drewN | apply G.alloc | refine G.trans ?_ (by assumption)))⟩
  · obtain ⟨b, off, cap, vs, rfl, hb, hvl, hs, hc⟩ := hP.slices h0
    have hnl := cellsPm_length ps vs hvl
    have hone : ∀ u ∈ cellsPm ps vs, u.oneCell' = true := cellsPm_one ps vs (fun v hv => by
      obtain ⟨i, hi', rfl⟩ := List.mem_iff_getElem.1 hv
      obtain ⟨a, c, e, _⟩ := (hs i _ _ (List.getElem?_eq_getElem (by omega)) (List.getElem?_eq_getElem hi')).len
      rw [e]; rfl)
    have hadd : ∀ j, (⟨b, off, none⟩ : Addr).add j = ⟨b, off + j, none⟩ := fun j => by unfold Addr.add; split <;> simp_all
    have hcc : ∀ (W : World), G w W → ∀ (j : Nat) (u : Value), (cellsPm ps vs)[j]? = some u → W.cell? ((⟨b, off, none⟩ : Addr).add j) = some u := fun W g j u hu => by rw [hadd, g.cell (p := ⟨b, off + j, none⟩) hb]; exact hc j u hu
    refine ⟨vs, hvl, hs, fun W gW => ?_⟩
    have HCC := hid (hcc _ (gW.alloc (.cells #[] 52)))
    have HN := hid hnl
    have HONE := hid hone
    have hown0 : (W.alloc (.cells #[] 52)).ownsRow W.heap.size 52 2 (.slice (some ⟨W.heap.size, 0, none⟩) 0 0) 0 [] := World.ownsRow_made W #[] 0 (Nat.le_refl _) (by unfold maxLen; omega) rfl
    have HOWN := hid hown0
    clear hcc hs hc hnl hone hvl hown0 hadd hP hf gW hb
    go_enter Tryd.func24, Tryd.ntmps24
    go_wp2_with (at_builtin; refine wpList_append_own _ rfl _ _ 25 rfl W.heap.size 52 i0 _ 2 40 Tryd.underlying25 hi hz0 hz1 hz2 rfl (by decide) _ _ _ rfl HOWN.out ⟨b, off, none⟩ ps.length cap (cellsPm ps vs) rfl HN.out HCC.out HONE.out (by unfold maxLen; omega) (by omega) (by simp) ?_; intro v' w1 hown' hgrow _)
    go_ret
    have hgrow' : (W.alloc (.cells #[] 52)).grownBy w1 (some W.heap.size) := hgrow
    have hG : G W w1 := Below.grown ((Below.refl W.heap.size W).alloc (Nat.le_refl _) (.cells #[] 52)) hgrow' (by simp) (fun j hj => by cases hj; exact Nat.le_refl _)
    exact ⟨_, rfl, by simpa using hown', hG⟩
theorem news2 (w : World) (a b : Value) (t : TypeId) : ∀ (j : Nat) (u : Value), [a, b][j]? = some u → (w.alloc (.cells #[a, b] t)).cell? ((⟨w.heap.size, 0, none⟩ : Addr).add j) = some u := by
  intro j u hj
  have ea : (⟨w.heap.size, 0, none⟩ : Addr).add j = ⟨w.heap.size, j, none⟩ := by unfold Addr.add; split <;> simp_all
  rw [ea]
  match j, hj with
  | 0, hj => simp at hj; subst hj; simp [go_sem]
  | 1, hj => simp at hj; subst hj; simp [go_sem]
  | n + 2, hj => simp at hj
theorem news2_kept {w w' : World} {a b : Value} {t : TypeId} (hg : G (w.alloc (.cells #[a, b] t)) w') : ∀ (j : Nat) (u : Value), [a, b][j]? = some u → w'.cell? ((⟨w.heap.size, 0, none⟩ : Addr).add j) = some u := by
  intro j u hj
  have ea : (⟨w.heap.size, 0, none⟩ : Addr).add j = ⟨w.heap.size, j, none⟩ := by unfold Addr.add; split <;> simp_all
  have := news2 w a b t j u hj
  rw [ea] at this ⊢
  rw [hg.cell (p := ⟨w.heap.size, j, none⟩) (by simp)]
  exact this
theorem news2_drew {w w' : World} {a b : Value} {t : TypeId} (hg : G (w.alloc (.cells #[a, b] t)).drew w') : ∀ (j : Nat) (u : Value), [a, b][j]? = some u → w'.cell? ((⟨w.heap.size, 0, none⟩ : Addr).add j) = some u := by
  intro j u hj
  have ea : (⟨w.heap.size, 0, none⟩ : Addr).add j = ⟨w.heap.size, j, none⟩ := by unfold Addr.add; split <;> simp_all
  have := news2 w a b t j u hj
  rw [ea] at this ⊢
  rw [hg.cell (p := ⟨w.heap.size, j, none⟩) (by show w.heap.size < (w.alloc _).heap.size; simp)]
  exact this
theorem params_snoc {w5 w' : World} {base : Nat} {u sv : Value} {ps : List Pm} {vs0 : List Value} {nm : List UInt8} {vs : List (List UInt8)} {t : TypeId} (hl : vs0.length = ps.length) (hs : ∀ (i : Nat) (p : Pm) (x : Value), ps[i]? = some p → vs0[i]? = some x → IsStrs w5 x p.2)
    (hsv : IsStrs w5 sv vs) (hg : G w5 w') (hr : w'.ownsRow base t 2 u (ps.length + 1) (cellsPm ps vs0 ++ [.string (S nm), sv])) : IsParams w' u (ps ++ [(nm, vs)]) := by
  refine params_of_row (vs := vs0 ++ [sv]) (by simp [hl]) ?_ (by rw [List.length_append, cellsPm_append _ _ _ _ hl]; exact hr)
  intro i p x hp hx
  rcases Nat.lt_or_ge i ps.length with hi | hi
  · rw [List.getElem?_append_left hi] at hp
    rw [List.getElem?_append_left (by omega)] at hx
    exact (hs i p x hp hx).grow hg
  · have hi2 : i = ps.length := by
      have := (List.getElem?_eq_some_iff.1 hp).1
      simp at this
      omega
    subst hi2
    rw [List.getElem?_append_right (Nat.le_refl _)] at hp
    rw [List.getElem?_append_right (by omega)] at hx
    simp [hl] at hp hx
    subst hp; subst hx
    exact hsv.grow hg

end Go.Proofs.YtniidkkldoijcaaDoor
