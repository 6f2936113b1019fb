/-
  Parameters in memory; CONTRACT of rules.Find.
-/
import Derived.Test.YtniidkkldoijcaaDoorMErr
import Derived.Test.YtniidkkldoijcaaDoorSplit
namespace Go.Proofs.YtniidkkldoijcaaDoor
open Go.RowKit
set_option linter.unusedVariables false
set_option linter.unusedSimpArgs false

/-- a parameter: its name, its values -/
abbrev Pm := List UInt8 × List (List UInt8)
/-- the slice value holds these parameters -/
def IsParams (w : World) (v : Value) (ps : List Pm) : Prop :=
  ∃ a cap, v = .slice a ps.length cap ∧ ps.length ≤ cap ∧ (ps ≠ [] → ∃ b off, a = some ⟨b, off, none⟩ ∧ b < w.heap.size ∧
    ∀ (i : Nat) (p : Pm), ps[i]? = some p → ∃ sv, w.cell? ⟨b, off + i * 2, none⟩ = some (.string (S p.1)) ∧ w.cell? ⟨b, off + i * 2 + 1, none⟩ = some sv ∧ IsStrs w sv p.2)
theorem IsParams.grow {w w' : World} {v : Value} {ps : List Pm} (h : IsParams w v ps) (g : G w w') : IsParams w' v ps := by
  obtain ⟨a, cap, e, hc, h⟩ := h
  refine ⟨a, cap, e, hc, fun h0 => ?_⟩
  obtain ⟨b, off, e2, hb, h⟩ := h h0
  refine ⟨b, off, e2, Nat.lt_of_lt_of_le hb g.size, fun i p hp => ?_⟩
  obtain ⟨sv, h1, h2, h3⟩ := h i p hp
  exact ⟨sv, by rw [g.cell hb]; exact h1, by rw [g.cell hb]; exact h2, h3.grow g⟩
/-- the first parameter of a name -/
def findL (ps : List Pm) (s : List UInt8) : Option Nat := ps.findIdx? fun p => sameL p.1 s
def findV (o : Option Nat) : Int := match o with | none => -1 | some k => (k : Int)
def sumPm (ps : List Pm) : Nat := (ps.map fun p => p.1.length + 1).sum
theorem find_at {ps : List Pm} {s : List UInt8} {k : Nat} (h : k < ps.length) (hp : sameL (ps[k]).1 s = true) (hn : ∀ j (h : j < k), sameL (ps[j]'(by omega)).1 s = false) : findL ps s = some k := by
  unfold findL
  rw [List.findIdx?_eq_some_iff_getElem]
  exact ⟨h, hp, fun j hj => by simp [hn j hj]⟩
theorem find_none {ps : List Pm} {s : List UInt8} (hn : ∀ j (h : j < ps.length), sameL (ps[j]).1 s = false) : findL ps s = none := by
  unfold findL
  rw [List.findIdx?_eq_none_iff]
  intro p hp
  obtain ⟨j, hj, rfl⟩ := List.mem_iff_getElem.1 hp
  exact hn j hj
set_option maxRecDepth 100000 in
set_option maxHeartbeats 1000000 in
theorem find_any (v : Value) (ps : List Pm) (s : List UInt8) (w : World) (h : IsParams w v ps) (hl : ps.length ≤ 1000000) (hp : ∀ p ∈ ps, p.1.length ≤ 1000000) (hs : s.length ≤ 1000000) : Gives 59 #[v, .string (S s)] w (.int .i64 (findV (findL ps s))) := by
  have H := hid h
  obtain ⟨a, cap, rfl, _, _⟩ := h
  have HP := hid hp
  clear hp
  go_enter Tryd.func59, Tryd.ntmps59
  go_wp2_with fail
  go_loopw [9] (fun i wr => ∃ k : Nat, k ≤ ps.length ∧ i = .int .i64 k ∧ (∀ j (h : j < ps.length), j < k → sameL (ps[j]).1 s = false) ∧ G w wr) (fun i _ => ps.length - (intOf i).toNat)
  case atStart => exact ⟨0, Nat.zero_le _, rfl, fun j _ h => by omega, G.refl _⟩
  case round =>
    obtain ⟨k, hk, rfl, hn, gr⟩ := hrel
    have HN := hid hn
    have GR := hid gr
    clear hn gr
    by_cases hlt : k < ps.length
    · obtain ⟨a2, cap2, e1, _, hc⟩ := (H.out.grow GR.out)
      obtain ⟨b, off, e2, hb, hcc⟩ := hc (by rintro rfl; simp at hlt)
      clear hc
      simp only [Value.slice.injEq, true_and] at e1
      obtain ⟨rfl, rfl⟩ := e1
      subst e2
      obtain ⟨sv, c1, c2, c3⟩ := hcc k _ (List.getElem?_eq_getElem hlt)
      have hpl := HP.out _ (List.getElem_mem hlt)
      obtain ⟨p, hpe⟩ : ∃ p, ps[k] = p := ⟨_, rfl⟩
      have HPE := hid hpe
      rw [hpe] at c1 c3 hpl
      have hone := c3.len
      obtain ⟨sa, sc, rfl, _⟩ := hone
      clear hcc c3 hpe
      go_wp2_with fail
      refine (same_any p.1 s _ (by omega) (by omega)).use ?_
      intro w2 g2
      have G2 : Hid (G w w2) := hid (GR.out.trans (G.trans ((G.refl _).alloc _) g2))
      clear g2
      cases hsm : sameL p.1 s with
      | true =>
        have HF : Hid (findL ps s = some k) := hid (find_at hlt (by rw [HPE.out]; exact hsm) fun j hj => HN.out j (by omega) hj)
        go_wp2_with fail
        go_ret
        exact ⟨ret_int (by rw [HF.out]; rfl), G2.out⟩
      | false =>
        have HF : Hid (∀ j (h : j < ps.length), j < k + 1 → sameL (ps[j]).1 s = false) := hid (fun j h hj => by
          rcases Nat.lt_or_ge j k with h1 | h1
          · exact HN.out j h h1
          · obtain rfl : j = k := by omega
            rw [HPE.out]; exact hsm)
        clear hsm
        go_wp2_with fail
        go_roundw
        case rel => exact ⟨k + 1, by omega, by go_num, HF.out, G2.out⟩
        case measure => simp [intOf]; omega
    · obtain rfl : k = ps.length := by omega
      have HF : Hid (findL ps s = none) := hid (find_none fun j h => HN.out j h h)
      go_wp2_with fail
      go_ret
      exact ⟨ret_int (by rw [HF.out]; rfl), GR.out⟩

end Go.Proofs.YtniidkkldoijcaaDoor
