/-
  CONTRACTS of slices.Equal, slices.EqualFunc and the laws' sameJson, at the same keys, the same trees; of the laws' weight.
-/
import Derived.Test.YtlejbindochiiaaDoorJsonRight
namespace Go.Proofs.YtlejbindochiiaaDoor
open Go.RowKit
set_option linter.unusedVariables false
set_option linter.unusedSimpArgs false

theorem JAt.cut : ∀ {d n : Nat} {p : Nat → Prop} {w : World} {v : Value} {x : Jt}, JAt n p w v x → rightJ d x = none → JAt d p w v x
  | 0, n, p, w, v, x, _, hr => by cases x; cases hr
  | d + 1, 0, p, w, v, x, h, _ => h.elim
  | d + 1, n + 1, p, w, v, .mk k t ks l, h, hr => by
    obtain ⟨kv, lv, vs, e, hk, hkp, hl, hc, hlp, hn, hx⟩ := h
    exact ⟨kv, lv, vs, e, hk, hkp, hl, hc, hlp, hn, fun i y u hy hu => (hx i y u hy hu).cut ((right_parts_J hr).2.2.2.2.2 y (List.mem_of_getElem? hy))⟩
theorem parts_succ {n : Nat} {p : Nat → Prop} {w : World} {k : Int} {t : List UInt8} {ks : List (List UInt8)} {l : List Jt} {ka la : Option Addr} {kc lc : Nat} (h : JAt (n + 1) p w (.agg #[.int .i64 k, .string (S t), .slice ka ks.length kc, .slice la l.length lc]) (.mk k t ks l)) :
    (∀ (j : Nat) (hj : j < ks.length), ∃ b o, ka = some ⟨b, o, none⟩ ∧ b < w.heap.size ∧ w.cell? ⟨b, o + j, none⟩ = some (.string (S ks[j]))) ∧
    (∀ (j : Nat) (hj : j < l.length), ∃ b o u, la = some ⟨b, o, none⟩ ∧ b < w.heap.size ∧ JAt n p w u l[j] ∧ ∀ i (v : Value), i < 4 → (cellsU u)[i]? = some v → w.cell? ⟨b, o + (j * 4 + i), none⟩ = some v) := by
  obtain ⟨kv, lv, vs, e, hk, _, hl, _, _, hn, hx⟩ := h
  simp only [Jt.kind, Jt.text, Jt.keys, Jt.list] at e hk hl hn hx
  injection e with e
  have e2 : [Value.slice ka ks.length kc, .slice la l.length lc] = [kv, lv] := by
    have := congrArg Array.toList e
    simp at this
    simp [this]
  obtain ⟨rfl, e3⟩ := List.cons.inj e2
  obtain ⟨rfl, _⟩ := List.cons.inj e3
  refine ⟨fun j hj => ?_, fun j hj => ?_⟩
  · obtain ⟨b, o, cap, e1, _, hb, hc⟩ := hk.at_ (by rintro rfl; simp at hj)
    injection e1 with e1 _ _
    exact ⟨b, o, e1, hb, hc j _ (List.getElem?_eq_getElem hj)⟩
  · obtain ⟨h1, _, h3⟩ := hl
    rcases h3 with ⟨h3, _⟩ | ⟨b, o, cap, e1, hb, _, hc⟩
    · omega
    · injection e1 with e1 _ _
      have hjv : j < vs.length := by omega
      refine ⟨b, o, vs[j], e1, hb, hx j _ _ (List.getElem?_eq_getElem hj) (List.getElem?_eq_getElem hjv), fun i v hi hv => ?_⟩
      have h4 : ∀ u ∈ vs, (cellsU u).length = 4 := fun u hu => by
        obtain ⟨i, hi, rfl⟩ := List.mem_iff_getElem.1 hu
        exact (hx i _ _ (List.getElem?_eq_getElem (by omega)) (List.getElem?_eq_getElem hi)).cells.1
      have := cellsJ_at h4 (List.getElem?_eq_getElem hjv) i hi
      rw [hv] at this
      obtain ⟨hlt, hget⟩ := List.getElem?_eq_some_iff.1 this
      rw [hc _ hlt, hget]
end Go.Proofs.YtlejbindochiiaaDoor
