/-
  A map from strings to true: what has been seen. Plain.
-/
import Derived.Test.YtlejbindochiiaaDoorMapRun
import Derived.Test.YtlejbindochiiaaDoorRdr
namespace Go.Proofs.YtlejbindochiiaaDoor
open Go.RowKit
set_option linter.unusedVariables false
set_option linter.unusedSimpArgs false

/-- the entries hold these keys, each with true -/
def SeenEs (es : Array MapEntry) (seen : List (List UInt8)) : Prop := (∀ e ∈ es.toList, ∃ k ∈ seen, e.key = .string (S k) ∧ e.val = .bool true) ∧ ∀ k ∈ seen, ∃ e ∈ es.toList, e.key = .string (S k)
theorem key_inj {a b : List UInt8} (h : Value.string (S a) = .string (S b)) : a = b := by
  injection h with h
  exact S_inj.1 h
theorem seen_nil : SeenEs #[] [] := ⟨by simp, by simp⟩
theorem seen_find {es : Array MapEntry} {seen : List (List UInt8)} (h : SeenEs es seen) (k : List UInt8) : (k ∈ seen ∧ ∃ i, Instr.findNow .string (.string (S k)) es.toList 0 = some (some (i, .bool true))) ∨ (k ∉ seen ∧ Instr.findNow .string (.string (S k)) es.toList 0 = some none) := by
  rcases MapKept.findNow_spec (d := .string) (k := .string (S k)) trivial es.toList 0 (fun e he => by obtain ⟨x, _, hx, _⟩ := h.1 e he; rw [hx]; trivial) with ⟨h1, h2⟩ | ⟨j, e, h1, h2, h3⟩
  · refine .inr ⟨fun hk => ?_, h1⟩
    obtain ⟨e, he, hke⟩ := h.2 k hk
    exact h2 e he hke
  · obtain ⟨x, hx, hkx, hv⟩ := h.1 e (List.mem_of_getElem? h2)
    have e1 : x = k := key_inj (hkx.symm.trans h3)
    exact .inl ⟨e1 ▸ hx, _, by rw [h1, hv]⟩
theorem seen_put {es : Array MapEntry} {seen : List (List UInt8)} (h : SeenEs es seen) (k : List UInt8) (c : Nat) : SeenEs (es.push { key := .string (S k), val := .bool true, born := c }) (seen ++ [k]) := by
  refine ⟨fun e he => ?_, fun x hx => ?_⟩
  · simp only [Array.toList_push, List.mem_append, List.mem_singleton] at he
    rcases he with he | rfl
    · obtain ⟨x, hx, h1, h2⟩ := h.1 e he
      exact ⟨x, by simp [hx], h1, h2⟩
    · exact ⟨k, by simp, rfl, rfl⟩
  · simp only [List.mem_append, List.mem_singleton] at hx
    rcases hx with hx | rfl
    · obtain ⟨e, he, h1⟩ := h.2 x hx
      exact ⟨e, by simp [he], h1⟩
    · exact ⟨{ key := .string (S x), val := .bool true, born := c }, by simp, rfl⟩
section
variable {W : World} {b : Nat} {es : Array MapEntry} {c : Nat} {seen : List (List UInt8)} {k : List UInt8}
theorem look_seen (hb : W.heap[b]? = some (.map es c)) (h : SeenEs es seen) : (Instr.lookup 87 (.map (some b)) (.string (S k)) false).run Tryd.prog W = .ok (.bool (decide (k ∈ seen))) W := by
  have hc : ∀ e, (Instr.checkKey e 10000 9 (.string (S k))).run Tryd.prog W = .ok () W := fun e => MapKept.run_checkKey (d := .string) (k := .string (S k)) Tryd.underlying9 trivial e 9999
  have hz : (zeroValue 4).run Tryd.prog W = .ok (.bool false) W := by kernel_rfl
  rcases seen_find h k with ⟨h1, i, h2⟩ | ⟨h1, h2⟩
  · simp [Instr.lookup, run_underlying Tryd.underlying87, MapKept.run_getObj_map hb, hc, MapKept.run_findKey Tryd.underlying9 h2, Result.andThen, h1]
  · simp [Instr.lookup, run_underlying Tryd.underlying87, MapKept.run_getObj_map hb, hc, MapKept.run_findKey Tryd.underlying9 h2, Result.andThen, h1, hz]
theorem put_seen (hb : W.heap[b]? = some (.map es c)) (h : SeenEs es seen) (hk : k ∉ seen) : (Instr.mapUpdate 87 (.map (some b)) (.string (S k)) (.bool true)).run Tryd.prog W = .ok () { W with heap := W.heap.setIfInBounds b (.map (es.push { key := .string (S k), val := .bool true, born := c }) (c + 1)) } := by
  rcases seen_find h k with ⟨h1, i, h2⟩ | ⟨h1, h2⟩
  · exact absurd h1 hk
  · exact run_put_at W _ _ _ _ Tryd.underlying87 Tryd.underlying9 b es c _ _ hb trivial h2
theorem mv_map (W : World) (b : Nat) (o : Obj) : W.grownBy { W with heap := W.heap.setIfInBounds b o } (some b) :=
  ⟨rfl, rfl, rfl, by simp, fun i hi hne => by
    have : b ≠ i := fun e => hne (by rw [e])
    simp [Array.getElem?_setIfInBounds, this]⟩
theorem heap_map (hb : W.heap[b]? = some (.map es c)) (o : Obj) : ({ W with heap := W.heap.setIfInBounds b o } : World).heap[b]? = some o := (MapKept.heap_set hb).1
end

end Go.Proofs.YtlejbindochiiaaDoor
