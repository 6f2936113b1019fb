/-
  Rows that a call owns, of strings and others. Plain.
-/
import Derived.Test.YtlejbindochiiaaDoorIsStrs
import Derived.Deep.AppendLies
namespace Go.Proofs.YtlejbindochiiaaDoor
open Go.RowKit
set_option linter.unusedVariables false
set_option linter.unusedSimpArgs false

theorem infoStr : (Tryd.prog.info? 9).map (fun i => (i.zero, i.size, i.bytes)) = some (some (.string ⟨#[]⟩), 1, 16) := by kernel_rfl
theorem news1 (w : World) (v : Value) (e : TypeId) : ∀ (j : Nat) (u : Value), [v][j]? = some u → (w.alloc (.cells #[v] e)).cell? ((⟨w.heap.size, 0, none⟩ : Addr).add j) = some u := by
  intro j u hj
  match j, hj with
  | 0, hj => simp at hj; subst hj; simp [Addr.add]
theorem cell1 (v : Value) (h : v.oneCell' = true) : ∀ u ∈ [v], u.oneCell' = true := by intro u hu; simp at hu; subst hu; exact h
theorem row_of_own {w : World} {base : Nat} {e : TypeId} {k : Nat} {v : Value} {n : Nat} {xs : List Value} (h : w.ownsRow base e k v n xs) (h1 : ∀ u ∈ xs, u.oneCell' = true) : IsRow k w v n xs := by
  refine ⟨h.1, h1, ?_⟩
  rcases Nat.eq_zero_or_pos n with h0 | h0
  · left
    refine ⟨h0, ?_⟩
    rcases h.2 with ⟨e, _⟩ | ⟨g, cap, cur, e, _⟩
    · exact .inl e
    · exact .inr ⟨_, _, by rw [e, h0]⟩
  · right
    obtain ⟨g, cap, rfl, _, hlt⟩ := h.form h0
    refine ⟨g, 0, cap, rfl, hlt, h0, fun j hj => ?_⟩
    have := h.cells (g := g) rfl j xs[j] (List.getElem?_eq_getElem hj)
    rw [Nat.zero_add]
    have e : (⟨g, 0, none⟩ : Addr).add j = ⟨g, j, none⟩ := by unfold Addr.add; split <;> simp_all
    rw [e] at this; exact this
theorem cap_of_own {w : World} {base : Nat} {e : TypeId} {k : Nat} {v : Value} {n : Nat} {xs : List Value} (h : w.ownsRow base e k v n xs) : capOk v := by
  rcases h.2 with ⟨rfl, _⟩ | ⟨g, cap, cur, rfl, _, _, hc, _⟩
  · exact Nat.le_refl _
  · exact hc
theorem strs_of_own {w : World} {base : Nat} {v : Value} {ls : List (List UInt8)} (h : w.ownsRow base 9 1 v ls.length (ls.map fun l => .string (S l))) : IsStrs w v ls :=
  ⟨row_of_own h (by intro u hu; obtain ⟨l, _, rfl⟩ := List.mem_map.1 hu; rfl), cap_of_own h⟩
/-- what is written into a call's own row leaves rows of other elements alone -/
theorem rows_apart {w : World} {b1 b2 : Nat} {e1 e2 : TypeId} {k1 k2 n1 n2 : Nat} {v1 v2 : Value} {x1 x2 : List Value} (h1 : w.ownsRow b1 e1 k1 v1 n1 x1) (h2 : w.ownsRow b2 e2 k2 v2 n2 x2) (he : e1 ≠ e2) : v1.ownBlock = none ∨ v1.ownBlock ≠ v2.ownBlock := by
  rcases h1.2 with ⟨rfl, _⟩ | ⟨g1, c1, cur1, rfl, _, hg1, _⟩
  · exact .inl rfl
  · refine .inr fun e => ?_
    rcases h2.2 with ⟨rfl, _⟩ | ⟨g2, c2, cur2, rfl, _, hg2, _⟩
    · cases e
    · have : g1 = g2 := by simpa [Value.ownBlock] using e
      subst this
      have := hg1.symm.trans hg2
      simp at this
      exact he this.2
/-- a call's own row and a block of another type -/
theorem row_not_at {w : World} {b : Nat} {e : TypeId} {k n : Nat} {v : Value} {x : List Value} (h : w.ownsRow b e k v n x) {B : Nat} {cs : Array Value} {t : TypeId} {fr : Nat × Nat} (hB : w.heap[B]? = some (.cells cs t fr)) (ht : e ≠ t) : v.ownBlock = none ∨ v.ownBlock ≠ some B := by
  rcases h.2 with ⟨rfl, _⟩ | ⟨g1, c1, cur1, rfl, _, hg1, _⟩
  · exact .inl rfl
  · refine .inr fun e => ?_
    have : g1 = B := by simpa [Value.ownBlock] using e
    subst this
    have := hg1.symm.trans hB
    simp at this
    exact ht this.2.1
theorem row_under {w : World} {b : Nat} {e : TypeId} {k n : Nat} {v : Value} {x : List Value} (h : w.ownsRow b e k v n x) {B : Nat} (hB : B < b) : v.ownBlock = none ∨ v.ownBlock ≠ some B := by
  cases hv : v.ownBlock with
  | none => exact .inl rfl
  | some g =>
    have := (h.lt g hv).1
    exact .inr fun e => by injection e with e; omega
theorem row_over {w : World} {b : Nat} {e : TypeId} {k n : Nat} {v : Value} {x : List Value} (h : w.ownsRow b e k v n x) {B : Nat} (hB : w.heap.size ≤ B) : v.ownBlock = none ∨ v.ownBlock ≠ some B := by
  cases hv : v.ownBlock with
  | none => exact .inl rfl
  | some g =>
    have := (h.lt g hv).2
    exact .inr fun e => by injection e with e; omega
/-- two rows of the call's own, of which one is younger than the other's block -/
theorem row_older {w w' : World} {b b' : Nat} {e e' : TypeId} {k n k' n' : Nat} {v v' : Value} {x x' : List Value} (h : w.ownsRow b e k v n x) (h' : w'.ownsRow b' e' k' v' n' x') (hb : w.heap.size ≤ b') : v.ownBlock = none ∨ v.ownBlock ≠ v'.ownBlock := by
  cases hv' : v'.ownBlock with
  | none =>
    cases hv : v.ownBlock with
    | none => exact .inl rfl
    | some g => exact .inr (by simp)
  | some g => exact row_over h (by have := (h'.lt g hv').1; omega)

end Go.Proofs.YtlejbindochiiaaDoor
