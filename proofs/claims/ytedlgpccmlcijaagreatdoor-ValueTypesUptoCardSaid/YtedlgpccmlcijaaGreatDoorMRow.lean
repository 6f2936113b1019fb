/-
  Texts merged into one: Row, RowLists, RowStr.
-/
import Derived.Test.YtedlgpccmlcijaaGreatDoorBase
import Derived.Lib.AppendZerosOnto
import Derived.Lib.AppendZeros
import Derived.Laws.AppendOwnNone
namespace Go.Proofs.YtedlgpccmlcijaaGreatDoor
open Go.RowKit
set_option linter.unusedVariables false
set_option linter.unusedSimpArgs false

/-- the slice value holds n elements of k cells each: these cells -/
def IsRow (k : Nat) (w : World) (v : Value) (n : Nat) (cs : List Value) : Prop :=
  cs.length = n * k ∧ (∀ u ∈ cs, u.oneCell' = true) ∧
  ((n = 0 ∧ (v = .slice none 0 0 ∨ ∃ a c, v = .slice (some a) 0 c)) ∨ ∃ b off cap, v = .slice (some ⟨b, off, none⟩) n cap ∧ b < w.heap.size ∧ 0 < n ∧ ∀ j (h : j < cs.length), w.cell? ⟨b, off + j, none⟩ = some cs[j])
theorem IsRow.grow {k : Nat} {w w' : World} {v : Value} {n : Nat} {cs : List Value} (h : IsRow k w v n cs) (g : G w w') : IsRow k w' v n cs := by
  obtain ⟨h1, h1c, h2⟩ := h
  refine ⟨h1, h1c, ?_⟩
  rcases h2 with h2 | ⟨b, off, cap, e, hb, h0, hc⟩
  · exact .inl h2
  · exact .inr ⟨b, off, cap, e, Nat.lt_of_lt_of_le hb g.size, h0, fun j hj => by rw [g.cell hb]; exact hc j hj⟩
theorem IsRow.len {k : Nat} {w : World} {v : Value} {n : Nat} {cs : List Value} (h : IsRow k w v n cs) : ∃ a c, v = .slice a n c := by
  rcases h.2.2 with ⟨rfl, e | ⟨a, c, e⟩⟩ | ⟨b, off, cap, e, _⟩
  · exact ⟨_, _, e⟩
  · exact ⟨_, _, e⟩
  · exact ⟨_, _, e⟩

end Go.Proofs.YtedlgpccmlcijaaGreatDoor

namespace Go.Proofs.YtedlgpccmlcijaaGreatDoor
open Go.RowKit
set_option linter.unusedVariables false
set_option linter.unusedSimpArgs false

theorem info_lists : (Tryz.prog.info? 42).map (fun i => (i.zero, i.size, i.bytes)) = some (some (.slice none 0 0), 1, 24) := by kernel_rfl
/-- xs = append(xs, ys...) where xs is the call's own -/
theorem wpList_append_lists {ops : Array Oper} {rest : List Oper} {o : Oper} {a : Act} {Q : Exit → Act → World → Prop} {w wr : World} (hgd : o.guard = none) (s x : Operand)
    (ho : o.op = .call { callee := .builtin .append, args := #[s, x], argTypes := #[22, 22] })
    (v : Value) (n : Nat) (xs : List Value) (hs : a.eval s = v) (hown : wr.ownsRow w.heap.size 42 1 v n xs) (hg : G w wr)
    (src : Value) (m : Nat) (ys : List Value) (hx : a.eval x = src) (hsrc : IsRow 1 wr src m ys) (hb : n + m ≤ 1000000)
    (h : ∀ v' w', w'.ownsRow w.heap.size 42 1 v' (n + m) (xs ++ ys) → G w w' → (v' = .slice none 0 0 ↔ v = .slice none 0 0 ∧ m = 0) → wpList Tryz.prog ops Q rest (a.put o.dst v') w') :
    wpList Tryz.prog ops Q (o :: rest) a wr := by
  obtain ⟨i0, hi, hz0, hz1, hz2⟩ := info_parts info_lists
  obtain ⟨hyl, h1c, hsrc⟩ := hsrc
  have key : ∀ (ad : Addr) (c : Nat), src = .slice (some ad) m c → (∀ j u, ys[j]? = some u → wr.cell? (ad.add j) = some u) → wpList Tryz.prog ops Q (o :: rest) a wr := by
    intro ad c hv hc
    refine wpList_append_own _ hgd s x 22 ho w.heap.size 42 i0 _ 1 24 Tryz.underlying22 hi hz0 hz1 hz2 rfl (by decide) v n _ hs hown ad m c ys (by rw [hx, hv]) hyl hc h1c (by unfold maxLen; omega) (by omega) (by have := hg.size; omega) ?_
    intro v' w' h2 h3 h4
    refine h v' w' h2 ?_ ?_
    · exact Below.grown hg h3 (by have := hg.size; omega) (fun k hk => (hown.lt k hk).1)
    · rw [h4]
  rcases hsrc with ⟨rfl, hv | ⟨ad, c, hv⟩⟩ | ⟨b, off, cap, hv, hlt, hm0, hc⟩
  · have hy0 : ys = [] := List.eq_nil_of_length_eq_zero (by omega)
    subst hy0
    exact wpList_append_own_none hgd s x 22 ho w.heap.size 42 i0 1 Tryz.underlying22 hi v n _ hs hown (by rw [hx, hv]) (h v wr (by simpa using hown) hg (by simp))
  · have hy0 : ys = [] := List.eq_nil_of_length_eq_zero (by omega)
    subst hy0
    exact key ad c hv (by intro j u hj; simp at hj)
  · refine key ⟨b, off, none⟩ cap hv ?_
    intro j u hj
    have hjl : j < ys.length := by
      rcases Nat.lt_or_ge j ys.length with h | h
      · exact h
      · rw [List.getElem?_eq_none h] at hj; cases hj
    have e : (⟨b, off, none⟩ : Addr).add j = ⟨b, off + j, none⟩ := by unfold Addr.add; split <;> simp_all
    rw [e, hc j hjl]
    simpa [List.getElem?_eq_getElem hjl] using hj

end Go.Proofs.YtedlgpccmlcijaaGreatDoor

namespace Go.Proofs.YtedlgpccmlcijaaGreatDoor
open Go.RowKit
set_option linter.unusedVariables false
set_option linter.unusedSimpArgs false

theorem info_str : (Tryz.prog.info? 9).map (fun i => (i.zero, i.size, i.bytes)) = some (some (.string ⟨#[]⟩), 1, 16) := by kernel_rfl
/-- xs = append(xs, ys...) where xs is the call's own -/
theorem wpList_append_str {ops : Array Oper} {rest : List Oper} {o : Oper} {a : Act} {Q : Exit → Act → World → Prop} {w wr : World} (hgd : o.guard = none) (s x : Operand)
    (ho : o.op = .call { callee := .builtin .append, args := #[s, x], argTypes := #[42, 42] })
    (v : Value) (n : Nat) (xs : List Value) (hs : a.eval s = v) (hown : wr.ownsRow w.heap.size 9 1 v n xs) (hg : G w wr)
    (src : Value) (m : Nat) (ys : List Value) (hx : a.eval x = src) (hsrc : IsRow 1 wr src m ys) (hb : n + m ≤ 1000000)
    (h : ∀ v' w', w'.ownsRow w.heap.size 9 1 v' (n + m) (xs ++ ys) → G w w' → (v' = .slice none 0 0 ↔ v = .slice none 0 0 ∧ m = 0) → wpList Tryz.prog ops Q rest (a.put o.dst v') w') :
    wpList Tryz.prog ops Q (o :: rest) a wr := by
  obtain ⟨i0, hi, hz0, hz1, hz2⟩ := info_parts info_str
  obtain ⟨hyl, h1c, hsrc⟩ := hsrc
  have key : ∀ (ad : Addr) (c : Nat), src = .slice (some ad) m c → (∀ j u, ys[j]? = some u → wr.cell? (ad.add j) = some u) → wpList Tryz.prog ops Q (o :: rest) a wr := by
    intro ad c hv hc
    refine wpList_append_own _ hgd s x 42 ho w.heap.size 9 i0 _ 1 16 Tryz.underlying42 hi hz0 hz1 hz2 rfl (by decide) v n _ hs hown ad m c ys (by rw [hx, hv]) hyl hc h1c (by unfold maxLen; omega) (by omega) (by have := hg.size; omega) ?_
    intro v' w' h2 h3 h4
    refine h v' w' h2 ?_ ?_
    · exact Below.grown hg h3 (by have := hg.size; omega) (fun k hk => (hown.lt k hk).1)
    · rw [h4]
  rcases hsrc with ⟨rfl, hv | ⟨ad, c, hv⟩⟩ | ⟨b, off, cap, hv, hlt, hm0, hc⟩
  · have hy0 : ys = [] := List.eq_nil_of_length_eq_zero (by omega)
    subst hy0
    exact wpList_append_own_none hgd s x 42 ho w.heap.size 9 i0 1 Tryz.underlying42 hi v n _ hs hown (by rw [hx, hv]) (h v wr (by simpa using hown) hg (by simp))
  · have hy0 : ys = [] := List.eq_nil_of_length_eq_zero (by omega)
    subst hy0
    exact key ad c hv (by intro j u hj; simp at hj)
  · refine key ⟨b, off, none⟩ cap hv ?_
    intro j u hj
    have hjl : j < ys.length := by
      rcases Nat.lt_or_ge j ys.length with h | h
      · exact h
      · rw [List.getElem?_eq_none h] at hj; cases hj
    have e : (⟨b, off, none⟩ : Addr).add j = ⟨b, off + j, none⟩ := by unfold Addr.add; split <;> simp_all
    rw [e, hc j hjl]
    simpa [List.getElem?_eq_getElem hjl] using hj

end Go.Proofs.YtedlgpccmlcijaaGreatDoor
