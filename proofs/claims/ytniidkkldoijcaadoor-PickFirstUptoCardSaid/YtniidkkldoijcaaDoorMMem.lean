/-
  Texts merged into one: Kp, Rdr.
-/
import Derived.Test.YtniidkkldoijcaaDoorMBase
namespace Go.Proofs.YtniidkkldoijcaaDoor
open Go.RowKit
set_option linter.unusedVariables false
set_option linter.unusedSimpArgs false

/-- the values that stay: texts, and slices that are not nil -/
def stays : Value → Bool
  | .string _ => true
  | .slice (some _) _ _ => true
  | _ => false
/-- texts and slices stay where they are -/
def Kp (w w' : World) : Prop := w.heap.size ≤ w'.heap.size ∧ ∀ p v, w.cell? p = some v → stays v = true → w'.cell? p = some v
theorem Kp.refl (w : World) : Kp w w := ⟨Nat.le_refl _, fun _ _ h _ => h⟩
theorem Kp.trans {a b c : World} (h : Kp a b) (k : Kp b c) : Kp a c := ⟨Nat.le_trans h.1 k.1, fun p v h1 h2 => k.2 p v (h.2 p v h1 h2) h2⟩
theorem Kp.set {w : World} {q : Addr} {old v : Value} (h : w.cell? q = some old) (hk : stays old = false ∨ old = v) : Kp w (w.setCell q v) := by
  refine ⟨by simp, fun p u hp hu => ?_⟩
  by_cases e : p = q
  · subst e
    rw [h] at hp
    obtain rfl := Option.some.inj hp
    rcases hk with hk | hk
    · rw [hk] at hu; cases hu
    · rw [World.cell?_setCell_same _ _ _ h, hk]
  · rw [World.cell?_setCell_other _ _ _ _ (by exact Ne.symm e)]; exact hp
theorem IsStrs.kept {w w' : World} {v : Value} {l : List (List UInt8)} (h : IsStrs w v l) (k : Kp w w') : IsStrs w' v l := by
  obtain ⟨⟨h1, h2, h3⟩, hc⟩ := h
  refine ⟨⟨h1, h2, ?_⟩, hc⟩
  rcases h3 with h3 | ⟨b, off, cap, e, hb, h0, hcell⟩
  · exact .inl h3
  · refine .inr ⟨b, off, cap, e, Nat.lt_of_lt_of_le hb k.1, h0, fun j hj => k.2 _ _ (hcell j hj) ?_⟩
    simp [stays]

end Go.Proofs.YtniidkkldoijcaaDoor

namespace Go.Proofs.YtniidkkldoijcaaDoor
open Go.RowKit
set_option linter.unusedVariables false
set_option linter.unusedSimpArgs false

theorem mv_trans {a b c : World} {row : Option Nat} (h : a.grownBy b row) (k : b.grownBy c row) : a.grownBy c row :=
  ⟨k.os.trans h.os, k.tape.trans h.tape, k.output.trans h.output, Nat.le_trans h.size k.size, fun i hi hne => (k.block i (Nat.lt_of_lt_of_le hi h.size) hne).trans (h.block i hi hne)⟩
theorem mv_refl (a : World) (row : Option Nat) : a.grownBy a row := ⟨rfl, rfl, rfl, Nat.le_refl _, fun _ _ _ => rfl⟩
theorem mv_of (row : Option Nat) {a b : World} (g : G a b) : a.grownBy b row := ⟨g.below.os, g.below.tape, g.below.output, g.below.size, fun k hk _ => g.below.block k hk⟩
theorem mv_drew {a b : World} {row : Option Nat} (h : a.grownBy b row) : a.grownBy b.drew row := ⟨h.os, h.tape, h.output, h.size, h.block⟩
theorem mv_drewN {a b : World} {row : Option Nat} (h : a.grownBy b row) (n : Nat) : a.grownBy (b.drewN n) row := mv_trans h (mv_of row ((G.refl _).drewN n))
theorem mv_set (W : World) (b j : Nat) (v : Value) : W.grownBy (W.setCell ⟨b, j, none⟩ v) (some b) :=
  ⟨rfl, rfl, rfl, by simp, fun k _ hk => Below.heap_setCell _ _ _ k (fun e => hk (by rw [e]))⟩
theorem mv_st {a b : World} {R j : Nat} {v : Value} (h : a.grownBy b (some R)) : a.grownBy (b.setCell ⟨R, j, none⟩ v) (some R) := mv_trans h (mv_set _ _ _ _)
theorem mv_alloc {a b : World} {row : Option Nat} (h : a.grownBy b row) (o : Obj) : a.grownBy (b.alloc o) row := mv_trans h (mv_of row ((G.refl _).alloc o))
theorem mv_g {a b c : World} {row : Option Nat} (h : a.grownBy b row) (g : G b c) : a.grownBy c row := mv_trans h (mv_of row g)
/-- what is made anew beside one block of the call's own: nothing old has turned -/
theorem g_of_mv {a b c : World} {R : Nat} (h : G a b) (k : b.grownBy c (some R)) (hR : a.heap.size ≤ R) : G a c :=
  h.below.grown k h.size (fun i e => by injection e with e; omega)

/-- a reader's block: the text, how far it is read, the rest of its cells -/
def RdO (T : TypeId) (tl : List Value) (w : World) (R : Nat) (s : List UInt8) (k : Nat) : Prop := w.heap[R]? = some (.cells (.string (S s) :: .int .i64 (k : Int) :: tl).toArray T)
section
variable {T : TypeId} {tl : List Value} {w w' : World} {R : Nat} {s : List UInt8} {k : Nat}
theorem RdO.lt (h : RdO T tl w R s k) : R < w.heap.size := (Array.getElem?_eq_some_iff.1 h).1
theorem RdO.c0 (h : RdO T tl w R s k) : w.cell? ⟨R, 0, none⟩ = some (.string (S s)) := by rw [cell_of_row w R 0 _ _ _ h]; rfl
theorem RdO.c1 (h : RdO T tl w R s k) : w.cell? ⟨R, 1, none⟩ = some (.int .i64 (k : Int)) := by rw [cell_of_row w R 1 _ _ _ h]; rfl
theorem RdO.c2 {c : Value} (h : RdO T [c] w R s k) : w.cell? ⟨R, 2, none⟩ = some c := by rw [cell_of_row w R 2 _ _ _ h]; rfl
theorem RdO.fz (h : RdO T tl w R s k) (j : Nat) : w.frozen? ⟨R, j, none⟩ = false := frozen_of_row w R j _ _ h
theorem RdO.grow (h : RdO T tl w R s k) (g : G w w') : RdO T tl w' R s k := (g.below.block R h.lt).trans h
theorem RdO.set (h : RdO T tl w R s k) (k' : Nat) : RdO T tl (w.setCell ⟨R, 1, none⟩ (.int .i64 (k' : Int))) R s k' := by
  have h' : w.heap[R]? = _ := h
  show (w.setCell _ _).heap[R]? = _
  simp [World.setCell, Array.getElem?_modify, h']
theorem RdO.setN (h : RdO T tl w R s k) (n : Int) (k' : Nat) (e : n = (k' : Int)) : RdO T tl (w.setCell ⟨R, 1, none⟩ (.int .i64 n)) R s k' := by subst e; exact h.set k'
theorem RdO.drewN (h : RdO T tl w R s k) (n : Nat) : RdO T tl (w.drewN n) R s k := h
theorem RdO.drew (h : RdO T tl w R s k) : RdO T tl w.drew R s k := h
/-- texts and slices stay where a reader goes on -/
theorem RdO.kp {k' : Nat} (h : RdO T tl w R s k) (m : w.grownBy w' (some R)) (h' : RdO T tl w' R s k') : Kp w w' := by
  refine ⟨m.size, fun p v hp hv => ?_⟩
  by_cases e : p.block = R
  · have hp1 := World.cell?_of_block (w := w) (w' := w) (a := p) rfl
    obtain ⟨b, j, x⟩ := p
    simp only at e
    subst e
    have h1 : w.heap[b]? = _ := h
    have h2 : w'.heap[b]? = _ := h'
    cases x with
    | some _ => simp [World.cell?, h1] at hp
    | none =>
      rw [cell_of_row w b j _ _ _ h1] at hp
      rw [cell_of_row w' b j _ _ _ h2]
      match j with
      | 0 => exact hp
      | 1 => simp at hp; subst hp; cases hv
      | j + 2 => simpa using hp
  · exact m.cell hp (by simpa using e)
/-- a reader stands ahead of the bytes l -/
def RdL (T : TypeId) (tl : List Value) (w : World) (R : Nat) (s l : List UInt8) : Prop := ∃ p, s = p ++ l ∧ RdO T tl w R s p.length
theorem RdL.grow {l : List UInt8} (h : RdL T tl w R s l) (g : G w w') : RdL T tl w' R s l := by obtain ⟨p, e, h⟩ := h; exact ⟨p, e, h.grow g⟩
theorem RdL.lt {l : List UInt8} (h : RdL T tl w R s l) : R < w.heap.size := by obtain ⟨p, e, h⟩ := h; exact h.lt
theorem RdL.kp {l l' : List UInt8} (h : RdL T tl w R s l) (m : w.grownBy w' (some R)) (h' : RdL T tl w' R s l') : Kp w w' := by obtain ⟨p, e, h⟩ := h; obtain ⟨p', e', h'⟩ := h'; exact h.kp m h'
end

end Go.Proofs.YtniidkkldoijcaaDoor
