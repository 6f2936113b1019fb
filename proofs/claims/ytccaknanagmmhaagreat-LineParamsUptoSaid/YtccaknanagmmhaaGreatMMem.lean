/-
  Texts merged into one: RowSet, MapRun, Kp, Rdr, OwnStr.
-/
import Derived.Test.YtccaknanagmmhaaGreatBase
import Derived.Laws.Tables
import Derived.Deep.RegionHeld3
import Derived.WideMake
import Derived.Test.YtccaknanagmmhaaGreatSplit
import Derived.Deep.AppendLies
namespace Go.Proofs.YtccaknanagmmhaaGreat
open Go.RowKit
set_option linter.unusedVariables false
set_option linter.unusedSimpArgs false

theorem lt_of_row {w : World} {b : Nat} {o : Obj} (h : w.heap[b]? = some o) : b < w.heap.size := by
  rcases Nat.lt_or_ge b w.heap.size with h' | h'
  · exact h'
  · rw [Array.getElem?_eq_none h'] at h; cases h

theorem cell_alloc_ne (W : World) (o : Obj) (b i : Nat) (h : ¬ b = W.heap.size) : (W.alloc o).cell? ⟨b, i, none⟩ = W.cell? ⟨b, i, none⟩ := by
  refine World.cell?_of_block ?_
  show (W.heap.push o)[b]? = W.heap[b]?
  rw [Array.getElem?_push]
  rw [if_neg h]

theorem cell_alloc_at (W : World) (cs : Array Value) (t : TypeId) (b i : Nat) (h : b = W.heap.size) : (W.alloc (.cells cs t)).cell? ⟨b, i, none⟩ = cs[i]? := by subst h; exact World.cell?_alloc_new W cs t i
theorem row_setE {W : World} {b i : Nat} {v : Value} {cs cs' : Array Value} {T : TypeId} {fr : Nat × Nat} (h : W.heap[b]? = some (.cells cs T fr)) (e : cs.setIfInBounds i v = cs') : (W.setCell ⟨b, i, none⟩ v).heap[b]? = some (.cells cs' T fr) := by
  subst e
  simp [World.setCell, Array.getElem?_modify, h]
theorem row_drew {W : World} {b : Nat} {o : Obj} (h : W.heap[b]? = some o) : W.drew.heap[b]? = some o := h
theorem row_alloc {W : World} {b : Nat} {o x : Obj} (h : W.heap[b]? = some o) (hb : b < W.heap.size) : (W.alloc x).heap[b]? = some o := by rw [Below.heap_alloc W x b hb]; exact h


end Go.Proofs.YtccaknanagmmhaaGreat

namespace Go.Proofs.YtccaknanagmmhaaGreat
open Go.RowKit
set_option linter.unusedVariables false
set_option linter.unusedSimpArgs false

theorem push_set {α : Type} (a : Array α) (x y : α) : (a.push x).setIfInBounds a.size y = a.push y := by
  apply Array.ext'
  simp
theorem run_put {P : Program} (w : World) (t kt et : TypeId) (d : TypeDesc) (ht : P.underlying t = some (.map kt et)) (hk : P.underlying kt = some d) (es : Array MapEntry) (c : Nat) (k v : Value) (hkd : MapKept.IsKey d k) (hn : Instr.findNow d k es.toList 0 = some none) :
    (Instr.mapUpdate t (.map (some w.heap.size)) k v).run P (w.alloc (.map es c)) = .ok () (w.alloc (.map (es.push { key := k, val := v, born := c }) (c + 1))) := by
  have hb : (w.alloc (.map es c)).heap[w.heap.size]? = some (.map es c) := (MapKept.heap_alloc w _).1
  have hc : (Instr.checkKey false 10000 kt k).run P (w.alloc (.map es c)) = .ok () (w.alloc (.map es c)) := MapKept.run_checkKey hk hkd false 9999
  have hw : ({ (w.alloc (.map es c)) with heap := (w.alloc (.map es c)).heap.setIfInBounds w.heap.size (.map (es.push { key := k, val := v, born := c }) (c + 1)) } : World) = w.alloc (.map (es.push { key := k, val := v, born := c }) (c + 1)) := by
    unfold World.alloc
    simp only
    rw [push_set]
  simp [Instr.mapUpdate, run_underlying ht, MapKept.run_getObj_map hb, hc, MapKept.run_findKey hk hn, MapKept.run_setObj_map _ hb, Result.andThen]
  exact hw
theorem run_look {P : Program} {k : Value} (w : World) (t kt et : TypeId) (d : TypeDesc) (ht : P.underlying t = some (.map kt et)) (hk : P.underlying kt = some d) (b : Nat) (es : Array MapEntry) (c : Nat) (hb : w.heap[b]? = some (.map es c)) (hkd : MapKept.IsKey d k) (i : Nat) (v : Value) (ok : Bool) (hn : Instr.findNow d k es.toList 0 = some (some (i, v))) :
    (Instr.lookup t (.map (some b)) k ok).run P w = .ok (if ok then .tuple #[v, .bool true] else v) w := by
  have hc : ∀ e, (Instr.checkKey e 10000 kt k).run P w = .ok () w := fun e => MapKept.run_checkKey hk hkd e 9999
  cases ok <;> simp [Instr.lookup, run_underlying ht, MapKept.run_getObj_map hb, hc, MapKept.run_findKey hk hn, Result.andThen]
theorem run_look_none {P : Program} {k : Value} (w : World) (t kt et : TypeId) (d : TypeDesc) (ht : P.underlying t = some (.map kt et)) (hk : P.underlying kt = some d) (b : Nat) (es : Array MapEntry) (c : Nat) (hb : w.heap[b]? = some (.map es c)) (hkd : MapKept.IsKey d k) (z : Value) (hz : ∀ w, (zeroValue et).run P w = .ok z w) (hn : Instr.findNow d k es.toList 0 = some none) :
    (Instr.lookup t (.map (some b)) k true).run P w = .ok (.tuple #[z, .bool false]) w := by
  have hc : ∀ e, (Instr.checkKey e 10000 kt k).run P w = .ok () w := fun e => MapKept.run_checkKey hk hkd e 9999
  simp [Instr.lookup, run_underlying ht, MapKept.run_getObj_map hb, hc, MapKept.run_findKey hk hn, hz, Result.andThen]
theorem heap_of_drew (X : World) (o : Obj) (k : Nat) (h : X.heap.size = k) : (X.alloc o).heap[k]? = some o := by subst h; exact (MapKept.heap_alloc X _).1
theorem run_put_at {P : Program} (w : World) (t kt et : TypeId) (d : TypeDesc) (ht : P.underlying t = some (.map kt et)) (hk : P.underlying kt = some d) (b : Nat) (es : Array MapEntry) (c : Nat) (k v : Value) (hb : w.heap[b]? = some (.map es c)) (hkd : MapKept.IsKey d k) (hn : Instr.findNow d k es.toList 0 = some none) :
    (Instr.mapUpdate t (.map (some b)) k v).run P w = .ok () { w with heap := w.heap.setIfInBounds b (.map (es.push { key := k, val := v, born := c }) (c + 1)) } := by
  have hc : (Instr.checkKey false 10000 kt k).run P w = .ok () w := MapKept.run_checkKey hk hkd false 9999
  simp [Instr.mapUpdate, run_underlying ht, MapKept.run_getObj_map hb, hc, MapKept.run_findKey hk hn, MapKept.run_setObj_map _ hb, Result.andThen]

end Go.Proofs.YtccaknanagmmhaaGreat

namespace Go.Proofs.YtccaknanagmmhaaGreat
open Go.RowKit
set_option linter.unusedVariables false
set_option linter.unusedSimpArgs false

/-- the values that stay: texts, and slices that are not nil -/
def stays : Value → Bool
  | .string _ => true
  | .slice (some _) _ _ => true
  | _ => false
/-- texts and slices stay where they are -/
def Kp (w w' : World) : Prop := w.heap.size ≤ w'.heap.size ∧ ∀ p v, w.cell? p = some v → stays v = true → w'.cell? p = some v
theorem Kp.refl (w : World) : Kp w w := ⟨Nat.le_refl _, fun _ _ h _ => h⟩
theorem Kp.trans {a b c : World} (h : Kp a b) (k : Kp b c) : Kp a c := ⟨Nat.le_trans h.1 k.1, fun p v h1 h2 => k.2 p v (h.2 p v h1 h2) h2⟩
theorem Kp.set {w : World} {q : Addr} {old v : Value} (h : w.cell? q = some old) (hk : stays old = false ∨ old = v) : Kp w (w.setCell q v) := by
  refine ⟨by simp, fun p u hp hu => ?_⟩
  by_cases e : p = q
  · subst e
    rw [h] at hp
    obtain rfl := Option.some.inj hp
    rcases hk with hk | hk
    · rw [hk] at hu; cases hu
    · rw [World.cell?_setCell_same _ _ _ h, hk]
  · rw [World.cell?_setCell_other _ _ _ _ (by exact Ne.symm e)]; exact hp
theorem IsStrs.kept {w w' : World} {v : Value} {l : List (List UInt8)} (h : IsStrs w v l) (k : Kp w w') : IsStrs w' v l := by
  obtain ⟨⟨h1, h2, h3⟩, hc⟩ := h
  refine ⟨⟨h1, h2, ?_⟩, hc⟩
  rcases h3 with h3 | ⟨b, off, cap, e, hb, h0, hcell⟩
  · exact .inl h3
  · refine .inr ⟨b, off, cap, e, Nat.lt_of_lt_of_le hb k.1, h0, fun j hj => k.2 _ _ (hcell j hj) ?_⟩
    simp [stays]

end Go.Proofs.YtccaknanagmmhaaGreat

namespace Go.Proofs.YtccaknanagmmhaaGreat
open Go.RowKit
set_option linter.unusedVariables false
set_option linter.unusedSimpArgs false

theorem mv_trans {a b c : World} {row : Option Nat} (h : a.grownBy b row) (k : b.grownBy c row) : a.grownBy c row :=
  ⟨k.os.trans h.os, k.tape.trans h.tape, k.output.trans h.output, Nat.le_trans h.size k.size, fun i hi hne => (k.block i (Nat.lt_of_lt_of_le hi h.size) hne).trans (h.block i hi hne)⟩
theorem mv_refl (a : World) (row : Option Nat) : a.grownBy a row := ⟨rfl, rfl, rfl, Nat.le_refl _, fun _ _ _ => rfl⟩
theorem mv_of (row : Option Nat) {a b : World} (g : G a b) : a.grownBy b row := ⟨g.below.os, g.below.tape, g.below.output, g.below.size, fun k hk _ => g.below.block k hk⟩
theorem mv_drew {a b : World} {row : Option Nat} (h : a.grownBy b row) : a.grownBy b.drew row := ⟨h.os, h.tape, h.output, h.size, h.block⟩
theorem mv_drewN {a b : World} {row : Option Nat} (h : a.grownBy b row) (n : Nat) : a.grownBy (b.drewN n) row := mv_trans h (mv_of row ((G.refl _).drewN n))
theorem mv_set (W : World) (b j : Nat) (v : Value) : W.grownBy (W.setCell ⟨b, j, none⟩ v) (some b) :=
  ⟨rfl, rfl, rfl, by simp, fun k _ hk => Below.heap_setCell _ _ _ k (fun e => hk (by rw [e]))⟩
theorem mv_st {a b : World} {R j : Nat} {v : Value} (h : a.grownBy b (some R)) : a.grownBy (b.setCell ⟨R, j, none⟩ v) (some R) := mv_trans h (mv_set _ _ _ _)
theorem mv_alloc {a b : World} {row : Option Nat} (h : a.grownBy b row) (o : Obj) : a.grownBy (b.alloc o) row := mv_trans h (mv_of row ((G.refl _).alloc o))
theorem mv_g {a b c : World} {row : Option Nat} (h : a.grownBy b row) (g : G b c) : a.grownBy c row := mv_trans h (mv_of row g)
/-- what is made anew beside one block of the call's own: nothing old has turned -/
theorem g_of_mv {a b c : World} {R : Nat} (h : G a b) (k : b.grownBy c (some R)) (hR : a.heap.size ≤ R) : G a c :=
  h.below.grown k h.size (fun i e => by injection e with e; omega)

/-- a reader's block: the text, how far it is read, the rest of its cells -/
def RdO (T : TypeId) (tl : List Value) (w : World) (R : Nat) (s : List UInt8) (k : Nat) : Prop := w.heap[R]? = some (.cells (.string (S s) :: .int .i64 (k : Int) :: tl).toArray T)
section
variable {T : TypeId} {tl : List Value} {w w' : World} {R : Nat} {s : List UInt8} {k : Nat}
theorem RdO.lt (h : RdO T tl w R s k) : R < w.heap.size := (Array.getElem?_eq_some_iff.1 h).1
theorem RdO.c0 (h : RdO T tl w R s k) : w.cell? ⟨R, 0, none⟩ = some (.string (S s)) := by rw [cell_of_row w R 0 _ _ _ h]; rfl
theorem RdO.c1 (h : RdO T tl w R s k) : w.cell? ⟨R, 1, none⟩ = some (.int .i64 (k : Int)) := by rw [cell_of_row w R 1 _ _ _ h]; rfl
theorem RdO.c2 {c : Value} (h : RdO T [c] w R s k) : w.cell? ⟨R, 2, none⟩ = some c := by rw [cell_of_row w R 2 _ _ _ h]; rfl
theorem RdO.fz (h : RdO T tl w R s k) (j : Nat) : w.frozen? ⟨R, j, none⟩ = false := frozen_of_row w R j _ _ h
theorem RdO.grow (h : RdO T tl w R s k) (g : G w w') : RdO T tl w' R s k := (g.below.block R h.lt).trans h
theorem RdO.set (h : RdO T tl w R s k) (k' : Nat) : RdO T tl (w.setCell ⟨R, 1, none⟩ (.int .i64 (k' : Int))) R s k' := by
  have h' : w.heap[R]? = _ := h
  show (w.setCell _ _).heap[R]? = _
  simp [World.setCell, Array.getElem?_modify, h']
theorem RdO.setN (h : RdO T tl w R s k) (n : Int) (k' : Nat) (e : n = (k' : Int)) : RdO T tl (w.setCell ⟨R, 1, none⟩ (.int .i64 n)) R s k' := by subst e; exact h.set k'
theorem RdO.drewN (h : RdO T tl w R s k) (n : Nat) : RdO T tl (w.drewN n) R s k := h
theorem RdO.drew (h : RdO T tl w R s k) : RdO T tl w.drew R s k := h
/-- texts and slices stay where a reader goes on -/
theorem RdO.kp {k' : Nat} (h : RdO T tl w R s k) (m : w.grownBy w' (some R)) (h' : RdO T tl w' R s k') : Kp w w' := by
  refine ⟨m.size, fun p v hp hv => ?_⟩
  by_cases e : p.block = R
  · have hp1 := World.cell?_of_block (w := w) (w' := w) (a := p) rfl
    obtain ⟨b, j, x⟩ := p
    simp only at e
    subst e
    have h1 : w.heap[b]? = _ := h
    have h2 : w'.heap[b]? = _ := h'
    cases x with
    | some _ => simp [World.cell?, h1] at hp
    | none =>
      rw [cell_of_row w b j _ _ _ h1] at hp
      rw [cell_of_row w' b j _ _ _ h2]
      match j with
      | 0 => exact hp
      | 1 => simp at hp; subst hp; cases hv
      | j + 2 => simpa using hp
  · exact m.cell hp (by simpa using e)
/-- a reader stands ahead of the bytes l -/
def RdL (T : TypeId) (tl : List Value) (w : World) (R : Nat) (s l : List UInt8) : Prop := ∃ p, s = p ++ l ∧ RdO T tl w R s p.length
theorem RdL.grow {l : List UInt8} (h : RdL T tl w R s l) (g : G w w') : RdL T tl w' R s l := by obtain ⟨p, e, h⟩ := h; exact ⟨p, e, h.grow g⟩
theorem RdL.lt {l : List UInt8} (h : RdL T tl w R s l) : R < w.heap.size := by obtain ⟨p, e, h⟩ := h; exact h.lt
theorem RdL.kp {l l' : List UInt8} (h : RdL T tl w R s l) (m : w.grownBy w' (some R)) (h' : RdL T tl w' R s l') : Kp w w' := by obtain ⟨p, e, h⟩ := h; obtain ⟨p', e', h'⟩ := h'; exact h.kp m h'
end

end Go.Proofs.YtccaknanagmmhaaGreat

namespace Go.Proofs.YtccaknanagmmhaaGreat
open Go.RowKit
set_option linter.unusedVariables false
set_option linter.unusedSimpArgs false

theorem infoStr : (Tryz.prog.info? 9).map (fun i => (i.zero, i.size, i.bytes)) = some (some (.string ⟨#[]⟩), 1, 16) := by kernel_rfl
theorem news1 (w : World) (v : Value) (e : TypeId) : ∀ (j : Nat) (u : Value), [v][j]? = some u → (w.alloc (.cells #[v] e)).cell? ((⟨w.heap.size, 0, none⟩ : Addr).add j) = some u := by
  intro j u hj
  match j, hj with
  | 0, hj => simp at hj; subst hj; simp [Addr.add]
theorem cell1 (v : Value) (h : v.oneCell' = true) : ∀ u ∈ [v], u.oneCell' = true := by intro u hu; simp at hu; subst hu; exact h
theorem row_of_own {w : World} {base : Nat} {e : TypeId} {k : Nat} {v : Value} {n : Nat} {xs : List Value} (h : w.ownsRow base e k v n xs) (h1 : ∀ u ∈ xs, u.oneCell' = true) : IsRow k w v n xs := by
  refine ⟨h.1, h1, ?_⟩
  rcases Nat.eq_zero_or_pos n with h0 | h0
  · left
    refine ⟨h0, ?_⟩
    rcases h.2 with ⟨e, _⟩ | ⟨g, cap, cur, e, _⟩
    · exact .inl e
    · exact .inr ⟨_, _, by rw [e, h0]⟩
  · right
    obtain ⟨g, cap, rfl, _, hlt⟩ := h.form h0
    refine ⟨g, 0, cap, rfl, hlt, h0, fun j hj => ?_⟩
    have := h.cells (g := g) rfl j xs[j] (List.getElem?_eq_getElem hj)
    rw [Nat.zero_add]
    have e : (⟨g, 0, none⟩ : Addr).add j = ⟨g, j, none⟩ := by unfold Addr.add; split <;> simp_all
    rw [e] at this; exact this
theorem cap_of_own {w : World} {base : Nat} {e : TypeId} {k : Nat} {v : Value} {n : Nat} {xs : List Value} (h : w.ownsRow base e k v n xs) : capOk v := by
  rcases h.2 with ⟨rfl, _⟩ | ⟨g, cap, cur, rfl, _, _, hc, _⟩
  · exact Nat.le_refl _
  · exact hc
theorem strs_of_own {w : World} {base : Nat} {v : Value} {ls : List (List UInt8)} (h : w.ownsRow base 9 1 v ls.length (ls.map fun l => .string (S l))) : IsStrs w v ls :=
  ⟨row_of_own h (by intro u hu; obtain ⟨l, _, rfl⟩ := List.mem_map.1 hu; rfl), cap_of_own h⟩
/-- what is written into a call's own row leaves rows of other elements alone -/
theorem rows_apart {w : World} {b1 b2 : Nat} {e1 e2 : TypeId} {k1 k2 n1 n2 : Nat} {v1 v2 : Value} {x1 x2 : List Value} (h1 : w.ownsRow b1 e1 k1 v1 n1 x1) (h2 : w.ownsRow b2 e2 k2 v2 n2 x2) (he : e1 ≠ e2) : v1.ownBlock = none ∨ v1.ownBlock ≠ v2.ownBlock := by
  rcases h1.2 with ⟨rfl, _⟩ | ⟨g1, c1, cur1, rfl, _, hg1, _⟩
  · exact .inl rfl
  · refine .inr fun e => ?_
    rcases h2.2 with ⟨rfl, _⟩ | ⟨g2, c2, cur2, rfl, _, hg2, _⟩
    · cases e
    · have : g1 = g2 := by simpa [Value.ownBlock] using e
      subst this
      have := hg1.symm.trans hg2
      simp at this
      exact he this.2
/-- a call's own row and a block of another type -/
theorem row_not_at {w : World} {b : Nat} {e : TypeId} {k n : Nat} {v : Value} {x : List Value} (h : w.ownsRow b e k v n x) {B : Nat} {cs : Array Value} {t : TypeId} {fr : Nat × Nat} (hB : w.heap[B]? = some (.cells cs t fr)) (ht : e ≠ t) : v.ownBlock = none ∨ v.ownBlock ≠ some B := by
  rcases h.2 with ⟨rfl, _⟩ | ⟨g1, c1, cur1, rfl, _, hg1, _⟩
  · exact .inl rfl
  · refine .inr fun e => ?_
    have : g1 = B := by simpa [Value.ownBlock] using e
    subst this
    have := hg1.symm.trans hB
    simp at this
    exact ht this.2.1
theorem row_under {w : World} {b : Nat} {e : TypeId} {k n : Nat} {v : Value} {x : List Value} (h : w.ownsRow b e k v n x) {B : Nat} (hB : B < b) : v.ownBlock = none ∨ v.ownBlock ≠ some B := by
  cases hv : v.ownBlock with
  | none => exact .inl rfl
  | some g =>
    have := (h.lt g hv).1
    exact .inr fun e => by injection e with e; omega
theorem row_over {w : World} {b : Nat} {e : TypeId} {k n : Nat} {v : Value} {x : List Value} (h : w.ownsRow b e k v n x) {B : Nat} (hB : w.heap.size ≤ B) : v.ownBlock = none ∨ v.ownBlock ≠ some B := by
  cases hv : v.ownBlock with
  | none => exact .inl rfl
  | some g =>
    have := (h.lt g hv).2
    exact .inr fun e => by injection e with e; omega
/-- two rows of the call's own, of which one is younger than the other's block -/
theorem row_older {w w' : World} {b b' : Nat} {e e' : TypeId} {k n k' n' : Nat} {v v' : Value} {x x' : List Value} (h : w.ownsRow b e k v n x) (h' : w'.ownsRow b' e' k' v' n' x') (hb : w.heap.size ≤ b') : v.ownBlock = none ∨ v.ownBlock ≠ v'.ownBlock := by
  cases hv' : v'.ownBlock with
  | none =>
    cases hv : v.ownBlock with
    | none => exact .inl rfl
    | some g => exact .inr (by simp)
  | some g => exact row_over h (by have := (h'.lt g hv').1; omega)

end Go.Proofs.YtccaknanagmmhaaGreat
