/-
  Texts merged into one: Row, IsStrs, Kp, Rdr, Split, Data, RowSet, MapRun, OwnStr, SeqSplit, Atoi, Pick.
-/
import Derived.Test.YtfadckackdmbnaaGreatDoorMA44
import Derived.Test.YtfadckackdmbnaaGreatDoorMA60
import Derived.Test.YtfadckackdmbnaaGreatDoorShelf
import Derived.Lib.SplitLaws
import Derived.Lib.CountLaws
import Derived.Laws.Tables
import Derived.Deep.RegionHeld3
import Derived.WideMake
import Derived.Deep.AppendLies
import Derived.Shelf.Abstract
import Derived.OwnWalkIn
import Derived.TacticsInMore
import Derived.LoopNIn
import Derived.LoopIn
import Derived.Lib.AtoiErrMem
import Derived.Lib.AtoiAllCases
import Derived.Lib.AppendIntMem
namespace Go.Proofs.YtfadckackdmbnaaGreatDoor
open Go.RowKit
set_option linter.unusedVariables false
set_option linter.unusedSimpArgs false
def IsRow (k : Nat) (w : World) (v : Value) (n : Nat) (cs : List Value) : Prop :=
  cs.length = n * k ∧ (∀ u ∈ cs, u.oneCell' = true) ∧
  ((n = 0 ∧ (v = .slice none 0 0 ∨ ∃ a c, v = .slice (some a) 0 c)) ∨ ∃ b off cap, v = .slice (some ⟨b, off, none⟩) n cap ∧ b < w.heap.size ∧ 0 < n ∧ ∀ j (h : j < cs.length), w.cell? ⟨b, off + j, none⟩ = some cs[j])
theorem IsRow.grow {k : Nat} {w w' : World} {v : Value} {n : Nat} {cs : List Value} (h : IsRow k w v n cs) (g : G w w') : IsRow k w' v n cs := by
  obtain ⟨h1, h1c, h2⟩ := h
  refine ⟨h1, h1c, ?_⟩
  rcases h2 with h2 | ⟨b, off, cap, e, hb, h0, hc⟩
  · exact .inl h2
  · exact .inr ⟨b, off, cap, e, Nat.lt_of_lt_of_le hb g.size, h0, fun j hj => by rw [g.cell hb]; exact hc j hj⟩
theorem IsRow.len {k : Nat} {w : World} {v : Value} {n : Nat} {cs : List Value} (h : IsRow k w v n cs) : ∃ a c, v = .slice a n c := by
  rcases h.2.2 with ⟨rfl, e | ⟨a, c, e⟩⟩ | ⟨b, off, cap, e, _⟩
  · exact ⟨_, _, e⟩
  · exact ⟨_, _, e⟩
  · exact ⟨_, _, e⟩
end Go.Proofs.YtfadckackdmbnaaGreatDoor

namespace Go.Proofs.YtfadckackdmbnaaGreatDoor
open Go.RowKit
set_option linter.unusedVariables false
set_option linter.unusedSimpArgs false
def capOk : Value → Prop
  | .slice _ n c => n ≤ c
  | _ => True
def IsStrs (w : World) (v : Value) (ls : List (List UInt8)) : Prop := IsRow 1 w v ls.length (ls.map fun l => .string (S l)) ∧ capOk v
theorem IsStrs.grow {w w' : World} {v : Value} {ls : List (List UInt8)} (h : IsStrs w v ls) (g : G w w') : IsStrs w' v ls := ⟨IsRow.grow h.1 g, h.2⟩
theorem IsStrs.len {w : World} {v : Value} {ls : List (List UInt8)} (h : IsStrs w v ls) : ∃ a c, v = .slice a ls.length c ∧ ls.length ≤ c := by
  obtain ⟨a, c, e⟩ := IsRow.len h.1
  exact ⟨a, c, e, by have := h.2; rw [e] at this; exact this⟩
theorem IsStrs.at_ {w : World} {v : Value} {ls : List (List UInt8)} (h : IsStrs w v ls) (h0 : ls ≠ []) : ∃ b off cap, v = .slice (some ⟨b, off, none⟩) ls.length cap ∧ ls.length ≤ cap ∧ b < w.heap.size ∧ ∀ (i : Nat) (l : List UInt8), ls[i]? = some l → w.cell? ⟨b, off + i, none⟩ = some (.string (S l)) := by
  obtain ⟨⟨h1, h2, h3⟩, hk⟩ := h
  rcases h3 with ⟨h3, _⟩ | ⟨b, off, cap, e, hb, hn, hc⟩
  · exact absurd (List.eq_nil_of_length_eq_zero h3) h0
  · refine ⟨b, off, cap, e, by rw [e] at hk; exact hk, hb, fun i l hl => ?_⟩
    have hi : i < ls.length := by
      rcases Nat.lt_or_ge i ls.length with h | h
      · exact h
      · rw [List.getElem?_eq_none h] at hl; cases hl
    rw [hc i (by simpa using hi)]
    rw [List.getElem?_eq_getElem hi] at hl
    injection hl with hl
    simp [hl]
end Go.Proofs.YtfadckackdmbnaaGreatDoor

namespace Go.Proofs.YtfadckackdmbnaaGreatDoor
open Go.RowKit
set_option linter.unusedVariables false
set_option linter.unusedSimpArgs false
def stays : Value → Bool
  | .string _ => true
  | .slice (some _) _ _ => true
  | _ => false
def Kp (w w' : World) : Prop := w.heap.size ≤ w'.heap.size ∧ ∀ p v, w.cell? p = some v → stays v = true → w'.cell? p = some v
theorem Kp.refl (w : World) : Kp w w := ⟨Nat.le_refl _, fun _ _ h _ => h⟩
theorem Kp.trans {a b c : World} (h : Kp a b) (k : Kp b c) : Kp a c := ⟨Nat.le_trans h.1 k.1, fun p v h1 h2 => k.2 p v (h.2 p v h1 h2) h2⟩
theorem Kp.set {w : World} {q : Addr} {old v : Value} (h : w.cell? q = some old) (hk : stays old = false ∨ old = v) : Kp w (w.setCell q v) := by
  refine ⟨by simp, fun p u hp hu => ?_⟩
  by_cases e : p = q
  · subst e
    rw [h] at hp
    obtain rfl := Option.some.inj hp
    rcases hk with hk | hk
    · rw [hk] at hu; cases hu
    · rw [World.cell?_setCell_same _ _ _ h, hk]
  · rw [World.cell?_setCell_other _ _ _ _ (by exact Ne.symm e)]; exact hp
theorem IsStrs.kept {w w' : World} {v : Value} {l : List (List UInt8)} (h : IsStrs w v l) (k : Kp w w') : IsStrs w' v l := by
  obtain ⟨⟨h1, h2, h3⟩, hc⟩ := h
  refine ⟨⟨h1, h2, ?_⟩, hc⟩
  rcases h3 with h3 | ⟨b, off, cap, e, hb, h0, hcell⟩
  · exact .inl h3
  · refine .inr ⟨b, off, cap, e, Nat.lt_of_lt_of_le hb k.1, h0, fun j hj => k.2 _ _ (hcell j hj) ?_⟩
    simp [stays]
end Go.Proofs.YtfadckackdmbnaaGreatDoor

namespace Go.Proofs.YtfadckackdmbnaaGreatDoor
open Go.RowKit
set_option linter.unusedVariables false
set_option linter.unusedSimpArgs false
theorem mv_trans {a b c : World} {row : Option Nat} (h : a.grownBy b row) (k : b.grownBy c row) : a.grownBy c row :=
  ⟨k.os.trans h.os, k.tape.trans h.tape, k.output.trans h.output, Nat.le_trans h.size k.size, fun i hi hne => (k.block i (Nat.lt_of_lt_of_le hi h.size) hne).trans (h.block i hi hne)⟩
theorem mv_refl (a : World) (row : Option Nat) : a.grownBy a row := ⟨rfl, rfl, rfl, Nat.le_refl _, fun _ _ _ => rfl⟩
theorem mv_of (row : Option Nat) {a b : World} (g : G a b) : a.grownBy b row := ⟨g.below.os, g.below.tape, g.below.output, g.below.size, fun k hk _ => g.below.block k hk⟩
theorem mv_set (W : World) (b j : Nat) (v : Value) : W.grownBy (W.setCell ⟨b, j, none⟩ v) (some b) :=
  ⟨rfl, rfl, rfl, by simp, fun k _ hk => Below.heap_setCell _ _ _ k (fun e => hk (by rw [e]))⟩
theorem mv_st {a b : World} {R j : Nat} {v : Value} (h : a.grownBy b (some R)) : a.grownBy (b.setCell ⟨R, j, none⟩ v) (some R) := mv_trans h (mv_set _ _ _ _)
theorem mv_g {a b c : World} {row : Option Nat} (h : a.grownBy b row) (g : G b c) : a.grownBy c row := mv_trans h (mv_of row g)
def RdO (T : TypeId) (tl : List Value) (w : World) (R : Nat) (s : List UInt8) (k : Nat) : Prop := w.heap[R]? = some (.cells (.string (S s) :: .int .i64 (k : Int) :: tl).toArray T)
section
variable {T : TypeId} {tl : List Value} {w w' : World} {R : Nat} {s : List UInt8} {k : Nat}
theorem RdO.lt (h : RdO T tl w R s k) : R < w.heap.size := (Array.getElem?_eq_some_iff.1 h).1
theorem RdO.c0 (h : RdO T tl w R s k) : w.cell? ⟨R, 0, none⟩ = some (.string (S s)) := by rw [cell_of_row w R 0 _ _ _ h]; rfl
theorem RdO.c1 (h : RdO T tl w R s k) : w.cell? ⟨R, 1, none⟩ = some (.int .i64 (k : Int)) := by rw [cell_of_row w R 1 _ _ _ h]; rfl
theorem RdO.c2 {c : Value} (h : RdO T [c] w R s k) : w.cell? ⟨R, 2, none⟩ = some c := by rw [cell_of_row w R 2 _ _ _ h]; rfl
theorem RdO.fz (h : RdO T tl w R s k) (j : Nat) : w.frozen? ⟨R, j, none⟩ = false := frozen_of_row w R j _ _ h
theorem RdO.grow (h : RdO T tl w R s k) (g : G w w') : RdO T tl w' R s k := (g.below.block R h.lt).trans h
theorem RdO.set (h : RdO T tl w R s k) (k' : Nat) : RdO T tl (w.setCell ⟨R, 1, none⟩ (.int .i64 (k' : Int))) R s k' := by
  have h' : w.heap[R]? = _ := h
  show (w.setCell _ _).heap[R]? = _
  simp [World.setCell, Array.getElem?_modify, h']
theorem RdO.drewN (h : RdO T tl w R s k) (n : Nat) : RdO T tl (w.drewN n) R s k := h
theorem RdO.drew (h : RdO T tl w R s k) : RdO T tl w.drew R s k := h
def RdL (T : TypeId) (tl : List Value) (w : World) (R : Nat) (s l : List UInt8) : Prop := ∃ p, s = p ++ l ∧ RdO T tl w R s p.length
theorem RdL.grow {l : List UInt8} (h : RdL T tl w R s l) (g : G w w') : RdL T tl w' R s l := by obtain ⟨p, e, h⟩ := h; exact ⟨p, e, h.grow g⟩
theorem RdL.lt {l : List UInt8} (h : RdL T tl w R s l) : R < w.heap.size := by obtain ⟨p, e, h⟩ := h; exact h.lt
end
end Go.Proofs.YtfadckackdmbnaaGreatDoor

namespace Go.Proofs.YtfadckackdmbnaaGreatDoor
open Go.RowKit
set_option linter.unusedVariables false
set_option linter.unusedSimpArgs false
def joinS (sep : List UInt8) (p : List UInt8) : List (List UInt8) → List UInt8
  | [] => p
  | q :: ps => p ++ (sep ++ joinS sep q ps)
theorem strs_of_alloc (w : World) (t : TypeId) (ls : List (List UInt8)) (h : ls ≠ []) : IsStrs (w.alloc (.cells ((ls.map S).map Value.string).toArray t)) (.slice (some ⟨w.heap.size, 0, none⟩) ls.length ls.length) ls := by
  refine ⟨⟨by simp, ?_, .inr ⟨w.heap.size, 0, ls.length, rfl, by simp, ?_, fun j hj => ?_⟩⟩, Nat.le_refl _⟩
  · intro u hu
    obtain ⟨l, _, rfl⟩ := List.mem_map.1 hu
    rfl
  · cases ls with
    | nil => exact absurd rfl h
    | cons _ _ => simp
  · rw [Nat.zero_add, World.cell?_alloc_new]
    simp at hj
    simp [List.getElem?_eq_getElem hj]
end Go.Proofs.YtfadckackdmbnaaGreatDoor

namespace Go.Proofs.YtfadckackdmbnaaGreatDoor
open Go.RowKit
set_option linter.unusedVariables false
structure St where
  y : Int
  m : Int
  d : Int
  h : Int
  n : Int
  s : Int
  zd : Bool
  zn : Int
def St.cells (t : St) : Array Value := #[.int .i64 t.y, .int .i64 t.m, .int .i64 t.d, .int .i64 t.h, .int .i64 t.n, .int .i64 t.s, .bool t.zd, .int .i64 t.zn]
def St.v (t : St) : Value := .agg #[.int .i64 t.y, .int .i64 t.m, .int .i64 t.d, .int .i64 t.h, .int .i64 t.n, .int .i64 t.s, .bool t.zd, .int .i64 t.zn]
def St0 : St := ⟨0, 0, 0, 0, 0, 0, false, 0⟩
structure Vl where
  ty : Int
  tx : List UInt8
  ps : List (List (List UInt8))
  st : St
  n : Int
def Vl.v (x : Vl) (pv : Value) : Value := .agg #[.int .i64 x.ty, .string (S x.tx), pv, .int .i64 x.st.y, .int .i64 x.st.m, .int .i64 x.st.d, .int .i64 x.st.h, .int .i64 x.st.n, .int .i64 x.st.s, .bool x.st.zd, .int .i64 x.st.zn, .int .i64 x.n]
end Go.Proofs.YtfadckackdmbnaaGreatDoor

namespace Go.Proofs.YtfadckackdmbnaaGreatDoor
open Go.RowKit
set_option linter.unusedVariables false
set_option linter.unusedSimpArgs false
theorem lt_of_row {w : World} {b : Nat} {o : Obj} (h : w.heap[b]? = some o) : b < w.heap.size := by
  rcases Nat.lt_or_ge b w.heap.size with h' | h'
  · exact h'
  · rw [Array.getElem?_eq_none h'] at h; cases h
end Go.Proofs.YtfadckackdmbnaaGreatDoor

namespace Go.Proofs.YtfadckackdmbnaaGreatDoor
open Go.RowKit
set_option linter.unusedVariables false
set_option linter.unusedSimpArgs false
theorem push_set {α : Type} (a : Array α) (x y : α) : (a.push x).setIfInBounds a.size y = a.push y := by
  apply Array.ext'
  simp
theorem run_put {P : Program} (w : World) (t kt et : TypeId) (d : TypeDesc) (ht : P.underlying t = some (.map kt et)) (hk : P.underlying kt = some d) (es : Array MapEntry) (c : Nat) (k v : Value) (hkd : MapKept.IsKey d k) (hn : Instr.findNow d k es.toList 0 = some none) :
    (Instr.mapUpdate t (.map (some w.heap.size)) k v).run P (w.alloc (.map es c)) = .ok () (w.alloc (.map (es.push { key := k, val := v, born := c }) (c + 1))) := by
  have hb : (w.alloc (.map es c)).heap[w.heap.size]? = some (.map es c) := (MapKept.heap_alloc w _).1
  have hc : (Instr.checkKey false 10000 kt k).run P (w.alloc (.map es c)) = .ok () (w.alloc (.map es c)) := MapKept.run_checkKey hk hkd false 9999
  have hw : ({ (w.alloc (.map es c)) with heap := (w.alloc (.map es c)).heap.setIfInBounds w.heap.size (.map (es.push { key := k, val := v, born := c }) (c + 1)) } : World) = w.alloc (.map (es.push { key := k, val := v, born := c }) (c + 1)) := by
    unfold World.alloc
    simp only
    rw [push_set]
  simp [Instr.mapUpdate, run_underlying ht, MapKept.run_getObj_map hb, hc, MapKept.run_findKey hk hn, MapKept.run_setObj_map _ hb, Result.andThen]
  exact hw
theorem run_look {P : Program} {k : Value} (w : World) (t kt et : TypeId) (d : TypeDesc) (ht : P.underlying t = some (.map kt et)) (hk : P.underlying kt = some d) (b : Nat) (es : Array MapEntry) (c : Nat) (hb : w.heap[b]? = some (.map es c)) (hkd : MapKept.IsKey d k) (i : Nat) (v : Value) (ok : Bool) (hn : Instr.findNow d k es.toList 0 = some (some (i, v))) :
    (Instr.lookup t (.map (some b)) k ok).run P w = .ok (if ok then .tuple #[v, .bool true] else v) w := by
  have hc : ∀ e, (Instr.checkKey e 10000 kt k).run P w = .ok () w := fun e => MapKept.run_checkKey hk hkd e 9999
  cases ok <;> simp [Instr.lookup, run_underlying ht, MapKept.run_getObj_map hb, hc, MapKept.run_findKey hk hn, Result.andThen]
theorem heap_of_drew (X : World) (o : Obj) (k : Nat) (h : X.heap.size = k) : (X.alloc o).heap[k]? = some o := by subst h; exact (MapKept.heap_alloc X _).1
theorem run_put_at {P : Program} (w : World) (t kt et : TypeId) (d : TypeDesc) (ht : P.underlying t = some (.map kt et)) (hk : P.underlying kt = some d) (b : Nat) (es : Array MapEntry) (c : Nat) (k v : Value) (hb : w.heap[b]? = some (.map es c)) (hkd : MapKept.IsKey d k) (hn : Instr.findNow d k es.toList 0 = some none) :
    (Instr.mapUpdate t (.map (some b)) k v).run P w = .ok () { w with heap := w.heap.setIfInBounds b (.map (es.push { key := k, val := v, born := c }) (c + 1)) } := by
  have hc : (Instr.checkKey false 10000 kt k).run P w = .ok () w := MapKept.run_checkKey hk hkd false 9999
  simp [Instr.mapUpdate, run_underlying ht, MapKept.run_getObj_map hb, hc, MapKept.run_findKey hk hn, MapKept.run_setObj_map _ hb, Result.andThen]
end Go.Proofs.YtfadckackdmbnaaGreatDoor

namespace Go.Proofs.YtfadckackdmbnaaGreatDoor
open Go.RowKit
set_option linter.unusedVariables false
set_option linter.unusedSimpArgs false
theorem infoStr : (Tryz.prog.info? 9).map (fun i => (i.zero, i.size, i.bytes)) = some (some (.string ⟨#[]⟩), 1, 16) := by kernel_rfl
theorem news1 (w : World) (v : Value) (e : TypeId) : ∀ (j : Nat) (u : Value), [v][j]? = some u → (w.alloc (.cells #[v] e)).cell? ((⟨w.heap.size, 0, none⟩ : Addr).add j) = some u := by
  intro j u hj
  match j, hj with
  | 0, hj => simp at hj; subst hj; simp [Addr.add]
theorem cell1 (v : Value) (h : v.oneCell' = true) : ∀ u ∈ [v], u.oneCell' = true := by intro u hu; simp at hu; subst hu; exact h
theorem row_of_own {w : World} {base : Nat} {e : TypeId} {k : Nat} {v : Value} {n : Nat} {xs : List Value} (h : w.ownsRow base e k v n xs) (h1 : ∀ u ∈ xs, u.oneCell' = true) : IsRow k w v n xs := by
  refine ⟨h.1, h1, ?_⟩
  rcases Nat.eq_zero_or_pos n with h0 | h0
  · left
    refine ⟨h0, ?_⟩
    rcases h.2 with ⟨e, _⟩ | ⟨g, cap, cur, e, _⟩
    · exact .inl e
    · exact .inr ⟨_, _, by rw [e, h0]⟩
  · right
    obtain ⟨g, cap, rfl, _, hlt⟩ := h.form h0
    refine ⟨g, 0, cap, rfl, hlt, h0, fun j hj => ?_⟩
    have := h.cells (g := g) rfl j xs[j] (List.getElem?_eq_getElem hj)
    rw [Nat.zero_add]
    have e : (⟨g, 0, none⟩ : Addr).add j = ⟨g, j, none⟩ := by unfold Addr.add; split <;> simp_all
    rw [e] at this; exact this
theorem cap_of_own {w : World} {base : Nat} {e : TypeId} {k : Nat} {v : Value} {n : Nat} {xs : List Value} (h : w.ownsRow base e k v n xs) : capOk v := by
  rcases h.2 with ⟨rfl, _⟩ | ⟨g, cap, cur, rfl, _, _, hc, _⟩
  · exact Nat.le_refl _
  · exact hc
theorem strs_of_own {w : World} {base : Nat} {v : Value} {ls : List (List UInt8)} (h : w.ownsRow base 9 1 v ls.length (ls.map fun l => .string (S l))) : IsStrs w v ls :=
  ⟨row_of_own h (by intro u hu; obtain ⟨l, _, rfl⟩ := List.mem_map.1 hu; rfl), cap_of_own h⟩
theorem rows_apart {w : World} {b1 b2 : Nat} {e1 e2 : TypeId} {k1 k2 n1 n2 : Nat} {v1 v2 : Value} {x1 x2 : List Value} (h1 : w.ownsRow b1 e1 k1 v1 n1 x1) (h2 : w.ownsRow b2 e2 k2 v2 n2 x2) (he : e1 ≠ e2) : v1.ownBlock = none ∨ v1.ownBlock ≠ v2.ownBlock := by
  rcases h1.2 with ⟨rfl, _⟩ | ⟨g1, c1, cur1, rfl, _, hg1, _⟩
  · exact .inl rfl
  · refine .inr fun e => ?_
    rcases h2.2 with ⟨rfl, _⟩ | ⟨g2, c2, cur2, rfl, _, hg2, _⟩
    · cases e
    · have : g1 = g2 := by simpa [Value.ownBlock] using e
      subst this
      have := hg1.symm.trans hg2
      simp at this
      exact he this.2
theorem row_under {w : World} {b : Nat} {e : TypeId} {k n : Nat} {v : Value} {x : List Value} (h : w.ownsRow b e k v n x) {B : Nat} (hB : B < b) : v.ownBlock = none ∨ v.ownBlock ≠ some B := by
  cases hv : v.ownBlock with
  | none => exact .inl rfl
  | some g =>
    have := (h.lt g hv).1
    exact .inr fun e => by injection e with e; omega
end Go.Proofs.YtfadckackdmbnaaGreatDoor

namespace Go.Proofs.YtfadckackdmbnaaGreatDoor
open Go.RowKit Go.Shelf
attribute [local go_sem] Oper.semAt_some
set_option linter.unusedVariables false
set_option linter.unusedSimpArgs false
def KpSeq (Bp B1 Bz : Nat) (W W' : World) : Prop := W'.cell? ⟨Bp, 0, none⟩ = W.cell? ⟨Bp, 0, none⟩ ∧ W'.cell? ⟨B1, 0, none⟩ = W.cell? ⟨B1, 0, none⟩ ∧ W'.cell? ⟨Bz, 0, none⟩ = W.cell? ⟨Bz, 0, none⟩ ∧ W'.frozen? ⟨B1, 0, none⟩ = W.frozen? ⟨B1, 0, none⟩
def leftSeq (B1 : Nat) (W : World) : Nat := match W.cell? ⟨B1, 0, none⟩ with | some (.string b) => b.size | _ => 0
set_option maxRecDepth 100000 in
set_option maxHeartbeats 2000000 in
theorem seq_in (n l Bp B1 Bz : Nat) (hn : 1 ≤ n) (hpz : ¬ Bp = B1) (hzz : ¬ Bz = B1) (xs : List (List UInt8)) (hx : ∀ q ∈ xs, (124 : UInt8) ∉ q) (p : List UInt8) (ps : List (List UInt8)) (hxs : xs = p :: ps) (hsz : (joinS [124] p ps).length ≤ 1000000)
    (J Jx : List (List UInt8) → World → Prop) (hJB : AbidesAt B1 J)
    (hY : ∀ pre x W1, J pre W1 → pre ++ [x] <+: xs → YieldAt Fence.wide (n - 1) Tryz.prog l #[.string (S x)] W1 fun e W' =>
      (e = .returned (.bool true) ∧ J (pre ++ [x]) W' ∧ KpSeq Bp B1 Bz W1 W') ∨ (e = .returned (.bool false) ∧ Jx (pre ++ [x]) W'))
    (W : World) (c1 : W.cell? ⟨Bp, 0, none⟩ = some (.string (S [124]))) (c2 : W.cell? ⟨B1, 0, none⟩ = some (.string (S (joinS [124] p ps)))) (c3 : W.cell? ⟨Bz, 0, none⟩ = some (.int .i64 0)) (cf : W.frozen? ⟨B1, 0, none⟩ = false) (h0 : J [] W) :
    CallsIn Fence.wide n Tryz.prog 162 #[.func (.yield l) #[] #[], .pointer (some ⟨Bp, 0, none⟩), .pointer (some ⟨B1, 0, none⟩), .pointer (some ⟨Bz, 0, none⟩)] W fun e W' => (∃ v, e = .returned v) ∧ (J xs W' ∨ ∃ pre, pre <+: xs ∧ Jx pre W') := by
  refine callsIn_of_wp Tryz.func162 rfl trivial ?_ rfl
  simp only [Tryz.ntmps162, List.size_toArray, List.length_cons, List.length_nil, Nat.reduceAdd, Nat.reduceSub, Array.replicate_succ, Array.replicate_zero, List.push_toArray, List.append_toArray, List.nil_append, List.cons_append]
  gi_wp2
  gi_loopw [7] (fun _ wr => ∃ (pre : List (List UInt8)) (q : List UInt8) (qs : List (List UInt8)), xs = pre ++ (q :: qs) ∧ wr.cell? ⟨Bp, 0, none⟩ = some (.string (S [124])) ∧ wr.cell? ⟨B1, 0, none⟩ = some (.string (S (joinS [124] q qs))) ∧ wr.cell? ⟨Bz, 0, none⟩ = some (.int .i64 0) ∧ wr.frozen? ⟨B1, 0, none⟩ = false ∧ (joinS [124] q qs).length ≤ 1000000 ∧ J pre wr)
    (fun _ wr => leftSeq B1 wr)
  case atStart => exact ⟨[], p, ps, hxs, c1, c2, c3, cf, hsz, h0⟩
  case round =>
    obtain ⟨pre, q, qs, e, d1, d2, d3, df, dz, hJ⟩ := hrel
    have hq : (124 : UInt8) ∉ q := hx q (by rw [e]; simp)
    have hpl : pre ++ [q] <+: xs := by rw [e]; exact ⟨qs, by simp⟩
    cases qs with
    | nil =>
      simp only [joinS] at d2 dz
      obtain ⟨fn, tmps, assign, body, hy, hR⟩ := hY pre q wr hJ hpl
      have hi : ∀ w, Calls Tryz.prog 164 #[.string (S q), .string (S [124])] w fun e w' => e = .returned (.int .i64 (-1)) ∧ w' = w := fun w => by
        have := Tryz.strings_Index_one (S q) 124 w
        rw [show (S q).data.toList = q from by simp [S], indexByte_none q 124 hq] at this
        exact this
      have HI := hid hi
      clear hi
      gi_wp2_with (refine ⟨trivial, ?_⟩; gi_at_call 164; refine (callsIn_wide.2 (HI.out _)).mono ?_; rintro e w' ⟨rfl, rfl⟩)
      refine hR.mono ?_
      rintro e2 W3 (⟨rfl, hJ3, hk3⟩ | ⟨rfl, hJx3⟩)
      · gi_wp2
        go_end0
        exact ⟨⟨_, rfl⟩, .inl (by rw [e]; exact hJ3)⟩
      · gi_wp2
        go_end0
        exact ⟨⟨_, rfl⟩, .inr ⟨_, by rw [e]; exact List.prefix_refl _, hJx3⟩⟩
    | cons r rs =>
      have dd : joinS [124] q (r :: rs) = q ++ 124 :: joinS [124] r rs := by simp [joinS]
      rw [dd] at d2 dz
      obtain ⟨fn, tmps, assign, body, hy, hR⟩ := hY pre q wr hJ hpl
      have hi : ∀ w, Calls Tryz.prog 164 #[.string (S (q ++ 124 :: joinS [124] r rs)), .string (S [124])] w fun e w' => e = .returned (.int .i64 (q.length : Int)) ∧ w' = w := fun w => by
        have := Tryz.strings_Index_one (S (q ++ 124 :: joinS [124] r rs)) 124 w
        rw [show (S (q ++ 124 :: joinS [124] r rs)).data.toList = q ++ 124 :: joinS [124] r rs from by simp [S], indexByte_some q _ 124 hq] at this
        exact this
      have HI := hid hi
      clear hi
      have hl : q.length + 1 + (joinS [124] r rs).length ≤ 1000000 := by simp only [List.length_append, List.length_cons] at dz; omega
      have hw : wrap64 (q.length : Int) = (q.length : Int) := (by unfold wrap64; omega)
      gi_wp2_with (refine ⟨trivial, ?_⟩; gi_at_call 164; refine (callsIn_wide.2 (HI.out _)).mono ?_; rintro e w' ⟨rfl, rfl⟩)
      refine hR.mono ?_
      rintro e2 W3 (⟨rfl, hJ3, k1, k2, k3, k4⟩ | ⟨rfl, hJx3⟩)
      · have b1 := k1.trans d1
        have b2 := k2.trans d2
        have b3 := k3.trans d3
        have b4 := k4.trans df
        have hw2 : wrap64 ((q.length : Int) + 1) = (q.length : Int) + 1 := (by unfold wrap64; omega)
        have htk : List.drop (q.length + 1) (List.take (q.length + ((joinS [124] r rs).length + 1)) (q ++ 124 :: joinS [124] r rs)) = joinS [124] r rs := by
          rw [List.take_of_length_le (by simp)]
          simp [List.drop_length_add_append]
        gi_wp2
        go_roundw
        case rel =>
          refine ⟨pre ++ [q], r, rs, by rw [e]; simp, ?_, ?_, ?_, ?_, by omega, hJB _ _ _ hJ3⟩
          · rw [World.cell?_setCell_other _ _ _ _ (by first | (simp; done) | (simp; omega))]; exact b1
          · rw [World.cell?_setCell_same _ _ _ b2]
          · rw [World.cell?_setCell_other _ _ _ _ (by first | (simp; done) | (simp; omega))]; exact b3
          · rw [World.frozen?_setCell]; exact b4
        case measure =>
          unfold leftSeq
          rw [World.cell?_setCell_same _ _ _ b2, d2]
          simp; omega
      · gi_wp2
        refine bodyPost_ret (results_none rfl _ _ _) rfl ?_
        exact ⟨⟨_, rfl⟩, .inr ⟨_, by rw [e]; exact ⟨r :: rs, by simp⟩, hJx3⟩⟩
theorem seq_stops (n Bp B1 Bz : Nat) (hn : 1 ≤ n) (hpz : ¬ Bp = B1) (hzz : ¬ Bz = B1) (p : List UInt8) (ps : List (List UInt8)) (hx : ∀ q ∈ p :: ps, (124 : UInt8) ∉ q) (hsz : (joinS [124] p ps).length ≤ 1000000) (w : World)
    (hBp : Bp < w.heap.size) (hB1 : B1 < w.heap.size) (hBz : Bz < w.heap.size)
    (c1 : w.cell? ⟨Bp, 0, none⟩ = some (.string (S [124]))) (c2 : w.cell? ⟨B1, 0, none⟩ = some (.string (S (joinS [124] p ps)))) (c3 : w.cell? ⟨Bz, 0, none⟩ = some (.int .i64 0)) (cf : w.frozen? ⟨B1, 0, none⟩ = false) :
    SeqStopsAt B1 Fence.wide n Tryz.prog 162 #[.pointer (some ⟨Bp, 0, none⟩), .pointer (some ⟨B1, 0, none⟩), .pointer (some ⟨Bz, 0, none⟩)] (fun x => #[Value.string (S x)]) (KpSeq Bp B1 Bz) (p :: ps) w :=
  fun l J Jx W hW _ _ hJB hY h0 => seq_in n l Bp B1 Bz hn hpz hzz (p :: ps) hx p ps rfl hsz J Jx hJB hY W ((hW.cell (p := ⟨Bp, 0, none⟩) hBp).trans c1) ((hW.cell (p := ⟨B1, 0, none⟩) hB1).trans c2) ((hW.cell (p := ⟨Bz, 0, none⟩) hBz).trans c3) ((hW.frozen (p := ⟨B1, 0, none⟩) hB1).trans cf) h0
end Go.Proofs.YtfadckackdmbnaaGreatDoor

namespace Go.Proofs.YtfadckackdmbnaaGreatDoor
open Go.RowKit
set_option linter.unusedVariables false
set_option linter.unusedSimpArgs false
def HasErr (W : World) : Prop := (∃ ev, W.cell? ⟨4, 0, none⟩ = some ev ∧ (ev = .nilIface ∨ ∃ te pe, ev = .iface te pe)) ∧ (∃ ev, W.cell? ⟨5, 0, none⟩ = some ev ∧ (ev = .nilIface ∨ ∃ te pe, ev = .iface te pe))
theorem HasErr.grow {w w' : World} (h : HasErr w) (g : G w w') : HasErr w' := by
  obtain ⟨⟨e1, h1, k1⟩, ⟨e2, h2, k2⟩⟩ := h
  exact ⟨⟨e1, (g.cell (World.block_lt_of_cell? _ _ h1)).trans h1, k1⟩, ⟨e2, (g.cell (World.block_lt_of_cell? _ _ h2)).trans h2, k2⟩⟩
theorem S_list (s : List UInt8) : (S s).data.toList = s := by simp [S]
theorem atoi_ok (s : List UInt8) (n : Int) (w : World) (hs : s.length ≤ 1000000) (h : Lib.atoiAll s = .ok n) : Gives 73 #[.string (S s)] w (.tuple #[.int .i64 n, .nilIface]) := by
  refine (Tryz.strconv_Atoi_ok (S s) (by simp; omega) n (by rw [S_list]; exact h) w).mono ?_
  rintro e w' ⟨rfl, hw⟩
  refine ⟨rfl, ?_⟩
  rcases hw with rfl | ⟨t, rfl⟩
  · exact G.refl _
  · exact Lib.bytesWorld_below _ _ _
theorem atoi_digit1 : ∀ n : Nat, n < 10 → Lib.atoiAll [UInt8.ofNat (48 + n)] = .ok (n : Int) := by
  intro n hn
  have : n = 0 ∨ n = 1 ∨ n = 2 ∨ n = 3 ∨ n = 4 ∨ n = 5 ∨ n = 6 ∨ n = 7 ∨ n = 8 ∨ n = 9 := by omega
  rcases this with rfl | rfl | rfl | rfl | rfl | rfl | rfl | rfl | rfl | rfl <;> rfl
theorem atoi_digit_any (n : Nat) (w : World) (h : n < 10) : Gives 73 #[.string (S [UInt8.ofNat (48 + n)])] w (.tuple #[.int .i64 n, .nilIface]) := atoi_ok _ _ w (by simp) (atoi_digit1 n h)
theorem atoi_no (s : List UInt8) (w : World) (hs : s.length ≤ 1000000) (h : ∀ n, Lib.atoiAll s ≠ .ok n) (hE : HasErr w) : Makes 73 #[.string (S s)] w fun v _ => ∃ (n : Int) (N : Nat), v = .tuple #[.int .i64 n, .iface 212 (.pointer (some ⟨N, 0, none⟩))] := by
  obtain ⟨⟨e1, h1, k1⟩, ⟨e2, h2, k2⟩⟩ := hE
  rcases hc : Lib.atoiAll s with n | _ | _
  · exact absurd hc (h n)
  · refine (Any.strconv_Atoi_syntax Tryz.laysC172 (S s) (by simp; omega) (by rw [S_list]; exact hc) e1 w h1 k1).mono ?_
    rintro e w' ⟨N, rfl, _, _, g⟩
    exact ⟨_, rfl, ⟨_, _, rfl⟩, g⟩
  · refine (Tryz.strconv_Atoi_range (S s) (by simp; omega) (by rw [S_list]; exact hc) e2 w h2 k2).mono ?_
    rintro e w' ⟨N, rfl, _, _, g⟩
    exact ⟨_, rfl, ⟨_, _, rfl⟩, g⟩
theorem itoa_any (n : Int) (w : World) (h0 : -9223372036854775808 ≤ n) (h1 : n ≤ 9223372036854775807) (htab : Lib.TabIs Tryz.prog w "internal/strconv.uint64pow10" .u64 Lib.pow10Tab) : Gives 125 #[.int .i64 n] w (.string (S (Lib.itoa n))) := by
  refine (Tryz.strconv_Itoa n h0 h1 w htab).mono ?_
  rintro e w' ⟨rfl, k, os, rfl⟩
  exact ⟨rfl, Lib.below_grow _ w (Nat.le_refl _) k os⟩
end Go.Proofs.YtfadckackdmbnaaGreatDoor

namespace Go.Proofs.YtfadckackdmbnaaGreatDoor
open Go.RowKit
set_option linter.unusedVariables false
set_option linter.unusedSimpArgs false
def pickV (a n : Int) : Nat := ((a % 18446744073709551616) % n).toNat
theorem pickV_lt (a : Int) {n : Int} (h : 1 ≤ n) : (pickV a n : Int) < n := by
  unfold pickV
  have h1 := Int.emod_nonneg (a % 18446744073709551616) (show n ≠ 0 by omega)
  have h2 := Int.emod_lt_of_pos (a % 18446744073709551616) (show 0 < n by omega)
  omega
set_option maxRecDepth 100000 in
set_option maxHeartbeats 400000 in
theorem pick_any (a n : Int) (w : World) (h1 : 1 ≤ n) (h2 : n ≤ 4611686018427387904) : Pure 14 #[.int .i64 a, .int .i64 n] w (.int .i64 (pickV a n)) := by
  go_enter Tryz.func14, Tryz.ntmps14
  go_wp2
  go_ret
  refine ⟨ret_int ?_, rfl⟩
  have hw : IntKind.u64.wrap a = a % 18446744073709551616 := IntKind.wrap_u64 a
  have h0 : 0 ≤ a % 18446744073709551616 := Int.emod_nonneg _ (by omega)
  rw [hw, Int.tmod_eq_emod_of_nonneg h0]
  have h3 := Int.emod_nonneg (a % 18446744073709551616) (show n ≠ 0 by omega)
  have h4 := Int.emod_lt_of_pos (a % 18446744073709551616) (show 0 < n by omega)
  unfold pickV
  rw [IntWalk.wrap64_in _ ⟨by omega, by omega⟩]
  omega
end Go.Proofs.YtfadckackdmbnaaGreatDoor
