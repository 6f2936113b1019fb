/-
  Maps that a call makes itself: an insert, a look-up. Plain.
-/
import Derived.Test.YtlejbindochiiaaDoorRowSet
import Derived.Laws.Tables
import Derived.Deep.RegionHeld3
import Derived.WideMake
namespace Go.Proofs.YtlejbindochiiaaDoor
open Go.RowKit
set_option linter.unusedVariables false
set_option linter.unusedSimpArgs false

theorem push_set {α : Type} (a : Array α) (x y : α) : (a.push x).setIfInBounds a.size y = a.push y := by
  apply Array.ext'
  simp
theorem run_put {P : Program} (w : World) (t kt et : TypeId) (d : TypeDesc) (ht : P.underlying t = some (.map kt et)) (hk : P.underlying kt = some d) (es : Array MapEntry) (c : Nat) (k v : Value) (hkd : MapKept.IsKey d k) (hn : Instr.findNow d k es.toList 0 = some none) :
    (Instr.mapUpdate t (.map (some w.heap.size)) k v).run P (w.alloc (.map es c)) = .ok () (w.alloc (.map (es.push { key := k, val := v, born := c }) (c + 1))) := by
  have hb : (w.alloc (.map es c)).heap[w.heap.size]? = some (.map es c) := (MapKept.heap_alloc w _).1
  have hc : (Instr.checkKey false 10000 kt k).run P (w.alloc (.map es c)) = .ok () (w.alloc (.map es c)) := MapKept.run_checkKey hk hkd false 9999
  have hw : ({ (w.alloc (.map es c)) with heap := (w.alloc (.map es c)).heap.setIfInBounds w.heap.size (.map (es.push { key := k, val := v, born := c }) (c + 1)) } : World) = w.alloc (.map (es.push { key := k, val := v, born := c }) (c + 1)) := by
    unfold World.alloc
    simp only
    rw [push_set]
  simp [Instr.mapUpdate, run_underlying ht, MapKept.run_getObj_map hb, hc, MapKept.run_findKey hk hn, MapKept.run_setObj_map _ hb, Result.andThen]
  exact hw
theorem run_look {P : Program} {k : Value} (w : World) (t kt et : TypeId) (d : TypeDesc) (ht : P.underlying t = some (.map kt et)) (hk : P.underlying kt = some d) (b : Nat) (es : Array MapEntry) (c : Nat) (hb : w.heap[b]? = some (.map es c)) (hkd : MapKept.IsKey d k) (i : Nat) (v : Value) (ok : Bool) (hn : Instr.findNow d k es.toList 0 = some (some (i, v))) :
    (Instr.lookup t (.map (some b)) k ok).run P w = .ok (if ok then .tuple #[v, .bool true] else v) w := by
  have hc : ∀ e, (Instr.checkKey e 10000 kt k).run P w = .ok () w := fun e => MapKept.run_checkKey hk hkd e 9999
  cases ok <;> simp [Instr.lookup, run_underlying ht, MapKept.run_getObj_map hb, hc, MapKept.run_findKey hk hn, Result.andThen]
theorem run_look_none {P : Program} {k : Value} (w : World) (t kt et : TypeId) (d : TypeDesc) (ht : P.underlying t = some (.map kt et)) (hk : P.underlying kt = some d) (b : Nat) (es : Array MapEntry) (c : Nat) (hb : w.heap[b]? = some (.map es c)) (hkd : MapKept.IsKey d k) (z : Value) (hz : ∀ w, (zeroValue et).run P w = .ok z w) (hn : Instr.findNow d k es.toList 0 = some none) :
    (Instr.lookup t (.map (some b)) k true).run P w = .ok (.tuple #[z, .bool false]) w := by
  have hc : ∀ e, (Instr.checkKey e 10000 kt k).run P w = .ok () w := fun e => MapKept.run_checkKey hk hkd e 9999
  simp [Instr.lookup, run_underlying ht, MapKept.run_getObj_map hb, hc, MapKept.run_findKey hk hn, hz, Result.andThen]
theorem heap_of_drew (X : World) (o : Obj) (k : Nat) (h : X.heap.size = k) : (X.alloc o).heap[k]? = some o := by subst h; exact (MapKept.heap_alloc X _).1
theorem run_put_at {P : Program} (w : World) (t kt et : TypeId) (d : TypeDesc) (ht : P.underlying t = some (.map kt et)) (hk : P.underlying kt = some d) (b : Nat) (es : Array MapEntry) (c : Nat) (k v : Value) (hb : w.heap[b]? = some (.map es c)) (hkd : MapKept.IsKey d k) (hn : Instr.findNow d k es.toList 0 = some none) :
    (Instr.mapUpdate t (.map (some b)) k v).run P w = .ok () { w with heap := w.heap.setIfInBounds b (.map (es.push { key := k, val := v, born := c }) (c + 1)) } := by
  have hc : (Instr.checkKey false 10000 kt k).run P w = .ok () w := MapKept.run_checkKey hk hkd false 9999
  simp [Instr.mapUpdate, run_underlying ht, MapKept.run_getObj_map hb, hc, MapKept.run_findKey hk hn, MapKept.run_setObj_map _ hb, Result.andThen]

end Go.Proofs.YtlejbindochiiaaDoor
