/-
  CONTRACTS of when.number, when.shape; the maps of when.date and when.clock as they are laid. (written by gen_whendate.py)
-/
import Derived.Test.YtedlgpccmlcijaaGreatDoorWhenPrint
import Derived.Deep.RegionHeld3
import Derived.WideMake
import Derived.Laws.Tables
import Derived.Shelf.Strings.MapAny
namespace Go.Proofs.YtedlgpccmlcijaaGreatDoor
open Go.RowKit
set_option linter.unusedVariables false
set_option linter.unusedSimpArgs false

/-- 9 for a digit -/
def shF (x : Int) : Int := if 48 ≤ x ∧ x ≤ 57 then 57 else x
set_option maxRecDepth 100000 in
set_option maxHeartbeats 400000 in
theorem shape1_any (x : Int) (w : World) : Pure 90 #[.int .i32 x] w (.int .i32 (shF x)) := by
  by_cases h1 : 48 ≤ x <;> by_cases h2 : x ≤ 57
  all_goals
    go_enter Tryz.func90, Tryz.ntmps90
    go_wp2
    go_ret
    exact ⟨ret_int (by unfold shF; split <;> first | rfl | omega), rfl⟩
def shapeL (s : List UInt8) : List UInt8 := Lib.mapD shF s
/-- the tables of unicode/utf8 are laid -/
def HasU (w : World) : Prop := Lib.Utf8Tabs 2 3 w
theorem HasU.grow {w w' : World} (h : HasU w) (g : G w w') : HasU w' := Utf8Tabs_below h g
set_option maxRecDepth 100000 in
set_option maxHeartbeats 1000000 in
theorem shape_any (s : List UInt8) (w : World) (hU : HasU w) (hs : s.length ≤ 1000) : Gives 70 #[.string (S s)] w (.string (S (shapeL s))) := by
  have hf : MapAtRunes Tryz.prog 90 #[] shF w := fun W x hx _ => (shape1_any x W).mono fun e w' ⟨h1, h2⟩ => ⟨h1, 0, h2.symm⟩
  have h := Tryz.strings_Map_runes 90 #[] (fun _ _ => rfl) shF (S s) w (by simp; omega) hf (fun x hx => by unfold shF; split <;> omega) hU
  have H := hid h
  clear h hf
  go_enter Tryz.func70, Tryz.ntmps70
  go_wp2_with fail
  refine H.out.mono ?_
  rintro e w1 ⟨rfl, hb⟩
  go_wp2_with fail
  go_ret
  exact ⟨rfl, hb⟩

/-! ## numbers -/
def dgB (c : UInt8) : Bool := decide (48 ≤ c.toNat) && decide (c.toNat ≤ 57)
def valL (l : List UInt8) : Nat := l.foldl (fun n c => 10 * n + (c.toNat - 48)) 0
theorem valL_snoc (l : List UInt8) (c : UInt8) : valL (l ++ [c]) = 10 * valL l + (c.toNat - 48) := by simp [valL]
theorem valL_le (l : List UInt8) (h : ∀ c ∈ l, dgB c = true) : valL l < 10 ^ l.length := by
  have key : ∀ n (l : List UInt8), l.length = n → (∀ c ∈ l, dgB c = true) → valL l < 10 ^ n := by
    intro n
    induction n with
    | zero => intro l hl _; rw [List.eq_nil_of_length_eq_zero hl]; decide
    | succ n ih =>
      intro l hl h
      rcases List.eq_nil_or_concat l with rfl | ⟨q, c, rfl⟩
      · simp at hl
      · rw [List.concat_eq_append] at hl h ⊢
        have h1 := ih q (by simpa using hl) (fun c hc => h c (by simp [hc]))
        have h2 := h c (by simp)
        unfold dgB at h2
        simp only [Bool.and_eq_true, decide_eq_true_eq] at h2
        rw [valL_snoc, Nat.pow_succ]; omega
  exact key _ l rfl h
set_option maxRecDepth 100000 in
set_option maxHeartbeats 1000000 in
theorem number_any (l : List UInt8) (w : World) (hd : ∀ c ∈ l, dgB c = true) (hl : l.length ≤ 4) : Pure 71 #[.string (S l)] w (.tuple #[.int .i64 (valL l), .bool true]) := by
  have HD := hid hd
  clear hd
  go_enter Tryz.func71, Tryz.ntmps71
  go_wp2_with fail
  go_loop [4, 8] (fun v i => ∃ k : Nat, k ≤ l.length ∧ i = .int .i64 k ∧ v = .int .i64 (valL (l.take k))) (fun _ i => l.length - (intOf i).toNat)
  case atStart => exact ⟨0, Nat.zero_le _, rfl, rfl⟩
  case round =>
    obtain ⟨k, hk, rfl, rfl⟩ := hrel
    have hv := valL_le (l.take k) (fun c hc => HD.out c (List.mem_of_mem_take hc))
    have hv2 : valL (l.take k) < 10000 := by
      have h1 : (l.take k).length ≤ 4 := by simp; omega
      have h2 : 10 ^ (l.take k).length ≤ 10 ^ 4 := Nat.pow_le_pow_right (by omega) h1
      omega
    clear hv
    by_cases hlt : k < l.length
    · obtain ⟨c, hc⟩ : ∃ c, l[k] = c := ⟨_, rfl⟩
      have hcd := HD.out _ (List.getElem_mem hlt)
      rw [hc] at hcd
      unfold dgB at hcd
      simp only [Bool.and_eq_true, decide_eq_true_eq] at hcd
      obtain ⟨hc1, hc2⟩ := hcd
      have HS : Hid (valL (l.take (k + 1)) = 10 * valL (l.take k) + (c.toNat - 48)) := hid (by rw [List.take_succ_eq_append_getElem hlt, hc, valL_snoc])
      go_wp2_with fail
      go_round
      case rel => exact ⟨k + 1, by omega, by go_num, by rw [HS.out]; congr 1; omega⟩
      case measure => simp [intOf]; omega
    · obtain rfl : k = l.length := by omega
      have HT : Hid (l.take l.length = l) := hid (List.take_length)
      go_wp2_with fail
      go_ret2
      exact ⟨rfl, rfl⟩

theorem number_c (l : List UInt8) (w : World) (hd : ∀ c ∈ l, dgB c = true) (hl : l.length ≤ 4) : Calls Tryz.prog 71 #[.string (S l)] w fun e w' => e = .returned (.tuple #[.int .i64 (valL l), .bool true]) ∧ w = w' := number_any l w hd hl
theorem lt_of_row {w : World} {b : Nat} {o : Obj} (h : w.heap[b]? = some o) : b < w.heap.size := by
  rcases Nat.lt_or_ge b w.heap.size with h' | h'
  · exact h'
  · rw [Array.getElem?_eq_none h'] at h; cases h

theorem cell_alloc_ne (W : World) (o : Obj) (b i : Nat) (h : ¬ b = W.heap.size) : (W.alloc o).cell? ⟨b, i, none⟩ = W.cell? ⟨b, i, none⟩ := by
  refine World.cell?_of_block ?_
  show (W.heap.push o)[b]? = W.heap[b]?
  rw [Array.getElem?_push]
  rw [if_neg h]

theorem cell_alloc_at (W : World) (cs : Array Value) (t : TypeId) (b i : Nat) (h : b = W.heap.size) : (W.alloc (.cells cs t)).cell? ⟨b, i, none⟩ = cs[i]? := by subst h; exact World.cell?_alloc_new W cs t i
theorem row_setE {W : World} {b i : Nat} {v : Value} {cs cs' : Array Value} {T : TypeId} {fr : Nat × Nat} (h : W.heap[b]? = some (.cells cs T fr)) (e : cs.setIfInBounds i v = cs') : (W.setCell ⟨b, i, none⟩ v).heap[b]? = some (.cells cs' T fr) := by
  subst e
  simp [World.setCell, Array.getElem?_modify, h]
theorem row_drew {W : World} {b : Nat} {o : Obj} (h : W.heap[b]? = some o) : W.drew.heap[b]? = some o := h
theorem row_alloc {W : World} {b : Nat} {o x : Obj} (h : W.heap[b]? = some o) (hb : b < W.heap.size) : (W.alloc x).heap[b]? = some o := by rw [Lib.alloc_old W x b hb]; exact h

/-! ## the maps -/
theorem push_set {α : Type} (a : Array α) (x y : α) : (a.push x).setIfInBounds a.size y = a.push y := by
  apply Array.ext'
  simp
theorem run_put {P : Program} (w : World) (t kt et : TypeId) (d : TypeDesc) (ht : P.underlying t = some (.map kt et)) (hk : P.underlying kt = some d) (es : Array MapEntry) (c : Nat) (k v : Value) (hkd : MapKept.IsKey d k) (hn : Instr.findNow d k es.toList 0 = some none) :
    (Instr.mapUpdate t (.map (some w.heap.size)) k v).run P (w.alloc (.map es c)) = .ok () (w.alloc (.map (es.push { key := k, val := v, born := c }) (c + 1))) := by
  have hb : (w.alloc (.map es c)).heap[w.heap.size]? = some (.map es c) := (MapKept.heap_alloc w _).1
  have hc : (Instr.checkKey false 10000 kt k).run P (w.alloc (.map es c)) = .ok () (w.alloc (.map es c)) := MapKept.run_checkKey hk hkd false 9999
  have hw : ({ (w.alloc (.map es c)) with heap := (w.alloc (.map es c)).heap.setIfInBounds w.heap.size (.map (es.push { key := k, val := v, born := c }) (c + 1)) } : World) = w.alloc (.map (es.push { key := k, val := v, born := c }) (c + 1)) := by
    unfold World.alloc
    simp only
    rw [push_set]
  simp [Instr.mapUpdate, run_underlying ht, MapKept.run_getObj_map hb, hc, MapKept.run_findKey hk hn, MapKept.run_setObj_map _ hb, Result.andThen]
  exact hw
theorem run_look {P : Program} {k : Value} (w : World) (t kt et : TypeId) (d : TypeDesc) (ht : P.underlying t = some (.map kt et)) (hk : P.underlying kt = some d) (b : Nat) (es : Array MapEntry) (c : Nat) (hb : w.heap[b]? = some (.map es c)) (hkd : MapKept.IsKey d k) (i : Nat) (v : Value) (ok : Bool) (hn : Instr.findNow d k es.toList 0 = some (some (i, v))) :
    (Instr.lookup t (.map (some b)) k ok).run P w = .ok (if ok then .tuple #[v, .bool true] else v) w := by
  have hc : ∀ e, (Instr.checkKey e 10000 kt k).run P w = .ok () w := fun e => MapKept.run_checkKey hk hkd e 9999
  cases ok <;> simp [Instr.lookup, run_underlying ht, MapKept.run_getObj_map hb, hc, MapKept.run_findKey hk hn, Result.andThen]
theorem run_look_none {P : Program} {k : Value} (w : World) (t kt et : TypeId) (d : TypeDesc) (ht : P.underlying t = some (.map kt et)) (hk : P.underlying kt = some d) (b : Nat) (es : Array MapEntry) (c : Nat) (hb : w.heap[b]? = some (.map es c)) (hkd : MapKept.IsKey d k) (z : Value) (hz : ∀ w, (zeroValue et).run P w = .ok z w) (hn : Instr.findNow d k es.toList 0 = some none) :
    (Instr.lookup t (.map (some b)) k true).run P w = .ok (.tuple #[z, .bool false]) w := by
  have hc : ∀ e, (Instr.checkKey e 10000 kt k).run P w = .ok () w := fun e => MapKept.run_checkKey hk hkd e 9999
  simp [Instr.lookup, run_underlying ht, MapKept.run_getObj_map hb, hc, MapKept.run_findKey hk hn, hz, Result.andThen]
theorem heap_of_drew (X : World) (o : Obj) (k : Nat) (h : X.heap.size = k) : (X.alloc o).heap[k]? = some o := by subst h; exact (MapKept.heap_alloc X _).1
theorem run_put_at {P : Program} (w : World) (t kt et : TypeId) (d : TypeDesc) (ht : P.underlying t = some (.map kt et)) (hk : P.underlying kt = some d) (b : Nat) (es : Array MapEntry) (c : Nat) (k v : Value) (hb : w.heap[b]? = some (.map es c)) (hkd : MapKept.IsKey d k) (hn : Instr.findNow d k es.toList 0 = some none) :
    (Instr.mapUpdate t (.map (some b)) k v).run P w = .ok () { w with heap := w.heap.setIfInBounds b (.map (es.push { key := k, val := v, born := c }) (c + 1)) } := by
  have hc : (Instr.checkKey false 10000 kt k).run P w = .ok () w := MapKept.run_checkKey hk hkd false 9999
  simp [Instr.mapUpdate, run_underlying ht, MapKept.run_getObj_map hb, hc, MapKept.run_findKey hk hn, MapKept.run_setObj_map _ hb, Result.andThen]
theorem yes_put1 (X : World) (k : Nat) (h : X.heap.size = k) : (Instr.mapUpdate 126 (.map (some k)) (.bool true) (.int .i64 4)).run Tryz.prog (X.alloc (.map #[] 0)).drew = .ok () (X.alloc (.map #[{ key := .bool true, val := .int .i64 4, born := 0 }] 1)).drew := by
  rw [run_put_at (X.alloc (.map #[] 0)).drew _ _ _ _ Tryz.underlying126 Tryz.underlying4 k #[] 0 (.bool true) (.int .i64 4) (heap_of_drew X _ k h) trivial (by kernel_rfl)]
  subst h
  simp only [World.alloc, World.drew, push_set]; rfl
theorem no_put1 (X : World) (k : Nat) (h : X.heap.size = k) : (Instr.mapUpdate 126 (.map (some k)) (.bool false) (.int .i64 2)).run Tryz.prog (X.alloc (.map #[{ key := .bool true, val := .int .i64 4, born := 0 }] 1)).drew = .ok () (X.alloc (.map #[{ key := .bool true, val := .int .i64 4, born := 0 }, { key := .bool false, val := .int .i64 2, born := 1 }] 2)).drew := by
  rw [run_put_at (X.alloc (.map #[{ key := .bool true, val := .int .i64 4, born := 0 }] 1)).drew _ _ _ _ Tryz.underlying126 Tryz.underlying4 k #[{ key := .bool true, val := .int .i64 4, born := 0 }] 1 (.bool false) (.int .i64 2) (heap_of_drew X _ k h) trivial (by kernel_rfl)]
  subst h
  simp only [World.alloc, World.drew, push_set]; rfl
theorem yes_look1 (X : World) (k : Nat) (h : X.heap.size = k) : (Instr.lookup 126 (.map (some k)) (.bool true) false).run Tryz.prog (X.alloc (.map #[{ key := .bool true, val := .int .i64 4, born := 0 }, { key := .bool false, val := .int .i64 2, born := 1 }] 2)).drew = .ok (.int .i64 4) (X.alloc (.map #[{ key := .bool true, val := .int .i64 4, born := 0 }, { key := .bool false, val := .int .i64 2, born := 1 }] 2)).drew :=
  run_look (k := .bool true) (X.alloc (.map #[{ key := .bool true, val := .int .i64 4, born := 0 }, { key := .bool false, val := .int .i64 2, born := 1 }] 2)).drew _ _ _ _ Tryz.underlying126 Tryz.underlying4 k _ _ (heap_of_drew X (.map #[{ key := .bool true, val := .int .i64 4, born := 0 }, { key := .bool false, val := .int .i64 2, born := 1 }] 2) k h) trivial 0 (.int .i64 4) false (by kernel_rfl)
theorem no_look1 (X : World) (k : Nat) (h : X.heap.size = k) : (Instr.lookup 126 (.map (some k)) (.bool false) false).run Tryz.prog (X.alloc (.map #[{ key := .bool true, val := .int .i64 4, born := 0 }, { key := .bool false, val := .int .i64 2, born := 1 }] 2)).drew = .ok (.int .i64 2) (X.alloc (.map #[{ key := .bool true, val := .int .i64 4, born := 0 }, { key := .bool false, val := .int .i64 2, born := 1 }] 2)).drew :=
  run_look (k := .bool false) (X.alloc (.map #[{ key := .bool true, val := .int .i64 4, born := 0 }, { key := .bool false, val := .int .i64 2, born := 1 }] 2)).drew _ _ _ _ Tryz.underlying126 Tryz.underlying4 k _ _ (heap_of_drew X (.map #[{ key := .bool true, val := .int .i64 4, born := 0 }, { key := .bool false, val := .int .i64 2, born := 1 }] 2) k h) trivial 1 (.int .i64 2) false (by kernel_rfl)
theorem yes_put2 (X : World) (k : Nat) (h : X.heap.size = k) : (Instr.mapUpdate 126 (.map (some k)) (.bool true) (.int .i64 4)).run Tryz.prog (X.alloc (.map #[] 0)).drew.drew = .ok () (X.alloc (.map #[{ key := .bool true, val := .int .i64 4, born := 0 }] 1)).drew.drew := by
  rw [run_put_at (X.alloc (.map #[] 0)).drew.drew _ _ _ _ Tryz.underlying126 Tryz.underlying4 k #[] 0 (.bool true) (.int .i64 4) (heap_of_drew X _ k h) trivial (by kernel_rfl)]
  subst h
  simp only [World.alloc, World.drew, push_set]; rfl
theorem no_put2 (X : World) (k : Nat) (h : X.heap.size = k) : (Instr.mapUpdate 126 (.map (some k)) (.bool false) (.int .i64 2)).run Tryz.prog (X.alloc (.map #[{ key := .bool true, val := .int .i64 4, born := 0 }] 1)).drew.drew = .ok () (X.alloc (.map #[{ key := .bool true, val := .int .i64 4, born := 0 }, { key := .bool false, val := .int .i64 2, born := 1 }] 2)).drew.drew := by
  rw [run_put_at (X.alloc (.map #[{ key := .bool true, val := .int .i64 4, born := 0 }] 1)).drew.drew _ _ _ _ Tryz.underlying126 Tryz.underlying4 k #[{ key := .bool true, val := .int .i64 4, born := 0 }] 1 (.bool false) (.int .i64 2) (heap_of_drew X _ k h) trivial (by kernel_rfl)]
  subst h
  simp only [World.alloc, World.drew, push_set]; rfl
theorem yes_look2 (X : World) (k : Nat) (h : X.heap.size = k) : (Instr.lookup 126 (.map (some k)) (.bool true) false).run Tryz.prog (X.alloc (.map #[{ key := .bool true, val := .int .i64 4, born := 0 }, { key := .bool false, val := .int .i64 2, born := 1 }] 2)).drew.drew = .ok (.int .i64 4) (X.alloc (.map #[{ key := .bool true, val := .int .i64 4, born := 0 }, { key := .bool false, val := .int .i64 2, born := 1 }] 2)).drew.drew :=
  run_look (k := .bool true) (X.alloc (.map #[{ key := .bool true, val := .int .i64 4, born := 0 }, { key := .bool false, val := .int .i64 2, born := 1 }] 2)).drew.drew _ _ _ _ Tryz.underlying126 Tryz.underlying4 k _ _ (heap_of_drew X (.map #[{ key := .bool true, val := .int .i64 4, born := 0 }, { key := .bool false, val := .int .i64 2, born := 1 }] 2) k h) trivial 0 (.int .i64 4) false (by kernel_rfl)
theorem no_look2 (X : World) (k : Nat) (h : X.heap.size = k) : (Instr.lookup 126 (.map (some k)) (.bool false) false).run Tryz.prog (X.alloc (.map #[{ key := .bool true, val := .int .i64 4, born := 0 }, { key := .bool false, val := .int .i64 2, born := 1 }] 2)).drew.drew = .ok (.int .i64 2) (X.alloc (.map #[{ key := .bool true, val := .int .i64 4, born := 0 }, { key := .bool false, val := .int .i64 2, born := 1 }] 2)).drew.drew :=
  run_look (k := .bool false) (X.alloc (.map #[{ key := .bool true, val := .int .i64 4, born := 0 }, { key := .bool false, val := .int .i64 2, born := 1 }] 2)).drew.drew _ _ _ _ Tryz.underlying126 Tryz.underlying4 k _ _ (heap_of_drew X (.map #[{ key := .bool true, val := .int .i64 4, born := 0 }, { key := .bool false, val := .int .i64 2, born := 1 }] 2) k h) trivial 1 (.int .i64 2) false (by kernel_rfl)
theorem yes_put3 (X : World) (k : Nat) (h : X.heap.size = k) : (Instr.mapUpdate 126 (.map (some k)) (.bool true) (.int .i64 4)).run Tryz.prog (X.alloc (.map #[] 0)).drew.drew.drew = .ok () (X.alloc (.map #[{ key := .bool true, val := .int .i64 4, born := 0 }] 1)).drew.drew.drew := by
  rw [run_put_at (X.alloc (.map #[] 0)).drew.drew.drew _ _ _ _ Tryz.underlying126 Tryz.underlying4 k #[] 0 (.bool true) (.int .i64 4) (heap_of_drew X _ k h) trivial (by kernel_rfl)]
  subst h
  simp only [World.alloc, World.drew, push_set]; rfl
theorem no_put3 (X : World) (k : Nat) (h : X.heap.size = k) : (Instr.mapUpdate 126 (.map (some k)) (.bool false) (.int .i64 2)).run Tryz.prog (X.alloc (.map #[{ key := .bool true, val := .int .i64 4, born := 0 }] 1)).drew.drew.drew = .ok () (X.alloc (.map #[{ key := .bool true, val := .int .i64 4, born := 0 }, { key := .bool false, val := .int .i64 2, born := 1 }] 2)).drew.drew.drew := by
  rw [run_put_at (X.alloc (.map #[{ key := .bool true, val := .int .i64 4, born := 0 }] 1)).drew.drew.drew _ _ _ _ Tryz.underlying126 Tryz.underlying4 k #[{ key := .bool true, val := .int .i64 4, born := 0 }] 1 (.bool false) (.int .i64 2) (heap_of_drew X _ k h) trivial (by kernel_rfl)]
  subst h
  simp only [World.alloc, World.drew, push_set]; rfl
theorem yes_look3 (X : World) (k : Nat) (h : X.heap.size = k) : (Instr.lookup 126 (.map (some k)) (.bool true) false).run Tryz.prog (X.alloc (.map #[{ key := .bool true, val := .int .i64 4, born := 0 }, { key := .bool false, val := .int .i64 2, born := 1 }] 2)).drew.drew.drew = .ok (.int .i64 4) (X.alloc (.map #[{ key := .bool true, val := .int .i64 4, born := 0 }, { key := .bool false, val := .int .i64 2, born := 1 }] 2)).drew.drew.drew :=
  run_look (k := .bool true) (X.alloc (.map #[{ key := .bool true, val := .int .i64 4, born := 0 }, { key := .bool false, val := .int .i64 2, born := 1 }] 2)).drew.drew.drew _ _ _ _ Tryz.underlying126 Tryz.underlying4 k _ _ (heap_of_drew X (.map #[{ key := .bool true, val := .int .i64 4, born := 0 }, { key := .bool false, val := .int .i64 2, born := 1 }] 2) k h) trivial 0 (.int .i64 4) false (by kernel_rfl)
theorem no_look3 (X : World) (k : Nat) (h : X.heap.size = k) : (Instr.lookup 126 (.map (some k)) (.bool false) false).run Tryz.prog (X.alloc (.map #[{ key := .bool true, val := .int .i64 4, born := 0 }, { key := .bool false, val := .int .i64 2, born := 1 }] 2)).drew.drew.drew = .ok (.int .i64 2) (X.alloc (.map #[{ key := .bool true, val := .int .i64 4, born := 0 }, { key := .bool false, val := .int .i64 2, born := 1 }] 2)).drew.drew.drew :=
  run_look (k := .bool false) (X.alloc (.map #[{ key := .bool true, val := .int .i64 4, born := 0 }, { key := .bool false, val := .int .i64 2, born := 1 }] 2)).drew.drew.drew _ _ _ _ Tryz.underlying126 Tryz.underlying4 k _ _ (heap_of_drew X (.map #[{ key := .bool true, val := .int .i64 4, born := 0 }, { key := .bool false, val := .int .i64 2, born := 1 }] 2) k h) trivial 1 (.int .i64 2) false (by kernel_rfl)
theorem yes_put4 (X : World) (k : Nat) (h : X.heap.size = k) : (Instr.mapUpdate 126 (.map (some k)) (.bool true) (.int .i64 4)).run Tryz.prog (X.alloc (.map #[] 0)).drew.drew.drew.drew = .ok () (X.alloc (.map #[{ key := .bool true, val := .int .i64 4, born := 0 }] 1)).drew.drew.drew.drew := by
  rw [run_put_at (X.alloc (.map #[] 0)).drew.drew.drew.drew _ _ _ _ Tryz.underlying126 Tryz.underlying4 k #[] 0 (.bool true) (.int .i64 4) (heap_of_drew X _ k h) trivial (by kernel_rfl)]
  subst h
  simp only [World.alloc, World.drew, push_set]; rfl
theorem no_put4 (X : World) (k : Nat) (h : X.heap.size = k) : (Instr.mapUpdate 126 (.map (some k)) (.bool false) (.int .i64 2)).run Tryz.prog (X.alloc (.map #[{ key := .bool true, val := .int .i64 4, born := 0 }] 1)).drew.drew.drew.drew = .ok () (X.alloc (.map #[{ key := .bool true, val := .int .i64 4, born := 0 }, { key := .bool false, val := .int .i64 2, born := 1 }] 2)).drew.drew.drew.drew := by
  rw [run_put_at (X.alloc (.map #[{ key := .bool true, val := .int .i64 4, born := 0 }] 1)).drew.drew.drew.drew _ _ _ _ Tryz.underlying126 Tryz.underlying4 k #[{ key := .bool true, val := .int .i64 4, born := 0 }] 1 (.bool false) (.int .i64 2) (heap_of_drew X _ k h) trivial (by kernel_rfl)]
  subst h
  simp only [World.alloc, World.drew, push_set]; rfl
theorem yes_look4 (X : World) (k : Nat) (h : X.heap.size = k) : (Instr.lookup 126 (.map (some k)) (.bool true) false).run Tryz.prog (X.alloc (.map #[{ key := .bool true, val := .int .i64 4, born := 0 }, { key := .bool false, val := .int .i64 2, born := 1 }] 2)).drew.drew.drew.drew = .ok (.int .i64 4) (X.alloc (.map #[{ key := .bool true, val := .int .i64 4, born := 0 }, { key := .bool false, val := .int .i64 2, born := 1 }] 2)).drew.drew.drew.drew :=
  run_look (k := .bool true) (X.alloc (.map #[{ key := .bool true, val := .int .i64 4, born := 0 }, { key := .bool false, val := .int .i64 2, born := 1 }] 2)).drew.drew.drew.drew _ _ _ _ Tryz.underlying126 Tryz.underlying4 k _ _ (heap_of_drew X (.map #[{ key := .bool true, val := .int .i64 4, born := 0 }, { key := .bool false, val := .int .i64 2, born := 1 }] 2) k h) trivial 0 (.int .i64 4) false (by kernel_rfl)
theorem no_look4 (X : World) (k : Nat) (h : X.heap.size = k) : (Instr.lookup 126 (.map (some k)) (.bool false) false).run Tryz.prog (X.alloc (.map #[{ key := .bool true, val := .int .i64 4, born := 0 }, { key := .bool false, val := .int .i64 2, born := 1 }] 2)).drew.drew.drew.drew = .ok (.int .i64 2) (X.alloc (.map #[{ key := .bool true, val := .int .i64 4, born := 0 }, { key := .bool false, val := .int .i64 2, born := 1 }] 2)).drew.drew.drew.drew :=
  run_look (k := .bool false) (X.alloc (.map #[{ key := .bool true, val := .int .i64 4, born := 0 }, { key := .bool false, val := .int .i64 2, born := 1 }] 2)).drew.drew.drew.drew _ _ _ _ Tryz.underlying126 Tryz.underlying4 k _ _ (heap_of_drew X (.map #[{ key := .bool true, val := .int .i64 4, born := 0 }, { key := .bool false, val := .int .i64 2, born := 1 }] 2) k h) trivial 1 (.int .i64 2) false (by kernel_rfl)
theorem no_puta2 (X : World) (k : Nat) (h : X.heap.size = k) : (Instr.mapUpdate 126 (.map (some k)) (.bool false) (.int .i64 2)).run Tryz.prog (X.alloc (.map #[] 0)).drew.drew = .ok () (X.alloc (.map #[{ key := .bool false, val := .int .i64 2, born := 0 }] 1)).drew.drew := by
  rw [run_put_at (X.alloc (.map #[] 0)).drew.drew _ _ _ _ Tryz.underlying126 Tryz.underlying4 k #[] 0 (.bool false) (.int .i64 2) (heap_of_drew X _ k h) trivial (by kernel_rfl)]
  subst h
  simp only [World.alloc, World.drew, push_set]; rfl
theorem yes_puta2 (X : World) (k : Nat) (h : X.heap.size = k) : (Instr.mapUpdate 126 (.map (some k)) (.bool true) (.int .i64 4)).run Tryz.prog (X.alloc (.map #[{ key := .bool false, val := .int .i64 2, born := 0 }] 1)).drew.drew = .ok () (X.alloc (.map #[{ key := .bool false, val := .int .i64 2, born := 0 }, { key := .bool true, val := .int .i64 4, born := 1 }] 2)).drew.drew := by
  rw [run_put_at (X.alloc (.map #[{ key := .bool false, val := .int .i64 2, born := 0 }] 1)).drew.drew _ _ _ _ Tryz.underlying126 Tryz.underlying4 k #[{ key := .bool false, val := .int .i64 2, born := 0 }] 1 (.bool true) (.int .i64 4) (heap_of_drew X _ k h) trivial (by kernel_rfl)]
  subst h
  simp only [World.alloc, World.drew, push_set]; rfl
theorem yes_looka2 (X : World) (k : Nat) (h : X.heap.size = k) : (Instr.lookup 126 (.map (some k)) (.bool true) false).run Tryz.prog (X.alloc (.map #[{ key := .bool false, val := .int .i64 2, born := 0 }, { key := .bool true, val := .int .i64 4, born := 1 }] 2)).drew.drew = .ok (.int .i64 4) (X.alloc (.map #[{ key := .bool false, val := .int .i64 2, born := 0 }, { key := .bool true, val := .int .i64 4, born := 1 }] 2)).drew.drew :=
  run_look (k := .bool true) (X.alloc (.map #[{ key := .bool false, val := .int .i64 2, born := 0 }, { key := .bool true, val := .int .i64 4, born := 1 }] 2)).drew.drew _ _ _ _ Tryz.underlying126 Tryz.underlying4 k _ _ (heap_of_drew X (.map #[{ key := .bool false, val := .int .i64 2, born := 0 }, { key := .bool true, val := .int .i64 4, born := 1 }] 2) k h) trivial 1 (.int .i64 4) false (by kernel_rfl)
theorem no_looka2 (X : World) (k : Nat) (h : X.heap.size = k) : (Instr.lookup 126 (.map (some k)) (.bool false) false).run Tryz.prog (X.alloc (.map #[{ key := .bool false, val := .int .i64 2, born := 0 }, { key := .bool true, val := .int .i64 4, born := 1 }] 2)).drew.drew = .ok (.int .i64 2) (X.alloc (.map #[{ key := .bool false, val := .int .i64 2, born := 0 }, { key := .bool true, val := .int .i64 4, born := 1 }] 2)).drew.drew :=
  run_look (k := .bool false) (X.alloc (.map #[{ key := .bool false, val := .int .i64 2, born := 0 }, { key := .bool true, val := .int .i64 4, born := 1 }] 2)).drew.drew _ _ _ _ Tryz.underlying126 Tryz.underlying4 k _ _ (heap_of_drew X (.map #[{ key := .bool false, val := .int .i64 2, born := 0 }, { key := .bool true, val := .int .i64 4, born := 1 }] 2) k h) trivial 0 (.int .i64 2) false (by kernel_rfl)
theorem no_puta3 (X : World) (k : Nat) (h : X.heap.size = k) : (Instr.mapUpdate 126 (.map (some k)) (.bool false) (.int .i64 2)).run Tryz.prog (X.alloc (.map #[] 0)).drew.drew.drew = .ok () (X.alloc (.map #[{ key := .bool false, val := .int .i64 2, born := 0 }] 1)).drew.drew.drew := by
  rw [run_put_at (X.alloc (.map #[] 0)).drew.drew.drew _ _ _ _ Tryz.underlying126 Tryz.underlying4 k #[] 0 (.bool false) (.int .i64 2) (heap_of_drew X _ k h) trivial (by kernel_rfl)]
  subst h
  simp only [World.alloc, World.drew, push_set]; rfl
theorem yes_puta3 (X : World) (k : Nat) (h : X.heap.size = k) : (Instr.mapUpdate 126 (.map (some k)) (.bool true) (.int .i64 4)).run Tryz.prog (X.alloc (.map #[{ key := .bool false, val := .int .i64 2, born := 0 }] 1)).drew.drew.drew = .ok () (X.alloc (.map #[{ key := .bool false, val := .int .i64 2, born := 0 }, { key := .bool true, val := .int .i64 4, born := 1 }] 2)).drew.drew.drew := by
  rw [run_put_at (X.alloc (.map #[{ key := .bool false, val := .int .i64 2, born := 0 }] 1)).drew.drew.drew _ _ _ _ Tryz.underlying126 Tryz.underlying4 k #[{ key := .bool false, val := .int .i64 2, born := 0 }] 1 (.bool true) (.int .i64 4) (heap_of_drew X _ k h) trivial (by kernel_rfl)]
  subst h
  simp only [World.alloc, World.drew, push_set]; rfl
theorem yes_looka3 (X : World) (k : Nat) (h : X.heap.size = k) : (Instr.lookup 126 (.map (some k)) (.bool true) false).run Tryz.prog (X.alloc (.map #[{ key := .bool false, val := .int .i64 2, born := 0 }, { key := .bool true, val := .int .i64 4, born := 1 }] 2)).drew.drew.drew = .ok (.int .i64 4) (X.alloc (.map #[{ key := .bool false, val := .int .i64 2, born := 0 }, { key := .bool true, val := .int .i64 4, born := 1 }] 2)).drew.drew.drew :=
  run_look (k := .bool true) (X.alloc (.map #[{ key := .bool false, val := .int .i64 2, born := 0 }, { key := .bool true, val := .int .i64 4, born := 1 }] 2)).drew.drew.drew _ _ _ _ Tryz.underlying126 Tryz.underlying4 k _ _ (heap_of_drew X (.map #[{ key := .bool false, val := .int .i64 2, born := 0 }, { key := .bool true, val := .int .i64 4, born := 1 }] 2) k h) trivial 1 (.int .i64 4) false (by kernel_rfl)
theorem no_looka3 (X : World) (k : Nat) (h : X.heap.size = k) : (Instr.lookup 126 (.map (some k)) (.bool false) false).run Tryz.prog (X.alloc (.map #[{ key := .bool false, val := .int .i64 2, born := 0 }, { key := .bool true, val := .int .i64 4, born := 1 }] 2)).drew.drew.drew = .ok (.int .i64 2) (X.alloc (.map #[{ key := .bool false, val := .int .i64 2, born := 0 }, { key := .bool true, val := .int .i64 4, born := 1 }] 2)).drew.drew.drew :=
  run_look (k := .bool false) (X.alloc (.map #[{ key := .bool false, val := .int .i64 2, born := 0 }, { key := .bool true, val := .int .i64 4, born := 1 }] 2)).drew.drew.drew _ _ _ _ Tryz.underlying126 Tryz.underlying4 k _ _ (heap_of_drew X (.map #[{ key := .bool false, val := .int .i64 2, born := 0 }, { key := .bool true, val := .int .i64 4, born := 1 }] 2) k h) trivial 0 (.int .i64 2) false (by kernel_rfl)
theorem no_puta4 (X : World) (k : Nat) (h : X.heap.size = k) : (Instr.mapUpdate 126 (.map (some k)) (.bool false) (.int .i64 2)).run Tryz.prog (X.alloc (.map #[] 0)).drew.drew.drew.drew = .ok () (X.alloc (.map #[{ key := .bool false, val := .int .i64 2, born := 0 }] 1)).drew.drew.drew.drew := by
  rw [run_put_at (X.alloc (.map #[] 0)).drew.drew.drew.drew _ _ _ _ Tryz.underlying126 Tryz.underlying4 k #[] 0 (.bool false) (.int .i64 2) (heap_of_drew X _ k h) trivial (by kernel_rfl)]
  subst h
  simp only [World.alloc, World.drew, push_set]; rfl
theorem yes_puta4 (X : World) (k : Nat) (h : X.heap.size = k) : (Instr.mapUpdate 126 (.map (some k)) (.bool true) (.int .i64 4)).run Tryz.prog (X.alloc (.map #[{ key := .bool false, val := .int .i64 2, born := 0 }] 1)).drew.drew.drew.drew = .ok () (X.alloc (.map #[{ key := .bool false, val := .int .i64 2, born := 0 }, { key := .bool true, val := .int .i64 4, born := 1 }] 2)).drew.drew.drew.drew := by
  rw [run_put_at (X.alloc (.map #[{ key := .bool false, val := .int .i64 2, born := 0 }] 1)).drew.drew.drew.drew _ _ _ _ Tryz.underlying126 Tryz.underlying4 k #[{ key := .bool false, val := .int .i64 2, born := 0 }] 1 (.bool true) (.int .i64 4) (heap_of_drew X _ k h) trivial (by kernel_rfl)]
  subst h
  simp only [World.alloc, World.drew, push_set]; rfl
theorem yes_looka4 (X : World) (k : Nat) (h : X.heap.size = k) : (Instr.lookup 126 (.map (some k)) (.bool true) false).run Tryz.prog (X.alloc (.map #[{ key := .bool false, val := .int .i64 2, born := 0 }, { key := .bool true, val := .int .i64 4, born := 1 }] 2)).drew.drew.drew.drew = .ok (.int .i64 4) (X.alloc (.map #[{ key := .bool false, val := .int .i64 2, born := 0 }, { key := .bool true, val := .int .i64 4, born := 1 }] 2)).drew.drew.drew.drew :=
  run_look (k := .bool true) (X.alloc (.map #[{ key := .bool false, val := .int .i64 2, born := 0 }, { key := .bool true, val := .int .i64 4, born := 1 }] 2)).drew.drew.drew.drew _ _ _ _ Tryz.underlying126 Tryz.underlying4 k _ _ (heap_of_drew X (.map #[{ key := .bool false, val := .int .i64 2, born := 0 }, { key := .bool true, val := .int .i64 4, born := 1 }] 2) k h) trivial 1 (.int .i64 4) false (by kernel_rfl)
theorem no_looka4 (X : World) (k : Nat) (h : X.heap.size = k) : (Instr.lookup 126 (.map (some k)) (.bool false) false).run Tryz.prog (X.alloc (.map #[{ key := .bool false, val := .int .i64 2, born := 0 }, { key := .bool true, val := .int .i64 4, born := 1 }] 2)).drew.drew.drew.drew = .ok (.int .i64 2) (X.alloc (.map #[{ key := .bool false, val := .int .i64 2, born := 0 }, { key := .bool true, val := .int .i64 4, born := 1 }] 2)).drew.drew.drew.drew :=
  run_look (k := .bool false) (X.alloc (.map #[{ key := .bool false, val := .int .i64 2, born := 0 }, { key := .bool true, val := .int .i64 4, born := 1 }] 2)).drew.drew.drew.drew _ _ _ _ Tryz.underlying126 Tryz.underlying4 k _ _ (heap_of_drew X (.map #[{ key := .bool false, val := .int .i64 2, born := 0 }, { key := .bool true, val := .int .i64 4, born := 1 }] 2) k h) trivial 0 (.int .i64 2) false (by kernel_rfl)
theorem date_put0 (w : World) : (Instr.mapUpdate 120 (.map (some w.heap.size)) (.string ⟨#[]⟩) (.agg #[.int .i64 (-1), .int .i64 (-1), .int .i64 (-1)])).run Tryz.prog (w.alloc (.map #[] 0)) = .ok () (w.alloc (.map #[{ key := .string ⟨#[]⟩, val := .agg #[.int .i64 (-1), .int .i64 (-1), .int .i64 (-1)], born := 0 }] 1)) :=
  run_put w _ _ _ _ Tryz.underlying120 Tryz.underlying9 #[] 0 (.string ⟨#[]⟩) _ trivial (by kernel_rfl)
theorem date_put1 (w : World) : (Instr.mapUpdate 120 (.map (some w.heap.size)) (.string ⟨#[57, 57, 57, 57]⟩) (.agg #[.int .i64 0, .int .i64 (-1), .int .i64 (-1)])).run Tryz.prog (w.alloc (.map #[{ key := .string ⟨#[]⟩, val := .agg #[.int .i64 (-1), .int .i64 (-1), .int .i64 (-1)], born := 0 }] 1)) = .ok () (w.alloc (.map #[{ key := .string ⟨#[]⟩, val := .agg #[.int .i64 (-1), .int .i64 (-1), .int .i64 (-1)], born := 0 }, { key := .string ⟨#[57, 57, 57, 57]⟩, val := .agg #[.int .i64 0, .int .i64 (-1), .int .i64 (-1)], born := 1 }] 2)) :=
  run_put w _ _ _ _ Tryz.underlying120 Tryz.underlying9 #[{ key := .string ⟨#[]⟩, val := .agg #[.int .i64 (-1), .int .i64 (-1), .int .i64 (-1)], born := 0 }] 1 (.string ⟨#[57, 57, 57, 57]⟩) _ trivial (by kernel_rfl)
theorem date_put2 (w : World) : (Instr.mapUpdate 120 (.map (some w.heap.size)) (.string ⟨#[57, 57, 57, 57, 45, 57, 57]⟩) (.agg #[.int .i64 0, .int .i64 5, .int .i64 (-1)])).run Tryz.prog (w.alloc (.map #[{ key := .string ⟨#[]⟩, val := .agg #[.int .i64 (-1), .int .i64 (-1), .int .i64 (-1)], born := 0 }, { key := .string ⟨#[57, 57, 57, 57]⟩, val := .agg #[.int .i64 0, .int .i64 (-1), .int .i64 (-1)], born := 1 }] 2)) = .ok () (w.alloc (.map #[{ key := .string ⟨#[]⟩, val := .agg #[.int .i64 (-1), .int .i64 (-1), .int .i64 (-1)], born := 0 }, { key := .string ⟨#[57, 57, 57, 57]⟩, val := .agg #[.int .i64 0, .int .i64 (-1), .int .i64 (-1)], born := 1 }, { key := .string ⟨#[57, 57, 57, 57, 45, 57, 57]⟩, val := .agg #[.int .i64 0, .int .i64 5, .int .i64 (-1)], born := 2 }] 3)) :=
  run_put w _ _ _ _ Tryz.underlying120 Tryz.underlying9 #[{ key := .string ⟨#[]⟩, val := .agg #[.int .i64 (-1), .int .i64 (-1), .int .i64 (-1)], born := 0 }, { key := .string ⟨#[57, 57, 57, 57]⟩, val := .agg #[.int .i64 0, .int .i64 (-1), .int .i64 (-1)], born := 1 }] 2 (.string ⟨#[57, 57, 57, 57, 45, 57, 57]⟩) _ trivial (by kernel_rfl)
theorem date_put3 (w : World) : (Instr.mapUpdate 120 (.map (some w.heap.size)) (.string ⟨#[57, 57, 57, 57, 57, 57, 57, 57]⟩) (.agg #[.int .i64 0, .int .i64 4, .int .i64 6])).run Tryz.prog (w.alloc (.map #[{ key := .string ⟨#[]⟩, val := .agg #[.int .i64 (-1), .int .i64 (-1), .int .i64 (-1)], born := 0 }, { key := .string ⟨#[57, 57, 57, 57]⟩, val := .agg #[.int .i64 0, .int .i64 (-1), .int .i64 (-1)], born := 1 }, { key := .string ⟨#[57, 57, 57, 57, 45, 57, 57]⟩, val := .agg #[.int .i64 0, .int .i64 5, .int .i64 (-1)], born := 2 }] 3)) = .ok () (w.alloc (.map #[{ key := .string ⟨#[]⟩, val := .agg #[.int .i64 (-1), .int .i64 (-1), .int .i64 (-1)], born := 0 }, { key := .string ⟨#[57, 57, 57, 57]⟩, val := .agg #[.int .i64 0, .int .i64 (-1), .int .i64 (-1)], born := 1 }, { key := .string ⟨#[57, 57, 57, 57, 45, 57, 57]⟩, val := .agg #[.int .i64 0, .int .i64 5, .int .i64 (-1)], born := 2 }, { key := .string ⟨#[57, 57, 57, 57, 57, 57, 57, 57]⟩, val := .agg #[.int .i64 0, .int .i64 4, .int .i64 6], born := 3 }] 4)) :=
  run_put w _ _ _ _ Tryz.underlying120 Tryz.underlying9 #[{ key := .string ⟨#[]⟩, val := .agg #[.int .i64 (-1), .int .i64 (-1), .int .i64 (-1)], born := 0 }, { key := .string ⟨#[57, 57, 57, 57]⟩, val := .agg #[.int .i64 0, .int .i64 (-1), .int .i64 (-1)], born := 1 }, { key := .string ⟨#[57, 57, 57, 57, 45, 57, 57]⟩, val := .agg #[.int .i64 0, .int .i64 5, .int .i64 (-1)], born := 2 }] 3 (.string ⟨#[57, 57, 57, 57, 57, 57, 57, 57]⟩) _ trivial (by kernel_rfl)
theorem date_put4 (w : World) : (Instr.mapUpdate 120 (.map (some w.heap.size)) (.string ⟨#[45, 45, 57, 57]⟩) (.agg #[.int .i64 (-1), .int .i64 2, .int .i64 (-1)])).run Tryz.prog (w.alloc (.map #[{ key := .string ⟨#[]⟩, val := .agg #[.int .i64 (-1), .int .i64 (-1), .int .i64 (-1)], born := 0 }, { key := .string ⟨#[57, 57, 57, 57]⟩, val := .agg #[.int .i64 0, .int .i64 (-1), .int .i64 (-1)], born := 1 }, { key := .string ⟨#[57, 57, 57, 57, 45, 57, 57]⟩, val := .agg #[.int .i64 0, .int .i64 5, .int .i64 (-1)], born := 2 }, { key := .string ⟨#[57, 57, 57, 57, 57, 57, 57, 57]⟩, val := .agg #[.int .i64 0, .int .i64 4, .int .i64 6], born := 3 }] 4)) = .ok () (w.alloc (.map #[{ key := .string ⟨#[]⟩, val := .agg #[.int .i64 (-1), .int .i64 (-1), .int .i64 (-1)], born := 0 }, { key := .string ⟨#[57, 57, 57, 57]⟩, val := .agg #[.int .i64 0, .int .i64 (-1), .int .i64 (-1)], born := 1 }, { key := .string ⟨#[57, 57, 57, 57, 45, 57, 57]⟩, val := .agg #[.int .i64 0, .int .i64 5, .int .i64 (-1)], born := 2 }, { key := .string ⟨#[57, 57, 57, 57, 57, 57, 57, 57]⟩, val := .agg #[.int .i64 0, .int .i64 4, .int .i64 6], born := 3 }, { key := .string ⟨#[45, 45, 57, 57]⟩, val := .agg #[.int .i64 (-1), .int .i64 2, .int .i64 (-1)], born := 4 }] 5)) :=
  run_put w _ _ _ _ Tryz.underlying120 Tryz.underlying9 #[{ key := .string ⟨#[]⟩, val := .agg #[.int .i64 (-1), .int .i64 (-1), .int .i64 (-1)], born := 0 }, { key := .string ⟨#[57, 57, 57, 57]⟩, val := .agg #[.int .i64 0, .int .i64 (-1), .int .i64 (-1)], born := 1 }, { key := .string ⟨#[57, 57, 57, 57, 45, 57, 57]⟩, val := .agg #[.int .i64 0, .int .i64 5, .int .i64 (-1)], born := 2 }, { key := .string ⟨#[57, 57, 57, 57, 57, 57, 57, 57]⟩, val := .agg #[.int .i64 0, .int .i64 4, .int .i64 6], born := 3 }] 4 (.string ⟨#[45, 45, 57, 57]⟩) _ trivial (by kernel_rfl)
theorem date_put5 (w : World) : (Instr.mapUpdate 120 (.map (some w.heap.size)) (.string ⟨#[45, 45, 57, 57, 57, 57]⟩) (.agg #[.int .i64 (-1), .int .i64 2, .int .i64 4])).run Tryz.prog (w.alloc (.map #[{ key := .string ⟨#[]⟩, val := .agg #[.int .i64 (-1), .int .i64 (-1), .int .i64 (-1)], born := 0 }, { key := .string ⟨#[57, 57, 57, 57]⟩, val := .agg #[.int .i64 0, .int .i64 (-1), .int .i64 (-1)], born := 1 }, { key := .string ⟨#[57, 57, 57, 57, 45, 57, 57]⟩, val := .agg #[.int .i64 0, .int .i64 5, .int .i64 (-1)], born := 2 }, { key := .string ⟨#[57, 57, 57, 57, 57, 57, 57, 57]⟩, val := .agg #[.int .i64 0, .int .i64 4, .int .i64 6], born := 3 }, { key := .string ⟨#[45, 45, 57, 57]⟩, val := .agg #[.int .i64 (-1), .int .i64 2, .int .i64 (-1)], born := 4 }] 5)) = .ok () (w.alloc (.map #[{ key := .string ⟨#[]⟩, val := .agg #[.int .i64 (-1), .int .i64 (-1), .int .i64 (-1)], born := 0 }, { key := .string ⟨#[57, 57, 57, 57]⟩, val := .agg #[.int .i64 0, .int .i64 (-1), .int .i64 (-1)], born := 1 }, { key := .string ⟨#[57, 57, 57, 57, 45, 57, 57]⟩, val := .agg #[.int .i64 0, .int .i64 5, .int .i64 (-1)], born := 2 }, { key := .string ⟨#[57, 57, 57, 57, 57, 57, 57, 57]⟩, val := .agg #[.int .i64 0, .int .i64 4, .int .i64 6], born := 3 }, { key := .string ⟨#[45, 45, 57, 57]⟩, val := .agg #[.int .i64 (-1), .int .i64 2, .int .i64 (-1)], born := 4 }, { key := .string ⟨#[45, 45, 57, 57, 57, 57]⟩, val := .agg #[.int .i64 (-1), .int .i64 2, .int .i64 4], born := 5 }] 6)) :=
  run_put w _ _ _ _ Tryz.underlying120 Tryz.underlying9 #[{ key := .string ⟨#[]⟩, val := .agg #[.int .i64 (-1), .int .i64 (-1), .int .i64 (-1)], born := 0 }, { key := .string ⟨#[57, 57, 57, 57]⟩, val := .agg #[.int .i64 0, .int .i64 (-1), .int .i64 (-1)], born := 1 }, { key := .string ⟨#[57, 57, 57, 57, 45, 57, 57]⟩, val := .agg #[.int .i64 0, .int .i64 5, .int .i64 (-1)], born := 2 }, { key := .string ⟨#[57, 57, 57, 57, 57, 57, 57, 57]⟩, val := .agg #[.int .i64 0, .int .i64 4, .int .i64 6], born := 3 }, { key := .string ⟨#[45, 45, 57, 57]⟩, val := .agg #[.int .i64 (-1), .int .i64 2, .int .i64 (-1)], born := 4 }] 5 (.string ⟨#[45, 45, 57, 57, 57, 57]⟩) _ trivial (by kernel_rfl)
theorem date_put6 (w : World) : (Instr.mapUpdate 120 (.map (some w.heap.size)) (.string ⟨#[45, 45, 45, 57, 57]⟩) (.agg #[.int .i64 (-1), .int .i64 (-1), .int .i64 3])).run Tryz.prog (w.alloc (.map #[{ key := .string ⟨#[]⟩, val := .agg #[.int .i64 (-1), .int .i64 (-1), .int .i64 (-1)], born := 0 }, { key := .string ⟨#[57, 57, 57, 57]⟩, val := .agg #[.int .i64 0, .int .i64 (-1), .int .i64 (-1)], born := 1 }, { key := .string ⟨#[57, 57, 57, 57, 45, 57, 57]⟩, val := .agg #[.int .i64 0, .int .i64 5, .int .i64 (-1)], born := 2 }, { key := .string ⟨#[57, 57, 57, 57, 57, 57, 57, 57]⟩, val := .agg #[.int .i64 0, .int .i64 4, .int .i64 6], born := 3 }, { key := .string ⟨#[45, 45, 57, 57]⟩, val := .agg #[.int .i64 (-1), .int .i64 2, .int .i64 (-1)], born := 4 }, { key := .string ⟨#[45, 45, 57, 57, 57, 57]⟩, val := .agg #[.int .i64 (-1), .int .i64 2, .int .i64 4], born := 5 }] 6)) = .ok () (w.alloc (.map #[{ key := .string ⟨#[]⟩, val := .agg #[.int .i64 (-1), .int .i64 (-1), .int .i64 (-1)], born := 0 }, { key := .string ⟨#[57, 57, 57, 57]⟩, val := .agg #[.int .i64 0, .int .i64 (-1), .int .i64 (-1)], born := 1 }, { key := .string ⟨#[57, 57, 57, 57, 45, 57, 57]⟩, val := .agg #[.int .i64 0, .int .i64 5, .int .i64 (-1)], born := 2 }, { key := .string ⟨#[57, 57, 57, 57, 57, 57, 57, 57]⟩, val := .agg #[.int .i64 0, .int .i64 4, .int .i64 6], born := 3 }, { key := .string ⟨#[45, 45, 57, 57]⟩, val := .agg #[.int .i64 (-1), .int .i64 2, .int .i64 (-1)], born := 4 }, { key := .string ⟨#[45, 45, 57, 57, 57, 57]⟩, val := .agg #[.int .i64 (-1), .int .i64 2, .int .i64 4], born := 5 }, { key := .string ⟨#[45, 45, 45, 57, 57]⟩, val := .agg #[.int .i64 (-1), .int .i64 (-1), .int .i64 3], born := 6 }] 7)) :=
  run_put w _ _ _ _ Tryz.underlying120 Tryz.underlying9 #[{ key := .string ⟨#[]⟩, val := .agg #[.int .i64 (-1), .int .i64 (-1), .int .i64 (-1)], born := 0 }, { key := .string ⟨#[57, 57, 57, 57]⟩, val := .agg #[.int .i64 0, .int .i64 (-1), .int .i64 (-1)], born := 1 }, { key := .string ⟨#[57, 57, 57, 57, 45, 57, 57]⟩, val := .agg #[.int .i64 0, .int .i64 5, .int .i64 (-1)], born := 2 }, { key := .string ⟨#[57, 57, 57, 57, 57, 57, 57, 57]⟩, val := .agg #[.int .i64 0, .int .i64 4, .int .i64 6], born := 3 }, { key := .string ⟨#[45, 45, 57, 57]⟩, val := .agg #[.int .i64 (-1), .int .i64 2, .int .i64 (-1)], born := 4 }, { key := .string ⟨#[45, 45, 57, 57, 57, 57]⟩, val := .agg #[.int .i64 (-1), .int .i64 2, .int .i64 4], born := 5 }] 6 (.string ⟨#[45, 45, 45, 57, 57]⟩) _ trivial (by kernel_rfl)
def dateMap : Array MapEntry := #[{ key := .string ⟨#[]⟩, val := .agg #[.int .i64 (-1), .int .i64 (-1), .int .i64 (-1)], born := 0 }, { key := .string ⟨#[57, 57, 57, 57]⟩, val := .agg #[.int .i64 0, .int .i64 (-1), .int .i64 (-1)], born := 1 }, { key := .string ⟨#[57, 57, 57, 57, 45, 57, 57]⟩, val := .agg #[.int .i64 0, .int .i64 5, .int .i64 (-1)], born := 2 }, { key := .string ⟨#[57, 57, 57, 57, 57, 57, 57, 57]⟩, val := .agg #[.int .i64 0, .int .i64 4, .int .i64 6], born := 3 }, { key := .string ⟨#[45, 45, 57, 57]⟩, val := .agg #[.int .i64 (-1), .int .i64 2, .int .i64 (-1)], born := 4 }, { key := .string ⟨#[45, 45, 57, 57, 57, 57]⟩, val := .agg #[.int .i64 (-1), .int .i64 2, .int .i64 4], born := 5 }, { key := .string ⟨#[45, 45, 45, 57, 57]⟩, val := .agg #[.int .i64 (-1), .int .i64 (-1), .int .i64 3], born := 6 }]
theorem clock_put0 (w : World) : (Instr.mapUpdate 120 (.map (some w.heap.size)) (.string ⟨#[57, 57]⟩) (.agg #[.int .i64 0, .int .i64 (-1), .int .i64 (-1)])).run Tryz.prog (w.alloc (.map #[] 0)) = .ok () (w.alloc (.map #[{ key := .string ⟨#[57, 57]⟩, val := .agg #[.int .i64 0, .int .i64 (-1), .int .i64 (-1)], born := 0 }] 1)) :=
  run_put w _ _ _ _ Tryz.underlying120 Tryz.underlying9 #[] 0 (.string ⟨#[57, 57]⟩) _ trivial (by kernel_rfl)
theorem clock_put1 (w : World) : (Instr.mapUpdate 120 (.map (some w.heap.size)) (.string ⟨#[57, 57, 57, 57]⟩) (.agg #[.int .i64 0, .int .i64 2, .int .i64 (-1)])).run Tryz.prog (w.alloc (.map #[{ key := .string ⟨#[57, 57]⟩, val := .agg #[.int .i64 0, .int .i64 (-1), .int .i64 (-1)], born := 0 }] 1)) = .ok () (w.alloc (.map #[{ key := .string ⟨#[57, 57]⟩, val := .agg #[.int .i64 0, .int .i64 (-1), .int .i64 (-1)], born := 0 }, { key := .string ⟨#[57, 57, 57, 57]⟩, val := .agg #[.int .i64 0, .int .i64 2, .int .i64 (-1)], born := 1 }] 2)) :=
  run_put w _ _ _ _ Tryz.underlying120 Tryz.underlying9 #[{ key := .string ⟨#[57, 57]⟩, val := .agg #[.int .i64 0, .int .i64 (-1), .int .i64 (-1)], born := 0 }] 1 (.string ⟨#[57, 57, 57, 57]⟩) _ trivial (by kernel_rfl)
theorem clock_put2 (w : World) : (Instr.mapUpdate 120 (.map (some w.heap.size)) (.string ⟨#[57, 57, 57, 57, 57, 57]⟩) (.agg #[.int .i64 0, .int .i64 2, .int .i64 4])).run Tryz.prog (w.alloc (.map #[{ key := .string ⟨#[57, 57]⟩, val := .agg #[.int .i64 0, .int .i64 (-1), .int .i64 (-1)], born := 0 }, { key := .string ⟨#[57, 57, 57, 57]⟩, val := .agg #[.int .i64 0, .int .i64 2, .int .i64 (-1)], born := 1 }] 2)) = .ok () (w.alloc (.map #[{ key := .string ⟨#[57, 57]⟩, val := .agg #[.int .i64 0, .int .i64 (-1), .int .i64 (-1)], born := 0 }, { key := .string ⟨#[57, 57, 57, 57]⟩, val := .agg #[.int .i64 0, .int .i64 2, .int .i64 (-1)], born := 1 }, { key := .string ⟨#[57, 57, 57, 57, 57, 57]⟩, val := .agg #[.int .i64 0, .int .i64 2, .int .i64 4], born := 2 }] 3)) :=
  run_put w _ _ _ _ Tryz.underlying120 Tryz.underlying9 #[{ key := .string ⟨#[57, 57]⟩, val := .agg #[.int .i64 0, .int .i64 (-1), .int .i64 (-1)], born := 0 }, { key := .string ⟨#[57, 57, 57, 57]⟩, val := .agg #[.int .i64 0, .int .i64 2, .int .i64 (-1)], born := 1 }] 2 (.string ⟨#[57, 57, 57, 57, 57, 57]⟩) _ trivial (by kernel_rfl)
theorem clock_put3 (w : World) : (Instr.mapUpdate 120 (.map (some w.heap.size)) (.string ⟨#[45, 57, 57]⟩) (.agg #[.int .i64 (-1), .int .i64 1, .int .i64 (-1)])).run Tryz.prog (w.alloc (.map #[{ key := .string ⟨#[57, 57]⟩, val := .agg #[.int .i64 0, .int .i64 (-1), .int .i64 (-1)], born := 0 }, { key := .string ⟨#[57, 57, 57, 57]⟩, val := .agg #[.int .i64 0, .int .i64 2, .int .i64 (-1)], born := 1 }, { key := .string ⟨#[57, 57, 57, 57, 57, 57]⟩, val := .agg #[.int .i64 0, .int .i64 2, .int .i64 4], born := 2 }] 3)) = .ok () (w.alloc (.map #[{ key := .string ⟨#[57, 57]⟩, val := .agg #[.int .i64 0, .int .i64 (-1), .int .i64 (-1)], born := 0 }, { key := .string ⟨#[57, 57, 57, 57]⟩, val := .agg #[.int .i64 0, .int .i64 2, .int .i64 (-1)], born := 1 }, { key := .string ⟨#[57, 57, 57, 57, 57, 57]⟩, val := .agg #[.int .i64 0, .int .i64 2, .int .i64 4], born := 2 }, { key := .string ⟨#[45, 57, 57]⟩, val := .agg #[.int .i64 (-1), .int .i64 1, .int .i64 (-1)], born := 3 }] 4)) :=
  run_put w _ _ _ _ Tryz.underlying120 Tryz.underlying9 #[{ key := .string ⟨#[57, 57]⟩, val := .agg #[.int .i64 0, .int .i64 (-1), .int .i64 (-1)], born := 0 }, { key := .string ⟨#[57, 57, 57, 57]⟩, val := .agg #[.int .i64 0, .int .i64 2, .int .i64 (-1)], born := 1 }, { key := .string ⟨#[57, 57, 57, 57, 57, 57]⟩, val := .agg #[.int .i64 0, .int .i64 2, .int .i64 4], born := 2 }] 3 (.string ⟨#[45, 57, 57]⟩) _ trivial (by kernel_rfl)
theorem clock_put4 (w : World) : (Instr.mapUpdate 120 (.map (some w.heap.size)) (.string ⟨#[45, 57, 57, 57, 57]⟩) (.agg #[.int .i64 (-1), .int .i64 1, .int .i64 3])).run Tryz.prog (w.alloc (.map #[{ key := .string ⟨#[57, 57]⟩, val := .agg #[.int .i64 0, .int .i64 (-1), .int .i64 (-1)], born := 0 }, { key := .string ⟨#[57, 57, 57, 57]⟩, val := .agg #[.int .i64 0, .int .i64 2, .int .i64 (-1)], born := 1 }, { key := .string ⟨#[57, 57, 57, 57, 57, 57]⟩, val := .agg #[.int .i64 0, .int .i64 2, .int .i64 4], born := 2 }, { key := .string ⟨#[45, 57, 57]⟩, val := .agg #[.int .i64 (-1), .int .i64 1, .int .i64 (-1)], born := 3 }] 4)) = .ok () (w.alloc (.map #[{ key := .string ⟨#[57, 57]⟩, val := .agg #[.int .i64 0, .int .i64 (-1), .int .i64 (-1)], born := 0 }, { key := .string ⟨#[57, 57, 57, 57]⟩, val := .agg #[.int .i64 0, .int .i64 2, .int .i64 (-1)], born := 1 }, { key := .string ⟨#[57, 57, 57, 57, 57, 57]⟩, val := .agg #[.int .i64 0, .int .i64 2, .int .i64 4], born := 2 }, { key := .string ⟨#[45, 57, 57]⟩, val := .agg #[.int .i64 (-1), .int .i64 1, .int .i64 (-1)], born := 3 }, { key := .string ⟨#[45, 57, 57, 57, 57]⟩, val := .agg #[.int .i64 (-1), .int .i64 1, .int .i64 3], born := 4 }] 5)) :=
  run_put w _ _ _ _ Tryz.underlying120 Tryz.underlying9 #[{ key := .string ⟨#[57, 57]⟩, val := .agg #[.int .i64 0, .int .i64 (-1), .int .i64 (-1)], born := 0 }, { key := .string ⟨#[57, 57, 57, 57]⟩, val := .agg #[.int .i64 0, .int .i64 2, .int .i64 (-1)], born := 1 }, { key := .string ⟨#[57, 57, 57, 57, 57, 57]⟩, val := .agg #[.int .i64 0, .int .i64 2, .int .i64 4], born := 2 }, { key := .string ⟨#[45, 57, 57]⟩, val := .agg #[.int .i64 (-1), .int .i64 1, .int .i64 (-1)], born := 3 }] 4 (.string ⟨#[45, 57, 57, 57, 57]⟩) _ trivial (by kernel_rfl)
theorem clock_put5 (w : World) : (Instr.mapUpdate 120 (.map (some w.heap.size)) (.string ⟨#[45, 45, 57, 57]⟩) (.agg #[.int .i64 (-1), .int .i64 (-1), .int .i64 2])).run Tryz.prog (w.alloc (.map #[{ key := .string ⟨#[57, 57]⟩, val := .agg #[.int .i64 0, .int .i64 (-1), .int .i64 (-1)], born := 0 }, { key := .string ⟨#[57, 57, 57, 57]⟩, val := .agg #[.int .i64 0, .int .i64 2, .int .i64 (-1)], born := 1 }, { key := .string ⟨#[57, 57, 57, 57, 57, 57]⟩, val := .agg #[.int .i64 0, .int .i64 2, .int .i64 4], born := 2 }, { key := .string ⟨#[45, 57, 57]⟩, val := .agg #[.int .i64 (-1), .int .i64 1, .int .i64 (-1)], born := 3 }, { key := .string ⟨#[45, 57, 57, 57, 57]⟩, val := .agg #[.int .i64 (-1), .int .i64 1, .int .i64 3], born := 4 }] 5)) = .ok () (w.alloc (.map #[{ key := .string ⟨#[57, 57]⟩, val := .agg #[.int .i64 0, .int .i64 (-1), .int .i64 (-1)], born := 0 }, { key := .string ⟨#[57, 57, 57, 57]⟩, val := .agg #[.int .i64 0, .int .i64 2, .int .i64 (-1)], born := 1 }, { key := .string ⟨#[57, 57, 57, 57, 57, 57]⟩, val := .agg #[.int .i64 0, .int .i64 2, .int .i64 4], born := 2 }, { key := .string ⟨#[45, 57, 57]⟩, val := .agg #[.int .i64 (-1), .int .i64 1, .int .i64 (-1)], born := 3 }, { key := .string ⟨#[45, 57, 57, 57, 57]⟩, val := .agg #[.int .i64 (-1), .int .i64 1, .int .i64 3], born := 4 }, { key := .string ⟨#[45, 45, 57, 57]⟩, val := .agg #[.int .i64 (-1), .int .i64 (-1), .int .i64 2], born := 5 }] 6)) :=
  run_put w _ _ _ _ Tryz.underlying120 Tryz.underlying9 #[{ key := .string ⟨#[57, 57]⟩, val := .agg #[.int .i64 0, .int .i64 (-1), .int .i64 (-1)], born := 0 }, { key := .string ⟨#[57, 57, 57, 57]⟩, val := .agg #[.int .i64 0, .int .i64 2, .int .i64 (-1)], born := 1 }, { key := .string ⟨#[57, 57, 57, 57, 57, 57]⟩, val := .agg #[.int .i64 0, .int .i64 2, .int .i64 4], born := 2 }, { key := .string ⟨#[45, 57, 57]⟩, val := .agg #[.int .i64 (-1), .int .i64 1, .int .i64 (-1)], born := 3 }, { key := .string ⟨#[45, 57, 57, 57, 57]⟩, val := .agg #[.int .i64 (-1), .int .i64 1, .int .i64 3], born := 4 }] 5 (.string ⟨#[45, 45, 57, 57]⟩) _ trivial (by kernel_rfl)
def clockMap : Array MapEntry := #[{ key := .string ⟨#[57, 57]⟩, val := .agg #[.int .i64 0, .int .i64 (-1), .int .i64 (-1)], born := 0 }, { key := .string ⟨#[57, 57, 57, 57]⟩, val := .agg #[.int .i64 0, .int .i64 2, .int .i64 (-1)], born := 1 }, { key := .string ⟨#[57, 57, 57, 57, 57, 57]⟩, val := .agg #[.int .i64 0, .int .i64 2, .int .i64 4], born := 2 }, { key := .string ⟨#[45, 57, 57]⟩, val := .agg #[.int .i64 (-1), .int .i64 1, .int .i64 (-1)], born := 3 }, { key := .string ⟨#[45, 57, 57, 57, 57]⟩, val := .agg #[.int .i64 (-1), .int .i64 1, .int .i64 3], born := 4 }, { key := .string ⟨#[45, 45, 57, 57]⟩, val := .agg #[.int .i64 (-1), .int .i64 (-1), .int .i64 2], born := 5 }]


end Go.Proofs.YtedlgpccmlcijaaGreatDoor

