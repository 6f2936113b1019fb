/-
  CONTRACTS of strings.Builder, of one that the call itself has made: WriteByte, WriteString, String.
-/
import Derived.Test.YtlejbindochiiaaDoorBase
import Derived.Lib.Strings
import Derived.Lib.Slices
import Derived.Lib.Walk
import Derived.Lib.Builder
import Derived.Lib.AppendStr
import Derived.Lib.UnsafeStr
import Derived.Lib.MakeNoZero
namespace Go.Proofs.YtlejbindochiiaaDoor
open Go.RowKit
set_option linter.unusedVariables false
set_option linter.unusedSimpArgs false

theorem sizeBuilder : (Tryd.prog.info? 46).map (·.size) = some 2 := by kernel_rfl
theorem liesBuilder : liesAt Tryd.prog Tryd.prog.depth 46 (2 / Tryd.prog.cellsOf 46) 0 46 1 = true := by kernel_rfl
theorem infoByte : (Tryd.prog.info? 5).map (fun i => (i.zero, i.size, i.bytes)) = some (some (.int .u8 0), 1, 1) := by kernel_rfl
theorem cellsByte : Tryd.prog.cellsOf 5 = 1 := by kernel_rfl

set_option maxRecDepth 100000 in
set_option maxHeartbeats 1000000 in
theorem copyCheck_used (b : Nat) (w : World) (h0 : w.cell? ⟨b, 0, none⟩ = some (.pointer (some ⟨b, 0, none⟩))) :
    Calls Tryd.prog 41 #[.pointer (some ⟨b, 0, none⟩)] w fun e w' => e = .returned (.tuple #[]) ∧ w' = w := by
  obtain ⟨j, hj, _⟩ := Option.map_eq_some_iff.1 sizeBuilder
  go_enter Tryd.func41, Tryd.ntmps41
  go_wp2
  rw [Lib.run_neq_ptr_same w _ Tryd.underlying43 hj]
  go_wp2
  go_end0
  exact ⟨rfl, rfl⟩
set_option maxRecDepth 100000 in
set_option maxHeartbeats 1000000 in
theorem copyCheck_fresh (b : Nat) (w : World) (h0 : w.cell? ⟨b, 0, none⟩ = some (.pointer none)) (hsh : w.shape? b = some (46, 2)) (hfz : w.frozen? ⟨b, 0, none⟩ = false) :
    Calls Tryd.prog 41 #[.pointer (some ⟨b, 0, none⟩)] w fun e w' => e = .returned (.tuple #[]) ∧ w' = w.setCell ⟨b, 0, none⟩ (.pointer (some ⟨b, 0, none⟩)) := by
  obtain ⟨j, hj, hjs⟩ := Option.map_eq_some_iff.1 sizeBuilder
  go_enter Tryd.func41, Tryd.ntmps41
  go_wp2
  rw [Lib.run_to_unsafe w ⟨b, 0, none⟩ Tryd.underlying43 Tryd.underlying75 hj (by rw [hjs]; decide) hsh (Nat.zero_lt_succ 1)]
  simp only [Result.andThen]
  rw [Oper.upon_value]
  go_wp2
  rw [run_callFunc_extern Tryd.func49 (by kernel_rfl) (by kernel_rfl) (by kernel_rfl) (e := Extern.AbiNoEscape.same) (by kernel_rfl)]
  rw [Lib.run_noEscape]
  simp only [Result.andThen]
  rw [Oper.upon_value]
  go_wp2
  rw [Lib.run_from_unsafe w ⟨b, 0, none⟩ Tryd.underlying75 Tryd.underlying43 hj hsh liesBuilder]
  simp only [Result.andThen]
  rw [Oper.upon_value]
  go_wp2
  go_end0
  exact ⟨rfl, rfl⟩

/-- block b holds a Builder with the bytes l, the call's own (w0: the world in which the call began) -/
def IsB (w0 w : World) (b : Nat) (l : List UInt8) : Prop := Lib.IsBuilder 46 5 w0.heap.size b (Lib.byteCells l) w
/-- the row in which the Builder's bytes lie, if there is one -/
def bufOf (w : World) (b : Nat) : Option Nat := match w.heap[b]? with | some (.cells cs _ _) => (cs.getD 1 undef).ownBlock | _ => none
/-- of the blocks that there were, b and its row alone may have changed -/
def KeptB (w w' : World) (b : Nat) : Prop := ∀ k, k < w.heap.size → k ≠ b → bufOf w b ≠ some k → w'.heap[k]? = w.heap[k]?
theorem bufOf_at {w : World} {b : Nat} {p v : Value} {T : TypeId} (h : w.heap[b]? = some (.cells #[p, v] T (0, 0))) : bufOf w b = v.ownBlock := by
  unfold bufOf; rw [h]; rfl

theorem copyCheck_any (B b : Nat) (bs : List Value) (w : World) (h : Lib.IsBuilder 46 5 B b bs w) :
    Calls Tryd.prog 41 #[.pointer (some ⟨b, 0, none⟩)] w fun e w' => e = .returned (.tuple #[]) ∧ (Lib.BuilderAt 46 5 B b (.pointer (some ⟨b, 0, none⟩)) bs w' ∧ Below B w w' ∧ w.heap.size = w'.heap.size ∧ bufOf w' b = bufOf w b ∧ ∀ k, k ≠ b → w'.heap[k]? = w.heap[k]?) := by
  rcases h with h | h
  · refine (copyCheck_fresh b w h.cell0 h.shape h.frozen0).mono ?_
    rintro e w' ⟨rfl, rfl⟩
    refine ⟨rfl, h.used _, (Below.refl B w).setCell (p := ⟨b, 0, none⟩) h.1 _, by simp, ?_, fun k hk => Below.heap_setCell _ _ _ _ hk⟩
    obtain ⟨_, v, hb, _⟩ := h
    rw [bufOf_at hb]
    have : (w.setCell ⟨b, 0, none⟩ (.pointer (some ⟨b, 0, none⟩))).heap[b]? = some (.cells #[.pointer (some ⟨b, 0, none⟩), v] 46 (0, 0)) := by
      simp [World.setCell, Array.getElem?_modify, hb]
    rw [bufOf_at this]
  · refine (copyCheck_used b w h.cell0).mono ?_
    rintro e w' ⟨rfl, rfl⟩
    exact ⟨rfl, h, Below.refl B _, rfl, rfl, fun _ _ => rfl⟩

set_option maxRecDepth 100000 in
set_option maxHeartbeats 2000000 in
theorem writeByte_any {w0 w : World} {b : Nat} {l : List UInt8} (h : IsB w0 w b l) (g : G w0 w) (c : Int) (hc0 : 0 ≤ c) (hc1 : c < 256) (hlen : l.length + 1 ≤ 140737488355328) :
    Calls Tryd.prog 42 #[.pointer (some ⟨b, 0, none⟩), .int .u8 c] w fun e w' => e = .returned .nilIface ∧ IsB w0 w' b (l ++ [byteOf c]) ∧ G w0 w' ∧ KeptB w w' b := by
  obtain ⟨i0, hi, hz0, hz1, hz2⟩ := info_parts infoByte
  have hbl : (Lib.byteCells l).length = l.length := Lib.byteCells_length l
  have hBw := g.size
  have H := hid h
  have HG := hid g
  clear h g
  go_enter Tryd.func42, Tryd.ntmps42
  go_wp2_with fail
  refine (copyCheck_any w0.heap.size b _ _ H.out).mono ?_
  rintro e w1 ⟨rfl, h1, hb1, hsz, hbf, hk1⟩
  obtain ⟨hB, v, hbk, hown, hne⟩ := h1
  have HK1 := hid hk1
  have HBF := hid hbf
  have HSZ := hid hsz
  have hszl : w.heap.size ≤ w1.heap.size := by omega
  clear hk1 hbf hsz
  have c0 : w1.cell? ⟨b, 0, none⟩ = some (.pointer (some ⟨b, 0, none⟩)) := by rw [Lib.cell_of_heap hbk]; rfl
  have c1 : w1.cell? ⟨b, 1, none⟩ = some v := by rw [Lib.cell_of_heap hbk]; rfl
  have HBK := hid hbk
  have HB1 := hid hb1
  clear hbk hb1
  go_wp2_with (at_builtin; refine wpList_append_own _ rfl _ _ 44 rfl w0.heap.size 5 i0 (.int .u8 0) 1 1 Tryd.underlying44 hi hz0 hz1 hz2 rfl (by decide) _ _ _ rfl (hown.alloc _) ⟨w1.heap.size, 0, none⟩ 1 1 [.int .u8 c] rfl rfl ?c1 ?c2 ?c3 ?c4 ?c5 ?_)
  case c1 =>
    intro j u hj
    match j, hj with
    | 0, hj => simp at hj; subst hj; simp [Addr.add]
  case c2 => intro u hu; simp at hu; subst hu; rfl
  case c3 => unfold maxLen; omega
  case c4 => omega
  case c5 => simp; omega
  intro v' w2 hown' hgrow _
  have hbk := HBK.out
  have hlt : b < w1.heap.size := by
    rcases Nat.lt_or_ge b w1.heap.size with h' | h'
    · exact h'
    · rw [Array.getElem?_eq_none h'] at hbk; cases hbk
  have hb2 : w2.heap[b]? = some (.cells #[.pointer (some ⟨b, 0, none⟩), v] 46 (0, 0)) := by
    rw [hgrow.block b (by simp; omega) (fun e => hne e.symm), Lib.alloc_old w1 _ b hlt]
    exact hbk
  have d0 : w2.cell? ⟨b, 0, none⟩ = some (.pointer (some ⟨b, 0, none⟩)) := by rw [Lib.cell_of_heap hb2]; rfl
  have d1 : w2.cell? ⟨b, 1, none⟩ = some v := by rw [Lib.cell_of_heap hb2]; rfl
  have f1 : w2.frozen? ⟨b, 1, none⟩ = false := Lib.frozen_of_heap hb2 1
  obtain ⟨q, cap, rfl⟩ : ∃ q cap, v' = .slice (some ⟨q, 0, none⟩) (l.length + 1) cap := by
    rcases hown'.2 with ⟨_, h0⟩ | ⟨q, cap, cur, hv, _⟩
    · omega
    · exact ⟨q, cap, hv⟩
  have HB2 := hid hb2
  have HGR := hid hgrow
  clear hbk hb2 hgrow
  go_wp2
  go_ret
  have hgg : G w0 (w2.setCell ⟨b, 1, none⟩ (.slice (some ⟨q, 0, none⟩) (l.length + 1) cap)) := by
    have x1 : Below w0.heap.size w0 w1 := HG.out.below.trans HB1.out
    exact ((x1.alloc (by omega) _).grown HGR.out (by simp; omega) (fun k hk => (hown.lt k hk).1)).setCell (p := ⟨b, 1, none⟩) hB _
  refine ⟨rfl, Or.inr ?_, hgg, ?_⟩
  · have e : Lib.byteCells (l ++ [byteOf c]) = Lib.byteCells l ++ [.int .u8 c] := by
      simp [Lib.byteCells]; exact (byteOf_toNat hc0 hc1)
    rw [e]
    exact Lib.BuilderAt.put (T := 46) (e := 5) hB HB2.out (bs' := Lib.byteCells l ++ [.int .u8 c]) (by simpa [Lib.byteCells_length] using hown') (by decide)
  · intro k hk hkb hkv
    rw [Below.heap_setCell _ _ _ _ hkb]
    rw [← HBF.out, bufOf_at HBK.out] at hkv
    rw [HGR.out.block k (by simp; omega) (fun e => hkv e.symm), Lib.alloc_old w1 _ k (by omega)]
    exact HK1.out k hkb

set_option maxRecDepth 100000 in
set_option maxHeartbeats 2000000 in
theorem writeString_any {w0 w : World} {b : Nat} {l : List UInt8} (h : IsB w0 w b l) (g : G w0 w) (s : List UInt8) (hlen : l.length + s.length ≤ 140737488355328) :
    Calls Tryd.prog 27 #[.pointer (some ⟨b, 0, none⟩), .string (S s)] w fun e w' => e = .returned (.tuple #[.int .i64 s.length, .nilIface]) ∧ IsB w0 w' b (l ++ s) ∧ G w0 w' ∧ KeptB w w' b := by
  obtain ⟨i0, hi, hz0, hz1, hz2⟩ := info_parts infoByte
  have hbl : (Lib.byteCells l).length = l.length := Lib.byteCells_length l
  have hBw := g.size
  have H := hid h
  have HG := hid g
  clear h g
  go_enter Tryd.func27, Tryd.ntmps27
  go_wp2_with fail
  refine (copyCheck_any w0.heap.size b _ _ H.out).mono ?_
  rintro e w1 ⟨rfl, h1, hb1, hsz, hbf, hk1⟩
  obtain ⟨hB, v, hbk, hown, hne⟩ := h1
  have HK1 := hid hk1
  have HBF := hid hbf
  have hszl : w.heap.size ≤ w1.heap.size := by omega
  clear hk1 hbf hsz
  have c0 : w1.cell? ⟨b, 0, none⟩ = some (.pointer (some ⟨b, 0, none⟩)) := by rw [Lib.cell_of_heap hbk]; rfl
  have c1 : w1.cell? ⟨b, 1, none⟩ = some v := by rw [Lib.cell_of_heap hbk]; rfl
  have HBK := hid hbk
  have HB1 := hid hb1
  clear hbk hb1
  go_wp2_with (at_builtin; refine Lib.wpList_append_own_string _ rfl _ _ 44 9 rfl w0.heap.size 5 i0 Tryd.underlying44 Tryd.underlying9 hi hz0 hz1 hz2 _ _ _ rfl hown (S s) rfl ?c3 ?c4 ?c5 ?_)
  case c3 => simp; unfold maxLen; omega
  case c4 => simp; omega
  case c5 => omega
  intro v' w2 hown' hgrow _
  have hbk := HBK.out
  have hlt : b < w1.heap.size := by
    rcases Nat.lt_or_ge b w1.heap.size with h' | h'
    · exact h'
    · rw [Array.getElem?_eq_none h'] at hbk; cases hbk
  have hb2 : w2.heap[b]? = some (.cells #[.pointer (some ⟨b, 0, none⟩), v] 46 (0, 0)) := by
    rw [hgrow.block b hlt (fun e => hne e.symm)]
    exact hbk
  have d0 : w2.cell? ⟨b, 0, none⟩ = some (.pointer (some ⟨b, 0, none⟩)) := by rw [Lib.cell_of_heap hb2]; rfl
  have d1 : w2.cell? ⟨b, 1, none⟩ = some v := by rw [Lib.cell_of_heap hb2]; rfl
  have f1 : w2.frozen? ⟨b, 1, none⟩ = false := Lib.frozen_of_heap hb2 1
  obtain ⟨ao, n', cap, rfl⟩ : ∃ ao n' cap, v' = .slice ao n' cap := by
    rcases hown'.2 with ⟨hv, _⟩ | ⟨q, cap, cur, hv, _⟩
    · exact ⟨_, _, _, hv⟩
    · exact ⟨_, _, _, hv⟩
  have HB2 := hid hb2
  have HGR := hid hgrow
  clear hbk hb2 hgrow
  go_wp2
  go_ret2
  have hgg : G w0 (w2.setCell ⟨b, 1, none⟩ (.slice ao n' cap)) := by
    have x1 : Below w0.heap.size w0 w1 := HG.out.below.trans HB1.out
    exact (x1.grown HGR.out (by omega) (fun k hk => (hown.lt k hk).1)).setCell (p := ⟨b, 1, none⟩) hB _
  refine ⟨rfl, Or.inr ?_, hgg, ?_⟩
  · have e : Lib.byteCells (l ++ s) = Lib.byteCells l ++ Lib.strCells (S s) := by
      simp [Lib.byteCells, Lib.strCells]
    rw [e]
    exact Lib.BuilderAt.put (T := 46) (e := 5) hB HB2.out (bs' := Lib.byteCells l ++ Lib.strCells (S s)) (by simpa [Lib.byteCells_length, Lib.strCells_length] using hown') (by decide)
  · intro k hk hkb hkv
    rw [Below.heap_setCell _ _ _ _ hkb]
    rw [← HBF.out, bufOf_at HBK.out] at hkv
    rw [HGR.out.block k (by omega) (fun e => hkv e.symm)]
    exact HK1.out k hkb

/-- of the blocks that there were, the Builder's row alone may have changed -/
def KeptS (w w' : World) (b : Nat) : Prop := w.heap.size ≤ w'.heap.size ∧ ∀ k, k < w.heap.size → bufOf w b ≠ some k → w'.heap[k]? = w.heap[k]?
theorem size_freeze (w : World) (p : Addr) (n : Nat) : (w.freeze p n).heap.size = w.heap.size := by
  unfold World.freeze
  split
  · rfl
  · simp
theorem heap_freeze (w : World) (p : Addr) (n k : Nat) (h : k ≠ p.block) : (w.freeze p n).heap[k]? = w.heap[k]? := by
  unfold World.freeze
  split
  · rfl
  · simp only [Array.getElem?_modify]
    rw [if_neg (by omega)]

set_option maxRecDepth 100000 in
set_option maxHeartbeats 2000000 in
theorem string_nil {w0 w : World} {b : Nat} {p : Value} (g : G w0 w) (hbk : w.heap[b]? = some (.cells #[p, .slice none 0 0] 46 (0, 0))) :
    Calls Tryd.prog 17 #[.pointer (some ⟨b, 0, none⟩)] w fun e w' => e = .returned (.string (S [])) ∧ G w0 w' ∧ KeptS w w' b := by
  have hUS := fun q => Lib.run_unsafeString_none (P := Tryd.prog) w.drew 69 3 9 q
  have c1 : w.drew.cell? ⟨b, 1, none⟩ = some (.slice none 0 0) := by
    have : w.drew.heap[b]? = some (.cells #[p, .slice none 0 0] 46 (0, 0)) := hbk
    rw [Lib.cell_of_heap this]; rfl
  have hSD : (Builtin.unsafeSliceData_ #[44] 69 #[.slice none 0 0]).run Tryd.prog w.drew = .ok (.pointer none) w.drew := rfl
  have HG := hid g
  clear hbk g
  go_enter Tryd.func17, Tryd.ntmps17
  go_wp2
  go_region
  all_goals (go_wp2; go_ret; exact ⟨rfl, HG.out.drew, Nat.le_refl _, fun k _ _ => rfl⟩)
set_option maxRecDepth 100000 in
set_option maxHeartbeats 2000000 in
theorem string_noroom {w0 w : World} {b q : Nat} {p : Value} {cur : Array Value} (g : G w0 w) (hbk : w.heap[b]? = some (.cells #[p, .slice (some ⟨q, 0, none⟩) 0 0] 46 (0, 0))) (hq : w.heap[q]? = some (.cells cur 5 (0, 0))) :
    Calls Tryd.prog 17 #[.pointer (some ⟨b, 0, none⟩)] w fun e w' => e = .returned (.string (S [])) ∧ G w0 w' ∧ KeptS w w' b := by
  have hUS := fun W q => Lib.run_unsafeString_none (P := Tryd.prog) W 69 3 9 q
  have hlt : b < w.heap.size := by
    rcases Nat.lt_or_ge b w.heap.size with h' | h'
    · exact h'
    · rw [Array.getElem?_eq_none h'] at hbk; cases hbk
  have c1 : w.drew.cell? ⟨b, 1, none⟩ = some (.slice (some ⟨q, 0, none⟩) 0 0) := by
    have : w.drew.heap[b]? = some (.cells #[p, .slice (some ⟨q, 0, none⟩) 0 0] 46 (0, 0)) := hbk
    rw [Lib.cell_of_heap this]; rfl
  have hSD : (Builtin.unsafeSliceData_ #[44] 69 #[.slice (some ⟨q, 0, none⟩) 0 0]).run Tryd.prog w.drew = .ok (.pointer (some ⟨w.drew.heap.size, 0, none⟩)) (w.drew.alloc (.view ⟨q, 0, none⟩ 5)) :=
    Lib.run_unsafeSliceData_zero w.drew _ _ 5 Tryd.underlying69 ⟨q, 0, none⟩ 0 (5, cur.size) (by have hg' : w.drew.heap[q]? = some (.cells cur 5 (0, 0)) := hq; simp [World.shape?, hg'])
  have c2 : (w.drew.alloc (.view ⟨q, 0, none⟩ 5)).cell? ⟨b, 1, none⟩ = some (.slice (some ⟨q, 0, none⟩) 0 0) := by
    have : (w.drew.alloc (.view ⟨q, 0, none⟩ 5)).heap[b]? = _ := (Lib.alloc_old w.drew _ b hlt).trans hbk
    rw [Lib.cell_of_heap this]; rfl
  have c3 : (w.alloc (.view ⟨q, 0, none⟩ 5)).drew.cell? ⟨b, 1, none⟩ = some (.slice (some ⟨q, 0, none⟩) 0 0) := c2
  have c0 : w.cell? ⟨b, 1, none⟩ = some (.slice (some ⟨q, 0, none⟩) 0 0) := c1
  have HG := hid g
  have HK : Hid (KeptS w (w.alloc (.view ⟨q, 0, none⟩ 5)).drew b) := hid ⟨by show _ ≤ (w.alloc (.view ⟨q, 0, none⟩ 5)).heap.size; simp, fun k hk _ => Lib.alloc_old w _ k hk⟩
  clear hbk hq g
  go_enter Tryd.func17, Tryd.ntmps17
  go_wp2
  go_region
  all_goals (go_wp2; go_ret; exact ⟨rfl, (HG.out.alloc _).drew, HK.out⟩)
set_option maxRecDepth 100000 in
set_option maxHeartbeats 2000000 in
theorem string_room {w0 w : World} {b q cap : Nat} {p : Value} (g : G w0 w) (hc0 : cap ≠ 0) (hbk : w.heap[b]? = some (.cells #[p, .slice (some ⟨q, 0, none⟩) 0 cap] 46 (0, 0))) :
    Calls Tryd.prog 17 #[.pointer (some ⟨b, 0, none⟩)] w fun e w' => e = .returned (.string (S [])) ∧ G w0 w' ∧ KeptS w w' b := by
  have hUS := fun q => Lib.run_unsafeString_none (P := Tryd.prog) w.drew 69 3 9 q
  have c1 : w.drew.cell? ⟨b, 1, none⟩ = some (.slice (some ⟨q, 0, none⟩) 0 cap) := by
    have : w.drew.heap[b]? = some (.cells #[p, .slice (some ⟨q, 0, none⟩) 0 cap] 46 (0, 0)) := hbk
    rw [Lib.cell_of_heap this]; rfl
  have hSD : (Builtin.unsafeSliceData_ #[44] 69 #[.slice (some ⟨q, 0, none⟩) 0 cap]).run Tryd.prog w.drew = .ok (.pointer (some ⟨q, 0, none⟩)) w.drew :=
    Lib.run_unsafeSliceData_row _ _ _ _ _ _ hc0
  have HG := hid g
  clear hc0 hbk g
  go_enter Tryd.func17, Tryd.ntmps17
  go_wp2
  go_region
  all_goals (go_wp2; go_ret; exact ⟨rfl, HG.out.drew, Nat.le_refl _, fun k _ _ => rfl⟩)
set_option maxRecDepth 100000 in
set_option maxHeartbeats 2000000 in
theorem string_some {w0 w : World} {b q cap : Nat} {cur : Array Value} {p : Value} {l : List UInt8} (g : G w0 w) (h0 : l ≠ []) (hbk : w.heap[b]? = some (.cells #[p, .slice (some ⟨q, 0, none⟩) l.length cap] 46 (0, 0)))
    (hown : w.ownsRow w0.heap.size 5 1 (.slice (some ⟨q, 0, none⟩) l.length cap) l.length (Lib.byteCells l)) (hbq : w0.heap.size ≤ q) (hq : w.heap[q]? = some (.cells cur 5 (0, 0))) (hnc : l.length ≤ cap) (hcm : cap ≤ maxLen) (hcs : cur.size = cap * 1) :
    Calls Tryd.prog 17 #[.pointer (some ⟨b, 0, none⟩)] w fun e w' => e = .returned (.string (S l)) ∧ G w0 w' ∧ KeptS w w' b := by
  have hl0 : l.length ≠ 0 := by simpa using h0
  have c1 : w.drew.cell? ⟨b, 1, none⟩ = some (.slice (some ⟨q, 0, none⟩) l.length cap) := by
    have : w.drew.heap[b]? = some (.cells #[p, .slice (some ⟨q, 0, none⟩) l.length cap] 46 (0, 0)) := hbk
    rw [Lib.cell_of_heap this]; rfl
  have hSD : (Builtin.unsafeSliceData_ #[44] 69 #[.slice (some ⟨q, 0, none⟩) l.length cap]).run Tryd.prog w.drew = .ok (.pointer (some ⟨q, 0, none⟩)) w.drew :=
    Lib.run_unsafeSliceData_row _ _ _ _ _ _ (by omega)
  have hUS : (Builtin.unsafeString_ #[69, 3] 9 #[.pointer (some ⟨q, 0, none⟩), .int .i64 l.length]).run Tryd.prog w.drew = .ok (.string (S l)) (w.drew.freeze ⟨q, 0, none⟩ l.length) := by
    refine Lib.run_unsafeString_row (P := Tryd.prog) w.drew 69 3 9 5 Tryd.underlying69 cellsByte q cur.size (by have hg' : w.drew.heap[q]? = some (.cells cur 5 (0, 0)) := hq; simp [World.shape?, hg']) l h0 (by omega) (by unfold maxLen at hcm; omega) ?_
    intro j x hx
    exact hown.cells (g := q) rfl j (.int .u8 x.toNat) (by simp [Lib.byteCells, hx])
  have HG := hid g
  have HK : Hid (KeptS w (w.drew.freeze ⟨q, 0, none⟩ l.length) b) := hid ⟨by rw [size_freeze]; exact Nat.le_refl _, fun k hk hb => by
    rw [bufOf_at hbk] at hb
    exact heap_freeze w.drew ⟨q, 0, none⟩ l.length k (fun e => hb (by rw [e]; rfl))⟩
  clear hbk hown hq hnc hcm hcs g h0
  go_enter Tryd.func17, Tryd.ntmps17
  go_wp2
  go_region
  all_goals (go_wp2; go_ret; exact ⟨rfl, Lib.below_freeze (HG.out.drew).below (p := ⟨q, 0, none⟩) hbq _, HK.out⟩)

theorem string_any {w0 w : World} {b : Nat} {l : List UInt8} (h : IsB w0 w b l) (g : G w0 w) :
    Calls Tryd.prog 17 #[.pointer (some ⟨b, 0, none⟩)] w fun e w' => e = .returned (.string (S l)) ∧ G w0 w' ∧ KeptS w w' b := by
  obtain ⟨p, hB, v, hbk, hown, hne⟩ : ∃ p, Lib.BuilderAt 46 5 w0.heap.size b p (Lib.byteCells l) w := by
    rcases h with h | h
    · exact ⟨_, h⟩
    · exact ⟨_, h⟩
  rw [Lib.byteCells_length] at hown
  by_cases h0 : l = []
  · subst h0
    rcases hown.2 with ⟨rfl, _⟩ | ⟨q, cap, cur, rfl, hbq, hq, _, _, _, _⟩
    · exact string_nil g hbk
    · by_cases hc0 : cap = 0
      · subst hc0
        exact string_noroom g hbk hq
      · exact string_room g hc0 hbk
  · rcases hown.2 with ⟨_, hz⟩ | ⟨q, cap, cur, rfl, hbq, hq, hnc, hcm, hcs, htake⟩
    · exact absurd (by simpa using hz) h0
    · exact string_some g h0 hbk hown hbq hq hnc hcm hcs

/-- a Builder as it is declared -/
theorem IsB.new {w0 w : World} (g : G w0 w) : IsB w0 (w.alloc (.cells #[.pointer none, .slice none 0 0] 46)) w.heap.size [] := by
  refine Or.inl ⟨g.size, .slice none 0 0, ?_, World.ownsRow_nil _ _ _ _, by simp [Value.ownBlock]⟩
  show (w.heap.push _)[w.heap.size]? = _
  simp
/-- what a Builder needs to stay one: its block and its row -/
theorem IsB.lt {w0 w : World} {b : Nat} {l : List UInt8} (h : IsB w0 w b l) : w0.heap.size ≤ b ∧ b < w.heap.size := by
  rcases h with h | h
  · exact ⟨h.1, h.lt⟩
  · exact ⟨h.1, h.lt⟩
theorem IsB.grow {w0 w w' : World} {b : Nat} {l : List UInt8} (h : IsB w0 w b l) (g : G w w') : IsB w0 w' b l := by
  have key : ∀ p, Lib.BuilderAt 46 5 w0.heap.size b p (Lib.byteCells l) w → Lib.BuilderAt 46 5 w0.heap.size b p (Lib.byteCells l) w' := by
    intro p h
    have hlt := h.lt
    obtain ⟨hB, v, hbk, hown, hne⟩ := h
    refine ⟨hB, v, ?_, ⟨hown.1, ?_⟩, hne⟩
    · rw [g.below.block b hlt]; exact hbk
    · rcases hown.2 with h | ⟨q, cap, cur, hv, hbq, hq, r⟩
      · exact Or.inl h
      · refine Or.inr ⟨q, cap, cur, hv, hbq, ?_, r⟩
        have : q < w.heap.size := by
          rcases Nat.lt_or_ge q w.heap.size with h' | h'
          · exact h'
          · rw [Array.getElem?_eq_none h'] at hq; cases hq
        rw [g.below.block q this]; exact hq
  rcases h with h | h
  · exact Or.inl (key _ h)
  · exact Or.inr (key _ h)

end Go.Proofs.YtlejbindochiiaaDoor
