/-
  Texts merged into one: Builder, Reset, TextPlain, Pieces, Pieces2.
-/
import Derived.Test.YtdmbhoagjjkogaaGreatDoorMA44
import Derived.Lib.Strings
import Derived.Lib.Slices
import Derived.Lib.Walk
import Derived.Lib.Builder
import Derived.Lib.AppendStr
import Derived.Lib.UnsafeStr
import Derived.Lib.MakeNoZero
import Derived.Laws.Tables
import Derived.Laws.CopyOwn
import Derived.Deep.AppendLies
import Derived.Test.YtdmbhoagjjkogaaGreatDoorMA56
import Derived.Test.YtdmbhoagjjkogaaGreatDoorMA47
import Derived.Deep.RegionLaw
namespace Go.Proofs.YtdmbhoagjjkogaaGreatDoor
open Go.RowKit
set_option linter.unusedVariables false
set_option linter.unusedSimpArgs false
theorem sizeBuilder : (Tryz.prog.info? 127).map (·.size) = some 2 := by kernel_rfl
theorem liesBuilder : liesAt Tryz.prog Tryz.prog.depth 127 (2 / Tryz.prog.cellsOf 127) 0 127 1 = true := by kernel_rfl
theorem infoByte : (Tryz.prog.info? 5).map (fun i => (i.zero, i.size, i.bytes)) = some (some (.int .u8 0), 1, 1) := by kernel_rfl
theorem cellsByte : Tryz.prog.cellsOf 5 = 1 := by kernel_rfl
set_option maxRecDepth 100000 in
set_option maxHeartbeats 1000000 in
theorem copyCheck_used (b : Nat) (w : World) (h0 : w.cell? ⟨b, 0, none⟩ = some (.pointer (some ⟨b, 0, none⟩))) :
    Calls Tryz.prog 133 #[.pointer (some ⟨b, 0, none⟩)] w fun e w' => e = .returned (.tuple #[]) ∧ w' = w := by
  obtain ⟨j, hj, _⟩ := Option.map_eq_some_iff.1 sizeBuilder
  go_enter Tryz.func133, Tryz.ntmps133
  go_wp2
  rw [Lib.run_neq_ptr_same w _ Tryz.underlying124 hj]
  go_wp2
  go_end0
  exact ⟨rfl, rfl⟩
set_option maxRecDepth 100000 in
set_option maxHeartbeats 1000000 in
theorem copyCheck_fresh (b : Nat) (w : World) (h0 : w.cell? ⟨b, 0, none⟩ = some (.pointer none)) (hsh : w.shape? b = some (127, 2)) (hfz : w.frozen? ⟨b, 0, none⟩ = false) :
    Calls Tryz.prog 133 #[.pointer (some ⟨b, 0, none⟩)] w fun e w' => e = .returned (.tuple #[]) ∧ w' = w.setCell ⟨b, 0, none⟩ (.pointer (some ⟨b, 0, none⟩)) := by
  obtain ⟨j, hj, hjs⟩ := Option.map_eq_some_iff.1 sizeBuilder
  go_enter Tryz.func133, Tryz.ntmps133
  go_wp2
  rw [Lib.run_to_unsafe w ⟨b, 0, none⟩ Tryz.underlying124 Tryz.underlying136 hj (by rw [hjs]; decide) hsh (Nat.zero_lt_succ 1)]
  simp only [Result.andThen]
  rw [Oper.upon_value]
  go_wp2
  rw [run_callFunc_extern Tryz.func166 (by kernel_rfl) (by kernel_rfl) (by kernel_rfl) (e := Extern.AbiNoEscape.same) (by kernel_rfl)]
  rw [Lib.run_noEscape]
  simp only [Result.andThen]
  rw [Oper.upon_value]
  go_wp2
  rw [Lib.run_from_unsafe w ⟨b, 0, none⟩ Tryz.underlying136 Tryz.underlying124 hj hsh liesBuilder]
  simp only [Result.andThen]
  rw [Oper.upon_value]
  go_wp2
  go_end0
  exact ⟨rfl, rfl⟩
def IsB (w0 w : World) (b : Nat) (l : List UInt8) : Prop := Lib.IsBuilder 127 5 w0.heap.size b (Lib.byteCells l) w
def bufOf (w : World) (b : Nat) : Option Nat := match w.heap[b]? with | some (.cells cs _ _) => (cs.getD 1 undef).ownBlock | _ => none
def KeptB (w w' : World) (b : Nat) : Prop := ∀ k, k < w.heap.size → k ≠ b → bufOf w b ≠ some k → w'.heap[k]? = w.heap[k]?
theorem bufOf_at {w : World} {b : Nat} {p v : Value} {T : TypeId} (h : w.heap[b]? = some (.cells #[p, v] T (0, 0))) : bufOf w b = v.ownBlock := by
  unfold bufOf; rw [h]; rfl
theorem copyCheck_any (B b : Nat) (bs : List Value) (w : World) (h : Lib.IsBuilder 127 5 B b bs w) :
    Calls Tryz.prog 133 #[.pointer (some ⟨b, 0, none⟩)] w fun e w' => e = .returned (.tuple #[]) ∧ (Lib.BuilderAt 127 5 B b (.pointer (some ⟨b, 0, none⟩)) bs w' ∧ Below B w w' ∧ w.heap.size = w'.heap.size ∧ bufOf w' b = bufOf w b ∧ ∀ k, k ≠ b → w'.heap[k]? = w.heap[k]?) := by
  rcases h with h | h
  · refine (copyCheck_fresh b w h.cell0 h.shape h.frozen0).mono ?_
    rintro e w' ⟨rfl, rfl⟩
    refine ⟨rfl, h.used _, (Below.refl B w).setCell (p := ⟨b, 0, none⟩) h.1 _, by simp, ?_, fun k hk => Below.heap_setCell _ _ _ _ hk⟩
    obtain ⟨_, v, hb, _⟩ := h
    rw [bufOf_at hb]
    have : (w.setCell ⟨b, 0, none⟩ (.pointer (some ⟨b, 0, none⟩))).heap[b]? = some (.cells #[.pointer (some ⟨b, 0, none⟩), v] 127 (0, 0)) := by
      simp [World.setCell, Array.getElem?_modify, hb]
    rw [bufOf_at this]
  · refine (copyCheck_used b w h.cell0).mono ?_
    rintro e w' ⟨rfl, rfl⟩
    exact ⟨rfl, h, Below.refl B _, rfl, rfl, fun _ _ => rfl⟩
set_option maxRecDepth 100000 in
set_option maxHeartbeats 2000000 in
theorem writeByte_any {w0 w : World} {b : Nat} {l : List UInt8} (h : IsB w0 w b l) (g : G w0 w) (c : Int) (hc0 : 0 ≤ c) (hc1 : c < 256) (hlen : l.length + 1 ≤ 140737488355328) :
    Calls Tryz.prog 181 #[.pointer (some ⟨b, 0, none⟩), .int .u8 c] w fun e w' => e = .returned .nilIface ∧ IsB w0 w' b (l ++ [byteOf c]) ∧ G w0 w' ∧ KeptB w w' b := by
  obtain ⟨i0, hi, hz0, hz1, hz2⟩ := info_parts infoByte
  have hbl : (Lib.byteCells l).length = l.length := Lib.byteCells_length l
  have hBw := g.size
  have H := hid h
  have HG := hid g
  clear h g
  go_enter Tryz.func181, Tryz.ntmps181
  go_wp2_with fail
  refine (copyCheck_any w0.heap.size b _ _ H.out).mono ?_
  rintro e w1 ⟨rfl, h1, hb1, hsz, hbf, hk1⟩
  obtain ⟨hB, v, hbk, hown, hne⟩ := h1
  have HK1 := hid hk1
  have HBF := hid hbf
  have HSZ := hid hsz
  have hszl : w.heap.size ≤ w1.heap.size := by omega
  clear hk1 hbf hsz
  have c0 : w1.cell? ⟨b, 0, none⟩ = some (.pointer (some ⟨b, 0, none⟩)) := by rw [Lib.cell_of_heap hbk]; rfl
  have c1 : w1.cell? ⟨b, 1, none⟩ = some v := by rw [Lib.cell_of_heap hbk]; rfl
  have HBK := hid hbk
  have HB1 := hid hb1
  clear hbk hb1
  go_wp2_with (at_builtin; refine wpList_append_own _ rfl _ _ 125 rfl w0.heap.size 5 i0 (.int .u8 0) 1 1 Tryz.underlying125 hi hz0 hz1 hz2 rfl (by decide) _ _ _ rfl (hown.alloc _) ⟨w1.heap.size, 0, none⟩ 1 1 [.int .u8 c] rfl rfl ?c1 ?c2 ?c3 ?c4 ?c5 ?_)
  case c1 =>
    intro j u hj
    match j, hj with
    | 0, hj => simp at hj; subst hj; simp [Addr.add]
  case c2 => intro u hu; simp at hu; subst hu; rfl
  case c3 => unfold maxLen; omega
  case c4 => omega
  case c5 => simp; omega
  intro v' w2 hown' hgrow _
  have hbk := HBK.out
  have hlt : b < w1.heap.size := by
    rcases Nat.lt_or_ge b w1.heap.size with h' | h'
    · exact h'
    · rw [Array.getElem?_eq_none h'] at hbk; cases hbk
  have hb2 : w2.heap[b]? = some (.cells #[.pointer (some ⟨b, 0, none⟩), v] 127 (0, 0)) := by
    rw [hgrow.block b (by simp; omega) (fun e => hne e.symm), Lib.alloc_old w1 _ b hlt]
    exact hbk
  have d0 : w2.cell? ⟨b, 0, none⟩ = some (.pointer (some ⟨b, 0, none⟩)) := by rw [Lib.cell_of_heap hb2]; rfl
  have d1 : w2.cell? ⟨b, 1, none⟩ = some v := by rw [Lib.cell_of_heap hb2]; rfl
  have f1 : w2.frozen? ⟨b, 1, none⟩ = false := Lib.frozen_of_heap hb2 1
  obtain ⟨q, cap, rfl⟩ : ∃ q cap, v' = .slice (some ⟨q, 0, none⟩) (l.length + 1) cap := by
    rcases hown'.2 with ⟨_, h0⟩ | ⟨q, cap, cur, hv, _⟩
    · omega
    · exact ⟨q, cap, hv⟩
  have HB2 := hid hb2
  have HGR := hid hgrow
  clear hbk hb2 hgrow
  go_wp2
  go_ret
  have hgg : G w0 (w2.setCell ⟨b, 1, none⟩ (.slice (some ⟨q, 0, none⟩) (l.length + 1) cap)) := by
    have x1 : Below w0.heap.size w0 w1 := HG.out.below.trans HB1.out
    exact ((x1.alloc (by omega) _).grown HGR.out (by simp; omega) (fun k hk => (hown.lt k hk).1)).setCell (p := ⟨b, 1, none⟩) hB _
  refine ⟨rfl, Or.inr ?_, hgg, ?_⟩
  · have e : Lib.byteCells (l ++ [byteOf c]) = Lib.byteCells l ++ [.int .u8 c] := by
      simp [Lib.byteCells]; exact (byteOf_toNat hc0 hc1)
    rw [e]
    exact Lib.BuilderAt.put (T := 127) (e := 5) hB HB2.out (bs' := Lib.byteCells l ++ [.int .u8 c]) (by simpa [Lib.byteCells_length] using hown') (by decide)
  · intro k hk hkb hkv
    rw [Below.heap_setCell _ _ _ _ hkb]
    rw [← HBF.out, bufOf_at HBK.out] at hkv
    rw [HGR.out.block k (by simp; omega) (fun e => hkv e.symm), Lib.alloc_old w1 _ k (by omega)]
    exact HK1.out k hkb
set_option maxRecDepth 100000 in
set_option maxHeartbeats 2000000 in
theorem writeString_any {w0 w : World} {b : Nat} {l : List UInt8} (h : IsB w0 w b l) (g : G w0 w) (s : List UInt8) (hlen : l.length + s.length ≤ 140737488355328) :
    Calls Tryz.prog 84 #[.pointer (some ⟨b, 0, none⟩), .string (S s)] w fun e w' => e = .returned (.tuple #[.int .i64 s.length, .nilIface]) ∧ IsB w0 w' b (l ++ s) ∧ G w0 w' ∧ KeptB w w' b := by
  obtain ⟨i0, hi, hz0, hz1, hz2⟩ := info_parts infoByte
  have hbl : (Lib.byteCells l).length = l.length := Lib.byteCells_length l
  have hBw := g.size
  have H := hid h
  have HG := hid g
  clear h g
  go_enter Tryz.func84, Tryz.ntmps84
  go_wp2_with fail
  refine (copyCheck_any w0.heap.size b _ _ H.out).mono ?_
  rintro e w1 ⟨rfl, h1, hb1, hsz, hbf, hk1⟩
  obtain ⟨hB, v, hbk, hown, hne⟩ := h1
  have HK1 := hid hk1
  have HBF := hid hbf
  have hszl : w.heap.size ≤ w1.heap.size := by omega
  clear hk1 hbf hsz
  have c0 : w1.cell? ⟨b, 0, none⟩ = some (.pointer (some ⟨b, 0, none⟩)) := by rw [Lib.cell_of_heap hbk]; rfl
  have c1 : w1.cell? ⟨b, 1, none⟩ = some v := by rw [Lib.cell_of_heap hbk]; rfl
  have HBK := hid hbk
  have HB1 := hid hb1
  clear hbk hb1
  go_wp2_with (at_builtin; refine Lib.wpList_append_own_string _ rfl _ _ 125 9 rfl w0.heap.size 5 i0 Tryz.underlying125 Tryz.underlying9 hi hz0 hz1 hz2 _ _ _ rfl hown (S s) rfl ?c3 ?c4 ?c5 ?_)
  case c3 => simp; unfold maxLen; omega
  case c4 => simp; omega
  case c5 => omega
  intro v' w2 hown' hgrow _
  have hbk := HBK.out
  have hlt : b < w1.heap.size := by
    rcases Nat.lt_or_ge b w1.heap.size with h' | h'
    · exact h'
    · rw [Array.getElem?_eq_none h'] at hbk; cases hbk
  have hb2 : w2.heap[b]? = some (.cells #[.pointer (some ⟨b, 0, none⟩), v] 127 (0, 0)) := by
    rw [hgrow.block b hlt (fun e => hne e.symm)]
    exact hbk
  have d0 : w2.cell? ⟨b, 0, none⟩ = some (.pointer (some ⟨b, 0, none⟩)) := by rw [Lib.cell_of_heap hb2]; rfl
  have d1 : w2.cell? ⟨b, 1, none⟩ = some v := by rw [Lib.cell_of_heap hb2]; rfl
  have f1 : w2.frozen? ⟨b, 1, none⟩ = false := Lib.frozen_of_heap hb2 1
  obtain ⟨ao, n', cap, rfl⟩ : ∃ ao n' cap, v' = .slice ao n' cap := by
    rcases hown'.2 with ⟨hv, _⟩ | ⟨q, cap, cur, hv, _⟩
    · exact ⟨_, _, _, hv⟩
    · exact ⟨_, _, _, hv⟩
  have HB2 := hid hb2
  have HGR := hid hgrow
  clear hbk hb2 hgrow
  go_wp2
  go_ret2
  have hgg : G w0 (w2.setCell ⟨b, 1, none⟩ (.slice ao n' cap)) := by
    have x1 : Below w0.heap.size w0 w1 := HG.out.below.trans HB1.out
    exact (x1.grown HGR.out (by omega) (fun k hk => (hown.lt k hk).1)).setCell (p := ⟨b, 1, none⟩) hB _
  refine ⟨rfl, Or.inr ?_, hgg, ?_⟩
  · have e : Lib.byteCells (l ++ s) = Lib.byteCells l ++ Lib.strCells (S s) := by
      simp [Lib.byteCells, Lib.strCells]
    rw [e]
    exact Lib.BuilderAt.put (T := 127) (e := 5) hB HB2.out (bs' := Lib.byteCells l ++ Lib.strCells (S s)) (by simpa [Lib.byteCells_length, Lib.strCells_length] using hown') (by decide)
  · intro k hk hkb hkv
    rw [Below.heap_setCell _ _ _ _ hkb]
    rw [← HBF.out, bufOf_at HBK.out] at hkv
    rw [HGR.out.block k (by omega) (fun e => hkv e.symm)]
    exact HK1.out k hkb
def KeptS (w w' : World) (b : Nat) : Prop := w.heap.size ≤ w'.heap.size ∧ ∀ k, k < w.heap.size → bufOf w b ≠ some k → w'.heap[k]? = w.heap[k]?
theorem size_freeze (w : World) (p : Addr) (n : Nat) : (w.freeze p n).heap.size = w.heap.size := by
  unfold World.freeze
  split
  · rfl
  · simp
theorem heap_freeze (w : World) (p : Addr) (n k : Nat) (h : k ≠ p.block) : (w.freeze p n).heap[k]? = w.heap[k]? := by
  unfold World.freeze
  split
  · rfl
  · simp only [Array.getElem?_modify]
    rw [if_neg (by omega)]
set_option maxRecDepth 100000 in
set_option maxHeartbeats 2000000 in
theorem string_nil {w0 w : World} {b : Nat} {p : Value} (g : G w0 w) (hbk : w.heap[b]? = some (.cells #[p, .slice none 0 0] 127 (0, 0))) :
    Calls Tryz.prog 86 #[.pointer (some ⟨b, 0, none⟩)] w fun e w' => e = .returned (.string (S [])) ∧ G w0 w' ∧ KeptS w w' b := by
  have hUS := fun q => Lib.run_unsafeString_none (P := Tryz.prog) w.drew 178 3 9 q
  have c1 : w.drew.cell? ⟨b, 1, none⟩ = some (.slice none 0 0) := by
    have : w.drew.heap[b]? = some (.cells #[p, .slice none 0 0] 127 (0, 0)) := hbk
    rw [Lib.cell_of_heap this]; rfl
  have hSD : (Builtin.unsafeSliceData_ #[125] 178 #[.slice none 0 0]).run Tryz.prog w.drew = .ok (.pointer none) w.drew := rfl
  have HG := hid g
  clear hbk g
  go_enter Tryz.func86, Tryz.ntmps86
  go_wp2
  go_region
  all_goals (go_wp2; go_ret; exact ⟨rfl, HG.out.drew, Nat.le_refl _, fun k _ _ => rfl⟩)
set_option maxRecDepth 100000 in
set_option maxHeartbeats 2000000 in
theorem string_noroom {w0 w : World} {b q : Nat} {p : Value} {cur : Array Value} (g : G w0 w) (hbk : w.heap[b]? = some (.cells #[p, .slice (some ⟨q, 0, none⟩) 0 0] 127 (0, 0))) (hq : w.heap[q]? = some (.cells cur 5 (0, 0))) :
    Calls Tryz.prog 86 #[.pointer (some ⟨b, 0, none⟩)] w fun e w' => e = .returned (.string (S [])) ∧ G w0 w' ∧ KeptS w w' b := by
  have hUS := fun W q => Lib.run_unsafeString_none (P := Tryz.prog) W 178 3 9 q
  have hlt : b < w.heap.size := by
    rcases Nat.lt_or_ge b w.heap.size with h' | h'
    · exact h'
    · rw [Array.getElem?_eq_none h'] at hbk; cases hbk
  have c1 : w.drew.cell? ⟨b, 1, none⟩ = some (.slice (some ⟨q, 0, none⟩) 0 0) := by
    have : w.drew.heap[b]? = some (.cells #[p, .slice (some ⟨q, 0, none⟩) 0 0] 127 (0, 0)) := hbk
    rw [Lib.cell_of_heap this]; rfl
  have hSD : (Builtin.unsafeSliceData_ #[125] 178 #[.slice (some ⟨q, 0, none⟩) 0 0]).run Tryz.prog w.drew = .ok (.pointer (some ⟨w.drew.heap.size, 0, none⟩)) (w.drew.alloc (.view ⟨q, 0, none⟩ 5)) :=
    Lib.run_unsafeSliceData_zero w.drew _ _ 5 Tryz.underlying178 ⟨q, 0, none⟩ 0 (5, cur.size) (by have hg' : w.drew.heap[q]? = some (.cells cur 5 (0, 0)) := hq; simp [World.shape?, hg'])
  have c2 : (w.drew.alloc (.view ⟨q, 0, none⟩ 5)).cell? ⟨b, 1, none⟩ = some (.slice (some ⟨q, 0, none⟩) 0 0) := by
    have : (w.drew.alloc (.view ⟨q, 0, none⟩ 5)).heap[b]? = _ := (Lib.alloc_old w.drew _ b hlt).trans hbk
    rw [Lib.cell_of_heap this]; rfl
  have c3 : (w.alloc (.view ⟨q, 0, none⟩ 5)).drew.cell? ⟨b, 1, none⟩ = some (.slice (some ⟨q, 0, none⟩) 0 0) := c2
  have c0 : w.cell? ⟨b, 1, none⟩ = some (.slice (some ⟨q, 0, none⟩) 0 0) := c1
  have HG := hid g
  have HK : Hid (KeptS w (w.alloc (.view ⟨q, 0, none⟩ 5)).drew b) := hid ⟨by show _ ≤ (w.alloc (.view ⟨q, 0, none⟩ 5)).heap.size; simp, fun k hk _ => Lib.alloc_old w _ k hk⟩
  clear hbk hq g
  go_enter Tryz.func86, Tryz.ntmps86
  go_wp2
  go_region
  all_goals (go_wp2; go_ret; exact ⟨rfl, (HG.out.alloc _).drew, HK.out⟩)
set_option maxRecDepth 100000 in
set_option maxHeartbeats 2000000 in
theorem string_room {w0 w : World} {b q cap : Nat} {p : Value} (g : G w0 w) (hc0 : cap ≠ 0) (hbk : w.heap[b]? = some (.cells #[p, .slice (some ⟨q, 0, none⟩) 0 cap] 127 (0, 0))) :
    Calls Tryz.prog 86 #[.pointer (some ⟨b, 0, none⟩)] w fun e w' => e = .returned (.string (S [])) ∧ G w0 w' ∧ KeptS w w' b := by
  have hUS := fun q => Lib.run_unsafeString_none (P := Tryz.prog) w.drew 178 3 9 q
  have c1 : w.drew.cell? ⟨b, 1, none⟩ = some (.slice (some ⟨q, 0, none⟩) 0 cap) := by
    have : w.drew.heap[b]? = some (.cells #[p, .slice (some ⟨q, 0, none⟩) 0 cap] 127 (0, 0)) := hbk
    rw [Lib.cell_of_heap this]; rfl
  have hSD : (Builtin.unsafeSliceData_ #[125] 178 #[.slice (some ⟨q, 0, none⟩) 0 cap]).run Tryz.prog w.drew = .ok (.pointer (some ⟨q, 0, none⟩)) w.drew :=
    Lib.run_unsafeSliceData_row _ _ _ _ _ _ hc0
  have HG := hid g
  clear hc0 hbk g
  go_enter Tryz.func86, Tryz.ntmps86
  go_wp2
  go_region
  all_goals (go_wp2; go_ret; exact ⟨rfl, HG.out.drew, Nat.le_refl _, fun k _ _ => rfl⟩)
set_option maxRecDepth 100000 in
set_option maxHeartbeats 2000000 in
theorem string_some {w0 w : World} {b q cap : Nat} {cur : Array Value} {p : Value} {l : List UInt8} (g : G w0 w) (h0 : l ≠ []) (hbk : w.heap[b]? = some (.cells #[p, .slice (some ⟨q, 0, none⟩) l.length cap] 127 (0, 0)))
    (hown : w.ownsRow w0.heap.size 5 1 (.slice (some ⟨q, 0, none⟩) l.length cap) l.length (Lib.byteCells l)) (hbq : w0.heap.size ≤ q) (hq : w.heap[q]? = some (.cells cur 5 (0, 0))) (hnc : l.length ≤ cap) (hcm : cap ≤ maxLen) (hcs : cur.size = cap * 1) :
    Calls Tryz.prog 86 #[.pointer (some ⟨b, 0, none⟩)] w fun e w' => e = .returned (.string (S l)) ∧ G w0 w' ∧ KeptS w w' b := by
  have hl0 : l.length ≠ 0 := by simpa using h0
  have c1 : w.drew.cell? ⟨b, 1, none⟩ = some (.slice (some ⟨q, 0, none⟩) l.length cap) := by
    have : w.drew.heap[b]? = some (.cells #[p, .slice (some ⟨q, 0, none⟩) l.length cap] 127 (0, 0)) := hbk
    rw [Lib.cell_of_heap this]; rfl
  have hSD : (Builtin.unsafeSliceData_ #[125] 178 #[.slice (some ⟨q, 0, none⟩) l.length cap]).run Tryz.prog w.drew = .ok (.pointer (some ⟨q, 0, none⟩)) w.drew :=
    Lib.run_unsafeSliceData_row _ _ _ _ _ _ (by omega)
  have hUS : (Builtin.unsafeString_ #[178, 3] 9 #[.pointer (some ⟨q, 0, none⟩), .int .i64 l.length]).run Tryz.prog w.drew = .ok (.string (S l)) (w.drew.freeze ⟨q, 0, none⟩ l.length) := by
    refine Lib.run_unsafeString_row (P := Tryz.prog) w.drew 178 3 9 5 Tryz.underlying178 cellsByte q cur.size (by have hg' : w.drew.heap[q]? = some (.cells cur 5 (0, 0)) := hq; simp [World.shape?, hg']) l h0 (by omega) (by unfold maxLen at hcm; omega) ?_
    intro j x hx
    exact hown.cells (g := q) rfl j (.int .u8 x.toNat) (by simp [Lib.byteCells, hx])
  have HG := hid g
  have HK : Hid (KeptS w (w.drew.freeze ⟨q, 0, none⟩ l.length) b) := hid ⟨by rw [size_freeze]; exact Nat.le_refl _, fun k hk hb => by
    rw [bufOf_at hbk] at hb
    exact heap_freeze w.drew ⟨q, 0, none⟩ l.length k (fun e => hb (by rw [e]; rfl))⟩
  clear hbk hown hq hnc hcm hcs g h0
  go_enter Tryz.func86, Tryz.ntmps86
  go_wp2
  go_region
  all_goals (go_wp2; go_ret; exact ⟨rfl, Lib.below_freeze (HG.out.drew).below (p := ⟨q, 0, none⟩) hbq _, HK.out⟩)
theorem string_any {w0 w : World} {b : Nat} {l : List UInt8} (h : IsB w0 w b l) (g : G w0 w) :
    Calls Tryz.prog 86 #[.pointer (some ⟨b, 0, none⟩)] w fun e w' => e = .returned (.string (S l)) ∧ G w0 w' ∧ KeptS w w' b := by
  obtain ⟨p, hB, v, hbk, hown, hne⟩ : ∃ p, Lib.BuilderAt 127 5 w0.heap.size b p (Lib.byteCells l) w := by
    rcases h with h | h
    · exact ⟨_, h⟩
    · exact ⟨_, h⟩
  rw [Lib.byteCells_length] at hown
  by_cases h0 : l = []
  · subst h0
    rcases hown.2 with ⟨rfl, _⟩ | ⟨q, cap, cur, rfl, hbq, hq, _, _, _, _⟩
    · exact string_nil g hbk
    · by_cases hc0 : cap = 0
      · subst hc0
        exact string_noroom g hbk hq
      · exact string_room g hc0 hbk
  · rcases hown.2 with ⟨_, hz⟩ | ⟨q, cap, cur, rfl, hbq, hq, hnc, hcm, hcs, htake⟩
    · exact absurd (by simpa using hz) h0
    · exact string_some g h0 hbk hown hbq hq hnc hcm hcs
theorem IsB.new {w0 w : World} (g : G w0 w) : IsB w0 (w.alloc (.cells #[.pointer none, .slice none 0 0] 127)) w.heap.size [] := by
  refine Or.inl ⟨g.size, .slice none 0 0, ?_, World.ownsRow_nil _ _ _ _, by simp [Value.ownBlock]⟩
  show (w.heap.push _)[w.heap.size]? = _
  simp
theorem IsB.lt {w0 w : World} {b : Nat} {l : List UInt8} (h : IsB w0 w b l) : w0.heap.size ≤ b ∧ b < w.heap.size := by
  rcases h with h | h
  · exact ⟨h.1, h.lt⟩
  · exact ⟨h.1, h.lt⟩
theorem IsB.grow {w0 w w' : World} {b : Nat} {l : List UInt8} (h : IsB w0 w b l) (g : G w w') : IsB w0 w' b l := by
  have key : ∀ p, Lib.BuilderAt 127 5 w0.heap.size b p (Lib.byteCells l) w → Lib.BuilderAt 127 5 w0.heap.size b p (Lib.byteCells l) w' := by
    intro p h
    have hlt := h.lt
    obtain ⟨hB, v, hbk, hown, hne⟩ := h
    refine ⟨hB, v, ?_, ⟨hown.1, ?_⟩, hne⟩
    · rw [g.below.block b hlt]; exact hbk
    · rcases hown.2 with h | ⟨q, cap, cur, hv, hbq, hq, r⟩
      · exact Or.inl h
      · refine Or.inr ⟨q, cap, cur, hv, hbq, ?_, r⟩
        have : q < w.heap.size := by
          rcases Nat.lt_or_ge q w.heap.size with h' | h'
          · exact h'
          · rw [Array.getElem?_eq_none h'] at hq; cases hq
        rw [g.below.block q this]; exact hq
  rcases h with h | h
  · exact Or.inl (key _ h)
  · exact Or.inr (key _ h)
end Go.Proofs.YtdmbhoagjjkogaaGreatDoor

namespace Go.Proofs.YtdmbhoagjjkogaaGreatDoor
open Go.RowKit
set_option linter.unusedVariables false
set_option linter.unusedSimpArgs false
set_option maxRecDepth 100000 in
set_option maxHeartbeats 2000000 in
theorem writeByte_at {w0 w : World} {b : Nat} {l : List UInt8} (h : IsB w0 w b l) (g : G w0 w) (c : Int) (hc0 : 0 ≤ c) (hc1 : c < 256) (hlen : l.length + 1 ≤ 140737488355328) :
    Calls Tryz.prog 181 #[.pointer (some ⟨b, 0, none⟩), .int .u8 c] w fun e w' => e = .returned .nilIface ∧ IsB w0 w' b (l ++ [byteOf c]) ∧ G w0 w' ∧ KeptB w w' b ∧ (bufOf w' b = bufOf w b ∨ ∃ q, bufOf w' b = some q ∧ w.heap.size ≤ q) := by
  obtain ⟨i0, hi, hz0, hz1, hz2⟩ := info_parts infoByte
  have hbl : (Lib.byteCells l).length = l.length := Lib.byteCells_length l
  have hBw := g.size
  have H := hid h
  have HG := hid g
  clear h g
  go_enter Tryz.func181, Tryz.ntmps181
  go_wp2_with fail
  refine (copyCheck_any w0.heap.size b _ _ H.out).mono ?_
  rintro e w1 ⟨rfl, h1, hb1, hsz, hbf, hk1⟩
  obtain ⟨hB, v, hbk, hown, hne⟩ := h1
  have HK1 := hid hk1
  have HBF := hid hbf
  have HSZ := hid hsz
  have hszl : w.heap.size ≤ w1.heap.size := by omega
  clear hk1 hbf hsz
  have c0 : w1.cell? ⟨b, 0, none⟩ = some (.pointer (some ⟨b, 0, none⟩)) := by rw [Lib.cell_of_heap hbk]; rfl
  have c1 : w1.cell? ⟨b, 1, none⟩ = some v := by rw [Lib.cell_of_heap hbk]; rfl
  have HBK := hid hbk
  have HB1 := hid hb1
  clear hbk hb1
  go_wp2_with (at_builtin; refine wpList_append_lies _ rfl _ _ 125 rfl w0.heap.size 5 i0 (.int .u8 0) 1 1 Tryz.underlying125 hi hz0 hz1 hz2 rfl (by decide) _ _ _ rfl (hown.alloc _) ⟨w1.heap.size, 0, none⟩ 1 1 [.int .u8 c] rfl rfl ?c1 ?c2 (by omega) ?c3 ?c4 ?c5 _ rfl ?_)
  case c1 =>
    intro j u hj
    match j, hj with
    | 0, hj => simp at hj; subst hj; simp [Addr.add]
  case c2 => intro u hu; simp at hu; subst hu; rfl
  case c3 => unfold maxLen; omega
  case c4 => omega
  case c5 => simp; omega
  intro q cap w2 hown' hgrow hat _
  have hbk := HBK.out
  have hlt : b < w1.heap.size := by
    rcases Nat.lt_or_ge b w1.heap.size with h' | h'
    · exact h'
    · rw [Array.getElem?_eq_none h'] at hbk; cases hbk
  have hb2 : w2.heap[b]? = some (.cells #[.pointer (some ⟨b, 0, none⟩), v] 127 (0, 0)) := by
    rw [hgrow.block b (by simp; omega) (fun e => hne e.symm), Lib.alloc_old w1 _ b hlt]
    exact hbk
  have d0 : w2.cell? ⟨b, 0, none⟩ = some (.pointer (some ⟨b, 0, none⟩)) := by rw [Lib.cell_of_heap hb2]; rfl
  have d1 : w2.cell? ⟨b, 1, none⟩ = some v := by rw [Lib.cell_of_heap hb2]; rfl
  have f1 : w2.frozen? ⟨b, 1, none⟩ = false := Lib.frozen_of_heap hb2 1
  have HB2 := hid hb2
  have HGR := hid hgrow
  have HAT := hid hat
  clear hbk hb2 hgrow hat
  go_wp2
  go_ret
  have hgg : G w0 (w2.setCell ⟨b, 1, none⟩ (.slice (some ⟨q, 0, none⟩) (l.length + 1) cap)) := by
    have x1 : Below w0.heap.size w0 w1 := HG.out.below.trans HB1.out
    exact ((x1.alloc (by omega) _).grown HGR.out (by simp; omega) (fun k hk => (hown.lt k hk).1)).setCell (p := ⟨b, 1, none⟩) hB _
  refine ⟨rfl, Or.inr ?_, hgg, ?_, ?_⟩
  · have e : Lib.byteCells (l ++ [byteOf c]) = Lib.byteCells l ++ [.int .u8 c] := by
      simp [Lib.byteCells]; exact (byteOf_toNat hc0 hc1)
    rw [e]
    exact Lib.BuilderAt.put (T := 127) (e := 5) hB HB2.out (bs' := Lib.byteCells l ++ [.int .u8 c]) (by simpa [Lib.byteCells_length] using hown') (by decide)
  · intro k hk hkb hkv
    rw [Below.heap_setCell _ _ _ _ hkb]
    rw [← HBF.out, bufOf_at HBK.out] at hkv
    rw [HGR.out.block k (by simp; omega) (fun e => hkv e.symm), Lib.alloc_old w1 _ k (by omega)]
    exact HK1.out k hkb
  · have hbuf : bufOf (w2.setCell ⟨b, 1, none⟩ (.slice (some ⟨q, 0, none⟩) (l.length + 1) cap)) b = some q := by
      rw [setCell_eq_setRow w2 b 1 _ _ _ _ HB2.out]
      exact bufOf_at (setRow_heap w2 b _ _ _ _ HB2.out)
    rw [hbuf]
    rcases HAT.out with h | h
    · left
      rw [← HBF.out, bufOf_at HBK.out, h]
    · right
      refine ⟨q, rfl, ?_⟩
      have := HSZ.out; omega
end Go.Proofs.YtdmbhoagjjkogaaGreatDoor

namespace Go.Proofs.YtdmbhoagjjkogaaGreatDoor
open Go.RowKit
set_option linter.unusedVariables false
set_option linter.unusedSimpArgs false
def partsOf : List (List UInt8) → List UInt8 → List (List UInt8) → List (List (List UInt8))
  | cur, [], _ => [cur]
  | cur, _ :: _, [] => [cur]
  | cur, c :: cs, t :: ts => if c = 59 then cur :: partsOf [t] cs ts else partsOf (cur ++ [t]) cs ts
theorem parts_append (Cb : List UInt8) (t0 : List UInt8) (Tb : List (List UInt8)) : ∀ (Ca : List UInt8) (Ta : List (List UInt8)) (cur : List (List UInt8)), Ta.length = Ca.length →
    partsOf cur (Ca ++ 59 :: Cb) (Ta ++ t0 :: Tb) = partsOf cur Ca Ta ++ partsOf [t0] Cb Tb := by
  intro Ca
  induction Ca with
  | nil =>
    intro Ta cur h
    have : Ta = [] := List.eq_nil_of_length_eq_zero (by simpa using h)
    subst this
    rfl
  | cons c Ca ih =>
    intro Ta cur h
    cases Ta with
    | nil => simp at h
    | cons t Ta =>
      have e : ∀ (X : List UInt8) (Y : List (List UInt8)), partsOf cur (c :: X) (t :: Y) = if c = 59 then cur :: partsOf [t] X Y else partsOf (cur ++ [t]) X Y := fun _ _ => rfl
      rw [List.cons_append, List.cons_append, e, e]
      split
      · rw [ih Ta [t] (by simpa using h)]; rfl
      · exact ih Ta (cur ++ [t]) (by simpa using h)
def joinL : List (List UInt8) → List UInt8
  | [] => []
  | x :: xs => joinS [44] (escL x) (xs.map escL)
theorem pieces_joinL (a : List UInt8) (ha : ∀ c ∈ a, c = 44 ∨ c = 59) (h44 : a.contains 44 = true) (xs : List (List UInt8)) : ∀ (x : List UInt8) (r : List UInt8) (k : Nat) (ts : List (List UInt8)) (cs : List UInt8),
    ∃ k' init last, x :: xs = init ++ [last] ∧ piecesGo a (joinL (x :: xs) ++ r) k [] ts cs = piecesGo a r k' last (ts ++ init) (cs ++ List.replicate xs.length 44) := by
  induction xs with
  | nil =>
    intro x r k ts cs
    refine ⟨k + (escL x).length, [], x, rfl, ?_⟩
    show piecesGo a (escL x ++ r) k [] ts cs = _
    rw [pieces_escL a ha]
    simp
  | cons y xs ih =>
    intro x r k ts cs
    obtain ⟨k', init, last, h1, h2⟩ := ih y r (k + (escL x).length + 1) (ts ++ [x]) (cs ++ [44])
    refine ⟨k', x :: init, last, by rw [h1]; rfl, ?_⟩
    have e : joinL (x :: y :: xs) ++ r = escL x ++ (44 :: (joinL (y :: xs) ++ r)) := by
      show (escL x ++ ([44] ++ joinS [44] (escL y) (xs.map escL))) ++ r = _
      simp [joinL]
    rw [e, pieces_escL a ha, pieces_cut (by decide) h44]
    simp only [List.nil_append]
    rw [h2]
    simp [List.replicate_succ]
theorem list_back (x : List UInt8) (xs : List (List UInt8)) : piecesGo [44] (joinL (x :: xs)) 0 [] [] [] = .good (x :: xs) (List.replicate xs.length 44) := by
  obtain ⟨k', init, last, h1, h2⟩ := pieces_joinL [44] (by simp) rfl xs x [] 0 [] []
  rw [List.append_nil] at h2
  rw [h2, pieces_nil, h1]; simp
def joinP : List (List (List UInt8)) → List UInt8
  | [] => []
  | x :: xs => joinS [59] (joinL x) (xs.map joinL)
theorem parts_one : ∀ (xs : List (List UInt8)) (cur : List (List UInt8)), partsOf cur (List.replicate xs.length 44) xs = [cur ++ xs] := by
  intro xs
  induction xs with
  | nil => intro cur; simp [partsOf]
  | cons y ys ih =>
    intro cur
    show (if (44 : UInt8) = 59 then _ else partsOf (cur ++ [y]) (List.replicate ys.length 44) ys) = _
    rw [if_neg (by decide), ih]; simp
theorem parts_pieces (ls : List (List (List UInt8))) : ∀ (l : List (List UInt8)), l ≠ [] → (∀ m ∈ ls, m ≠ []) → ∀ (k : Nat) (ts : List (List UInt8)) (cs : List UInt8),
    ∃ x xs C, piecesGo [44, 59] (joinP (l :: ls)) k [] ts cs = .good (ts ++ x :: xs) (cs ++ C) ∧ xs.length = C.length ∧ partsOf [x] C xs = l :: ls := by
  induction ls with
  | nil =>
    intro l hl _ k ts cs
    obtain ⟨x, xs, rfl⟩ : ∃ x xs, l = x :: xs := by cases l with | nil => exact absurd rfl hl | cons x xs => exact ⟨x, xs, rfl⟩
    obtain ⟨k', init, last, h1, h2⟩ := pieces_joinL [44, 59] (by simp) rfl xs x [] k ts cs
    rw [List.append_nil] at h2
    refine ⟨x, xs, List.replicate xs.length 44, ?_, by simp, parts_one xs [x]⟩
    show piecesGo [44, 59] (joinL (x :: xs)) k [] ts cs = _
    rw [h2, pieces_nil, h1]; simp
  | cons m ls ih =>
    intro l hl hls k ts cs
    obtain ⟨x, xs, rfl⟩ : ∃ x xs, l = x :: xs := by cases l with | nil => exact absurd rfl hl | cons x xs => exact ⟨x, xs, rfl⟩
    obtain ⟨k', init, last, h1, h2⟩ := pieces_joinL [44, 59] (by simp) rfl xs x (59 :: joinP (m :: ls)) k ts cs
    obtain ⟨y, ys, C, h3, h4, h5⟩ := ih m (hls m List.mem_cons_self) (fun q hq => hls q (List.mem_cons_of_mem _ hq)) (k' + 1) (ts ++ init ++ [last]) (cs ++ List.replicate xs.length 44 ++ [59])
    refine ⟨x, xs ++ y :: ys, List.replicate xs.length 44 ++ 59 :: C, ?_, by simp [h4], ?_⟩
    · have e : joinP ((x :: xs) :: m :: ls) = joinL (x :: xs) ++ 59 :: joinP (m :: ls) := by
        show joinL (x :: xs) ++ ([59] ++ joinS [59] (joinL m) (ls.map joinL)) = _
        rfl
      rw [e, h2, pieces_cut (by decide) rfl, h3]
      have : x :: (xs ++ y :: ys) = init ++ [last] ++ y :: ys := by rw [← h1]; rfl
      rw [this]; simp
    · rw [parts_append C y ys (List.replicate xs.length 44) xs [x] (by simp), parts_one, h5]; rfl
end Go.Proofs.YtdmbhoagjjkogaaGreatDoor

namespace Go.Proofs.YtdmbhoagjjkogaaGreatDoor
open Go.RowKit
set_option linter.unusedVariables false
set_option linter.unusedSimpArgs false
theorem ownsRow_same {w w' : World} {base : Nat} {e : TypeId} {size : Nat} {v : Value} {n : Nat} {xs : List Value} (h : w.ownsRow base e size v n xs) (hb : ∀ k, v.ownBlock = some k → k < w.heap.size → w'.heap[k]? = w.heap[k]?) : w'.ownsRow base e size v n xs := by
  refine ⟨h.1, ?_⟩
  rcases h.2 with hn | ⟨q, cap, cur, rfl, hbg, hgg, rest⟩
  · exact .inl hn
  · have hq : q < w.heap.size := by
      rcases Nat.lt_or_ge q w.heap.size with h' | h'
      · exact h'
      · rw [Array.getElem?_eq_none h'] at hgg; cases hgg
    exact .inr ⟨q, cap, cur, rfl, hbg, by rw [hb q rfl hq]; exact hgg, rest⟩
structure PState (w0 w : World) (b : Nat) (tv cv : Value) (cur : List UInt8) (ts : List (List UInt8)) (cs : List UInt8) : Prop where
  g : G w0 w
  ib : IsB w0 w b cur
  ot : w.ownsRow w0.heap.size 9 1 tv ts.length (ts.map fun t => .string (S t))
  oc : w.ownsRow w0.heap.size 5 1 cv cs.length (cs.map fun c => .int .u8 (c.toNat : Int))
  tb : tv.ownBlock ≠ some b
  cb : cv.ownBlock ≠ some b
  tu : ∀ q, bufOf w b = some q → tv.ownBlock ≠ some q ∧ cv.ownBlock ≠ some q
theorem PState.wrote {w0 w w' : World} {b : Nat} {tv cv : Value} {cur cur' : List UInt8} {ts : List (List UInt8)} {cs : List UInt8} (h : PState w0 w b tv cv cur ts cs) (ib' : IsB w0 w' b cur') (g' : G w0 w') (hk : KeptB w w' b)
    (hb : bufOf w' b = bufOf w b ∨ ∃ q, bufOf w' b = some q ∧ w.heap.size ≤ q) : PState w0 w' b tv cv cur' ts cs := by
  refine ⟨g', ib', ownsRow_same h.ot fun k hv hlt => hk k hlt ?_ ?_, ownsRow_same h.oc fun k hv hlt => hk k hlt ?_ ?_, h.tb, h.cb, fun q hq => ?_⟩
  · rintro rfl; exact h.tb hv
  · intro e; exact (h.tu k e).1 hv
  · rintro rfl; exact h.cb hv
  · intro e; exact (h.tu k e).2 hv
  · rcases hb with e | ⟨q', e, hle⟩
    · exact h.tu q (by rw [← e]; exact hq)
    · rw [e] at hq
      injection hq with hq
      subst hq
      refine ⟨fun e => ?_, fun e => ?_⟩
      · have := (h.ot.lt _ e).2; omega
      · have := (h.oc.lt _ e).2; omega
theorem PState.apart {w0 w : World} {b : Nat} {tv cv : Value} {cur : List UInt8} {ts : List (List UInt8)} {cs : List UInt8} (h : PState w0 w b tv cv cur ts cs) (q : Nat) (hq : tv.ownBlock = some q) : cv.ownBlock ≠ some q := by
  intro e
  rcases h.ot.2 with ⟨rfl, _⟩ | ⟨g1, c1, u1, rfl, _, h1, _⟩
  · cases hq
  · rcases h.oc.2 with ⟨rfl, _⟩ | ⟨g2, c2, u2, rfl, _, h2, _⟩
    · cases e
    · simp only [Value.ownBlock, Option.some.injEq] at hq e
      subst hq
      subst e
      rw [h1] at h2
      injection h2 with h2
      injection h2 with _ h2 _
      exact absurd h2 (by decide)
theorem PState.blk {w0 w : World} {b : Nat} {tv cv : Value} {cur : List UInt8} {ts : List (List UInt8)} {cs : List UInt8} (h : PState w0 w b tv cv cur ts cs) : w0.heap.size ≤ b ∧ ∃ p v, w.heap[b]? = some (.cells #[p, v] 127 (0, 0)) := by
  rcases h.ib with h | h
  · obtain ⟨hB, v, hbk, _⟩ := h; exact ⟨hB, _, v, hbk⟩
  · obtain ⟨hB, v, hbk, _⟩ := h; exact ⟨hB, _, v, hbk⟩
structure QState (w0 w : World) (b : Nat) (tv cv : Value) (ts : List (List UInt8)) (cs : List UInt8) : Prop where
  g : G w0 w
  hb : w0.heap.size ≤ b
  blk : ∃ p v, w.heap[b]? = some (.cells #[p, v] 127 (0, 0))
  ot : w.ownsRow w0.heap.size 9 1 tv ts.length (ts.map fun t => .string (S t))
  oc : w.ownsRow w0.heap.size 5 1 cv cs.length (cs.map fun c => .int .u8 (c.toNat : Int))
  tb : tv.ownBlock ≠ some b
  cb : cv.ownBlock ≠ some b
theorem PState.q {w0 w : World} {b : Nat} {tv cv : Value} {cur : List UInt8} {ts : List (List UInt8)} {cs : List UInt8} (h : PState w0 w b tv cv cur ts cs) : QState w0 w b tv cv ts cs :=
  ⟨h.g, h.blk.1, h.blk.2, h.ot, h.oc, h.tb, h.cb⟩
theorem lt_of_blk {w : World} {b : Nat} {o : Obj} (h : w.heap[b]? = some o) : b < w.heap.size := by
  rcases Nat.lt_or_ge b w.heap.size with h' | h'
  · exact h'
  · rw [Array.getElem?_eq_none h'] at h; cases h
theorem QState.grow {w0 w w' : World} {b : Nat} {tv cv : Value} {ts : List (List UInt8)} {cs : List UInt8} (h : QState w0 w b tv cv ts cs) (g : G w w') : QState w0 w' b tv cv ts cs := by
  obtain ⟨p, v, hbk⟩ := h.blk
  exact ⟨h.g.trans g, h.hb, ⟨p, v, by rw [g.below.block b (lt_of_blk hbk)]; exact hbk⟩, ownsRow_same h.ot fun k _ hk => g.below.block k hk, ownsRow_same h.oc fun k _ hk => g.below.block k hk, h.tb, h.cb⟩
theorem IsB.same {w0 w w' : World} {b : Nat} {l : List UInt8} (h : IsB w0 w b l) (hb : w'.heap[b]? = w.heap[b]?) (hq : ∀ q, bufOf w b = some q → w'.heap[q]? = w.heap[q]?) : IsB w0 w' b l := by
  have key : ∀ p, Lib.BuilderAt 127 5 w0.heap.size b p (Lib.byteCells l) w → Lib.BuilderAt 127 5 w0.heap.size b p (Lib.byteCells l) w' := by
    rintro p ⟨hB, v, hbk, hown, hne⟩
    refine ⟨hB, v, by rw [hb]; exact hbk, ownsRow_same hown fun k hv _ => hq k ?_, hne⟩
    rw [bufOf_at hbk]; exact hv
  rcases h with h | h
  · exact Or.inl (key _ h)
  · exact Or.inr (key _ h)
theorem bufOf_same {w w' : World} {b : Nat} (hb : w'.heap[b]? = w.heap[b]?) : bufOf w' b = bufOf w b := by unfold bufOf; rw [hb]
theorem PState.grow {w0 w w' : World} {b : Nat} {tv cv : Value} {cur : List UInt8} {ts : List (List UInt8)} {cs : List UInt8} (h : PState w0 w b tv cv cur ts cs) (g : G w w') : PState w0 w' b tv cv cur ts cs := by
  have q := h.q.grow g
  have hbl := h.ib.lt.2
  refine ⟨q.g, h.ib.grow g, q.ot, q.oc, q.tb, q.cb, ?_⟩
  rw [bufOf_same (g.below.block b hbl)]
  exact h.tu
theorem PState.new {w0 w : World} (g : G w0 w) : PState w0 (w.alloc (.cells #[.pointer none, .slice none 0 0] 127)) w.heap.size (.slice none 0 0) (.slice none 0 0) [] [] [] := by
  refine ⟨g.alloc _, IsB.new g, World.ownsRow_nil _ _ _ _, World.ownsRow_nil _ _ _ _, by simp [Value.ownBlock], by simp [Value.ownBlock], fun q _ => ⟨by simp [Value.ownBlock], by simp [Value.ownBlock]⟩⟩
theorem grown_at {w w' : World} {v : Value} {k : Nat} (hg : w.grownBy w' v.ownBlock) (hk : k < w.heap.size) (hne : v.ownBlock ≠ some k) : w'.heap[k]? = w.heap[k]? := hg.block k hk (fun e => hne e.symm)
theorem PState.byte {w0 w : World} {b : Nat} {tv cv : Value} {cur : List UInt8} {ts : List (List UInt8)} {cs : List UInt8} (h : PState w0 w b tv cv cur ts cs) (c : UInt8) (hl : cur.length ≤ 1000000) :
    Calls Tryz.prog 181 #[.pointer (some ⟨b, 0, none⟩), .int .u8 (c.toNat : Int)] w fun e w' => e = .returned .nilIface ∧ PState w0 w' b tv cv (cur ++ [c]) ts cs := by
  refine (writeByte_at h.ib h.g (c.toNat : Int) (by omega) (by have := c.toNat_lt; omega) (by omega)).mono ?_
  rintro e w' ⟨rfl, ib', g', hk, hb⟩
  rw [byteOf_cast] at ib'
  exact ⟨rfl, h.wrote ib' g' hk hb⟩
end Go.Proofs.YtdmbhoagjjkogaaGreatDoor

namespace Go.Proofs.YtdmbhoagjjkogaaGreatDoor
open Go.RowKit
set_option linter.unusedVariables false
set_option linter.unusedSimpArgs false
def IsBytes (w : World) (v : Value) (l : List UInt8) : Prop := IsRow 1 w v l.length (l.map fun c => .int .u8 (c.toNat : Int))
def PiecesPost (r : PiecesR) (v : Value) (w' : World) : Prop :=
  match r with
  | .good ts cs => ∃ tv cv, v = .tuple #[tv, cv, .nilIface] ∧ IsStrs w' tv ts ∧ IsBytes w' cv cs
  | .bad c p => ∃ e, v = .tuple #[.slice none 0 0, .slice none 0 0, e] ∧ IsAt w' e c p
def PiecesO (n : Nat) (r : PiecesR) (v : Value) (w' : World) : Prop :=
  match r with
  | .good ts cs => ∃ tv cv, v = .tuple #[tv, cv, .nilIface] ∧ w'.ownsRow n 9 1 tv ts.length (ts.map fun t => .string (S t)) ∧ IsBytes w' cv cs
  | .bad c p => ∃ e, v = .tuple #[.slice none 0 0, .slice none 0 0, e] ∧ IsAt w' e c p
theorem PiecesO.good {n : Nat} {r : PiecesR} {ts : List (List UInt8)} {cs : List UInt8} {tv cv : Value} {w' : World} (h : r = .good ts cs) (h1 : w'.ownsRow n 9 1 tv ts.length (ts.map fun t => .string (S t))) (h2 : IsBytes w' cv cs) : PiecesO n r (.tuple #[tv, cv, .nilIface]) w' := by subst h; exact ⟨_, _, rfl, h1, h2⟩
theorem PiecesO.bad {n : Nat} {r : PiecesR} {c : Int} {p : Nat} {e : Value} {w' : World} (h : r = .bad c p) (he : IsAt w' e c p) : PiecesO n r (.tuple #[.slice none 0 0, .slice none 0 0, e]) w' := by subst h; exact ⟨e, rfl, he⟩
theorem PiecesO.p {n : Nat} {r : PiecesR} {v : Value} {w' : World} (h : PiecesO n r v w') : PiecesPost r v w' := by
  cases r with
  | good ts cs => obtain ⟨tv, cv, e, h1, h2⟩ := h; exact ⟨tv, cv, e, strs_of_own h1, h2⟩
  | bad c p => exact h
theorem PiecesPost.good {r : PiecesR} {ts : List (List UInt8)} {cs : List UInt8} {tv cv : Value} {w' : World} (h : r = .good ts cs) (h1 : IsStrs w' tv ts) (h2 : IsBytes w' cv cs) : PiecesPost r (.tuple #[tv, cv, .nilIface]) w' := by subst h; exact ⟨_, _, rfl, h1, h2⟩
theorem PiecesPost.bad {r : PiecesR} {c : Int} {p : Nat} {e : Value} {w' : World} (h : r = .bad c p) (he : IsAt w' e c p) : PiecesPost r (.tuple #[.slice none 0 0, .slice none 0 0, e]) w' := by subst h; exact ⟨e, rfl, he⟩
end Go.Proofs.YtdmbhoagjjkogaaGreatDoor
