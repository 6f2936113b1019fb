/-
  Texts merged into one: GenMake, GenRepl.
-/
import Derived.Test.YtccaknanagmmhaaGreatMTrie
import Derived.Test.YtccaknanagmmhaaGreatMRepl
import Derived.Deep.MidRow
import Derived.Deep.OwnRows
import Derived.Test.YtccaknanagmmhaaGreatGenRun
namespace Go.Proofs.YtccaknanagmmhaaGreat
open Go.RowKit
set_option linter.unusedVariables false
set_option linter.unusedSimpArgs false

/-- texts in a row -/
def StrsAt (w : World) (o : Nat) (xs : List (List UInt8)) : Prop := o < w.heap.size ∧ ∀ (j : Nat) (h : j < xs.length), w.cell? ⟨o, j, none⟩ = some (.string (S xs[j]))
theorem StrsAt.grow {w w' : World} {o : Nat} {xs : List (List UInt8)} (h : StrsAt w o xs) (g : G w w') : StrsAt w' o xs := ⟨Nat.lt_of_lt_of_le h.1 g.size, fun j hj => by rw [g.cell h.1]; exact h.2 j hj⟩

def has (ks : List UInt8) (c : UInt8) : Int := if c ∈ ks then 1 else 0
/-- the replacer while its table of bytes is made -/
structure MS (w0 w : World) (R : Nat) (f : UInt8 → Int) (ts : Int) : Prop where
  g : G w0 w
  rl : w0.heap.size ≤ R
  root : Node w R 0 [] 0 [] (.pointer none) (.slice none 0 0)
  c5 : w.cell? ⟨R, 5, none⟩ = some (.int .i64 ts)
  map : ∀ c : UInt8, w.cell? ⟨R, 6 + c.toNat, none⟩ = some (.int .u8 (f c))
theorem MS.put {w0 w : World} {R : Nat} {f : UInt8 → Int} {ts : Int} (h : MS w0 w R f ts) (c : UInt8) (v : Int) : MS w0 (w.setCell ⟨R, 6 + c.toNat, none⟩ (.int .u8 v)) R (fun c' => if c' = c then v else f c') ts := by
  have r := h.root
  have o : ∀ j, j < 6 → (w.setCell ⟨R, 6 + c.toNat, none⟩ (.int .u8 v)).cell? ⟨R, j, none⟩ = w.cell? ⟨R, j, none⟩ := fun j hj => World.cell?_setCell_other _ _ _ _ (by first | (simp; done) | (simp; omega))
  refine ⟨h.g.below.setCell (p := ⟨R, 6 + c.toNat, none⟩) h.rl _, h.rl, ⟨(o _ (by omega)).trans r.c0, (o _ (by omega)).trans r.c1, (o _ (by omega)).trans r.c2, (o _ (by omega)).trans r.c3, (o _ (by omega)).trans r.c4, fun j => by rw [World.frozen?_setCell]; exact r.fz j⟩, (o _ (by omega)).trans h.c5, fun d => ?_⟩
  by_cases e : d = c
  · subst e
    rw [if_pos rfl]
    exact World.cell?_setCell_same _ _ _ (h.map d)
  · rw [if_neg e, World.cell?_setCell_other _ _ _ _ (by simp; intro e2; exact e (UInt8.toNat_inj.1 e2.symm))]
    exact h.map d
theorem MS.sum {w0 w : World} {R : Nat} {f : UInt8 → Int} {ts : Int} (h : MS w0 w R f ts) (t : Int) : MS w0 (w.setCell ⟨R, 5, none⟩ (.int .i64 t)) R f t := by
  have r := h.root
  have o : ∀ j, j ≠ 5 → (w.setCell ⟨R, 5, none⟩ (.int .i64 t)).cell? ⟨R, j, none⟩ = w.cell? ⟨R, j, none⟩ := fun j hj => World.cell?_setCell_other _ _ _ _ (by first | (simp; done) | (simp; omega))
  exact ⟨h.g.below.setCell (p := ⟨R, 5, none⟩) h.rl _, h.rl, ⟨(o _ (by omega)).trans r.c0, (o _ (by omega)).trans r.c1, (o _ (by omega)).trans r.c2, (o _ (by omega)).trans r.c3, (o _ (by omega)).trans r.c4, fun j => by rw [World.frozen?_setCell]; exact r.fz j⟩, World.cell?_setCell_same _ _ _ h.c5, fun d => (o _ (by omega)).trans (h.map d)⟩
theorem MS.drew {w0 w : World} {R : Nat} {f : UInt8 → Int} {ts : Int} (h : MS w0 w R f ts) : MS w0 w.drew R f ts :=
  ⟨h.g.drew, h.rl, ⟨h.root.c0, h.root.c1, h.root.c2, h.root.c3, h.root.c4, h.root.fz⟩, h.c5, h.map⟩
theorem MS.congr {w0 w : World} {R : Nat} {f f' : UInt8 → Int} {ts : Int} (h : MS w0 w R f ts) (e : ∀ c, f c = f' c) : MS w0 w R f' ts := by
  have : f = f' := funext e
  rw [← this]; exact h

theorem zgr_eq : Tryz.zeroCells141 = (#[.string ⟨#[]⟩, .int .i64 0, .string ⟨#[]⟩, .pointer none, .slice none 0 0, .int .i64 0] : Array Value) ++ Array.replicate 256 (.int .u8 0) := by kernel_rfl

theorem put_take (key : List UInt8) (j : Nat) (h : j < key.length) (f : UInt8 → Int) (d : UInt8) : (if d = key[j] then (1 : Int) else if d ∈ key.take j then 1 else f d) = if d ∈ key.take (j + 1) then 1 else f d := by
  rw [List.take_succ_eq_append_getElem h]
  simp only [List.mem_append, List.mem_singleton]
  by_cases e : d = key[j]
  · rw [if_pos e, if_pos (.inr e)]
  · rw [if_neg e]
    by_cases e2 : d ∈ key.take j
    · rw [if_pos e2, if_pos (.inl e2)]
    · rw [if_neg e2, if_neg (by rintro (h | h); exact e2 h; exact e h)]
theorem flat_more (L : List (List UInt8)) (k : Nat) (key : List UInt8) (h : L[k]? = some key) (d : UInt8) : (if d ∈ key then (1 : Int) else has (L.take k).flatten d) = has (L.take (k + 1)).flatten d := by
  obtain ⟨hk, e⟩ := List.getElem?_eq_some_iff.1 h
  rw [List.take_succ_eq_append_getElem hk, e]
  unfold has
  simp only [List.flatten_append, List.mem_append, List.flatten_cons, List.flatten_nil, List.append_nil]
  by_cases e1 : d ∈ key
  · rw [if_pos e1, if_pos (.inr e1)]
  · rw [if_neg e1]
    by_cases e2 : d ∈ (L.take k).flatten
    · rw [if_pos e2, if_pos (.inl e2)]
    · rw [if_neg e2, if_neg (by rintro (h | h); exact e2 h; exact e1 h)]
/-- the array's cells, as a value -/
def rowOf (f : UInt8 → Int) : List Value := (List.range 256).map fun i => .int .u8 (f (UInt8.ofNat i))
theorem rowOf_len (f : UInt8 → Int) : (rowOf f).length = 256 := by simp [rowOf]
theorem rowOf_at (f : UInt8 → Int) (i : Nat) (h : i < 256) : (rowOf f)[i]? = some (.int .u8 (f (UInt8.ofNat i))) := by simp [rowOf, h]
theorem MS.row {w0 w : World} {R : Nat} {f : UInt8 → Int} {ts : Int} (h : MS w0 w R f ts) : w.rangeAt R 6 (rowOf f) := fun j v hv => by
  have hj : j < 256 := by
    have := (List.getElem?_eq_some_iff.1 hv).1
    rw [rowOf_len] at this; exact this
  rw [rowOf_at f j hj] at hv
  injection hv with hv
  have := h.map (UInt8.ofNat j)
  rw [show (UInt8.ofNat j).toNat = j from by simp <;> omega] at this
  rw [this, hv]
theorem arr_info : (Tryz.prog.info? 122).map (·.size) = some 256 := by kernel_rfl
def mapK : List UInt8 := [94, 94, 94, 110, 94, 39]
def cntK (i : Nat) : Int := (if 39 < i then 1 else 0) + (if 94 < i then 1 else 0) + (if 110 < i then 1 else 0)

theorem idx_arr (w : World) (cs : List Value) (i : Nat) (v : Value) (hi : i < 256) (hv : cs[i]? = some v) : Sem.run Tryz.prog (Instr.index 122 (.agg cs.toArray) (.int .i64 (i : Int))) w = .ok v w := by
  have hu : Tryz.prog.underlying 122 = some (.array 256 5) := Tryz.underlying122
  obtain ⟨z, hz⟩ : ∃ z, Tryz.prog.info? 5 = some z := Option.isSome_iff_exists.1 (by kernel_rfl)
  have hx : cs.toArray[i]? = some v := by simpa using hv
  have hr : 0 ≤ (i : Int) ∧ (i : Int) < ((256 : Nat) : Int) := by omega
  have hp := run_part_plain (P := Tryz.prog) w (e := 5) (by kernel_rfl) (xs := cs.toArray) (off := i) hx
  unfold Instr.index
  simp only [asIntOf, Sem.run_bind, Sem.run_pure, run_underlying hu, Result.andThen_ok, if_pos hr, run_sizeOf w hz, Int.toNat_natCast]
  rw [show i * Tryz.prog.cellsOf 5 = i from by rw [show Tryz.prog.cellsOf 5 = 1 from by kernel_rfl]; omega]
  exact hp
theorem cnt_next (i : Nat) (h : i < 256) : cntK (i + 1) = cntK i + has mapK (UInt8.ofNat i) := by
  have : ∀ i : Fin 256, cntK (i.val + 1) = cntK i.val + has mapK (UInt8.ofNat i.val) := by decide +kernel
  exact this ⟨i, h⟩
theorem cnt_in (i : Nat) : 0 ≤ cntK i ∧ cntK i ≤ 3 := by
  unfold cntK
  split <;> split <;> split <;> omega
theorem cnt_map (i : Nat) (h : i < 256) : mapF (UInt8.ofNat i) = if has mapK (UInt8.ofNat i) = 0 then 3 else cntK i := by
  have : ∀ i : Fin 256, mapF (UInt8.ofNat i.val) = if has mapK (UInt8.ofNat i.val) = 0 then 3 else cntK i.val := by decide +kernel
  exact this ⟨i, h⟩

def genK : List (List UInt8) := [[94, 94], [94, 110], [94, 39]]
def genS : List (List UInt8) := [[94, 94], [94], [94, 110], [10], [94, 39], [34]]
theorem make3 (W : World) : (Instr.makeSlice 137 (.int .i64 3) (.int .i64 3)).run Tryz.prog W = .ok (.slice (some ⟨W.heap.size, 0, none⟩) 3 3) (W.alloc (.cells #[.pointer none, .pointer none, .pointer none] 136)) := by
  have h := run_make_row' (P := Tryz.prog) 137 136 (.pointer none) 8 Tryz.underlying137 infoPtr rfl .i64 .i64 3 (by omega) (by omega) W
  have e : madeCells #[Value.pointer none] 3 = #[.pointer none, .pointer none, .pointer none] := by
    apply Array.ext
    · simp [madeCells]
    · intro i h1 h2
      simp [madeCells] at h1 ⊢
      have : i = 0 ∨ i = 1 ∨ i = 2 := by omega
      rcases this with rfl | rfl | rfl <;> rfl
  rw [e] at h
  exact h
theorem MS.table {w0 w : World} {R : Nat} (h : MS w0 w R mapF 3) : Rel w0 ((w.alloc (.cells #[.pointer none, .pointer none, .pointer none] 136)).setCell ⟨R, 4, none⟩ (.slice (some ⟨w.heap.size, 0, none⟩) 3 3)) R w.heap.size 0 := by
  have hR : R < w.heap.size := World.block_lt_of_cell? _ _ h.c5
  have hg := h.g.size
  have a := (Away.refl [] w).alloc (.cells #[.pointer none, .pointer none, .pointer none] 136)
  have c0 : ∀ j, j < 3 → (w.alloc (.cells #[.pointer none, .pointer none, .pointer none] 136)).cell? ⟨w.heap.size, j, none⟩ = some (.pointer none) := fun j hj => by
    rw [World.cell?_alloc_new]
    rcases (show j = 0 ∨ j = 1 ∨ j = 2 by omega) with rfl | rfl | rfl <;> rfl
  have hf : ∀ j, (w.alloc (.cells #[.pointer none, .pointer none, .pointer none] 136)).frozen? ⟨w.heap.size, j, none⟩ = false := fun j => World.frozen?_alloc_at _ _ _ _ rfl
  have n := h.root.away a (by simp)
  have c5 := a.held h.c5 (by simp)
  have mp := fun c => a.held (h.map c) (by simp)
  have g := h.g.alloc (.cells #[.pointer none, .pointer none, .pointer none] 136)
  generalize w.alloc _ = W at *
  refine ⟨⟨g.below.setCell (p := ⟨R, 4, none⟩) h.rl _, h.rl, by omega, by omega, n.set4 _, ?_, fun c => ?_, ?_, ?_⟩, ?_, ?_⟩
  · rw [World.cell?_setCell_other _ _ _ _ (by simp)]; exact c5
  · rw [World.cell?_setCell_other _ _ _ _ (by first | (simp; done) | (simp; omega))]; exact mp c
  · rw [World.cell?_setCell_other _ _ _ _ (by first | (simp; done) | (simp; omega))]; exact c0 0 (by omega)
  · rw [World.cell?_setCell_other _ _ _ _ (by first | (simp; done) | (simp; omega))]; exact c0 2 (by omega)
  · rw [World.cell?_setCell_other _ _ _ _ (by first | (simp; done) | (simp; omega))]; exact c0 1 (by omega)
  · rw [World.frozen?_setCell]; exact hf 1

set_option maxRecDepth 100000 in
set_option maxHeartbeats 4000000 in
theorem makeGeneric_any (w : World) (o cap : Nat) (h : StrsAt w o genS) : Makes 72 #[.slice (some ⟨o, 0, none⟩) 6 cap] w fun v w' => ∃ R A B C D T U, v = .pointer (some ⟨R, 0, none⟩) ∧ Trie w' R A B C D T U ∧ ∀ b ∈ [R, A, B, C, D, T, U], w.heap.size ≤ b := by
  have H := hid h
  clear h
  go_enter Tryz.func72, Tryz.ntmps72
  go_wp2_with fail
  have h0 : MS w (w.alloc (.cells Tryz.zeroCells141 141)) w.heap.size (has []) 0 := by
    rw [zgr_eq]
    refine ⟨(G.refl _).alloc _, Nat.le_refl _, ⟨?_, ?_, ?_, ?_, ?_, fun j => World.frozen?_alloc_at _ _ _ _ rfl⟩, ?_, fun c => ?_⟩
    case refine_7 =>
      rw [World.cell?_alloc_new, Array.getElem?_append_right (by simp)]
      have := c.toNat_lt
      rw [Array.getElem?_replicate, if_pos (by simp; omega)]
      rfl
    all_goals (rw [World.cell?_alloc_new]; rfl)
  obtain ⟨R, hR⟩ : ∃ R, R = w.heap.size := ⟨_, rfl⟩
  rw [← hR] at h0 ⊢
  clear hR
  generalize w.alloc _ = W0 at h0 ⊢
  go_loopw [4] (fun iv wr => ∃ k : Nat, iv = .int .i64 ((2 * k : Nat) : Int) ∧ k ≤ 3 ∧ MS w wr R (has (genK.take k).flatten) 0) (fun iv _ => 6 - (intOf iv).toNat)
  case atStart => exact ⟨0, rfl, Nat.zero_le _, h0⟩
  case round =>
    clear h0
    obtain ⟨k, rfl, hk, hms⟩ := hrel
    by_cases hlt : k < 3
    · have hkey : ∃ key : List UInt8, genS[2 * k]? = some key ∧ genK[k]? = some key ∧ key.length = 2 := by
        rcases (show k = 0 ∨ k = 1 ∨ k = 2 by omega) with rfl | rfl | rfl
        · exact ⟨_, rfl, rfl, rfl⟩
        · exact ⟨_, rfl, rfl, rfl⟩
        · exact ⟨_, rfl, rfl, rfl⟩
      obtain ⟨key, hs, hg, hl2⟩ := hkey
      have hs6 : 2 * k < genS.length := by show _ < 6; omega
      have hcell : wr.cell? ⟨o, 2 * k, none⟩ = some (.string (S key)) := by
        have := (H.out.grow hms.g).2 (2 * k) hs6
        rw [this]
        rw [List.getElem?_eq_getElem hs6] at hs
        injection hs with hs
        rw [hs]
      have hk6 : 2 * k < 6 := by omega
      obtain ⟨z, hz⟩ : ∃ z : Int, z = ((2 * k : Nat) : Int) := ⟨_, rfl⟩
      have hz0 : 0 ≤ z := by omega
      have hz6 : z < 6 := by omega
      have hzn : z.toNat = 2 * k := by omega
      rw [← hzn] at hcell
      rw [← hz]
      have HZ := hid hz
      have HZN := hid hzn
      clear hz hzn hk6
      have HMS := hid hms
      have HG := hid hg
      clear hms hs hg hs6
      go_wp2_with fail
      go_loopw [6] (fun jv wq => ∃ j : Nat, jv = .int .i64 (j : Int) ∧ j ≤ key.length ∧ MS w wq R (fun c => if c ∈ key.take j then 1 else has (genK.take k).flatten c) 0) (fun jv _ => key.length - (intOf jv).toNat)
      case atStart => exact ⟨0, rfl, Nat.zero_le _, HMS.out.congr (fun c => by simp)⟩
      case round =>
        obtain ⟨j, rfl, hj, hm2⟩ := hrel
        by_cases hjl : j < key.length
        · have hct : ((key[j].toNat : Nat) : Int) < 256 := by have := key[j].toNat_lt; omega
          have x := hm2.map key[j]
          have xf := hm2.root.fz (6 + key[j].toNat)
          have HM2 := hid hm2
          clear hm2
          have xd : wr.drew.cell? ⟨R, 6 + key[j].toNat, none⟩ = _ := x
          have xfd : wr.drew.frozen? ⟨R, 6 + key[j].toNat, none⟩ = false := xf
          clear x xf
          go_wp2_with fail
          go_still_tail 7, (by kernel_rfl)
          change wpList _ _ _ _ _ wr.drew
          generalize hWd : wr.drew = Wd at xd xfd ⊢
          go_wp2_with fail
          go_roundw
          case rel =>
            refine ⟨j + 1, by go_num, by omega, ?_⟩
            rw [← hWd]
            refine (HM2.out.drew.put key[j] 1).congr (fun d => ?_)
            exact put_take key j hjl _ d
          case measure => simp [intOf]; omega
        · have hje : j = key.length := by omega
          subst hje
          have HM2 := hid hm2
          clear hm2
          go_wp2_with fail
          go_roundw
          case rel =>
            refine ⟨k + 1, by have := HZ.out; go_num, by omega, HM2.out.congr (fun d => ?_)⟩
            simp only [List.take_length]
            exact flat_more genK k key HG.out d
          case measure => have := HZ.out; simp [intOf]; omega
    · have hk3 : k = 3 := by omega
      subst hk3
      have hrow := hms.row
      obtain ⟨cs, hcs⟩ : ∃ cs, rowOf (has mapK) = cs := ⟨_, rfl⟩
      have hlen : cs.length = 256 := by rw [← hcs]; exact rowOf_len _
      have hrow : wr.rangeAt R 6 cs := by rw [← hcs]; exact hms.row
      have HMS : Hid (MS w wr R (has mapK) 0) := hid hms
      have HCS := hid hcs
      have HLEN := hid hlen
      have HROW := hid hrow
      clear hms hcs hk hlt hlen hrow
      go_wp2_with fail
      refine' wp_load_mid _ _ rfl _ _ rfl cs _ HROW.out Tryz.underlying122 rfl ?hi ?rest
      (· rw [HLEN.out]; exact arr_info)
      go_wp2_with fail
      go_loopw [41] (fun iv wq => ∃ i : Nat, iv = .int .i64 (i : Int) ∧ i ≤ 256 ∧ MS w wq R (has mapK) (cntK i)) (fun iv _ => 256 - (intOf iv).toNat)
      case atStart => exact ⟨0, rfl, Nat.zero_le _, HMS.out⟩
      case round =>
        obtain ⟨i, rfl, hi, hm⟩ := hrel
        by_cases hlt : i < 256
        · have hii : (i : Int) < 256 := by omega
          have c5 := hm.c5
          have f5 := hm.root.fz 5
          have hcell : cs[i]? = some (.int .u8 (has mapK (UInt8.ofNat i))) := by rw [← HCS.out]; exact rowOf_at _ i hlt
          obtain ⟨v, hv⟩ : ∃ v, has mapK (UInt8.ofNat i) = v := ⟨_, rfl⟩
          rw [hv] at hcell
          have hv2 : v = 0 ∨ v = 1 := by rw [← hv]; unfold has; split <;> simp
          obtain ⟨t, ht⟩ : ∃ t, cntK i = t := ⟨_, rfl⟩
          have ht3 : 0 ≤ t ∧ t ≤ 3 := by rw [← ht]; exact cnt_in i
          have hn : cntK (i + 1) = t + v := by rw [cnt_next i hlt, hv, ht]
          obtain ⟨ht0, ht3⟩ := ht3
          rw [ht] at c5
          have hv0 : 0 ≤ v := by omega
          have hv1 : v ≤ 1 := by omega
          have HM := hid hm
          have HV := hid hv
          have HN := hid hn
          have HI := hid hi
          clear hm hv hv2 ht hn hi
          go_wp2_with fail
          rw [idx_arr wr cs i _ hlt hcell]
          go_wp2_with fail
          go_roundw
          case rel =>
            refine ⟨i + 1, by go_num, by omega, ?_⟩
            rw [HN.out]
            exact HM.out.sum (t + v)
          case measure => simp [intOf]; omega
        · have hie : i = 256 := by omega
          subst hie
          have hm3 : MS w wr R (has mapK) 3 := hm
          have hrow2 : wr.rangeAt R 6 cs := by rw [← HCS.out]; exact hm.row
          have HM := hid hm3
          have HR2 := hid hrow2
          clear hm hm3 hi hrow2 hlt
          go_wp2_with fail
          refine' wp_load_mid _ _ rfl _ _ rfl cs _ HR2.out Tryz.underlying122 rfl ?hj ?rest2
          (· rw [HLEN.out]; exact arr_info)
          go_wp2_with fail
          go_loopw [9, 58] (fun xv iv wq => ∃ i : Nat, iv = .int .i64 (i : Int) ∧ xv = .int .u8 (cntK i) ∧ i ≤ 256 ∧ MS w wq R (fun c => if c.toNat < i then mapF c else has mapK c) 3) (fun _ iv _ => 256 - (intOf iv).toNat)
          case atStart => exact ⟨0, rfl, rfl, Nat.zero_le _, HM.out⟩
          case round =>
            obtain ⟨i, rfl, rfl, hi, hm⟩ := hrel
            by_cases hlt : i < 256
            · have hii : (i : Int) < 256 := by omega
              have c5 := hm.c5
              have fz := hm.root.fz (6 + i)
              have fm := hm.map (UInt8.ofNat i)
              rw [show (UInt8.ofNat i).toNat = i from by simp <;> omega] at fm
              have hcell : cs[i]? = some (.int .u8 (has mapK (UInt8.ofNat i))) := by rw [← HCS.out]; exact rowOf_at _ i hlt
              obtain ⟨v, hv⟩ : ∃ v, has mapK (UInt8.ofNat i) = v := ⟨_, rfl⟩
              rw [hv] at hcell
              have hv2 : v = 0 ∨ v = 1 := by rw [← hv]; unfold has; split <;> simp
              obtain ⟨t, ht⟩ : ∃ t, cntK i = t := ⟨_, rfl⟩
              have ht3 : 0 ≤ t ∧ t ≤ 3 := by rw [← ht]; exact cnt_in i
              have hn : cntK (i + 1) = t + v := by rw [cnt_next i hlt, hv, ht]
              have hf : mapF (UInt8.ofNat i) = if v = 0 then 3 else t := by rw [cnt_map i hlt, hv, ht]
              have hmore : ∀ c : UInt8, (if c = UInt8.ofNat i then mapF (UInt8.ofNat i) else if c.toNat < i then mapF c else has mapK c) = if c.toNat < i + 1 then mapF c else has mapK c := fun c => by
                by_cases e : c = UInt8.ofNat i
                · subst e
                  rw [if_pos rfl, if_pos (by simp <;> omega)]
                · rw [if_neg e]
                  have : c.toNat ≠ i := fun e2 => e (UInt8.toNat_inj.1 (by rw [e2]; simp <;> omega))
                  by_cases e3 : c.toNat < i
                  · rw [if_pos e3, if_pos (by omega)]
                  · rw [if_neg e3, if_neg (by omega)]
              obtain ⟨ht0, ht3⟩ := ht3
              rw [ht]
              have HM := hid hm
              have HN := hid hn
              have HI := hid hi
              have HF := hid hf
              have HMORE := hid hmore
              clear hm hv ht hn hi hf hmore
              rcases hv2 with rfl | rfl
              · have c5d : wr.drew.cell? ⟨R, 5, none⟩ = _ := c5
                have fzd : wr.drew.frozen? ⟨R, 6 + i, none⟩ = false := fz
                have fmd : wr.drew.cell? ⟨R, 6 + i, none⟩ = _ := fm
                clear c5 fz fm
                go_wp2_with fail
                rw [idx_arr wr cs i _ hlt hcell]
                go_wp2_with fail
                go_still_tail 10, (by kernel_rfl)
                change wpList _ _ _ _ _ wr.drew
                generalize hWd : wr.drew = Wd at c5d fzd fmd ⊢
                go_wp2_with fail
                go_roundw
                case rel =>
                  refine ⟨i + 1, by go_num, by rw [HN.out, Int.add_zero], by omega, ?_⟩
                  rw [← hWd]
                  have := (HM.out.drew.put (UInt8.ofNat i) 3)
                  rw [show (UInt8.ofNat i).toNat = i from by simp <;> omega] at this
                  refine this.congr fun c => ?_
                  have := HMORE.out c
                  rw [HF.out] at this
                  exact this
                case measure => simp [intOf]; omega
              · go_wp2_with fail
                rw [idx_arr wr cs i _ hlt hcell]
                go_wp2_with fail
                go_roundw
                case rel =>
                  refine ⟨i + 1, by go_num, by rw [HN.out], by omega, ?_⟩
                  have := (HM.out.put (UInt8.ofNat i) t)
                  rw [show (UInt8.ofNat i).toNat = i from by simp <;> omega] at this
                  refine this.congr fun c => ?_
                  have := HMORE.out c
                  rw [HF.out, if_neg (show ¬ (1 : Int) = 0 by decide)] at this
                  exact this
                case measure => simp [intOf]; omega
            · have hie : i = 256 := by omega
              subst hie
              have hm3 : MS w wr R mapF 3 := hm.congr fun c => by rw [if_pos (by have := c.toNat_lt; omega)]
              have c5 := hm3.c5
              have hRs : R < wr.heap.size := World.block_lt_of_cell? _ _ c5
              have f4a : ∀ o, (wr.alloc o).frozen? ⟨R, 4, none⟩ = false := fun o => (World.frozen?_of_block (Below.heap_alloc _ _ _ hRs)).trans (hm3.root.fz 4)
              have c4a : ∀ o, (wr.alloc o).cell? ⟨R, 4, none⟩ = some (.slice none 0 0) := fun o => (World.cell?_alloc_lt _ _ ⟨R, 4, none⟩ hRs).trans hm3.root.c4
              have HM := hid hm3
              have HRS := hid hRs
              clear hm hm3 hi hlt hRs
              have hmk := make3 wr
              go_wp2_with fail
              obtain ⟨T, hT⟩ : ∃ T, T = wr.heap.size := ⟨_, rfl⟩
              rw [← hT]
              have g0 : Rel w ((wr.alloc (.cells #[.pointer none, .pointer none, .pointer none] 136)).setCell ⟨R, 4, none⟩ (.slice (some ⟨T, 0, none⟩) 3 3)) R T 0 := by
                rw [hT]; exact HM.out.table
              clear c4a f4a hmk
              generalize ((wr.alloc (.cells #[.pointer none, .pointer none, .pointer none] 136)).setCell ⟨R, 4, none⟩ (.slice (some ⟨T, 0, none⟩) 3 3)) = W5 at g0 ⊢
              clear hT c5
              go_loopw [12] (fun iv wq => ∃ k : Nat, iv = .int .i64 ((2 * k : Nat) : Int) ∧ k ≤ 3 ∧ Rel w wq R T k) (fun iv _ => 6 - (intOf iv).toNat)
              case atStart => exact ⟨0, rfl, Nat.zero_le _, g0⟩
              case round =>
                clear g0
                obtain ⟨k, rfl, hk, hr⟩ := hrel
                by_cases hlt : k < 3
                · obtain ⟨z, hz⟩ : ∃ z : Int, z = ((2 * k : Nat) : Int) := ⟨_, rfl⟩
                  have hz0 : 0 ≤ z := by omega
                  have hz6 : z < 6 := by omega
                  have hz1 : z + 1 < 6 := by omega
                  have hz2 : 0 ≤ z + 1 := by omega
                  have hw1 : IntKind.i64.wrap (z + 1) = z + 1 := IntWalk.i64_in _ (by omega)
                  have hw2 : IntKind.i64.wrap (6 - z) = 6 - z := IntWalk.i64_in _ (by omega)
                  have hzn : z.toNat = 2 * k := by omega
                  have hzm : (z + 1).toNat = 2 * k + 1 := by omega
                  have hat := H.out.grow hr.g
                  have s1 : wr.drew.cell? ⟨o, z.toNat, none⟩ = some (.string (S (keyK k))) := by
                    rw [hzn]
                    rcases (show k = 0 ∨ k = 1 ∨ k = 2 by omega) with rfl | rfl | rfl
                    · exact hat.2 0 (by decide)
                    · exact hat.2 2 (by decide)
                    · exact hat.2 4 (by decide)
                  have s2 : wr.drew.cell? ⟨o, (z + 1).toNat, none⟩ = some (.string (S (valK k))) := by
                    rw [hzm]
                    rcases (show k = 0 ∨ k = 1 ∨ k = 2 by omega) with rfl | rfl | rfl
                    · exact hat.2 1 (by decide)
                    · exact hat.2 3 (by decide)
                    · exact hat.2 5 (by decide)
                  have hd : Rel w wr.drew R T k := hr.keep (Away.refl _ _).drew (G.refl _).drew
                  have hcall := adds w wr.drew R T k hlt hd
                  rw [← hz] at hcall
                  have HZ := hid hz
                  have HC := hid hcall
                  rw [← hz]
                  clear hz hzn hzm hat hd hcall hr
                  go_wp2_with fail
                  go_still_tail 17, (by kernel_rfl)
                  change wpList _ _ _ _ _ wr.drew
                  generalize hWd : wr.drew = Wd at s1 s2 HC ⊢
                  go_wp2_with fail
                  (with_reducible refine HC.out.mono ?_)
                  rintro e w3 ⟨rfl, hr3⟩
                  have HR3 := hid hr3
                  clear hr3
                  go_wp2_with fail
                  go_roundw
                  case rel =>
                    repeat (apply Exists.intro)
                    exact ⟨⟨k + 1, by have := HZ.out; go_num, by omega, HR3.out⟩, rfl⟩
                  case measure => have := HZ.out; simp [intOf]; omega
                · have hk3 : k = 3 := by omega
                  subst hk3
                  have HR := hid hr
                  clear hr hk hlt
                  go_wp2_with fail
                  obtain ⟨g, A, B, C, D, U, ht, hb⟩ := HR.out
                  exact bodyPost_ret (results_tmp rfl _ _ _) rfl ⟨_, rfl, ⟨R, A, B, C, D, T, U, rfl, ht, hb⟩, g⟩

end Go.Proofs.YtccaknanagmmhaaGreat

namespace Go.Proofs.YtccaknanagmmhaaGreat
open Go.RowKit
set_option linter.unusedVariables false
set_option linter.unusedSimpArgs false

theorem Trie.away {bs : List Nat} {w w' : World} {R A B C D T U : Nat} (h : Trie w R A B C D T U) (a : Away bs w w') (hn : ∀ b ∈ [R, A, B, C, D, T, U], b ∉ bs) : Trie w' R A B C D T U := by
  have hR : R ∉ bs := hn R (by simp)
  have hA : A ∉ bs := hn A (by simp)
  have hB : B ∉ bs := hn B (by simp)
  have hC : C ∉ bs := hn C (by simp)
  have hD : D ∉ bs := hn D (by simp)
  have hT : T ∉ bs := hn T (by simp)
  have hU : U ∉ bs := hn U (by simp)
  exact ⟨⟨a.held h.root.v1 hR, a.held h.root.v4 hR⟩, a.held h.size hR, fun c => a.held (h.map c) hR, a.held h.t0 hT, a.held h.t1 hT, a.held h.t2 hT, ⟨a.held h.inner.v1 hA, a.held h.inner.v4 hA⟩, a.held h.u0 hU, a.held h.u1 hU, a.held h.u2 hU,
    ⟨a.held h.lb.v0 hB, a.held h.lb.v1 hB, a.held h.lb.v2 hB, a.held h.lb.v4 hB⟩, ⟨a.held h.lc.v0 hC, a.held h.lc.v1 hC, a.held h.lc.v2 hC, a.held h.lc.v4 hC⟩, ⟨a.held h.ld.v0 hD, a.held h.ld.v1 hD, a.held h.ld.v2 hD, a.held h.ld.v4 hD⟩⟩

/-- a replacer of texts that has not run yet -/
structure SState (w0 w : World) (B o cap : Nat) : Prop where
  bl : w0.heap.size ≤ B
  bh : B < w.heap.size
  fz : ∀ k, w.frozen? ⟨B, k, none⟩ = false
  c0 : w.cell? ⟨B, 0, none⟩ = some (.int .u32 0)
  c1 : w.cell? ⟨B, 1, none⟩ = some (.int .i32 0)
  c3 : w.cell? ⟨B, 3, none⟩ = some .nilIface
  c4 : w.cell? ⟨B, 4, none⟩ = some (.slice (some ⟨o, 0, none⟩) 6 cap)
  ob : o ≠ B
  ps : StrsAt w o genS
  g : G w0 w
theorem genS_at (j : Nat) (h : j < genS.length) : (genS.map fun l => Value.string (S l))[j]? = some (.string (S genS[j])) := by rw [List.getElem?_map, List.getElem?_eq_getElem h]; rfl
set_option maxRecDepth 100000 in
set_option maxHeartbeats 4000000 in
theorem newReplacer_strs (o cap : Nat) (w : World) (hp : StrsAt w o genS) :
    Makes 45 #[.slice (some ⟨o, 0, none⟩) 6 cap] w fun v w' => ∃ B o' cap', v = .pointer (some ⟨B, 0, none⟩) ∧ SState w w' B o' cap' := by
  have HP := hid hp
  clear hp
  obtain ⟨xs, hxs⟩ : ∃ xs : List Value, xs = genS.map fun l => .string (S l) := ⟨_, rfl⟩
  have HXA : Hid (∀ (j : Nat) (h : j < genS.length), xs[j]? = some (.string (S genS[j]))) := hid (fun j h => by rw [hxs]; exact genS_at j h)
  have HX1 : Hid (∀ u ∈ xs, u.oneCell' = true) := hid (fun u hu => by
    rw [hxs] at hu
    obtain ⟨a, _, rfl⟩ := List.mem_map.1 hu
    rfl)
  have HXL : Hid (xs.length = 6) := hid (by rw [hxs]; rfl)
  have HNEW : Hid (∀ j u, xs[j]? = some u → w.cell? ((⟨o, 0, none⟩ : Addr).add j) = some u) := hid (fun j u hj => by
    rw [addZ]
    have hjn : j < genS.length := by
      rcases Nat.lt_or_ge j xs.length with h | h
      · have := HXL.out; show j < 6; omega
      · rw [List.getElem?_eq_none h] at hj; cases hj
    have a1 := HXA.out j hjn
    rw [HP.out.2 j hjn, ← hj, a1])
  clear hxs
  obtain ⟨i0, hi, hz0, hz1, hz2⟩ := info_parts info_string
  go_enter Tryz.func45, Tryz.ntmps45
  go_wp2_with (at_builtin; refine wpList_append_lies _ rfl _ _ 39 rfl w.heap.size 9 i0 _ 1 16 Tryz.underlying39 hi hz0 hz1 hz2 rfl (by decide) _ 0 [] rfl (World.ownsRow_nil _ _ _ _) ⟨o, 0, none⟩ 6 cap xs rfl (by rw [HXL.out]) HNEW.out HX1.out (by omega) ?c3 ?c4 (Nat.le_refl _) _ rfl ?_)
  case c3 => unfold maxLen; omega
  case c4 => omega
  intro g cap2 w1 hown hgrow hat hlt
  have hg1 : G w w1 := Below.grown (G.refl w) hgrow (Nat.le_refl _) (by simp [Value.ownBlock])
  have hp1 : StrsAt w1 g genS := by
    refine ⟨hlt, fun j hj => ?_⟩
    have a1 := HXA.out j hj
    have c1 := hown.cellAt j (by have : j < 6 := hj; omega)
    rw [c1, a1]
  have HG1 := hid hg1
  have HP1 := hid hp1
  clear hown hgrow hat hg1 hp1
  go_wp2_with fail
  go_ret
  exact ⟨_, rfl, ⟨w1.heap.size, g, cap2, rfl, ⟨HG1.out.size, by simp, fun k => World.frozen?_alloc_at _ _ _ _ rfl, by simp, by simp, by simp, by simp, by have := HP1.out.1; omega, HP1.out.grow ((G.refl _).alloc _), HG1.out.alloc _⟩⟩, HG1.out.alloc _⟩

set_option maxRecDepth 100000 in
set_option maxHeartbeats 4000000 in
theorem buildGen_any (b o cap : Nat) (w : World) (hr : w.cell? ⟨b, 4, none⟩ = some (.slice (some ⟨o, 0, none⟩) 6 cap)) (hp : StrsAt w o genS) :
    Makes 65 #[.pointer (some ⟨b, 0, none⟩)] w fun v w' => ∃ R A B C D T U, v = .iface 120 (.pointer (some ⟨R, 0, none⟩)) ∧ Trie w' R A B C D T U ∧ ∀ x ∈ [R, A, B, C, D, T, U], w.heap.size ≤ x := by
  have c0 : w.cell? ⟨o, 0, none⟩ = some (.string (S [94, 94])) := hp.2 0 (by decide)
  have HP := hid hp
  clear hp
  go_enter Tryz.func65, Tryz.ntmps65
  go_wp2_with fail
  refine wp_loop_rounds 1 ?_
  rw [rounds_succ]
  go_wp2_with fail
  refine (makeGeneric_any w o cap HP.out).use ?_
  rintro v w1 ⟨R, A, B, C, D, T, U, rfl, ht, hb⟩ g1
  have HT := hid ht
  have HB := hid hb
  have HG := hid g1
  clear ht hb g1
  go_wp2_with fail
  go_ret
  exact ⟨_, rfl, ⟨R, A, B, C, D, T, U, rfl, HT.out, HB.out⟩, HG.out⟩

/-- the replacer has been built -/
structure GBuilt (w0 w : World) (X R A B C D T U : Nat) (d m : Int) : Prop where
  g : G w0 w
  tr : Trie w R A B C D T U
  hi : ∀ x ∈ [R, A, B, C, D, T, U], x ≠ X
  c0 : w.cell? ⟨X, 0, none⟩ = some (.int .u32 d)
  c1 : w.cell? ⟨X, 1, none⟩ = some (.int .i32 m)
  c3 : w.cell? ⟨X, 3, none⟩ = some (.iface 120 (.pointer (some ⟨R, 0, none⟩)))
  fz : ∀ k, w.frozen? ⟨X, k, none⟩ = false
theorem GBuilt.set {w0 w : World} {X R A B C D T U k : Nat} {d m d' m' : Int} {v : Value} (h : GBuilt w0 w X R A B C D T U d m) (hbl : w0.heap.size ≤ X) (hk : (k = 0 ∧ v = .int .u32 d' ∧ m' = m) ∨ (k = 1 ∧ v = .int .i32 m' ∧ d' = d)) :
    GBuilt w0 (w.setCell ⟨X, k, none⟩ v) X R A B C D T U d' m' := by
  refine ⟨h.g.below.setCell (p := ⟨X, k, none⟩) hbl _, h.tr.away ((Away.refl [X] w).set X k v (.inl (by simp))) (fun x hx => by simpa using h.hi x hx), h.hi, ?_, ?_, ?_, fun j => by rw [World.frozen?_setCell]; exact h.fz j⟩
  all_goals rcases hk with ⟨rfl, rfl, rfl⟩ | ⟨rfl, rfl, rfl⟩
  · exact World.cell?_setCell_same _ _ _ h.c0
  · rw [World.cell?_setCell_other _ _ _ _ (by simp)]; exact h.c0
  · rw [World.cell?_setCell_other _ _ _ _ (by simp)]; exact h.c1
  · exact World.cell?_setCell_same _ _ _ h.c1
  · rw [World.cell?_setCell_other _ _ _ _ (by simp)]; exact h.c3
  · rw [World.cell?_setCell_other _ _ _ _ (by simp)]; exact h.c3
theorem GBuilt.drew {w0 w : World} {X R A B C D T U : Nat} {d m : Int} (h : GBuilt w0 w X R A B C D T U d m) : GBuilt w0 w.drew X R A B C D T U d m :=
  ⟨h.g.drew, h.tr.away (Away.refl [] w).drew (by simp), h.hi, h.c0, h.c1, h.c3, h.fz⟩

set_option maxRecDepth 100000 in
set_option maxHeartbeats 4000000 in
theorem buildOnceGen_any (w0 w : World) (X o cap : Nat) (hbl : w0.heap.size ≤ X) (hbh : X < w.heap.size) (hg0 : G w0 w) (hp : StrsAt w o genS) (fz : ∀ k, w.frozen? ⟨X, k, none⟩ = false)
    (c0 : w.cell? ⟨X, 0, none⟩ = some (.int .u32 0)) (c1 : w.cell? ⟨X, 1, none⟩ = some (.int .i32 1)) (c3 : w.cell? ⟨X, 3, none⟩ = some .nilIface) (c4 : w.cell? ⟨X, 4, none⟩ = some (.slice (some ⟨o, 0, none⟩) 6 cap)) :
    Calls Tryz.prog 56 #[.pointer (some ⟨X, 0, none⟩)] w fun e w' => e = .returned (.tuple #[]) ∧ ∃ R A B C D T U, GBuilt w0 w' X R A B C D T U 0 1 := by
  have HPA := hid hp
  clear hp
  go_enter Tryz.func56, Tryz.ntmps56
  go_wp2_with fail
  refine (buildGen_any X o cap w c4 HPA.out).use ?_
  rintro v w1 ⟨R, A, B, C, D, T, U, rfl, ht, hx⟩ g1
  have d0 := (g1.cell (p := ⟨X, 0, none⟩) hbh).trans c0
  have d1 := (g1.cell (p := ⟨X, 1, none⟩) hbh).trans c1
  have d3 := (g1.cell (p := ⟨X, 3, none⟩) hbh).trans c3
  have d4 := (g1.cell (p := ⟨X, 4, none⟩) hbh).trans c4
  have z : ∀ k, w1.frozen? ⟨X, k, none⟩ = false := fun k => (Below.frozen g1 (p := ⟨X, k, none⟩) hbh).trans (fz k)
  have z3 := z 3
  have z4 := z 4
  have g01 := hg0.trans g1
  have hne : ∀ x ∈ [R, A, B, C, D, T, U], x ≠ X := fun x hx' => by have := hx x hx'; omega
  have D : Hid (GBuilt w0 ((w1.setCell ⟨X, 3, none⟩ (.iface 120 (.pointer (some ⟨R, 0, none⟩)))).setCell ⟨X, 4, none⟩ (.slice none 0 0)) X R A B C D T U 0 1) := hid (by
    refine ⟨(g01.below.setCell (p := ⟨X, 3, none⟩) hbl _).setCell (p := ⟨X, 4, none⟩) hbl _, ht.away (((Away.refl [X] w1).set X 3 _ (.inl (by simp))).set X 4 _ (.inl (by simp))) (fun x hx => by simpa using hne x hx), hne, ?_, ?_, ?_, fun k => by rw [World.frozen?_setCell, World.frozen?_setCell]; exact z k⟩
    · rw [World.cell?_setCell_other _ _ _ _ (by simp), World.cell?_setCell_other _ _ _ _ (by simp)]; exact d0
    · rw [World.cell?_setCell_other _ _ _ _ (by simp), World.cell?_setCell_other _ _ _ _ (by simp)]; exact d1
    · rw [World.cell?_setCell_other _ _ _ _ (by simp)]; exact World.cell?_setCell_same _ _ _ d3)
  clear ht hx hne g01 g1
  go_wp2_with fail
  go_end0
  exact ⟨rfl, R, A, B, C, _, T, U, D.out⟩

theorem replace_methodG (a : Addr) (w : World) : (method 287 120 (.pointer (some a)) "Replace").run Tryz.prog w = .ok (119, .pointer (some a)) w := by kernel_rfl
set_option maxRecDepth 100000 in
set_option maxHeartbeats 4000000 in
theorem replaceGen_any (w0 w : World) (X o cap : Nat) (s : List UInt8) (h : SState w0 w X o cap) (hs : s.length ≤ 100000) :
    Calls Tryz.prog 46 #[.pointer (some ⟨X, 0, none⟩), .string (S s)] w fun e w' => e = .returned (.string (S (decL s))) ∧ G w0 w' := by
  have H := hid h
  clear h
  have hmf : ∀ (fn : Fn) (first cap : Array Value) (w : World), (Instr.makeFunc fn first cap).run Tryz.prog w = .ok (.func fn first cap) w := fun _ _ _ _ => rfl
  have hmeth : ∀ (a : Addr) (w : World), (method 287 120 (.pointer (some a)) "Replace").run Tryz.prog w = .ok (119, .pointer (some a)) w := fun a w => replace_methodG a w
  go_enter Tryz.func46, Tryz.ntmps46
  go_wp2_with fail
  have hg1 : G w0 (w.setCell ⟨X, 1, none⟩ (.int .i32 1)) := H.out.g.below.setCell (p := ⟨X, 1, none⟩) H.out.bl _
  have hpa : StrsAt (w.setCell ⟨X, 1, none⟩ (.int .i32 1)) o genS := by
    refine ⟨by simpa [World.setCell] using H.out.ps.1, fun j hj => ?_⟩
    have hne : o ≠ X := H.out.ob
    rw [World.cell?_setCell_other _ _ _ _ (by first | (simp; done) | (simp; omega))]
    exact H.out.ps.2 j hj
  refine Calls.mono (onceDo_any (.pointer (some ⟨X, 0, none⟩)) X 0 w (fun w' => ∃ R A B C D T U, GBuilt w0 w' X R A B C D T U 0 1) H.out.c0 H.out.c1 (H.out.fz 0) (H.out.fz 1) ?once) ?_
  case once =>
    rw [setCell_zero_add]
    refine Calls.mono (buildOnceGen_any w0 _ X o cap H.out.bl (by simpa [World.setCell] using H.out.bh) hg1 hpa (fun k => by rw [World.frozen?_setCell]; exact H.out.fz k) ?_ ?_ ?_ ?_) ?_
    · rw [World.cell?_setCell_other _ _ _ _ (by simp)]; exact H.out.c0
    · exact World.cell?_setCell_same _ _ _ H.out.c1
    · rw [World.cell?_setCell_other _ _ _ _ (by simp)]; exact H.out.c3
    · rw [World.cell?_setCell_other _ _ _ _ (by simp)]; exact H.out.c4
    · rintro e w' ⟨rfl, R, A, B, C, D, T, U, hb⟩
      exact ⟨rfl, ⟨R, A, B, C, D, T, U, hb⟩, hb.c0, hb.fz 0, hb.c1, hb.fz 1⟩
  rintro e w' ⟨rfl, w1, ⟨R, A, B, C, D, T, U, hb⟩, rfl⟩
  rw [setCell_zero_add]
  have hb2 := ((hb.drew.set (k := 0) (v := .int .u32 1) (d' := 1) (m' := 1) H.out.bl (.inl ⟨rfl, rfl, rfl⟩))).set (k := 1) (v := .int .i32 0) (d' := 1) (m' := 0) H.out.bl (.inr ⟨rfl, rfl, rfl⟩)
  obtain ⟨w2, hw2⟩ : ∃ w2, (w1.drew.setCell ⟨X, 0, none⟩ (.int .u32 1)).setCell ⟨X, 1, none⟩ (.int .i32 0) = w2 := ⟨_, rfl⟩
  rw [hw2] at hb2 ⊢
  have HB := hid hb2
  have hc3 := hb2.c3
  clear hw2 hb hb2 hg1 hpa
  go_wp2_with fail
  refine (greplace_any w2 s R A B C D T U HB.out.tr hs).use ?_
  intro w3 g3
  have G3 : Hid (G w0 w3) := hid (HB.out.g.trans g3)
  clear g3
  go_wp2_with fail
  go_ret
  exact ⟨rfl, G3.out⟩

set_option maxRecDepth 100000 in
set_option maxHeartbeats 4000000 in
theorem decode_any (s : List UInt8) (w : World) (hs : s.length ≤ 100000) : Gives 59 #[.string (S s)] w (.string (S (decL s))) := by
  have hpa : StrsAt (w.alloc (.cells #[.string ⟨#[94, 94]⟩, .string ⟨#[94]⟩, .string ⟨#[94, 110]⟩, .string ⟨#[10]⟩, .string ⟨#[94, 39]⟩, .string ⟨#[34]⟩] 9)) w.heap.size genS := ⟨by simp, fun j hj => by
    rw [World.cell?_alloc_new]
    match j, hj with
    | 0, _ => rfl
    | 1, _ => rfl
    | 2, _ => rfl
    | 3, _ => rfl
    | 4, _ => rfl
    | 5, _ => rfl
    | n + 6, h => simp [genS] at h; omega⟩
  have HPA := hid hpa
  clear hpa
  go_enter Tryz.func59, Tryz.ntmps59
  go_wp2_with fail
  refine (newReplacer_strs w.heap.size 6 _ HPA.out).use ?_
  rintro v w1 ⟨B, o', cap', rfl, hr⟩ g1
  have HR := hid hr
  have g0 : G w _ := (G.refl w).alloc (.cells #[.string ⟨#[94, 94]⟩, .string ⟨#[94]⟩, .string ⟨#[94, 110]⟩, .string ⟨#[10]⟩, .string ⟨#[94, 39]⟩, .string ⟨#[34]⟩] 9)
  have HG0 := hid g0
  clear hr g0 g1
  go_wp2_with fail
  refine Calls.mono (replaceGen_any _ w1 B o' cap' s HR.out hs) ?_
  rintro e w2 ⟨rfl, g2⟩
  have G2 := hid (HG0.out.trans g2)
  clear g2
  go_wp2_with fail
  go_ret
  exact ⟨rfl, G2.out⟩

end Go.Proofs.YtccaknanagmmhaaGreat
