/-
  CONTRACT of strings.makeGenericReplacer at caret.Decode's pairs (under way).
-/
import Derived.Test.YthbjabjchfmmoaaGenAdds
import Derived.Test.YthbjabjchfmmoaaReplBuild
import Derived.Deep.MidRow
import Derived.Deep.OwnRows
namespace Go.Proofs.Ythbjabjchfmmoaa
open Go.RowKit
set_option linter.unusedVariables false
set_option linter.unusedSimpArgs false

/-- texts in a row -/
def StrsAt (w : World) (o : Nat) (xs : List (List UInt8)) : Prop := o < w.heap.size ∧ ∀ (j : Nat) (h : j < xs.length), w.cell? ⟨o, j, none⟩ = some (.string (S xs[j]))
theorem StrsAt.grow {w w' : World} {o : Nat} {xs : List (List UInt8)} (h : StrsAt w o xs) (g : G w w') : StrsAt w' o xs := ⟨Nat.lt_of_lt_of_le h.1 g.size, fun j hj => by rw [g.cell h.1]; exact h.2 j hj⟩

def has (ks : List UInt8) (c : UInt8) : Int := if c ∈ ks then 1 else 0
/-- the replacer while its table of bytes is made -/
structure MS (w0 w : World) (R : Nat) (f : UInt8 → Int) (ts : Int) : Prop where
  g : G w0 w
  rl : w0.heap.size ≤ R
  root : Node w R 0 [] 0 [] (.pointer none) (.slice none 0 0)
  c5 : w.cell? ⟨R, 5, none⟩ = some (.int .i64 ts)
  map : ∀ c : UInt8, w.cell? ⟨R, 6 + c.toNat, none⟩ = some (.int .u8 (f c))
theorem MS.put {w0 w : World} {R : Nat} {f : UInt8 → Int} {ts : Int} (h : MS w0 w R f ts) (c : UInt8) (v : Int) : MS w0 (w.setCell ⟨R, 6 + c.toNat, none⟩ (.int .u8 v)) R (fun c' => if c' = c then v else f c') ts := by
  have r := h.root
  have o : ∀ j, j < 6 → (w.setCell ⟨R, 6 + c.toNat, none⟩ (.int .u8 v)).cell? ⟨R, j, none⟩ = w.cell? ⟨R, j, none⟩ := fun j hj => World.cell?_setCell_other _ _ _ _ (by first | (simp; done) | (simp; omega))
  refine ⟨h.g.below.setCell (p := ⟨R, 6 + c.toNat, none⟩) h.rl _, h.rl, ⟨(o _ (by omega)).trans r.c0, (o _ (by omega)).trans r.c1, (o _ (by omega)).trans r.c2, (o _ (by omega)).trans r.c3, (o _ (by omega)).trans r.c4, fun j => by rw [World.frozen?_setCell]; exact r.fz j⟩, (o _ (by omega)).trans h.c5, fun d => ?_⟩
  by_cases e : d = c
  · subst e
    rw [if_pos rfl]
    exact World.cell?_setCell_same _ _ _ (h.map d)
  · rw [if_neg e, World.cell?_setCell_other _ _ _ _ (by simp; intro e2; exact e (UInt8.toNat_inj.1 e2.symm))]
    exact h.map d
theorem MS.sum {w0 w : World} {R : Nat} {f : UInt8 → Int} {ts : Int} (h : MS w0 w R f ts) (t : Int) : MS w0 (w.setCell ⟨R, 5, none⟩ (.int .i64 t)) R f t := by
  have r := h.root
  have o : ∀ j, j ≠ 5 → (w.setCell ⟨R, 5, none⟩ (.int .i64 t)).cell? ⟨R, j, none⟩ = w.cell? ⟨R, j, none⟩ := fun j hj => World.cell?_setCell_other _ _ _ _ (by first | (simp; done) | (simp; omega))
  exact ⟨h.g.below.setCell (p := ⟨R, 5, none⟩) h.rl _, h.rl, ⟨(o _ (by omega)).trans r.c0, (o _ (by omega)).trans r.c1, (o _ (by omega)).trans r.c2, (o _ (by omega)).trans r.c3, (o _ (by omega)).trans r.c4, fun j => by rw [World.frozen?_setCell]; exact r.fz j⟩, World.cell?_setCell_same _ _ _ h.c5, fun d => (o _ (by omega)).trans (h.map d)⟩
theorem MS.drew {w0 w : World} {R : Nat} {f : UInt8 → Int} {ts : Int} (h : MS w0 w R f ts) : MS w0 w.drew R f ts :=
  ⟨h.g.drew, h.rl, ⟨h.root.c0, h.root.c1, h.root.c2, h.root.c3, h.root.c4, h.root.fz⟩, h.c5, h.map⟩
theorem MS.congr {w0 w : World} {R : Nat} {f f' : UInt8 → Int} {ts : Int} (h : MS w0 w R f ts) (e : ∀ c, f c = f' c) : MS w0 w R f' ts := by
  have : f = f' := funext e
  rw [← this]; exact h

theorem zgr_eq : Try.zeroCells89 = (#[.string ⟨#[]⟩, .int .i64 0, .string ⟨#[]⟩, .pointer none, .slice none 0 0, .int .i64 0] : Array Value) ++ Array.replicate 256 (.int .u8 0) := by kernel_rfl

theorem put_take (key : List UInt8) (j : Nat) (h : j < key.length) (f : UInt8 → Int) (d : UInt8) : (if d = key[j] then (1 : Int) else if d ∈ key.take j then 1 else f d) = if d ∈ key.take (j + 1) then 1 else f d := by
  rw [List.take_succ_eq_append_getElem h]
  simp only [List.mem_append, List.mem_singleton]
  by_cases e : d = key[j]
  · rw [if_pos e, if_pos (.inr e)]
  · rw [if_neg e]
    by_cases e2 : d ∈ key.take j
    · rw [if_pos e2, if_pos (.inl e2)]
    · rw [if_neg e2, if_neg (by rintro (h | h); exact e2 h; exact e h)]
theorem flat_more (L : List (List UInt8)) (k : Nat) (key : List UInt8) (h : L[k]? = some key) (d : UInt8) : (if d ∈ key then (1 : Int) else has (L.take k).flatten d) = has (L.take (k + 1)).flatten d := by
  obtain ⟨hk, e⟩ := List.getElem?_eq_some_iff.1 h
  rw [List.take_succ_eq_append_getElem hk, e]
  unfold has
  simp only [List.flatten_append, List.mem_append, List.flatten_cons, List.flatten_nil, List.append_nil]
  by_cases e1 : d ∈ key
  · rw [if_pos e1, if_pos (.inr e1)]
  · rw [if_neg e1]
    by_cases e2 : d ∈ (L.take k).flatten
    · rw [if_pos e2, if_pos (.inl e2)]
    · rw [if_neg e2, if_neg (by rintro (h | h); exact e2 h; exact e1 h)]
/-- the array's cells, as a value -/
def rowOf (f : UInt8 → Int) : List Value := (List.range 256).map fun i => .int .u8 (f (UInt8.ofNat i))
theorem rowOf_len (f : UInt8 → Int) : (rowOf f).length = 256 := by simp [rowOf]
theorem rowOf_at (f : UInt8 → Int) (i : Nat) (h : i < 256) : (rowOf f)[i]? = some (.int .u8 (f (UInt8.ofNat i))) := by simp [rowOf, h]
theorem MS.row {w0 w : World} {R : Nat} {f : UInt8 → Int} {ts : Int} (h : MS w0 w R f ts) : w.rangeAt R 6 (rowOf f) := fun j v hv => by
  have hj : j < 256 := by
    have := (List.getElem?_eq_some_iff.1 hv).1
    rw [rowOf_len] at this; exact this
  rw [rowOf_at f j hj] at hv
  injection hv with hv
  have := h.map (UInt8.ofNat j)
  rw [show (UInt8.ofNat j).toNat = j from by simp <;> omega] at this
  rw [this, hv]
theorem arr_info : (Try.prog.info? 69).map (·.size) = some 256 := by kernel_rfl
def mapK : List UInt8 := [94, 94, 94, 110, 94, 39]
def cntK (i : Nat) : Int := (if 39 < i then 1 else 0) + (if 94 < i then 1 else 0) + (if 110 < i then 1 else 0)

theorem idx_arr (w : World) (cs : List Value) (i : Nat) (v : Value) (hi : i < 256) (hv : cs[i]? = some v) : Sem.run Try.prog (Instr.index 69 (.agg cs.toArray) (.int .i64 (i : Int))) w = .ok v w := by
  have hu : Try.prog.underlying 69 = some (.array 256 5) := Try.underlying69
  obtain ⟨z, hz⟩ : ∃ z, Try.prog.info? 5 = some z := Option.isSome_iff_exists.1 (by kernel_rfl)
  have hx : cs.toArray[i]? = some v := by simpa using hv
  have hr : 0 ≤ (i : Int) ∧ (i : Int) < ((256 : Nat) : Int) := by omega
  have hp := run_part_plain (P := Try.prog) w (e := 5) (by kernel_rfl) (xs := cs.toArray) (off := i) hx
  unfold Instr.index
  simp only [asIntOf, Sem.run_bind, Sem.run_pure, run_underlying hu, Result.andThen_ok, if_pos hr, run_sizeOf w hz, Int.toNat_natCast]
  rw [show i * Try.prog.cellsOf 5 = i from by rw [show Try.prog.cellsOf 5 = 1 from by kernel_rfl]; omega]
  exact hp
theorem cnt_next (i : Nat) (h : i < 256) : cntK (i + 1) = cntK i + has mapK (UInt8.ofNat i) := by
  have : ∀ i : Fin 256, cntK (i.val + 1) = cntK i.val + has mapK (UInt8.ofNat i.val) := by decide +kernel
  exact this ⟨i, h⟩
theorem cnt_in (i : Nat) : 0 ≤ cntK i ∧ cntK i ≤ 3 := by
  unfold cntK
  split <;> split <;> split <;> omega
theorem cnt_map (i : Nat) (h : i < 256) : mapF (UInt8.ofNat i) = if has mapK (UInt8.ofNat i) = 0 then 3 else cntK i := by
  have : ∀ i : Fin 256, mapF (UInt8.ofNat i.val) = if has mapK (UInt8.ofNat i.val) = 0 then 3 else cntK i.val := by decide +kernel
  exact this ⟨i, h⟩

def genK : List (List UInt8) := [[94, 94], [94, 110], [94, 39]]
def genS : List (List UInt8) := [[94, 94], [94], [94, 110], [10], [94, 39], [34]]
theorem make3 (W : World) : (Instr.makeSlice 85 (.int .i64 3) (.int .i64 3)).run Try.prog W = .ok (.slice (some ⟨W.heap.size, 0, none⟩) 3 3) (W.alloc (.cells #[.pointer none, .pointer none, .pointer none] 84)) := by
  have h := run_make_row' (P := Try.prog) 85 84 (.pointer none) 8 Try.underlying85 infoPtr rfl .i64 .i64 3 (by omega) (by omega) W
  have e : madeCells #[Value.pointer none] 3 = #[.pointer none, .pointer none, .pointer none] := by
    apply Array.ext
    · simp [madeCells]
    · intro i h1 h2
      simp [madeCells] at h1 ⊢
      have : i = 0 ∨ i = 1 ∨ i = 2 := by omega
      rcases this with rfl | rfl | rfl <;> rfl
  rw [e] at h
  exact h
theorem MS.table {w0 w : World} {R : Nat} (h : MS w0 w R mapF 3) : Rel w0 ((w.alloc (.cells #[.pointer none, .pointer none, .pointer none] 84)).setCell ⟨R, 4, none⟩ (.slice (some ⟨w.heap.size, 0, none⟩) 3 3)) R w.heap.size 0 := by
  have hR : R < w.heap.size := World.block_lt_of_cell? _ _ h.c5
  have hg := h.g.size
  have a := (Away.refl [] w).alloc (.cells #[.pointer none, .pointer none, .pointer none] 84)
  have c0 : ∀ j, j < 3 → (w.alloc (.cells #[.pointer none, .pointer none, .pointer none] 84)).cell? ⟨w.heap.size, j, none⟩ = some (.pointer none) := fun j hj => by
    rw [World.cell?_alloc_new]
    rcases (show j = 0 ∨ j = 1 ∨ j = 2 by omega) with rfl | rfl | rfl <;> rfl
  have hf : ∀ j, (w.alloc (.cells #[.pointer none, .pointer none, .pointer none] 84)).frozen? ⟨w.heap.size, j, none⟩ = false := fun j => World.frozen?_alloc_at _ _ _ _ rfl
  have n := h.root.away a (by simp)
  have c5 := a.held h.c5 (by simp)
  have mp := fun c => a.held (h.map c) (by simp)
  have g := h.g.alloc (.cells #[.pointer none, .pointer none, .pointer none] 84)
  generalize w.alloc _ = W at *
  refine ⟨⟨g.below.setCell (p := ⟨R, 4, none⟩) h.rl _, h.rl, by omega, by omega, n.set4 _, ?_, fun c => ?_, ?_, ?_⟩, ?_, ?_⟩
  · rw [World.cell?_setCell_other _ _ _ _ (by simp)]; exact c5
  · rw [World.cell?_setCell_other _ _ _ _ (by first | (simp; done) | (simp; omega))]; exact mp c
  · rw [World.cell?_setCell_other _ _ _ _ (by first | (simp; done) | (simp; omega))]; exact c0 0 (by omega)
  · rw [World.cell?_setCell_other _ _ _ _ (by first | (simp; done) | (simp; omega))]; exact c0 2 (by omega)
  · rw [World.cell?_setCell_other _ _ _ _ (by first | (simp; done) | (simp; omega))]; exact c0 1 (by omega)
  · rw [World.frozen?_setCell]; exact hf 1

set_option maxRecDepth 100000 in
set_option maxHeartbeats 4000000 in
theorem makeGeneric_any (w : World) (o cap : Nat) (h : StrsAt w o genS) : Makes 30 #[.slice (some ⟨o, 0, none⟩) 6 cap] w fun v w' => ∃ R A B C D T U, v = .pointer (some ⟨R, 0, none⟩) ∧ Trie w' R A B C D T U ∧ ∀ b ∈ [R, A, B, C, D, T, U], w.heap.size ≤ b := by
  have H := hid h
  clear h
  go_enter Try.func30, Try.ntmps30
  go_wp2_with fail
  have h0 : MS w (w.alloc (.cells Try.zeroCells89 89)) w.heap.size (has []) 0 := by
    rw [zgr_eq]
    refine ⟨(G.refl _).alloc _, Nat.le_refl _, ⟨?_, ?_, ?_, ?_, ?_, fun j => World.frozen?_alloc_at _ _ _ _ rfl⟩, ?_, fun c => ?_⟩
    case refine_7 =>
      rw [World.cell?_alloc_new, Array.getElem?_append_right (by simp)]
      have := c.toNat_lt
      rw [Array.getElem?_replicate, if_pos (by simp; omega)]
      rfl
    all_goals (rw [World.cell?_alloc_new]; rfl)
  obtain ⟨R, hR⟩ : ∃ R, R = w.heap.size := ⟨_, rfl⟩
  rw [← hR] at h0 ⊢
  clear hR
  generalize w.alloc _ = W0 at h0 ⊢
  go_loopw [4] (fun iv wr => ∃ k : Nat, iv = .int .i64 ((2 * k : Nat) : Int) ∧ k ≤ 3 ∧ MS w wr R (has (genK.take k).flatten) 0) (fun iv _ => 6 - (intOf iv).toNat)
  case atStart => exact ⟨0, rfl, Nat.zero_le _, h0⟩
  case round =>
    clear h0
    obtain ⟨k, rfl, hk, hms⟩ := hrel
    by_cases hlt : k < 3
    · have hkey : ∃ key : List UInt8, genS[2 * k]? = some key ∧ genK[k]? = some key ∧ key.length = 2 := by
        rcases (show k = 0 ∨ k = 1 ∨ k = 2 by omega) with rfl | rfl | rfl
        · exact ⟨_, rfl, rfl, rfl⟩
        · exact ⟨_, rfl, rfl, rfl⟩
        · exact ⟨_, rfl, rfl, rfl⟩
      obtain ⟨key, hs, hg, hl2⟩ := hkey
      have hs6 : 2 * k < genS.length := by show _ < 6; omega
      have hcell : wr.cell? ⟨o, 2 * k, none⟩ = some (.string (S key)) := by
        have := (H.out.grow hms.g).2 (2 * k) hs6
        rw [this]
        rw [List.getElem?_eq_getElem hs6] at hs
        injection hs with hs
        rw [hs]
      have hk6 : 2 * k < 6 := by omega
      obtain ⟨z, hz⟩ : ∃ z : Int, z = ((2 * k : Nat) : Int) := ⟨_, rfl⟩
      have hz0 : 0 ≤ z := by omega
      have hz6 : z < 6 := by omega
      have hzn : z.toNat = 2 * k := by omega
      rw [← hzn] at hcell
      rw [← hz]
      have HZ := hid hz
      have HZN := hid hzn
      clear hz hzn hk6
      have HMS := hid hms
      have HG := hid hg
      clear hms hs hg hs6
      go_wp2_with fail
      go_loopw [6] (fun jv wq => ∃ j : Nat, jv = .int .i64 (j : Int) ∧ j ≤ key.length ∧ MS w wq R (fun c => if c ∈ key.take j then 1 else has (genK.take k).flatten c) 0) (fun jv _ => key.length - (intOf jv).toNat)
      case atStart => exact ⟨0, rfl, Nat.zero_le _, HMS.out.congr (fun c => by simp)⟩
      case round =>
        obtain ⟨j, rfl, hj, hm2⟩ := hrel
        by_cases hjl : j < key.length
        · have hct : ((key[j].toNat : Nat) : Int) < 256 := by have := key[j].toNat_lt; omega
          have x := hm2.map key[j]
          have xf := hm2.root.fz (6 + key[j].toNat)
          have HM2 := hid hm2
          clear hm2
          have xd : wr.drew.cell? ⟨R, 6 + key[j].toNat, none⟩ = _ := x
          have xfd : wr.drew.frozen? ⟨R, 6 + key[j].toNat, none⟩ = false := xf
          clear x xf
          go_wp2_with fail
          go_still_tail 7, (by kernel_rfl)
          change wpList _ _ _ _ _ wr.drew
          generalize hWd : wr.drew = Wd at xd xfd ⊢
          go_wp2_with fail
          go_roundw
          case rel =>
            refine ⟨j + 1, by go_num, by omega, ?_⟩
            rw [← hWd]
            refine (HM2.out.drew.put key[j] 1).congr (fun d => ?_)
            exact put_take key j hjl _ d
          case measure => simp [intOf]; omega
        · have hje : j = key.length := by omega
          subst hje
          have HM2 := hid hm2
          clear hm2
          go_wp2_with fail
          go_roundw
          case rel =>
            refine ⟨k + 1, by have := HZ.out; go_num, by omega, HM2.out.congr (fun d => ?_)⟩
            simp only [List.take_length]
            exact flat_more genK k key HG.out d
          case measure => have := HZ.out; simp [intOf]; omega
    · have hk3 : k = 3 := by omega
      subst hk3
      have hrow := hms.row
      obtain ⟨cs, hcs⟩ : ∃ cs, rowOf (has mapK) = cs := ⟨_, rfl⟩
      have hlen : cs.length = 256 := by rw [← hcs]; exact rowOf_len _
      have hrow : wr.rangeAt R 6 cs := by rw [← hcs]; exact hms.row
      have HMS : Hid (MS w wr R (has mapK) 0) := hid hms
      have HCS := hid hcs
      have HLEN := hid hlen
      have HROW := hid hrow
      clear hms hcs hk hlt hlen hrow
      go_wp2_with fail
      refine' wp_load_mid _ _ rfl _ _ rfl cs _ HROW.out Try.underlying69 rfl ?hi ?rest
      (· rw [HLEN.out]; exact arr_info)
      go_wp2_with fail
      go_loopw [41] (fun iv wq => ∃ i : Nat, iv = .int .i64 (i : Int) ∧ i ≤ 256 ∧ MS w wq R (has mapK) (cntK i)) (fun iv _ => 256 - (intOf iv).toNat)
      case atStart => exact ⟨0, rfl, Nat.zero_le _, HMS.out⟩
      case round =>
        obtain ⟨i, rfl, hi, hm⟩ := hrel
        by_cases hlt : i < 256
        · have hii : (i : Int) < 256 := by omega
          have c5 := hm.c5
          have f5 := hm.root.fz 5
          have hcell : cs[i]? = some (.int .u8 (has mapK (UInt8.ofNat i))) := by rw [← HCS.out]; exact rowOf_at _ i hlt
          obtain ⟨v, hv⟩ : ∃ v, has mapK (UInt8.ofNat i) = v := ⟨_, rfl⟩
          rw [hv] at hcell
          have hv2 : v = 0 ∨ v = 1 := by rw [← hv]; unfold has; split <;> simp
          obtain ⟨t, ht⟩ : ∃ t, cntK i = t := ⟨_, rfl⟩
          have ht3 : 0 ≤ t ∧ t ≤ 3 := by rw [← ht]; exact cnt_in i
          have hn : cntK (i + 1) = t + v := by rw [cnt_next i hlt, hv, ht]
          obtain ⟨ht0, ht3⟩ := ht3
          rw [ht] at c5
          have hv0 : 0 ≤ v := by omega
          have hv1 : v ≤ 1 := by omega
          have HM := hid hm
          have HV := hid hv
          have HN := hid hn
          have HI := hid hi
          clear hm hv hv2 ht hn hi
          go_wp2_with fail
          rw [idx_arr wr cs i _ hlt hcell]
          go_wp2_with fail
          go_roundw
          case rel =>
            refine ⟨i + 1, by go_num, by omega, ?_⟩
            rw [HN.out]
            exact HM.out.sum (t + v)
          case measure => simp [intOf]; omega
        · have hie : i = 256 := by omega
          subst hie
          have hm3 : MS w wr R (has mapK) 3 := hm
          have hrow2 : wr.rangeAt R 6 cs := by rw [← HCS.out]; exact hm.row
          have HM := hid hm3
          have HR2 := hid hrow2
          clear hm hm3 hi hrow2 hlt
          go_wp2_with fail
          refine' wp_load_mid _ _ rfl _ _ rfl cs _ HR2.out Try.underlying69 rfl ?hj ?rest2
          (· rw [HLEN.out]; exact arr_info)
          go_wp2_with fail
          go_loopw [9, 58] (fun xv iv wq => ∃ i : Nat, iv = .int .i64 (i : Int) ∧ xv = .int .u8 (cntK i) ∧ i ≤ 256 ∧ MS w wq R (fun c => if c.toNat < i then mapF c else has mapK c) 3) (fun _ iv _ => 256 - (intOf iv).toNat)
          case atStart => exact ⟨0, rfl, rfl, Nat.zero_le _, HM.out⟩
          case round =>
            obtain ⟨i, rfl, rfl, hi, hm⟩ := hrel
            by_cases hlt : i < 256
            · have hii : (i : Int) < 256 := by omega
              have c5 := hm.c5
              have fz := hm.root.fz (6 + i)
              have fm := hm.map (UInt8.ofNat i)
              rw [show (UInt8.ofNat i).toNat = i from by simp <;> omega] at fm
              have hcell : cs[i]? = some (.int .u8 (has mapK (UInt8.ofNat i))) := by rw [← HCS.out]; exact rowOf_at _ i hlt
              obtain ⟨v, hv⟩ : ∃ v, has mapK (UInt8.ofNat i) = v := ⟨_, rfl⟩
              rw [hv] at hcell
              have hv2 : v = 0 ∨ v = 1 := by rw [← hv]; unfold has; split <;> simp
              obtain ⟨t, ht⟩ : ∃ t, cntK i = t := ⟨_, rfl⟩
              have ht3 : 0 ≤ t ∧ t ≤ 3 := by rw [← ht]; exact cnt_in i
              have hn : cntK (i + 1) = t + v := by rw [cnt_next i hlt, hv, ht]
              have hf : mapF (UInt8.ofNat i) = if v = 0 then 3 else t := by rw [cnt_map i hlt, hv, ht]
              have hmore : ∀ c : UInt8, (if c = UInt8.ofNat i then mapF (UInt8.ofNat i) else if c.toNat < i then mapF c else has mapK c) = if c.toNat < i + 1 then mapF c else has mapK c := fun c => by
                by_cases e : c = UInt8.ofNat i
                · subst e
                  rw [if_pos rfl, if_pos (by simp <;> omega)]
                · rw [if_neg e]
                  have : c.toNat ≠ i := fun e2 => e (UInt8.toNat_inj.1 (by rw [e2]; simp <;> omega))
                  by_cases e3 : c.toNat < i
                  · rw [if_pos e3, if_pos (by omega)]
                  · rw [if_neg e3, if_neg (by omega)]
              obtain ⟨ht0, ht3⟩ := ht3
              rw [ht]
              have HM := hid hm
              have HN := hid hn
              have HI := hid hi
              have HF := hid hf
              have HMORE := hid hmore
              clear hm hv ht hn hi hf hmore
              rcases hv2 with rfl | rfl
              · have c5d : wr.drew.cell? ⟨R, 5, none⟩ = _ := c5
                have fzd : wr.drew.frozen? ⟨R, 6 + i, none⟩ = false := fz
                have fmd : wr.drew.cell? ⟨R, 6 + i, none⟩ = _ := fm
                clear c5 fz fm
                go_wp2_with fail
                rw [idx_arr wr cs i _ hlt hcell]
                go_wp2_with fail
                go_still_tail 10, (by kernel_rfl)
                change wpList _ _ _ _ _ wr.drew
                generalize hWd : wr.drew = Wd at c5d fzd fmd ⊢
                go_wp2_with fail
                go_roundw
                case rel =>
                  refine ⟨i + 1, by go_num, by rw [HN.out, Int.add_zero], by omega, ?_⟩
                  rw [← hWd]
                  have := (HM.out.drew.put (UInt8.ofNat i) 3)
                  rw [show (UInt8.ofNat i).toNat = i from by simp <;> omega] at this
                  refine this.congr fun c => ?_
                  have := HMORE.out c
                  rw [HF.out] at this
                  exact this
                case measure => simp [intOf]; omega
              · go_wp2_with fail
                rw [idx_arr wr cs i _ hlt hcell]
                go_wp2_with fail
                go_roundw
                case rel =>
                  refine ⟨i + 1, by go_num, by rw [HN.out], by omega, ?_⟩
                  have := (HM.out.put (UInt8.ofNat i) t)
                  rw [show (UInt8.ofNat i).toNat = i from by simp <;> omega] at this
                  refine this.congr fun c => ?_
                  have := HMORE.out c
                  rw [HF.out, if_neg (show ¬ (1 : Int) = 0 by decide)] at this
                  exact this
                case measure => simp [intOf]; omega
            · have hie : i = 256 := by omega
              subst hie
              have hm3 : MS w wr R mapF 3 := hm.congr fun c => by rw [if_pos (by have := c.toNat_lt; omega)]
              have c5 := hm3.c5
              have hRs : R < wr.heap.size := World.block_lt_of_cell? _ _ c5
              have f4a : ∀ o, (wr.alloc o).frozen? ⟨R, 4, none⟩ = false := fun o => (World.frozen?_of_block (Below.heap_alloc _ _ _ hRs)).trans (hm3.root.fz 4)
              have c4a : ∀ o, (wr.alloc o).cell? ⟨R, 4, none⟩ = some (.slice none 0 0) := fun o => (World.cell?_alloc_lt _ _ ⟨R, 4, none⟩ hRs).trans hm3.root.c4
              have HM := hid hm3
              have HRS := hid hRs
              clear hm hm3 hi hlt hRs
              have hmk := make3 wr
              go_wp2_with fail
              obtain ⟨T, hT⟩ : ∃ T, T = wr.heap.size := ⟨_, rfl⟩
              rw [← hT]
              have g0 : Rel w ((wr.alloc (.cells #[.pointer none, .pointer none, .pointer none] 84)).setCell ⟨R, 4, none⟩ (.slice (some ⟨T, 0, none⟩) 3 3)) R T 0 := by
                rw [hT]; exact HM.out.table
              clear c4a f4a hmk
              generalize ((wr.alloc (.cells #[.pointer none, .pointer none, .pointer none] 84)).setCell ⟨R, 4, none⟩ (.slice (some ⟨T, 0, none⟩) 3 3)) = W5 at g0 ⊢
              clear hT c5
              go_loopw [12] (fun iv wq => ∃ k : Nat, iv = .int .i64 ((2 * k : Nat) : Int) ∧ k ≤ 3 ∧ Rel w wq R T k) (fun iv _ => 6 - (intOf iv).toNat)
              case atStart => exact ⟨0, rfl, Nat.zero_le _, g0⟩
              case round =>
                clear g0
                obtain ⟨k, rfl, hk, hr⟩ := hrel
                by_cases hlt : k < 3
                · obtain ⟨z, hz⟩ : ∃ z : Int, z = ((2 * k : Nat) : Int) := ⟨_, rfl⟩
                  have hz0 : 0 ≤ z := by omega
                  have hz6 : z < 6 := by omega
                  have hz1 : z + 1 < 6 := by omega
                  have hz2 : 0 ≤ z + 1 := by omega
                  have hw1 : IntKind.i64.wrap (z + 1) = z + 1 := IntWalk.i64_in _ (by omega)
                  have hw2 : IntKind.i64.wrap (6 - z) = 6 - z := IntWalk.i64_in _ (by omega)
                  have hzn : z.toNat = 2 * k := by omega
                  have hzm : (z + 1).toNat = 2 * k + 1 := by omega
                  have hat := H.out.grow hr.g
                  have s1 : wr.drew.cell? ⟨o, z.toNat, none⟩ = some (.string (S (keyK k))) := by
                    rw [hzn]
                    rcases (show k = 0 ∨ k = 1 ∨ k = 2 by omega) with rfl | rfl | rfl
                    · exact hat.2 0 (by decide)
                    · exact hat.2 2 (by decide)
                    · exact hat.2 4 (by decide)
                  have s2 : wr.drew.cell? ⟨o, (z + 1).toNat, none⟩ = some (.string (S (valK k))) := by
                    rw [hzm]
                    rcases (show k = 0 ∨ k = 1 ∨ k = 2 by omega) with rfl | rfl | rfl
                    · exact hat.2 1 (by decide)
                    · exact hat.2 3 (by decide)
                    · exact hat.2 5 (by decide)
                  have hd : Rel w wr.drew R T k := hr.keep (Away.refl _ _).drew (G.refl _).drew
                  have hcall := adds w wr.drew R T k hlt hd
                  rw [← hz] at hcall
                  have HZ := hid hz
                  have HC := hid hcall
                  rw [← hz]
                  clear hz hzn hzm hat hd hcall hr
                  go_wp2_with fail
                  go_still_tail 17, (by kernel_rfl)
                  change wpList _ _ _ _ _ wr.drew
                  generalize hWd : wr.drew = Wd at s1 s2 HC ⊢
                  go_wp2_with fail
                  (with_reducible refine HC.out.mono ?_)
                  rintro e w3 ⟨rfl, hr3⟩
                  have HR3 := hid hr3
                  clear hr3
                  go_wp2_with fail
                  go_roundw
                  case rel =>
                    repeat (apply Exists.intro)
                    exact ⟨⟨k + 1, by have := HZ.out; go_num, by omega, HR3.out⟩, rfl⟩
                  case measure => have := HZ.out; simp [intOf]; omega
                · have hk3 : k = 3 := by omega
                  subst hk3
                  have HR := hid hr
                  clear hr hk hlt
                  go_wp2_with fail
                  obtain ⟨g, A, B, C, D, U, ht, hb⟩ := HR.out
                  exact bodyPost_ret (results_tmp rfl _ _ _) rfl ⟨_, rfl, ⟨R, A, B, C, D, T, U, rfl, ht, hb⟩, g⟩

end Go.Proofs.Ythbjabjchfmmoaa
