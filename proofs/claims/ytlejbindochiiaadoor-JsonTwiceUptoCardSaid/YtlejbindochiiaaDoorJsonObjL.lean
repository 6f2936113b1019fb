/-
  An object that is being read: what stands in memory. Plain.
-/
import Derived.Test.YtlejbindochiiaaDoorJsonBox
import Derived.Test.YtlejbindochiiaaDoorJsonLoc
import Derived.Test.YtlejbindochiiaaDoorSeen
namespace Go.Proofs.YtlejbindochiiaaDoor
open Go.RowKit
set_option linter.unusedVariables false
set_option linter.unusedSimpArgs false

/-- an object's members that have been read (J: its box, M: the map of keys; seen: the keys in the map; ks: those in the list) -/
structure ObSt (d : Nat) (w wr : World) (R : Nat) (s : List UInt8) (X J M : Nat) (seen ks : List (List UInt8)) (xs : List Jt) (kv lv : Value) (vs : List Value) (t : List UInt8) : Prop where
  rw' : R < w.heap.size
  wX : w.heap.size ≤ X
  XJ : X < J
  JM : J < M
  mv : w.grownBy wr (some R)
  rd : JRd wr R s t
  boxX : wr.heap[X]? = some (.cells #[.int .i64 0, .string (S []), .slice none 0 0, .slice none 0 0] 25)
  boxJ : wr.heap[J]? = some (.cells #[.int .i64 7, .string (S []), kv, lv] 25)
  map : ∃ es c, wr.heap[M]? = some (.map es c) ∧ SeenEs es seen
  keys : wr.ownsRow (M + 1) 9 1 kv ks.length (ks.map fun x => .string (S x))
  st : ElQ (fun b => kv.ownBlock ≠ some b) wr M d xs lv vs
section
variable {d : Nat} {w wr : World} {R : Nat} {s : List UInt8} {X J M : Nat} {seen ks : List (List UInt8)} {xs : List Jt} {kv lv : Value} {vs : List Value} {t : List UInt8}
theorem ObSt.M_lt (h : ObSt d w wr R s X J M seen ks xs kv lv vs t) : M < wr.heap.size := by obtain ⟨es, c, h, _⟩ := h.map; exact lt_of_row h
/-- the reader goes on -/
theorem ObSt.go (h : ObSt d w wr R s X J M seen ks xs kv lv vs t) {w' : World} {t' : List UInt8} (m : wr.grownBy w' (some R)) (rd : JRd w' R s t') : ObSt d w w' R s X J M seen ks xs kv lv vs t' := by
  have hR := h.rw'; have hX := h.wX; have h1 := h.XJ; have h2 := h.JM; have hM := h.M_lt; have hJ := lt_of_row h.boxJ; have hX2 := lt_of_row h.boxX
  refine ⟨h.rw', h.wX, h.XJ, h.JM, mv_trans h.mv m, rd, (m.block X hX2 (by simp; omega)).trans h.boxX, (m.block J hJ (by simp; omega)).trans h.boxJ, ?_, h.keys.kept m (row_under h.keys (by omega)), h.st.mv m (by omega)⟩
  obtain ⟨es, c, h3, h4⟩ := h.map
  exact ⟨es, c, (m.block M hM (by simp; omega)).trans h3, h4⟩
/-- a key in the map -/
theorem ObSt.put (h : ObSt d w wr R s X J M seen ks xs kv lv vs t) {es : Array MapEntry} {c : Nat} (hm : wr.heap[M]? = some (.map es c)) (he : SeenEs es seen) (k : List UInt8) :
    ObSt d w { wr with heap := wr.heap.setIfInBounds M (.map (es.push { key := .string (S k), val := .bool true, born := c }) (c + 1)) } R s X J M (seen ++ [k]) ks xs kv lv vs t := by
  have hR := h.rw'; have hX := h.wX; have h1 := h.XJ; have h2 := h.JM; have hM := h.M_lt; have hJ := lt_of_row h.boxJ; have hX2 := lt_of_row h.boxX; have hsz := h.mv.size
  have m := mv_map wr M (.map (es.push { key := .string (S k), val := .bool true, born := c }) (c + 1))
  refine ⟨h.rw', h.wX, h.XJ, h.JM, mv_ownJ h.mv m (fun j e => .inr (by have := Option.some.inj e; omega)), ?_, (m.block X hX2 (by simp; omega)).trans h.boxX, (m.block J hJ (by simp; omega)).trans h.boxJ, ⟨_, _, heap_map hm _, seen_put he k c⟩, h.keys.kept m (row_under h.keys (by omega)), h.st.mv m (Nat.le_refl _)⟩
  obtain ⟨p, e, hr⟩ := h.rd
  exact ⟨p, e, (m.block R hr.lt (by simp; omega)).trans hr⟩
/-- a key in the list -/
theorem ObSt.key (h : ObSt d w wr R s X J M seen ks xs kv lv vs t) {k : List UInt8} {w5 : World} {g cap : Nat} (hgrow : (wr.alloc (.cells #[.string (S k)] 9)).grownBy w5 kv.ownBlock)
    (hown : w5.ownsRow (M + 1) 9 1 (.slice (some ⟨g, 0, none⟩) (ks.length + 1) cap) (ks.length + 1) ((ks.map fun x => .string (S x)) ++ [.string (S k)])) (hgg : kv.ownBlock = some g ∨ g = (wr.alloc (.cells #[.string (S k)] 9)).heap.size) :
    ObSt d w (w5.setCell ⟨J, 2, none⟩ (.slice (some ⟨g, 0, none⟩) (ks.length + 1) cap)) R s X J M seen (ks ++ [k]) xs (.slice (some ⟨g, 0, none⟩) (ks.length + 1) cap) lv vs t := by
  have hR := h.rw'; have hX := h.wX; have h1 := h.XJ; have h2 := h.JM; have hM := h.M_lt; have hJ := lt_of_row h.boxJ; have hX2 := lt_of_row h.boxX; have hsz := h.mv.size
  have ga : G wr (wr.alloc (.cells #[.string (S k)] 9)) := (G.refl _).alloc _
  have own : ∀ b, kv.ownBlock = some b → M + 1 ≤ b ∧ b < wr.heap.size := fun b e => h.keys.lt b e
  have fr : ∀ b, b < wr.heap.size → b ≤ M → w5.heap[b]? = wr.heap[b]? := fun b hb hl => (hgrow.block b (by simp; omega) (fun e => by have := own b e.symm; omega)).trans (ga.below.block b hb)
  have hst : ElQ (fun b => (Value.slice (some ⟨g, 0, none⟩) (ks.length + 1) cap).ownBlock ≠ some b) w5 M d xs lv vs := by
    have a1 := (h.st.turn (q' := fun b => kv.ownBlock ≠ some b ∧ b < wr.heap.size) fun b hb hq => ⟨hq, hb⟩).grow ga
    have a2 : lv.ownBlock = none ∨ lv.ownBlock ≠ kv.ownBlock := rows_apart a1.row (h.keys.kept (mv_of none ga) (by cases kv.ownBlock with | none => exact .inl rfl | some _ => exact .inr (by simp))) (by decide)
    refine (a1.beside hgrow a2 fun b hb e => hb.1 e.symm).turn fun b hb hq e => ?_
    obtain rfl : g = b := Option.some.inj e
    rcases hgg with e | e
    · exact hq.1 e
    · have h9 := hq.2; have := ga.size; omega
  refine ⟨h.rw', h.wX, h.XJ, h.JM, mv_put (mv_ownJ (mv_g h.mv ga) hgrow fun j e => .inr (by have := own j e; omega)) (by omega), ?_, ?_, box_third ((fr J hJ (by omega)).trans h.boxJ), ?_, ?_, hst.mv (mv_set _ _ _ _) (by omega)⟩
  · obtain ⟨p, e, hr⟩ := h.rd
    refine ⟨p, e, ?_⟩
    show (w5.setCell _ _).heap[R]? = _
    rw [Below.heap_setCell _ _ _ _ (by simp; omega), fr R hr.lt (by omega)]
    exact hr
  · rw [Below.heap_setCell _ _ _ _ (by simp; omega), fr X hX2 (by omega)]
    exact h.boxX
  · obtain ⟨es, c, h3, h4⟩ := h.map
    exact ⟨es, c, by rw [Below.heap_setCell _ _ _ _ (by simp; omega), fr M hM (by omega)]; exact h3, h4⟩
  · have := hown.kept (mv_set w5 J 2 (.slice (some ⟨g, 0, none⟩) (ks.length + 1) cap)) (row_under hown (by omega))
    simpa using this
/-- a tree in the list -/
theorem ObSt.tree (h : ObSt d w wr R s X J M seen ks xs kv lv vs t) {u : List UInt8} {w9 w5 : World} {g cap : Nat} {c0 c1 c2 c3 : Value} {y : Jt} (m9 : wr.grownBy w9 (some R)) (rd : JRd w9 R s u) (hu : JAt d (fun b => wr.heap.size ≤ b) w9 (.agg #[c0, c1, c2, c3]) y)
    (hgrow : (w9.alloc (.cells #[c0, c1, c2, c3] 25)).grownBy w5 lv.ownBlock) (hown : w5.ownsRow (M + 1) 25 4 (.slice (some ⟨g, 0, none⟩) (xs.length + 1) cap) (xs.length + 1) (cellsJ vs ++ [c0, c1, c2, c3]))
    (hgg : lv.ownBlock = some g ∨ g = (w9.alloc (.cells #[c0, c1, c2, c3] 25)).heap.size) :
    ObSt d w (w5.setCell ⟨J, 3, none⟩ (.slice (some ⟨g, 0, none⟩) (xs.length + 1) cap)) R s X J M seen ks (xs ++ [y]) kv (.slice (some ⟨g, 0, none⟩) (xs.length + 1) cap) (vs ++ [.agg #[c0, c1, c2, c3]]) u := by
  have hR := h.rw'; have hX := h.wX; have h1 := h.XJ; have h2 := h.JM; have hM := h.M_lt; have hJ := lt_of_row h.boxJ; have hX2 := lt_of_row h.boxX; have hsz := h.mv.size
  have h9 := m9.size
  obtain ⟨n1, n2, n3, n4, n5⟩ := ElQ.box h.mv hR hX h1 h.st (by omega) hM (fun b hb e => by have := (h.keys.lt b e).2; omega) h.boxJ h.boxX m9 rd hu hgrow hown hgg
  have ga : G w9 (w9.alloc (.cells #[c0, c1, c2, c3] 25)) := (G.refl _).alloc _
  have nn : ∀ v : Value, v.ownBlock = none ∨ v.ownBlock ≠ none := fun v => by cases v.ownBlock with | none => exact .inl rfl | some _ => exact .inr (by simp)
  have k9 := h.keys.kept m9 (row_under h.keys (by omega))
  have l9 := h.st.row.kept m9 (row_under h.st.row (by omega))
  have ka := k9.kept (mv_of none ga) (nn _)
  have la := l9.kept (mv_of none ga) (nn _)
  have k5 := ka.kept hgrow (rows_apart ka la (by decide))
  refine ⟨hR, hX, h1, h2, n1, n2, n3, n4, ?_, k5.kept (mv_set _ _ _ _) (row_under k5 (by omega)), n5⟩
  obtain ⟨es, c, h3, h4⟩ := h.map
  refine ⟨es, c, ?_, h4⟩
  rw [Below.heap_setCell _ _ _ _ (by simp; omega), hgrow.block M (by simp; omega) (fun e => by have := (h.st.row.lt M e.symm).1; omega), ga.below.block M (by omega), m9.block M hM (by simp; omega)]
  exact h3
theorem ObSt.strs (h : ObSt d w wr R s X J M seen ks xs kv lv vs t) : IsStrs wr kv ks := strs_of_own h.keys
end

end Go.Proofs.YtlejbindochiiaaDoor
