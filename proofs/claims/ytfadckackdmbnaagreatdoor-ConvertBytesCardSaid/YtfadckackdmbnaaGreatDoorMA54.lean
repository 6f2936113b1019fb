/-
  Texts merged into one: CardSmall, ConvOther, ConvMedia.
-/
import Derived.Test.YtfadckackdmbnaaGreatDoorMA51
import Derived.Test.YtfadckackdmbnaaGreatDoorMA58
import Derived.Test.YtfadckackdmbnaaGreatDoorValWrite
import Derived.Test.YtfadckackdmbnaaGreatDoorMA53
import Derived.Test.YtfadckackdmbnaaGreatDoorMVeil
import Derived.Test.YtfadckackdmbnaaGreatDoorMA48
import Derived.Carry
namespace Go.Proofs.YtfadckackdmbnaaGreatDoor
open Go.RowKit
set_option linter.unusedVariables false
set_option linter.unusedSimpArgs false
theorem row_up {w w' : World} {b : Nat} {o : Obj} (h : w.heap[b]? = some o) (g : G w w') : w'.heap[b]? = some o := (g.below.block b (Array.getElem?_eq_some_iff.1 h).1).trans h
theorem box_item {w : World} {b : Nat} {x : It} {pv lv : Value} {t : TypeId} (h : w.heap[b]? = some (.cells (x.cells pv lv).toArray t (0, 0))) : w.cell? ⟨b, 0, none⟩ = some (.string (S x.g)) ∧ w.cell? ⟨b, 1, none⟩ = some (.string (S x.n)) ∧ w.cell? ⟨b, 2, none⟩ = some pv ∧ w.cell? ⟨b, 3, none⟩ = some (.int .i64 x.v.ty) ∧ w.cell? ⟨b, 4, none⟩ = some (.string (S x.v.tx)) ∧ w.cell? ⟨b, 5, none⟩ = some lv ∧ w.cell? ⟨b, 6, none⟩ = some (.int .i64 x.v.st.y) ∧ w.cell? ⟨b, 7, none⟩ = some (.int .i64 x.v.st.m) ∧ w.cell? ⟨b, 8, none⟩ = some (.int .i64 x.v.st.d) ∧ w.cell? ⟨b, 9, none⟩ = some (.int .i64 x.v.st.h) ∧ w.cell? ⟨b, 10, none⟩ = some (.int .i64 x.v.st.n) ∧ w.cell? ⟨b, 11, none⟩ = some (.int .i64 x.v.st.s) ∧ w.cell? ⟨b, 12, none⟩ = some (.bool x.v.st.zd) ∧ w.cell? ⟨b, 13, none⟩ = some (.int .i64 x.v.st.zn) ∧ w.cell? ⟨b, 14, none⟩ = some (.int .i64 x.v.n) := by
  refine ⟨?_, ?_, ?_, ?_, ?_, ?_, ?_, ?_, ?_, ?_, ?_, ?_, ?_, ?_, ?_⟩ <;> (rw [cell_of_row w b _ _ _ _ h]; rfl)
theorem new_2 (w : World) (o p : Obj) : ((w.alloc o).alloc p).heap[w.heap.size + 1]? = some p := by have := heap_alloc_new (w.alloc o) p; simpa using this
theorem put4c {W : World} {X : Nat} {a0 a1 a2 a3 b0 b1 b2 b3 : Value} {T : TypeId} (h : W.heap[X]? = some (.cells #[a0, a1, a2, a3] T (0, 0))) :
    ((((W.setCell ⟨X, 0, none⟩ b0).setCell ⟨X, 1, none⟩ b1).setCell ⟨X, 2, none⟩ b2).setCell ⟨X, 3, none⟩ b3).heap[X]? = some (.cells #[b0, b1, b2, b3] T (0, 0)) := by
  simp [World.setCell, Array.getElem?_modify, h]
theorem g_set {w W : World} {X i : Nat} {v : Value} (h : G w W) (hX : w.heap.size ≤ X) : G w (W.setCell ⟨X, i, none⟩ v) := Below.setCell h (by simpa using hX) _
theorem box4c {w : World} {b : Nat} {a0 a1 a2 a3 : Value} {t : TypeId} (h : w.heap[b]? = some (.cells #[a0, a1, a2, a3] t (0, 0))) : w.cell? ⟨b, 0, none⟩ = some a0 ∧ w.cell? ⟨b, 1, none⟩ = some a1 ∧ w.cell? ⟨b, 2, none⟩ = some a2 ∧ w.cell? ⟨b, 3, none⟩ = some a3 := by
  refine ⟨?_, ?_, ?_, ?_⟩ <;> (rw [cell_of_row w b _ _ _ _ h]; rfl)
theorem PrintP.grow {cf : Bool} {p : Ln} {v : Value} {w w' : World} (h : PrintP cf p v w) (g : G w w') : PrintP cf p v w' := by
  unfold PrintP at h ⊢
  cases he : rightE cf p with
  | none => rw [he] at h; exact h
  | some o =>
    rw [he] at h
    obtain ⟨e, h1, h2, h3⟩ := h
    exact ⟨e, h1, h2.grow g, h3⟩
set_option maxRecDepth 100000 in
set_option maxHeartbeats 400000 in
theorem carets_any (ver : Int) (w : World) : Gives 56 #[.int .i64 ver] w (.bool (ver == 4)) := by
  go_enter Tryz.func56, Tryz.ntmps56
  go_wp2_with fail
  go_ret
  exact ⟨rfl, G.refl _⟩
set_option maxRecDepth 100000 in
set_option maxHeartbeats 1000000 in
theorem frames_any (n : List UInt8) (w : World) (h : n.length ≤ 1000000) : Gives 90 #[.string (S n)] w (.bool (framesB n)) := by
  obtain ⟨u, hu⟩ : ∃ u, u = upperL n := ⟨_, rfl⟩
  have hf : framesB n = (u == nBEGIN || u == nEND || u == nVERSION) := by rw [hu]; rfl
  have up := upper_any n w (by omega)
  rw [← hu] at up
  have UP := hid up
  rw [hf]
  clear hf hu up
  unfold nBEGIN nEND nVERSION
  go_enter Tryz.func90, Tryz.ntmps90
  cases h1 : u == [66, 69, 71, 73, 78] with
  | true =>
    go_wp2_with fail
    refine UP.out.use ?_
    intro w1 g1
    go_wp2_with fail
    go_ret
    exact ⟨ret_bool (by simp [h1]), g1⟩
  | false =>
    cases h2 : u == [69, 78, 68] with
    | true =>
      go_wp2_with fail
      refine UP.out.use ?_
      intro w1 g1
      go_wp2_with fail
      go_ret
      exact ⟨ret_bool (by simp [h1, h2]), g1⟩
    | false =>
      go_wp2_with fail
      refine UP.out.use ?_
      intro w1 g1
      go_wp2_with fail
      go_ret
      exact ⟨ret_bool (by simp [h1, h2]), g1⟩
set_option maxRecDepth 100000 in
set_option maxHeartbeats 2000000 in
theorem prop_any (x : It) (pv lv : Value) (ver : Int) (w : World) (h : ItOk w x pv lv) (hs : Sml x) (hM : HasM w) (hE : LaidE w) (ho : x.v.ok = true) : Gives 54 #[x.val pv lv, .int .i64 ver] w (.tuple #[.agg #[.string (S x.g), .string (S x.n), pv, .string (S x.v.text)], .nilIface]) := by
  have VW : ∀ W, G w W → Gives 93 #[x.v.v lv] W (.tuple #[.string (S x.v.text), .nilIface]) := fun W g => by
    refine Calls.mono (vwrite_any x.v lv W (h.l.grow g) hs.bounds.2.2.2.1 hs.bounds.2.2.2.2.1 h.y (hM.grow g) (hE.grow g)) ?_
    rintro e w' ⟨r, rfl, hr, hg⟩
    unfold WriteP at hr
    rw [if_pos ho] at hr
    subst hr
    exact ⟨rfl, hg⟩
  unfold Vl.v at VW
  have HVW := hid VW
  obtain ⟨pa, pc, rfl⟩ := h.pv
  obtain ⟨la, lc, rfl⟩ := h.lv
  clear VW h hs hM hE ho
  go_enter Tryz.func54, Tryz.ntmps54
  go_wp2_with fail
  generalize hw1 : (w.alloc _).alloc _ = w1
  have G1 := hid (show G w w1 by rw [← hw1]; exact ((G.refl w).alloc _).alloc _)
  have HB := hid (show w1.heap[w.heap.size]? = some (.cells (x.cells (.slice pa x.ps.length pc) (.slice la x.v.ps.length lc)).toArray 37 (0, 0)) by rw [← hw1, Lib.alloc_old _ _ _ (by simp)]; exact heap_alloc_new w _)
  have HP := hid (show w1.heap[w.heap.size + 1]? = some (.cells #[.string ⟨#[]⟩, .string ⟨#[]⟩, .slice none 0 0, .string ⟨#[]⟩] 83 (0, 0)) by rw [← hw1]; exact new_2 _ _ _)
  clear hw1
  obtain ⟨q0, q1, q2, q3, q4, q5, q6, q7, q8, q9, q10, q11, q12, q13, q14⟩ := box_item HB.out
  go_wp2_with fail
  refine (HVW.out _ G1.out).use ?_
  intro w2 g2
  have G2 := hid (G1.out.trans g2)
  have HP2 := hid (row_up HP.out g2)
  have HB2 := hid (row_up HB.out g2)
  clear q0 q1 q2 q3 q4 q5 q6 q7 q8 q9 q10 q11 q12 q13 q14 g2
  obtain ⟨q0, q1, q2, _⟩ := box_item HB2.out
  obtain ⟨c0, c1, c2, c3⟩ := box4c HP2.out
  have f0 := Lib.frozen_of_heap HP2.out 0
  have f1 := Lib.frozen_of_heap HP2.out 1
  have f2 := Lib.frozen_of_heap HP2.out 2
  have f3 := Lib.frozen_of_heap HP2.out 3
  go_wp2_with fail
  have hfin := put4c (b0 := .string (S x.g)) (b1 := .string (S x.n)) (b2 := .slice pa x.ps.length pc) (b3 := .string (S x.v.text)) HP2.out
  obtain ⟨e0, e1, e2, e3⟩ := box4c hfin
  refine bodyPost_ret (v := .tuple #[.agg #[.string (S x.g), .string (S x.n), .slice pa x.ps.length pc, .string (S x.v.text)], .nilIface]) ?_ rfl ⟨rfl, ?_⟩
  · simp only [results, Tryz.f54]
    go_simp
  · exact g_set (g_set (g_set (g_set G2.out (by omega)) (by omega)) (by omega)) (by omega)
end Go.Proofs.YtfadckackdmbnaaGreatDoor

namespace Go.Proofs.YtfadckackdmbnaaGreatDoor
open Go.RowKit
set_option linter.unusedVariables false
set_option linter.unusedSimpArgs false
def zIt : It := ⟨[], [], [], ⟨0, [], [], St0, 0⟩⟩
def setAll (X : Nat) : World → Nat → List Value → World
  | W, _, [] => W
  | W, i, v :: vs => setAll X (W.setCell ⟨X, i, none⟩ v) (i + 1) vs
theorem setAll_row {X : Nat} {T : TypeId} : ∀ (vs : List Value) (W : World) (i : Nat) (cs : Array Value), W.heap[X]? = some (.cells cs T (0, 0)) → cs.size = i + vs.length → (setAll X W i vs).heap[X]? = some (.cells ((cs.toList.take i) ++ vs).toArray T (0, 0))
  | [], W, i, cs, h, hs => by
    simp only [setAll, List.append_nil]
    rw [h, List.take_of_length_le (by simp at hs; simp [hs])]
  | v :: vs, W, i, cs, h, hs => by
    have h1 : (W.setCell ⟨X, i, none⟩ v).heap[X]? = some (.cells (cs.setIfInBounds i v) T (0, 0)) := by
      simp [World.setCell, Array.getElem?_modify, h]
    have h2 := setAll_row vs _ (i + 1) _ h1 (by simp at hs ⊢; omega)
    rw [setAll, h2]
    congr 2
    have hi : i < cs.toList.length := by simp at hs ⊢; omega
    rw [Array.toList_setIfInBounds, List.take_succ_eq_append_getElem (by simpa using hi), List.take_set_of_le (Nat.le_refl _)]
    simp
theorem setAll_g {w : World} {X : Nat} (hX : w.heap.size ≤ X) : ∀ (vs : List Value) (W : World) (i : Nat), G w W → G w (setAll X W i vs)
  | [], W, i, g => g
  | v :: vs, W, i, g => setAll_g hX vs _ _ (g_set g hX)
theorem setI_row {W : World} {X : Nat} {T : TypeId} {cs : Array Value} (h : W.heap[X]? = some (.cells cs T (0, 0))) (hs : cs.size = 15) (a0 a1 a2 a3 a4 a5 a6 a7 a8 a9 a10 a11 a12 a13 a14 : Value) : (((((((((((((((W.setCell ⟨X, 0, none⟩ a0).setCell ⟨X, 1, none⟩ a1).setCell ⟨X, 2, none⟩ a2).setCell ⟨X, 3, none⟩ a3).setCell ⟨X, 4, none⟩ a4).setCell ⟨X, 5, none⟩ a5).setCell ⟨X, 6, none⟩ a6).setCell ⟨X, 7, none⟩ a7).setCell ⟨X, 8, none⟩ a8).setCell ⟨X, 9, none⟩ a9).setCell ⟨X, 10, none⟩ a10).setCell ⟨X, 11, none⟩ a11).setCell ⟨X, 12, none⟩ a12).setCell ⟨X, 13, none⟩ a13).setCell ⟨X, 14, none⟩ a14).heap[X]? = some (.cells #[a0, a1, a2, a3, a4, a5, a6, a7, a8, a9, a10, a11, a12, a13, a14] T (0, 0)) :=
  setAll_row [a0, a1, a2, a3, a4, a5, a6, a7, a8, a9, a10, a11, a12, a13, a14] W 0 cs h hs
theorem setI_g {w W : World} {X : Nat} (hX : w.heap.size ≤ X) (g : G w W) (a0 a1 a2 a3 a4 a5 a6 a7 a8 a9 a10 a11 a12 a13 a14 : Value) : G w (((((((((((((((W.setCell ⟨X, 0, none⟩ a0).setCell ⟨X, 1, none⟩ a1).setCell ⟨X, 2, none⟩ a2).setCell ⟨X, 3, none⟩ a3).setCell ⟨X, 4, none⟩ a4).setCell ⟨X, 5, none⟩ a5).setCell ⟨X, 6, none⟩ a6).setCell ⟨X, 7, none⟩ a7).setCell ⟨X, 8, none⟩ a8).setCell ⟨X, 9, none⟩ a9).setCell ⟨X, 10, none⟩ a10).setCell ⟨X, 11, none⟩ a11).setCell ⟨X, 12, none⟩ a12).setCell ⟨X, 13, none⟩ a13).setCell ⟨X, 14, none⟩ a14) :=
  setAll_g hX [a0, a1, a2, a3, a4, a5, a6, a7, a8, a9, a10, a11, a12, a13, a14] W 0 g
theorem Wo.comm {C X i : Nat} {w : World} {v : Value} (h : C ≠ X) : Wo C (w.setCell ⟨X, i, none⟩ v) = (Wo C w).setCell ⟨X, i, none⟩ v := by
  unfold Wo World.setCell
  congr 1
  apply Array.ext_getElem?
  intro j
  simp only [Array.getElem?_setIfInBounds, Array.getElem?_modify, Array.size_modify]
  by_cases h1 : C = j
  · subst h1
    have hn : ¬ X = C := fun e => h e.symm
    simp [hn]
  · simp [h1]
theorem Wl.setm {X i : Nat} {v : Value} : ∀ {L : List Nat} {w : World}, X ∈ L → Wl L (w.setCell ⟨X, i, none⟩ v) = Wl L w
  | [], w, h => by cases h
  | C :: L, w, h => by
    by_cases e : C = X
    · subst e; exact Wl.set C L w i v
    · show Wl L (Wo C _) = Wl L (Wo C w)
      rw [Wo.comm e]
      exact Wl.setm (by rcases List.mem_cons.1 h with h | h; (· exact absurd h.symm e); exact h)
theorem setI_wm {W : World} {X : Nat} {L : List Nat} (h : X ∈ L) (a0 a1 a2 a3 a4 a5 a6 a7 a8 a9 a10 a11 a12 a13 a14 : Value) : Wl L (((((((((((((((W.setCell ⟨X, 0, none⟩ a0).setCell ⟨X, 1, none⟩ a1).setCell ⟨X, 2, none⟩ a2).setCell ⟨X, 3, none⟩ a3).setCell ⟨X, 4, none⟩ a4).setCell ⟨X, 5, none⟩ a5).setCell ⟨X, 6, none⟩ a6).setCell ⟨X, 7, none⟩ a7).setCell ⟨X, 8, none⟩ a8).setCell ⟨X, 9, none⟩ a9).setCell ⟨X, 10, none⟩ a10).setCell ⟨X, 11, none⟩ a11).setCell ⟨X, 12, none⟩ a12).setCell ⟨X, 13, none⟩ a13).setCell ⟨X, 14, none⟩ a14) = Wl L W := by
  simp only [Wl.setm h]
theorem setI_wl {W : World} {X : Nat} {L : List Nat} (a0 a1 a2 a3 a4 a5 a6 a7 a8 a9 a10 a11 a12 a13 a14 : Value) : Wl (X :: L) (((((((((((((((W.setCell ⟨X, 0, none⟩ a0).setCell ⟨X, 1, none⟩ a1).setCell ⟨X, 2, none⟩ a2).setCell ⟨X, 3, none⟩ a3).setCell ⟨X, 4, none⟩ a4).setCell ⟨X, 5, none⟩ a5).setCell ⟨X, 6, none⟩ a6).setCell ⟨X, 7, none⟩ a7).setCell ⟨X, 8, none⟩ a8).setCell ⟨X, 9, none⟩ a9).setCell ⟨X, 10, none⟩ a10).setCell ⟨X, 11, none⟩ a11).setCell ⟨X, 12, none⟩ a12).setCell ⟨X, 13, none⟩ a13).setCell ⟨X, 14, none⟩ a14) = Wl (X :: L) W := by
  simp only [Wl.set]
def ItR (w : World) (r : Value) (y : It) : Prop := ∃ pv lv, r = y.val pv lv ∧ ItOk w y pv lv
theorem ItOk.un {w : World} {x : It} {pv lv : Value} {L : List Nat} (h : ItOk (Wl L w) x pv lv) : ItOk w x pv lv := h.sub (Wl.sub L w)
theorem PmR.sl {w : World} {u : Value} {ps : List Pm} (h : PmR w u ps) : ∃ a n c, u = .slice a n c := by obtain ⟨a, c, e, _⟩ := h.p; exact ⟨a, _, c, e⟩
theorem ItOk.pm {w : World} {x : It} {pv lv : Value} (h : ItOk w x pv lv) : PmR w pv x.ps := ⟨h.p, h.f⟩
theorem tV_ok {w : World} {g n t : List UInt8} {k : Int} {ps : List Pm} {u : Value} (hk : -9223372036854775808 ≤ k ∧ k ≤ 9223372036854775807) (h : PmR w u ps) : ItOk w ⟨g, n, ps, tV k t⟩ u (.slice none 0 0) :=
  ⟨h.p, ⟨[], ⟨rfl, by simp, .inl ⟨rfl, .inl rfl⟩⟩, Nat.le_refl _, by simp [tV]⟩, h.f, (show -9223372036854775808 ≤ (0 : Int) ∧ (0 : Int) ≤ 9223372036854775807 by decide), hk⟩
theorem tV8_ok {w : World} {g n t : List UInt8} {ps : List Pm} {u : Value} (h : PmR w u ps) : ItOk w ⟨g, n, ps, tV 8 t⟩ u (.slice none 0 0) := tV_ok (by decide) h
theorem tV4_ok {w : World} {g n t : List UInt8} {ps : List Pm} {u : Value} (h : PmR w u ps) : ItOk w ⟨g, n, ps, tV 4 t⟩ u (.slice none 0 0) := tV_ok (by decide) h
def othPhi4 (L : List Nat) (bx : Nat) (x : It) (pv : Value) (nn tt : List UInt8)  (k : Nat) (v : Value) (W : World) : Prop :=
  match k with
  | 0 => v = .pointer (some ⟨bx, 0, none⟩)
  | 1 => v = .string (S x.g)
  | 2 => v = .string (S nn)
  | 3 => v = .string (S (88 :: 45 :: nn))
  | 4 => v = .pointer (some ⟨bx, 2, none⟩)
  | 5 => v = pv
  | 6 => PmR (Wl ((bx + 1) :: L) W) v (withoutL x.ps nVALUE)
  | 7 => v = .string (S tt)
  | 8 => v = .agg #[.int .i64 8, .string (S tt), .slice none 0 0, .int .i64 0, .int .i64 0, .int .i64 0, .int .i64 0, .int .i64 0, .int .i64 0, .bool false, .int .i64 0, .int .i64 0]
  | _ => True
set_option maxRecDepth 100000 in
set_option maxHeartbeats 4000000 in
theorem other_any (L : List Nat) (nn : List UInt8) (x : It) (pv lv : Value) (w : World) (hX : ∀ X ∈ L, X < w.heap.size) (h : ItOk (Wl L w) x pv lv) (hs : Sml x) (hn : nn.length ≤ 10000) : Makes 99 #[.string (S nn), x.val pv lv] w (fun r w' => ItR (Wl L w') r (otherX nn x)) := by
  have hb := hs.bounds
  have WO0 := fun W (g : G w W) (hX1 : w.heap.size + 1 < W.heap.size) => without_any ((w.heap.size + 1) :: L) pv nVALUE x.ps W (fun X hx => by rcases List.mem_cons.1 hx with rfl | hx; (· exact hX1); have := hX X hx; omega) (h.pm.into g (by omega)) (by have := hb.2.2.1; unfold wideN at this; omega) (fun p hp => by have h1 : lensP p ≤ (x.ps.map lensP).sum := mem_le_sum (List.mem_map_of_mem hp); have h2 : lensP p = p.1.length + p.2.length + (p.2.map List.length).sum := rfl; have h0 := hb.2.2.1; unfold wideN at h0; omega) (by simp [nVALUE])
  have ES := hid (fun W => escape_any x.v.tx W (by have := hs.t; omega))
  obtain ⟨pa, pc, rfl⟩ := h.un.pv
  obtain ⟨la, lc, rfl⟩ := h.un.lv
  obtain ⟨tt, htt⟩ : ∃ tt, tt = (if x.v.ty = 1 then escL x.v.tx else x.v.tx) := ⟨_, rfl⟩
  have HR := hid (show otherX nn x = ⟨x.g, 88 :: 45 :: nn, withoutL x.ps nVALUE, tV 8 tt⟩ by unfold otherX; rw [htt])
  have HTT := hid htt
  have htl : tt.length ≤ 10000 := by
    have h1 := escL_le x.v.tx
    have h2 := hs.t
    rw [htt]; split <;> omega
  have HWO := hid WO0
  clear h hb hs htt WO0
  have key : (x.v.ty == 1) = true ∧ tt = escL x.v.tx ∨ (x.v.ty == 1) = false ∧ x.v.ty ≠ 1 ∧ tt = x.v.tx := by
    have := HTT.out
    by_cases h1 : x.v.ty = 1
    · exact .inl ⟨by simpa using h1, by rw [this, if_pos h1]⟩
    · exact .inr ⟨by simpa using h1, h1, by rw [this, if_neg h1]⟩
  rcases key with ⟨b1, htt⟩ | ⟨b1, b2, htt⟩
  · have ESS := hid (fun W => show Gives 140 #[.string (S x.v.tx)] W (.string (S tt)) by rw [htt]; exact ES.out W)
    clear htt
    go_enter Tryz.func99, Tryz.ntmps99
    go_wp2_with fail
    generalize hw0 : (w.alloc _).alloc _ = w0
    have HB0 := hid (show w0.heap[w.heap.size]? = some (.cells (x.cells (.slice pa x.ps.length pc) (.slice la x.v.ps.length lc)).toArray 37 (0, 0)) by rw [← hw0, Lib.alloc_old _ _ _ (by simp)]; exact heap_alloc_new w _)
    have HX0 := hid (show w0.heap[w.heap.size + 1]? = some (.cells (zIt.cells (.slice none 0 0) (.slice none 0 0)).toArray 37 (0, 0)) by rw [← hw0]; exact new_2 _ _ _)
    have G0 := hid (show G w w0 by rw [← hw0]; exact ((G.refl w).alloc _).alloc _)
    clear hw0
    refine (ESS.out _).use ?_
    intro w1 g1
    have HB := hid (row_up HB0.out g1)
    have HX1 := hid (row_up HX0.out g1)
    have G1 := hid (G0.out.trans g1)
    have WO := hid (fun W (g : G w1 W) => HWO.out W (G1.out.trans g) (Nat.lt_of_lt_of_le (lt_of_row HX1.out) g.size))
    clear g1 b1
    go_wp2_with fail
    refine wp_region_any (by kernel_rfl) ?_
    refine wpAny_veiled (E := #[false, false, false, false, false, false, false, false, false, false, false]) G 9 (othPhi4 L w.heap.size x (.slice pa x.ps.length pc) nn tt) [some [], some [(0, 15)], some [], some [(2, 17)], some [], some [(4, 19)], some [(5, 20)], some [], some [(7, 22)], none, none] [(0, 15), (1, 16), (2, 17), (3, 18), (4, 19), (5, 20), (6, 21), (7, 22), (8, 23)] _ (by kernel_rfl) (by decide) (by kernel_rfl) (by kernel_rfl) rfl G.refl (fun _ _ _ => G.trans) (w0 := w1) ((G.refl w1).drew) ?_ ?_ ?_
    · intro k v W W' g h
      match k, h with
      | 0, h => exact h
      | 1, h => exact h
      | 2, h => exact h
      | 3, h => exact h
      | 4, h => exact h
      | 5, h => exact h
      | 6, h => exact PmR.wo h g
      | 7, h => exact h
      | 8, h => exact h
      | n + 9, h => trivial
    · refine gAll_some (fun vals W g d => ?_) <| gAll_some (fun vals W g d => ?_) <| gAll_some (fun vals W g d => ?_) <| gAll_some (fun vals W g d => ?_) <| gAll_some (fun vals W g d => ?_) <| gAll_some (fun vals W g d => ?_) <| gAll_some (fun vals W g d => ?_) <| gAll_some (fun vals W g d => ?_) <| gAll_some (fun vals W g d => ?_) <| gAll_none <| gAll_none gAll_nil
      · refine gOp_one rfl rfl rfl fun K hK => ?_
        simp only [gFr] at hK ⊢
        go_simp
        exact hK _ _ (G.refl _) rfl
      · obtain ⟨d0, _⟩ := d
        change vals 0 = _ at d0
        refine gOp_one rfl rfl rfl fun K hK => ?_
        simp only [gFr, d0] at hK ⊢
        obtain ⟨k0, _⟩ := box_item (row_up HB.out g)
        go_simp
        exact hK _ _ (G.refl _) rfl
      · refine gOp_one rfl rfl rfl fun K hK => ?_
        simp only [gFr] at hK ⊢
        go_simp
        exact hK _ _ (G.refl _) rfl
      · obtain ⟨d2, _⟩ := d
        change vals 2 = _ at d2
        refine gOp_one rfl rfl rfl fun K hK => ?_
        simp only [gFr, d2] at hK ⊢
        have hov : ¬ 9223372036854775807 < 2 + nn.length := by omega
        go_simp
        exact hK _ _ (G.refl _) rfl
      · refine gOp_one rfl rfl rfl fun K hK => ?_
        simp only [gFr] at hK ⊢
        go_simp
        exact hK _ _ (G.refl _) rfl
      · obtain ⟨d4, _⟩ := d
        change vals 4 = _ at d4
        refine gOp_one rfl rfl rfl fun K hK => ?_
        simp only [gFr, d4] at hK ⊢
        obtain ⟨_, _, k2, _⟩ := box_item (row_up HB.out g)
        go_simp
        exact hK _ _ (G.refl _) rfl
      · obtain ⟨d5, _⟩ := d
        change vals 5 = _ at d5
        refine gOp_one rfl rfl rfl fun K hK => ?_
        simp only [gFr, d5] at hK ⊢
        go_simp
        refine (WO.out W g).use ?_
        intro r W' hr hg
        exact hK _ _ hg hr
      · refine gOp_one rfl rfl rfl fun K hK => ?_
        simp only [gFr] at hK ⊢
        go_simp
        exact hK _ _ (G.refl _) rfl
      · obtain ⟨d7, _⟩ := d
        change vals 7 = _ at d7
        refine gOp_one rfl rfl rfl fun K hK => ?_
        simp only [gFr, d7] at hK ⊢
        go_simp
        exact hK _ _ (G.refl _) rfl
    · intro vals W g d
      simp only [gFacts_cons, gFacts_nil] at d
      obtain ⟨d0, d1, d2, d3, d4, d5, d6, d7, d8, _⟩ := d
      change vals 0 = _ at d0
      change vals 1 = _ at d1
      change vals 2 = _ at d2
      change vals 3 = _ at d3
      change vals 4 = _ at d4
      change vals 5 = _ at d5
      change vals 7 = _ at d7
      change vals 8 = _ at d8
      change PmR (Wl ((w.heap.size + 1) :: L) W) (vals 6) (withoutL x.ps nVALUE) at d6
      obtain ⟨ua, um, uc, e6⟩ := d6.sl
      rw [e6] at d6
      refine ⟨?_⟩
      show wpList _ _ _ [_, _] _ _
      simp only [gFr, d0, d1, d2, d3, d4, d5, d7, d8, e6]
      clear d0 d1 d2 d3 d4 d5 d7 d8 e6
      have HX2 := row_up HX1.out g
      have HBX := hid HX2
      obtain ⟨c0, c1, c2, c3, c4, c5, c6, c7, c8, c9, c10, c11, c12, c13, c14⟩ := box_item HX2
      have fz := fun i => Lib.frozen_of_heap HX2 i
      have GW := hid (G1.out.trans g)
      have HD6 := hid d6
      clear d6 HX2 g
      go_wp2_with fail
      generalize hWF : World.setCell (World.setCell (World.setCell (World.setCell (World.setCell (World.setCell (World.setCell (World.setCell (World.setCell (World.setCell (World.setCell (World.setCell (World.setCell (World.setCell (World.setCell W _ _) _ _) _ _) _ _) _ _) _ _) _ _) _ _) _ _) _ _) _ _) _ _) _ _) _ _) _ _ = WF
      have hrow : WF.heap[w.heap.size + 1]? = some (.cells ((It.cells ⟨x.g, 88 :: 45 :: nn, withoutL x.ps nVALUE, tV 8 tt⟩ (.slice ua um uc) (.slice none 0 0))).toArray 37 (0, 0)) := by
        rw [← hWF]
        exact setI_row HBX.out rfl _ _ _ _ _ _ _ _ _ _ _ _ _ _ _
      have hgf : G w WF := by rw [← hWF]; exact setI_g (by omega) GW.out _ _ _ _ _ _ _ _ _ _ _ _ _ _ _
      have hok : ItOk (Wl L WF) ⟨x.g, 88 :: 45 :: nn, withoutL x.ps nVALUE, tV 8 tt⟩ (.slice ua um uc) (.slice none 0 0) := tV8_ok (PmR.sub (by rw [← hWF, setI_wl]; exact HD6.out) (Wl.tail (w.heap.size + 1) L WF))
      refine bodyPost_ret (results_cell_row rfl _ WF (w.heap.size + 1) 37 _ (0, 0) _ rfl hrow Tryz.underlying37 (by kernel_rfl) (by kernel_rfl)) rfl ⟨_, rfl, ?_, hgf⟩
      rw [HR.out]
      exact ⟨_, _, rfl, hok⟩
  · subst htt
    go_enter Tryz.func99, Tryz.ntmps99
    go_wp2_with fail
    generalize hw0 : (w.alloc _).alloc _ = w0
    have HB0 := hid (show w0.heap[w.heap.size]? = some (.cells (x.cells (.slice pa x.ps.length pc) (.slice la x.v.ps.length lc)).toArray 37 (0, 0)) by rw [← hw0, Lib.alloc_old _ _ _ (by simp)]; exact heap_alloc_new w _)
    have HX0 := hid (show w0.heap[w.heap.size + 1]? = some (.cells (zIt.cells (.slice none 0 0) (.slice none 0 0)).toArray 37 (0, 0)) by rw [← hw0]; exact new_2 _ _ _)
    have G0 := hid (show G w w0 by rw [← hw0]; exact ((G.refl w).alloc _).alloc _)
    clear hw0
    obtain ⟨w1, rfl⟩ : ∃ w1, w1 = w0 := ⟨_, rfl⟩
    have HB := hid HB0.out
    have HX1 := hid HX0.out
    have G1 := hid G0.out
    have WO := hid (fun W (g : G w1 W) => HWO.out W (G1.out.trans g) (Nat.lt_of_lt_of_le (lt_of_row HX1.out) g.size))
    clear b1 b2
    refine wp_region_any (by kernel_rfl) ?_
    refine wpAny_veiled (E := #[false, false, false, false, false, false, false, false, false, false, false]) G 9 (othPhi4 L w.heap.size x (.slice pa x.ps.length pc) nn x.v.tx) [some [], some [(0, 15)], some [], some [(2, 17)], some [], some [(4, 19)], some [(5, 20)], some [], some [(7, 22)], none, none] [(0, 15), (1, 16), (2, 17), (3, 18), (4, 19), (5, 20), (6, 21), (7, 22), (8, 23)] _ (by kernel_rfl) (by decide) (by kernel_rfl) (by kernel_rfl) rfl G.refl (fun _ _ _ => G.trans) (w0 := w1) ((G.refl w1).drew) ?_ ?_ ?_
    · intro k v W W' g h
      match k, h with
      | 0, h => exact h
      | 1, h => exact h
      | 2, h => exact h
      | 3, h => exact h
      | 4, h => exact h
      | 5, h => exact h
      | 6, h => exact PmR.wo h g
      | 7, h => exact h
      | 8, h => exact h
      | n + 9, h => trivial
    · refine gAll_some (fun vals W g d => ?_) <| gAll_some (fun vals W g d => ?_) <| gAll_some (fun vals W g d => ?_) <| gAll_some (fun vals W g d => ?_) <| gAll_some (fun vals W g d => ?_) <| gAll_some (fun vals W g d => ?_) <| gAll_some (fun vals W g d => ?_) <| gAll_some (fun vals W g d => ?_) <| gAll_some (fun vals W g d => ?_) <| gAll_none <| gAll_none gAll_nil
      · refine gOp_one rfl rfl rfl fun K hK => ?_
        simp only [gFr] at hK ⊢
        go_simp
        exact hK _ _ (G.refl _) rfl
      · obtain ⟨d0, _⟩ := d
        change vals 0 = _ at d0
        refine gOp_one rfl rfl rfl fun K hK => ?_
        simp only [gFr, d0] at hK ⊢
        obtain ⟨k0, _⟩ := box_item (row_up HB.out g)
        go_simp
        exact hK _ _ (G.refl _) rfl
      · refine gOp_one rfl rfl rfl fun K hK => ?_
        simp only [gFr] at hK ⊢
        go_simp
        exact hK _ _ (G.refl _) rfl
      · obtain ⟨d2, _⟩ := d
        change vals 2 = _ at d2
        refine gOp_one rfl rfl rfl fun K hK => ?_
        simp only [gFr, d2] at hK ⊢
        have hov : ¬ 9223372036854775807 < 2 + nn.length := by omega
        go_simp
        exact hK _ _ (G.refl _) rfl
      · refine gOp_one rfl rfl rfl fun K hK => ?_
        simp only [gFr] at hK ⊢
        go_simp
        exact hK _ _ (G.refl _) rfl
      · obtain ⟨d4, _⟩ := d
        change vals 4 = _ at d4
        refine gOp_one rfl rfl rfl fun K hK => ?_
        simp only [gFr, d4] at hK ⊢
        obtain ⟨_, _, k2, _⟩ := box_item (row_up HB.out g)
        go_simp
        exact hK _ _ (G.refl _) rfl
      · obtain ⟨d5, _⟩ := d
        change vals 5 = _ at d5
        refine gOp_one rfl rfl rfl fun K hK => ?_
        simp only [gFr, d5] at hK ⊢
        go_simp
        refine (WO.out W g).use ?_
        intro r W' hr hg
        exact hK _ _ hg hr
      · refine gOp_one rfl rfl rfl fun K hK => ?_
        simp only [gFr] at hK ⊢
        go_simp
        exact hK _ _ (G.refl _) rfl
      · obtain ⟨d7, _⟩ := d
        change vals 7 = _ at d7
        refine gOp_one rfl rfl rfl fun K hK => ?_
        simp only [gFr, d7] at hK ⊢
        go_simp
        exact hK _ _ (G.refl _) rfl
    · intro vals W g d
      simp only [gFacts_cons, gFacts_nil] at d
      obtain ⟨d0, d1, d2, d3, d4, d5, d6, d7, d8, _⟩ := d
      change vals 0 = _ at d0
      change vals 1 = _ at d1
      change vals 2 = _ at d2
      change vals 3 = _ at d3
      change vals 4 = _ at d4
      change vals 5 = _ at d5
      change vals 7 = _ at d7
      change vals 8 = _ at d8
      change PmR (Wl ((w.heap.size + 1) :: L) W) (vals 6) (withoutL x.ps nVALUE) at d6
      obtain ⟨ua, um, uc, e6⟩ := d6.sl
      rw [e6] at d6
      refine ⟨?_⟩
      show wpList _ _ _ [_, _] _ _
      simp only [gFr, d0, d1, d2, d3, d4, d5, d7, d8, e6]
      clear d0 d1 d2 d3 d4 d5 d7 d8 e6
      have HX2 := row_up HX1.out g
      have HBX := hid HX2
      obtain ⟨c0, c1, c2, c3, c4, c5, c6, c7, c8, c9, c10, c11, c12, c13, c14⟩ := box_item HX2
      have fz := fun i => Lib.frozen_of_heap HX2 i
      have GW := hid (G1.out.trans g)
      have HD6 := hid d6
      clear d6 HX2 g
      go_wp2_with fail
      generalize hWF : World.setCell (World.setCell (World.setCell (World.setCell (World.setCell (World.setCell (World.setCell (World.setCell (World.setCell (World.setCell (World.setCell (World.setCell (World.setCell (World.setCell (World.setCell W _ _) _ _) _ _) _ _) _ _) _ _) _ _) _ _) _ _) _ _) _ _) _ _) _ _) _ _) _ _ = WF
      have hrow : WF.heap[w.heap.size + 1]? = some (.cells ((It.cells ⟨x.g, 88 :: 45 :: nn, withoutL x.ps nVALUE, tV 8 x.v.tx⟩ (.slice ua um uc) (.slice none 0 0))).toArray 37 (0, 0)) := by
        rw [← hWF]
        exact setI_row HBX.out rfl _ _ _ _ _ _ _ _ _ _ _ _ _ _ _
      have hgf : G w WF := by rw [← hWF]; exact setI_g (by omega) GW.out _ _ _ _ _ _ _ _ _ _ _ _ _ _ _
      have hok : ItOk (Wl L WF) ⟨x.g, 88 :: 45 :: nn, withoutL x.ps nVALUE, tV 8 x.v.tx⟩ (.slice ua um uc) (.slice none 0 0) := tV8_ok (PmR.sub (by rw [← hWF, setI_wl]; exact HD6.out) (Wl.tail (w.heap.size + 1) L WF))
      refine bodyPost_ret (results_cell_row rfl _ WF (w.heap.size + 1) 37 _ (0, 0) _ rfl hrow Tryz.underlying37 (by kernel_rfl) (by kernel_rfl)) rfl ⟨_, rfl, ?_, hgf⟩
      rw [HR.out]
      exact ⟨_, _, rfl, hok⟩
end Go.Proofs.YtfadckackdmbnaaGreatDoor

namespace Go.Proofs.YtfadckackdmbnaaGreatDoor
open Go.RowKit
set_option linter.unusedVariables false
set_option linter.unusedSimpArgs false
def kindB (n : List UInt8) : List UInt8 := if n = nPHOTO ∨ n = nLOGO then [105, 109, 97, 103, 101, 47] else if n = nSOUND then [97, 117, 100, 105, 111, 47] else []
def kE1 : Array MapEntry := #[{ key := .string ⟨#[80, 72, 79, 84, 79]⟩, val := .string ⟨#[105, 109, 97, 103, 101, 47]⟩, born := 0 }]
def kE2 : Array MapEntry := #[{ key := .string ⟨#[80, 72, 79, 84, 79]⟩, val := .string ⟨#[105, 109, 97, 103, 101, 47]⟩, born := 0 }, { key := .string ⟨#[76, 79, 71, 79]⟩, val := .string ⟨#[105, 109, 97, 103, 101, 47]⟩, born := 1 }]
def kE3 : Array MapEntry := #[{ key := .string ⟨#[80, 72, 79, 84, 79]⟩, val := .string ⟨#[105, 109, 97, 103, 101, 47]⟩, born := 0 }, { key := .string ⟨#[76, 79, 71, 79]⟩, val := .string ⟨#[105, 109, 97, 103, 101, 47]⟩, born := 1 }, { key := .string ⟨#[83, 79, 85, 78, 68]⟩, val := .string ⟨#[97, 117, 100, 105, 111, 47]⟩, born := 2 }]
theorem kinds_put1 (X : World) : (Instr.mapUpdate 245 (.map (some X.heap.size)) (.string ⟨#[80, 72, 79, 84, 79]⟩) (.string ⟨#[105, 109, 97, 103, 101, 47]⟩)).run Tryz.prog (X.alloc (.map #[] 0)) = .ok () (X.alloc (.map kE1 1)) :=
  run_put X _ _ _ _ Tryz.underlying245 Tryz.underlying9 #[] 0 (.string ⟨#[80, 72, 79, 84, 79]⟩) _ trivial (by kernel_rfl)
theorem kinds_put2 (X : World) : (Instr.mapUpdate 245 (.map (some X.heap.size)) (.string ⟨#[76, 79, 71, 79]⟩) (.string ⟨#[105, 109, 97, 103, 101, 47]⟩)).run Tryz.prog (X.alloc (.map kE1 1)) = .ok () (X.alloc (.map kE2 2)) :=
  run_put X _ _ _ _ Tryz.underlying245 Tryz.underlying9 kE1 1 (.string ⟨#[76, 79, 71, 79]⟩) _ trivial (by kernel_rfl)
theorem kinds_put3 (X : World) : (Instr.mapUpdate 245 (.map (some X.heap.size)) (.string ⟨#[83, 79, 85, 78, 68]⟩) (.string ⟨#[97, 117, 100, 105, 111, 47]⟩)).run Tryz.prog (X.alloc (.map kE2 2)) = .ok () (X.alloc (.map kE3 3)) :=
  run_put X _ _ _ _ Tryz.underlying245 Tryz.underlying9 kE2 2 (.string ⟨#[83, 79, 85, 78, 68]⟩) _ trivial (by kernel_rfl)
theorem kinds_look (X : World) (n : List UInt8) : (Instr.lookup 245 (.map (some X.heap.size)) (.string (S n)) false).run Tryz.prog (X.alloc (.map kE3 3)) = .ok (.string (S (kindB n))) (X.alloc (.map kE3 3)) := by
  have hb : (X.alloc (.map kE3 3)).heap[X.heap.size]? = some (.map kE3 3) := heap_alloc_new X _
  by_cases h1 : n = nPHOTO
  · subst h1
    exact run_look (k := .string (S nPHOTO)) (X.alloc _) _ _ _ _ Tryz.underlying245 Tryz.underlying9 X.heap.size kE3 3 hb trivial 0 (.string ⟨#[105, 109, 97, 103, 101, 47]⟩) false (by kernel_rfl)
  by_cases h2 : n = nLOGO
  · subst h2
    exact run_look (k := .string (S nLOGO)) (X.alloc _) _ _ _ _ Tryz.underlying245 Tryz.underlying9 X.heap.size kE3 3 hb trivial 1 (.string ⟨#[105, 109, 97, 103, 101, 47]⟩) false (by kernel_rfl)
  by_cases h3 : n = nSOUND
  · subst h3
    exact run_look (k := .string (S nSOUND)) (X.alloc _) _ _ _ _ Tryz.underlying245 Tryz.underlying9 X.heap.size kE3 3 hb trivial 2 (.string ⟨#[97, 117, 100, 105, 111, 47]⟩) false (by kernel_rfl)
  · have e : kindB n = [] := by unfold kindB; rw [if_neg (by rintro (h | h); exact h1 h; exact h2 h), if_neg h3]
    rw [e]
    have hz : ∀ W, (zeroValue 9).run Tryz.prog W = .ok (.string (S [])) W := fun W => by kernel_rfl
    have hc : ∀ e, (Instr.checkKey e 10000 9 (.string (S n))).run Tryz.prog (X.alloc (.map kE3 3)) = .ok () (X.alloc (.map kE3 3)) := fun e => MapKept.run_checkKey (d := .string) (k := .string (S n)) Tryz.underlying9 trivial e 9999
    have hn : Instr.findNow .string (.string (S n)) kE3.toList 0 = some none := by
      rcases MapKept.findNow_spec (d := .string) (k := .string (S n)) trivial kE3.toList 0 (fun e he => by
        simp [kE3] at he
        rcases he with rfl | rfl | rfl <;> trivial) with ⟨h, _⟩ | ⟨j, e, _, hj, hk⟩
      · exact h
      · have he := List.mem_of_getElem? hj
        simp [kE3] at he
        have inj : ∀ {a b : List UInt8}, Value.string (S a) = .string (S b) → a = b := fun h => by injection h with h; exact S_inj.1 h
        rcases he with rfl | rfl | rfl
        · exact absurd (inj (a := nPHOTO) hk).symm h1
        · exact absurd (inj (a := nLOGO) hk).symm h2
        · exact absurd (inj (a := nSOUND) hk).symm h3
    simp [Instr.lookup, run_underlying Tryz.underlying245, MapKept.run_getObj_map hb, hc, MapKept.run_findKey Tryz.underlying9 hn, Result.andThen, hz]
set_option maxRecDepth 100000 in
set_option maxHeartbeats 2000000 in
theorem media2_any (n : List UInt8) (l : Value) (ps : List Pm) (w : World) (h : IsParams w l ps) (hl : ps.length ≤ 10000) (hp : ∀ p ∈ ps, p.1.length ≤ 1000000 ∧ ∀ u ∈ p.2, u.length ≤ 100000) (hne : ∀ i, findL ps nTYPE = some i → (ps.getD i ([], [])).2 ≠ []) : Gives 150 #[.string (S n), l] w (.string (S (mediaL n ps))) := by
  have HPS := hid h
  have HP := hid hp
  have FD := hid (find_any l ps nTYPE w h (by omega) (fun p hq => (hp p hq).1) (by simp [nTYPE]))
  obtain ⟨la, lc, rfl⟩ : ∃ a c, l = .slice a ps.length c := by
    obtain ⟨a, c, e, _⟩ := h
    exact ⟨a, c, e⟩
  clear h hp
  cases hf : findL ps nTYPE with
  | none =>
    have HR := hid (show mediaL n ps = octets by unfold mediaL; rw [hf])
    rw [hf] at FD
    unfold nTYPE at FD
    clear hf hne
    go_enter Tryz.func150, Tryz.ntmps150
    go_wp2_with fail
    refine FD.out.use ?_
    intro w2 g2
    simp only [findV]
    go_wp2_with fail
    go_ret
    exact ⟨by rw [HR.out]; rfl, g2⟩
  | some i =>
    have hi := find_lt hf
    have hvs := hne i hf
    have hgd : ps.getD i ([], []) = ps[i] := by simp [List.getD_eq_getElem?_getD, List.getElem?_eq_getElem hi]
    have HR := hid (show mediaL n ps = kindM n ++ lowerL (val0 ps i) by unfold mediaL; rw [hf])
    rw [hgd] at hvs
    have HVAL := hid (show val0 ps i = (ps[i]).2.getD 0 [] by unfold val0; rw [hgd])
    rw [hf] at FD
    unfold nTYPE at FD
    obtain ⟨hpn, hpv⟩ := HP.out _ (List.getElem_mem hi)
    obtain ⟨p, hpe⟩ : ∃ p, ps[i] = p := ⟨_, rfl⟩
    have HX := hid (show ps[i]? = some p by rw [List.getElem?_eq_getElem hi, hpe])
    rw [hpe] at hvs hpn hpv HVAL
    obtain ⟨pn, pvs⟩ := p
    simp only at hvs hpn hpv HVAL
    cases pvs with
    | nil => exact absurd rfl hvs
    | cons v0 vr =>
      have hv0 := hpv v0 List.mem_cons_self
      have HV0 := hid (show val0 ps i = v0 from HVAL.out)
      obtain ⟨kb, hkb⟩ : ∃ kb, kb = kindB n := ⟨_, rfl⟩
      have hkbl : kb.length ≤ 12 := by rw [hkb]; unfold kindB; split; (· decide); split <;> decide
      have lk := fun X => kinds_look X n
      have p1 := kinds_put1
      have p2 := kinds_put2
      have p3 := kinds_put3
      rw [← hkb] at lk
      have HKB := hid hkb
      have hmm := @run_makeMap Tryz.prog
      clear hkb hpe hf hne hgd hpv hvs
      go_enter Tryz.func150, Tryz.ntmps150
      go_wp2_with fail
      refine FD.out.use ?_
      intro w2 g2
      simp only [findV]
      have hi0 : ¬ (i : Int) < 0 := by omega
      obtain ⟨w3, hw3⟩ : ∃ w3, w2.alloc (.map kE3 3) = w3 := ⟨_, rfl⟩
      have G3 := hid (show G w w3 by rw [← hw3]; exact g2.alloc _)
      have lk3 := lk w2
      rw [hw3] at lk3
      obtain ⟨a2, cap2, e1, _, hc⟩ := HPS.out.grow G3.out
      obtain ⟨b, off, e2, hb, hcc⟩ := hc (by intro e; rw [e] at hi; simp at hi)
      clear hc
      simp only [Value.slice.injEq, true_and] at e1
      obtain ⟨rfl, rfl⟩ := e1
      subst e2
      obtain ⟨sv, c1, c2, c3⟩ := hcc i _ HX.out
      obtain ⟨b2, o2, cc2, hsv, _, hb2, hc2⟩ := c3.at_ (by simp)
      have d0 := hc2 0 _ rfl
      rw [Nat.add_zero] at d0
      subst hsv
      simp only [List.length_cons] at c2
      have hkl : (i : Int) < (ps.length : Int) := by omega
      clear hcc c3 hc2
      have LW := hid (fun W => lower_any v0 W (by omega))
      by_cases hk0 : kb = []
      · have hk1 : (kb == []) = true := by rw [hk0]; rfl
        have HM := hid (show mediaL n ps = [97, 112, 112, 108, 105, 99, 97, 116, 105, 111, 110, 47] ++ lowerL v0 by
          rw [HR.out, HV0.out]
          have := HKB.out
          rw [hk0] at this
          unfold kindB at this
          unfold kindM
          split at this
          · cases this
          · rename_i hh
            rw [if_neg hh]
            split at this
            · cases this
            · rename_i hh2; rw [if_neg hh2])
        clear hk0
        go_wp2_with fail
        refine (LW.out _).use ?_
        intro w4 g4
        go_wp2_with fail
        go_ret
        exact ⟨by rw [HM.out]; simp, G3.out.trans g4⟩
      · have hk1 : (kb == []) = false := by simpa using hk0
        have HM := hid (show mediaL n ps = kb ++ lowerL v0 by
          rw [HR.out, HV0.out, HKB.out]
          have := HKB.out
          congr 1
          unfold kindB kindM
          split
          · rfl
          · rename_i hh
            split
            · rfl
            · rename_i hh2
              exfalso; apply hk0; rw [this]; unfold kindB; rw [if_neg hh, if_neg hh2])
        clear hk0
        go_wp2_with fail
        refine (LW.out _).use ?_
        intro w4 g4
        go_wp2_with fail
        go_ret
        exact ⟨by rw [HM.out]; rfl, G3.out.trans g4⟩
end Go.Proofs.YtfadckackdmbnaaGreatDoor
