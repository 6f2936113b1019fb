/-
  CONTRACT of ann, by blocks: what it lays lies beside older blocks.
-/
import Derived.Test.YtfadckackdmbnaaGreatDoorMA51
import Derived.Test.YtfadckackdmbnaaGreatDoorMA53
import Derived.Test.YtfadckackdmbnaaGreatDoorMA54
namespace Go.Proofs.YtfadckackdmbnaaGreatDoor
open Go.RowKit
set_option linter.unusedVariables false
set_option linter.unusedSimpArgs false
structure AnnAt (m : Nat) (W : World) : Prop where
  e1 : W.heap[m + 1]? = some (.cells #[.string (S [65])] 9 (0, 0))
  e2 : W.heap[m + 2]? = some (.cells #[.string (S [65, 110, 110])] 9 (0, 0))
  e3 : W.heap[m + 3]? = some (.cells #[.string (S [])] 9 (0, 0))
  e4 : W.heap[m + 4]? = some (.cells #[.string (S [])] 9 (0, 0))
  e5 : W.heap[m + 5]? = some (.cells #[.string (S [])] 9 (0, 0))
  e6 : W.heap[m + 6]? = some (.cells #[.slice (some ⟨m + 1, 0, none⟩) 1 1, .slice (some ⟨m + 2, 0, none⟩) 1 1, .slice (some ⟨m + 3, 0, none⟩) 1 1, .slice (some ⟨m + 4, 0, none⟩) 1 1, .slice (some ⟨m + 5, 0, none⟩) 1 1] 23 (0, 0))
  e7 : W.heap[m + 7]? = some (.cells (annFN.cells (.slice none 0 0) (.slice none 0 0) ++ annN.cells (.slice none 0 0) (.slice (some ⟨m + 6, 0, none⟩) 5 5)).toArray 37 (0, 0))
theorem AnnAt.wl {m : Nat} {W : World} {L : List Nat} (h : AnnAt m W) (hL : ∀ X ∈ L, X < m + 1 ∨ m + 8 ≤ X) : AnnAt m (Wl L W) := by
  have k : ∀ b, m + 1 ≤ b ∧ b < m + 8 → (Wl L W).heap[b]? = W.heap[b]? := fun b hb => Wl.other fun X hX => by have := hL X hX; omega
  exact ⟨(k _ (by omega)).trans h.e1, (k _ (by omega)).trans h.e2, (k _ (by omega)).trans h.e3, (k _ (by omega)).trans h.e4, (k _ (by omega)).trans h.e5, (k _ (by omega)).trans h.e6, (k _ (by omega)).trans h.e7⟩
def annCs (m : Nat) : List Value := annFN.cells (.slice none 0 0) (.slice none 0 0) ++ annN.cells (.slice none 0 0) (.slice (some ⟨m + 6, 0, none⟩) 5 5)
theorem AnnAt.grow {m : Nat} {W W' : World} (h : AnnAt m W) (g : G W W') : AnnAt m W' := ⟨row_up h.e1 g, row_up h.e2 g, row_up h.e3 g, row_up h.e4 g, row_up h.e5 g, row_up h.e6 g, row_up h.e7 g⟩
theorem AnnAt.row {m : Nat} {W : World} (h : AnnAt m W) : ItRow W annXs (annCs m) := by
  obtain ⟨e1, e2, e3, e4, e5, e6, e7⟩ := h
  have s1 : IsStrs W (.slice (some ⟨m + 1, 0, none⟩) 1 1) [[65]] := OneS.strs ⟨_, rfl, e1⟩
  have s2 : IsStrs W (.slice (some ⟨m + 2, 0, none⟩) 1 1) [[65, 110, 110]] := OneS.strs ⟨_, rfl, e2⟩
  have s3 : IsStrs W (.slice (some ⟨m + 3, 0, none⟩) 1 1) [[]] := OneS.strs ⟨_, rfl, e3⟩
  have s4 : IsStrs W (.slice (some ⟨m + 4, 0, none⟩) 1 1) [[]] := OneS.strs ⟨_, rfl, e4⟩
  have s5 : IsStrs W (.slice (some ⟨m + 5, 0, none⟩) 1 1) [[]] := OneS.strs ⟨_, rfl, e5⟩
  have hl : IsLists W (.slice (some ⟨m + 6, 0, none⟩) 5 5) annN.v.ps := by
    refine ⟨[.slice (some ⟨m + 1, 0, none⟩) 1 1, .slice (some ⟨m + 2, 0, none⟩) 1 1, .slice (some ⟨m + 3, 0, none⟩) 1 1, .slice (some ⟨m + 4, 0, none⟩) 1 1, .slice (some ⟨m + 5, 0, none⟩) 1 1], ⟨rfl, by simp [Value.oneCell'], .inr ⟨m + 6, 0, 5, rfl, (Array.getElem?_eq_some_iff.1 e6).1, by simp [annN], fun j hj => ?_⟩⟩, Nat.le_refl _, fun i l hi => ?_⟩
    · rw [cell_of_row W _ _ _ _ _ e6, Nat.zero_add]; simp
    · match i, hi with
      | 0, hi => cases hi; exact ⟨_, rfl, s1⟩
      | 1, hi => cases hi; exact ⟨_, rfl, s2⟩
      | 2, hi => cases hi; exact ⟨_, rfl, s3⟩
      | 3, hi => cases hi; exact ⟨_, rfl, s4⟩
      | 4, hi => cases hi; exact ⟨_, rfl, s5⟩
      | n + 5, hi => simp [annN] at hi
  exact ⟨_, _, _, rfl, ok_fn W, _, _, _, rfl, ok_n hl, rfl⟩
theorem AnnAt.lies {m : Nat} {W : World} (h : AnnAt m W) : Lies W (.slice (some ⟨m + 7, 0, none⟩) 2 2) 2 (annCs m) := by
  have e7 := h.e7
  refine ⟨by simp [annCs, It.cells], (show ItRow W annXs (annCs m) from h.row).one, _, 2, rfl, Nat.le_refl _, fun _ => ⟨m + 7, 0, rfl, (Array.getElem?_eq_some_iff.1 e7).1, fun j u hu => ?_⟩⟩
  rw [cell_of_row W _ _ _ _ _ e7, Nat.zero_add, List.getElem?_toArray]
  exact hu
set_option maxRecDepth 100000 in
set_option maxHeartbeats 4000000 in
theorem annAt_any (ver : Int) (w : World) : Makes 16 #[.int .i64 ver] w (fun v w' => v = cardV ver (.slice (some ⟨w.heap.size + 7, 0, none⟩) 2 2) ∧ AnnAt w.heap.size w') := by
  go_enter Tryz.func16, Tryz.ntmps16
  go_wp2_with fail
  refine bodyPost_ret (v := cardV ver (.slice (some ⟨w.heap.size + 7, 0, none⟩) 2 2)) ?_ rfl ⟨_, rfl, ⟨rfl, ?_⟩, ?_⟩
  · unfold cardV
    simp only [results, Tryz.f16]
    go_simp
  · generalize hW : ((((((((w.alloc _).alloc _).alloc _).alloc _).alloc _).alloc _).alloc _).alloc _) = W
    obtain ⟨e1, e2, e3, e4, e5, e6, e7⟩ := news8 _ _ _ _ _ _ _ _ _ _ hW
    exact ⟨e1, e2, e3, e4, e5, e6, e7⟩
  · repeat (first | exact G.refl _ | refine G.alloc ?_ _)
theorem withAt_any (ver : Int) (m : Nat) (x : It) (pv lv : Value) (L : List Nat) (w : World) (h : AnnAt m w) (hL : ∀ X ∈ L, X < m + 1 ∨ m + 8 ≤ X) (hw : ∀ X ∈ L, X < w.heap.size) (hok : ItOk (Wl L w) x pv lv) :
    Makes 15 #[cardV ver (.slice (some ⟨m + 7, 0, none⟩) 2 2), x.val pv lv] w (fun v w' => ∃ a c', v = cardV ver (.slice (some a) 3 c') ∧ IsItems (Wl L w') (.slice (some a) 3 c') (annXs ++ [x])) := by
  refine (with_any ver (.slice (some ⟨m + 7, 0, none⟩) 2 2) 2 (annCs m) x pv lv w h.lies (.inr ⟨_, _, _, rfl⟩) (hok.sub (Wl.sub L w)) (by omega)).mono ?_
  rintro v w3 g3 ⟨u, rfl, how⟩
  have hr3 : ItRow (Wl L w3) (annXs ++ [x]) (annCs m ++ x.cells pv lv) := ((h.grow g3).wl hL).row.append (ItRow.single (hok.grow (Wl.g g3)))
  have hi : IsItems (Wl L w3) u (annXs ++ [x]) := Lies.items (OwnR.lies (Wl.own how (fun X hX => by have := hw X hX; omega)) hr3.one) hr3
  obtain ⟨g', cap', rfl⟩ := own_succ how
  exact ⟨_, _, rfl, hi⟩
end Go.Proofs.YtfadckackdmbnaaGreatDoor
