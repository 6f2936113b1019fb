/-
  A BOX FOR A CARD, laid before or behind the call that fills it: what 'with' hands back lies beside every box that still holds the zero card.
-/
import Derived.Test.YtfadckackdmbnaaGreatDoorAnnAt
namespace Go.Proofs.YtfadckackdmbnaaGreatDoor
open Go.RowKit
set_option linter.unusedVariables false
set_option linter.unusedSimpArgs false
def IsZc (W : World) (Y : Nat) : Prop := W.heap[Y]? = some (.cells #[.int .i64 0, .slice none 0 0] 27 (0, 0))
def ItFree (hs : Nat) (W : World) (v : Value) (xs : List It) : Prop := IsItems W v xs ∧ ∀ Y, hs ≤ Y → IsZc W Y → IsItems (Wo Y W) v xs
theorem IsZc.lt {W : World} {Y : Nat} (h : IsZc W Y) : Y < W.heap.size := (Array.getElem?_eq_some_iff.1 h).1
theorem IsZc.grow {W W' : World} {Y : Nat} (h : IsZc W Y) (g : G W W') : IsZc W' Y := row_up h g
theorem IsZc.back {W W' : World} {Y : Nat} (g : G W W') (hl : Y < W.heap.size) (h : IsZc W' Y) : IsZc W Y := (g.below.block Y hl).symm.trans h
theorem ItFree.grow {hs : Nat} {W W' : World} {v : Value} {xs : List It} (h : ItFree hs W v xs) (g : G W W') : ItFree hs W' v xs := by
  refine ⟨h.1.grow g, fun Y hY hz => ?_⟩
  by_cases hl : Y < W.heap.size
  · exact (h.2 Y hY (hz.back g hl)).grow (Wo.g g)
  · exact h.1.grow (Wo.of g (by omega))
theorem zc_no {W : World} {Y b : Nat} {c : Array Value} {t : TypeId} {f : Nat × Nat} (h : IsZc W Y) (hb : W.heap[b]? = some (.cells c t f)) (ht : t ≠ 27) : b ≠ Y := by
  rintro rfl
  unfold IsZc at h
  rw [h] at hb
  cases hb
  exact ht rfl
theorem AnnAt.zc {m Y : Nat} {W : World} (h : AnnAt m W) (hz : IsZc W Y) : Y < m + 1 ∨ m + 8 ≤ Y := by
  have h1 := zc_no hz h.e1 (by decide)
  have h2 := zc_no hz h.e2 (by decide)
  have h3 := zc_no hz h.e3 (by decide)
  have h4 := zc_no hz h.e4 (by decide)
  have h5 := zc_no hz h.e5 (by decide)
  have h6 := zc_no hz h.e6 (by decide)
  have h7 := zc_no hz h.e7 (by decide)
  omega
theorem own_zc {w : World} {Y base : Nat} {t : TypeId} {k n : Nat} {v : Value} {cs : List Value} (h : w.ownsRow base t k v n cs) (hz : IsZc w Y) (ht : t ≠ 27) : (Wo Y w).ownsRow base t k v n cs := by
  refine ⟨h.1, ?_⟩
  rcases h.2 with e | ⟨g, cap, cur, e, hb, hg, r⟩
  · exact .inl e
  · exact .inr ⟨g, cap, cur, e, hb, by rw [Wo.other Y w g (zc_no hz hg ht)]; exact hg, r⟩
theorem withFree_any (ver : Int) (m : Nat) (x : It) (pv lv : Value) (hs : Nat) (w : World) (h : AnnAt m w) (hok : ItOk w x pv lv) (hok2 : ∀ Y, hs ≤ Y → IsZc w Y → ItOk (Wo Y w) x pv lv) :
    Makes 15 #[cardV ver (.slice (some ⟨m + 7, 0, none⟩) 2 2), x.val pv lv] w (fun v w' => ∃ a c', v = cardV ver (.slice (some a) 3 c') ∧ ItFree hs w' (.slice (some a) 3 c') (annXs ++ [x])) := by
  refine (with_any ver (.slice (some ⟨m + 7, 0, none⟩) 2 2) 2 (annCs m) x pv lv w h.lies (.inr ⟨_, _, _, rfl⟩) hok (by omega)).mono ?_
  rintro v w3 g3 ⟨u, rfl, how⟩
  have hr : ItRow w (annXs ++ [x]) (annCs m ++ x.cells pv lv) := h.row.append (ItRow.single hok)
  have hi : IsItems w3 u (annXs ++ [x]) := Lies.items (OwnR.lies how (hr.grow g3).one) (hr.grow g3)
  have hf : ∀ Y, hs ≤ Y → IsZc w3 Y → IsItems (Wo Y w3) u (annXs ++ [x]) := by
    intro Y hY hz
    have hr3 : ItRow (Wo Y w3) (annXs ++ [x]) (annCs m ++ x.cells pv lv) := by
      by_cases hl : Y < w.heap.size
      · have hz1 := hz.back g3 hl
        have ha : AnnAt m (Wo Y w) := h.wl (L := [Y]) (fun X hX => by rw [List.mem_singleton.1 hX]; exact h.zc hz1)
        exact (ha.row.append (ItRow.single (hok2 Y hY hz1))).grow (Wo.g g3)
      · exact hr.grow (Wo.of g3 (by omega))
    exact Lies.items (OwnR.lies (own_zc how hz (by decide)) hr3.one) hr3
  obtain ⟨g', cap', rfl⟩ := own_succ how
  exact ⟨_, _, rfl, hi, hf⟩
theorem zc_put {hs Y : Nat} {W : World} {a : Value} {xs : List It} {u1 u2 : Value} (h : ItFree hs W a xs) (hY : hs ≤ Y) (hz : IsZc W Y) : IsItems ((W.setCell ⟨Y, 0, none⟩ u1).setCell ⟨Y, 1, none⟩ u2) a xs := by
  refine IsItems.sub0 (w := Wo Y W) (h.2 Y hY hz) ?_
  have e : Wo Y ((W.setCell ⟨Y, 0, none⟩ u1).setCell ⟨Y, 1, none⟩ u2) = Wo Y W := by rw [Wo.set, Wo.set]
  rw [← e]
  exact Wo.sub Y _
end Go.Proofs.YtfadckackdmbnaaGreatDoor
