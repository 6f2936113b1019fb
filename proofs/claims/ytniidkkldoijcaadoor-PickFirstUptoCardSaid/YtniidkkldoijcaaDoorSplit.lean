/-
  CONTRACT of strings.Split at texts whose pieces do not hold the separator's first byte; what it makes of them. And slices of strings.
-/
import Derived.Test.YtniidkkldoijcaaDoorShelf
import Derived.Test.YtniidkkldoijcaaDoorMBase
import Derived.Lib.SplitLaws
import Derived.Lib.CountLaws
namespace Go.Proofs.YtniidkkldoijcaaDoor
open Go.RowKit
set_option linter.unusedVariables false
set_option linter.unusedSimpArgs false

/-- pieces with a separator between -/
def joinS (sep : List UInt8) (p : List UInt8) : List (List UInt8) → List UInt8
  | [] => p
  | q :: ps => p ++ (sep ++ joinS sep q ps)
theorem index_piece (c : UInt8) (t p r : List UInt8) (h : c ∉ p) : Lib.index (p ++ ((c :: t) ++ r)) (c :: t) = p.length := by
  refine Lib.index_hit ?_ (by simp; try omega) ?_
  · intro j hj
    unfold Lib.occAt
    rw [List.drop_append_of_le_length (by omega), List.drop_eq_getElem_cons hj, List.cons_append]
    have h13 : (c == p[j]) = false := beq_eq_false_iff_ne.2 (fun e => h (e ▸ List.getElem_mem hj))
    simp [List.isPrefixOf, h13]
  · unfold Lib.occAt
    rw [List.drop_left]
    exact List.isPrefixOf_iff_prefix.2 (List.prefix_append _ _)
theorem index_absent (c : UInt8) (t p : List UInt8) (h : c ∉ p) : Lib.index p (c :: t) = -1 := by
  refine Lib.index_past (i := p.length) (by simp) ?_ (by simp)
  intro j hj
  unfold Lib.occAt
  rw [List.drop_eq_getElem_cons hj]
  have h13 : (c == p[j]) = false := beq_eq_false_iff_ne.2 (fun e => h (e ▸ List.getElem_mem hj))
  simp [List.isPrefixOf, h13]
theorem count_joinS (c : UInt8) (t : List UInt8) (ps : List (List UInt8)) : ∀ p : List UInt8, c ∉ p → (∀ q ∈ ps, c ∉ q) → Lib.count (joinS (c :: t) p ps) (c :: t) = ps.length := by
  induction ps with
  | nil => intro p hp _; exact Lib.count_miss (index_absent c t p hp)
  | cons q ps ih =>
    intro p hp hq
    show Lib.count (p ++ ((c :: t) ++ joinS (c :: t) q ps)) _ = _
    rw [Lib.count_hit (by simp) (index_piece c t p _ hp)]
    have : (p ++ ((c :: t) ++ joinS (c :: t) q ps)).drop (p.length + (c :: t).length) = joinS (c :: t) q ps := by
      rw [← List.append_assoc, ← List.length_append, List.drop_left]
    rw [this, ih q (hq q List.mem_cons_self) fun q' hq' => hq q' (List.mem_cons_of_mem _ hq')]
    simp; omega
theorem split_joinS (c : UInt8) (t : List UInt8) (ps : List (List UInt8)) : ∀ p : List UInt8, c ∉ p → (∀ q ∈ ps, c ∉ q) → Lib.splitK (c :: t) 0 ps.length (joinS (c :: t) p ps) = p :: ps := by
  induction ps with
  | nil => intro p hp _; rfl
  | cons q ps ih =>
    intro p hp hq
    have hi := index_piece c t p (joinS (c :: t) q ps) hp
    have e : Lib.splitK (c :: t) 0 (ps.length + 1) (p ++ ((c :: t) ++ joinS (c :: t) q ps)) = p :: Lib.splitK (c :: t) 0 ps.length (joinS (c :: t) q ps) := by
      rw [Lib.splitK, hi, if_neg (by simp)]
      have e1 : (p ++ ((c :: t) ++ joinS (c :: t) q ps)).take ((p.length : Int).toNat + 0) = p := by simp
      have e2 : (p ++ ((c :: t) ++ joinS (c :: t) q ps)).drop ((p.length : Int).toNat + (c :: t).length) = joinS (c :: t) q ps := by
        rw [Int.toNat_natCast, ← List.append_assoc, ← List.length_append, List.drop_left]
      rw [e1, e2]
    show Lib.splitK (c :: t) 0 (ps.length + 1) (p ++ ((c :: t) ++ joinS (c :: t) q ps)) = _
    rw [e, ih q (hq q List.mem_cons_self) fun q' hq' => hq q' (List.mem_cons_of_mem _ hq')]

theorem strs_of_alloc (w : World) (t : TypeId) (ls : List (List UInt8)) (h : ls ≠ []) : IsStrs (w.alloc (.cells ((ls.map S).map Value.string).toArray t)) (.slice (some ⟨w.heap.size, 0, none⟩) ls.length ls.length) ls := by
  refine ⟨⟨by simp, ?_, .inr ⟨w.heap.size, 0, ls.length, rfl, by simp, ?_, fun j hj => ?_⟩⟩, Nat.le_refl _⟩
  · intro u hu
    obtain ⟨l, _, rfl⟩ := List.mem_map.1 hu
    rfl
  · cases ls with
    | nil => exact absurd rfl h
    | cons _ _ => simp
  · rw [Nat.zero_add, World.cell?_alloc_new]
    simp at hj
    simp [List.getElem?_eq_getElem hj]
theorem map_S_data (l : List ByteArray) (xs : List (List UInt8)) (h : l.map (·.data.toList) = xs) : l = xs.map S := by
  subst h
  rw [List.map_map]
  conv => lhs; rw [← List.map_id l]
  exact List.map_congr_left fun s _ => rfl

end Go.Proofs.YtniidkkldoijcaaDoor
