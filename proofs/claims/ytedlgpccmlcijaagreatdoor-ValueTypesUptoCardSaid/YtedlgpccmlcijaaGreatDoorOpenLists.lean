/-
  Slices of slices of strings among the arguments. Plain.
-/
import Derived.Test.YtedlgpccmlcijaaGreatDoorOpen
import Derived.Test.YtedlgpccmlcijaaGreatDoorTexts
namespace Go.Proofs.YtedlgpccmlcijaaGreatDoor
open Go.RowKit Go.ChangeShapes Go.WideShapes
set_option linter.unusedVariables false
set_option linter.unusedSimpArgs false

section
variable {H : Type} {enc : TypeId × Value → H} {w : World}
theorem open_lists {t e s : TypeId} {fuel : Nat} {cs : List Value} {x : DataW H × List MemPlace} (ht : Tryz.prog.underlying t = some (.slice e)) (he : Tryz.prog.underlying e = some (.slice s)) (hs : Tryz.prog.underlying s = some .string) (hk : Tryz.prog.cellsOf e = 1) (hk1 : Tryz.prog.cellsOf s = 1)
    (h : DataW.trod enc Tryz.prog w 0 (fun _ => true) true fuel t cs = some x) : ∃ v ls, cs = [v] ∧ IsLists w v ls ∧ sumP ls + 1 ≤ Rows.uptoBulk x.1 := by
  obtain ⟨v, n, m, CS, D, rfl, hrow, hcap, hel, hb⟩ := open_rows ht hk (by omega) (fun m cs y hy u hu => by
    obtain ⟨v, l, rfl, hl, _⟩ := open_strs he hs hk1 hy
    obtain ⟨a, c, e, _⟩ := hl.len
    rw [List.mem_singleton.1 hu, e]; rfl) h
  obtain ⟨V, hV⟩ := Deep.choose_lt (α := Value) (p := fun i v => ∃ ls, CS i = [v] ∧ IsStrs w v ls ∧ lensL ls + 1 ≤ Rows.uptoBulk (D i)) (fun i hi => by
    obtain ⟨_, Pl, hp⟩ := hel i hi
    exact open_strs he hs hk1 hp)
  obtain ⟨L, hL⟩ := Deep.choose_lt (α := List (List UInt8)) (p := fun i ls => CS i = [V i] ∧ IsStrs w (V i) ls ∧ lensL ls + 1 ≤ Rows.uptoBulk (D i)) hV
  rw [flat_one CS V n fun i hi => (hL i hi).1] at hrow
  refine ⟨v, (List.range n).map L, rfl, ⟨(List.range n).map V, by simpa using hrow, hcap, fun i l hl => ?_⟩, ?_⟩
  · obtain ⟨hi, rfl⟩ := range_map_get L n i l hl
    exact ⟨V i, by simp [List.getElem?_range hi], (hL i hi).2.1⟩
  · have e3 : sumP ((List.range n).map L) = ((List.range n).map fun i => lensL (L i) + 1).sum := by unfold sumP; rw [List.map_map]; rfl
    have := sum_le_sum (fun i => lensL (L i) + 1) (fun i => Rows.uptoBulk (D i)) n fun i hi => (hL i hi).2.2
    rw [e3]; omega
end

end Go.Proofs.YtedlgpccmlcijaaGreatDoor
