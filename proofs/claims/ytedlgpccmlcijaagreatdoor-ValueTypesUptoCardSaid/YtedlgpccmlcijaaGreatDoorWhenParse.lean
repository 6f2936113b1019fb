/-
  CONTRACT of when.Parse, of Print in general.
-/
import Derived.Test.YtedlgpccmlcijaaGreatDoorWhenParse1
import Derived.Test.YtedlgpccmlcijaaGreatDoorWhenParse2
import Derived.Test.YtedlgpccmlcijaaGreatDoorWhenParse3
import Derived.Test.YtedlgpccmlcijaaGreatDoorWhenParse4
import Derived.Test.YtedlgpccmlcijaaGreatDoorMLaws
namespace Go.Proofs.YtedlgpccmlcijaaGreatDoor
open Go.RowKit
set_option linter.unusedVariables false
set_option linter.unusedSimpArgs false

theorem numAt_bound {s : List UInt8} {k : List UInt8} (hk : ∀ b ∈ k, b.toNat < 128) (h : shapeL s = k) (h4 : ∀ i, 0 ≤ i → i < 4 → k[i]? = some 57) : -1 ≤ numAt s 0 4 ∧ numAt s 0 4 ≤ 9999 := by
  have hv := valL_le ((s.take 4).drop 0) (fun c hc => shape_dig hk h 0 4 c hc h4)
  have hl : ((s.take 4).drop 0).length ≤ 4 := by simp; omega
  have : 10 ^ ((s.take 4).drop 0).length ≤ 10 ^ 4 := Nat.pow_le_pow_right (by omega) hl
  unfold numAt
  omega
theorem dateP_bound {s : List UInt8} {y m d : Int} (h : dateP s (-1) (-1) (-1) = some (y, m, d)) : -1 ≤ y ∧ y ≤ 9999 := by
  unfold dateP at h
  split at h
  · cases h; decide
  split at h
  · rename_i _ hs; cases h; exact numAt_bound (by decide) hs (by intro i _ h4; rcases (by omega : i = 0 ∨ i = 1 ∨ i = 2 ∨ i = 3) with rfl | rfl | rfl | rfl <;> rfl)
  split at h
  · rename_i _ _ hs; cases h; exact numAt_bound (by decide) hs (by intro i _ h4; rcases (by omega : i = 0 ∨ i = 1 ∨ i = 2 ∨ i = 3) with rfl | rfl | rfl | rfl <;> rfl)
  split at h
  · rename_i _ _ _ hs; cases h; exact numAt_bound (by decide) hs (by intro i _ h4; rcases (by omega : i = 0 ∨ i = 1 ∨ i = 2 ∨ i = 3) with rfl | rfl | rfl | rfl <;> rfl)
  split at h
  · cases h; decide
  split at h
  · cases h; decide
  split at h
  · cases h; decide
  · cases h
theorem cut_lens (s sep : List UInt8) : (Lib.cut s sep).1.length ≤ s.length ∧ (Lib.cut s sep).2.1.length ≤ s.length ∧ ((Lib.cut s sep).2.2 = false → (Lib.cut s sep).2.1 = []) := by
  unfold Lib.cut
  split
  · simp; omega
  · simp
theorem parse_any (s : List UInt8) (w : World) (hm : HasM w) (hU : HasU w) (hs : s.length ≤ 1000) : Gives 33 #[.string (S s)] w (.tuple #[(parseW s).1.v, errV (parseW s).2]) := by
  obtain ⟨h1, h2, h3⟩ := cut_lens s [84]
  rcases hC : Lib.cut s [84] with ⟨d, t, tm⟩
  rw [hC] at h1 h2 h3
  simp only at h1 h2 h3
  have hP : parseW s = match dateP d (-1) (-1) (-1) with
    | none => (St0, 3)
    | some (y, m, dd) => if tm = true then (if t = [] then (St0, 3) else clockW y m dd t) else finW ⟨y, m, dd, -1, -1, -1, false, 0⟩ := by
    unfold parseW; rw [hC]; simp only; cases dateP d (-1) (-1) (-1) <;> rfl
  rw [hP]
  cases hD : dateP d (-1) (-1) (-1) with
  | none => exact parse_nodate s d t tm hC hD w hm hU hs (by omega)
  | some q =>
    obtain ⟨y, m, dd⟩ := q
    have hy := dateP_bound hD
    cases tm with
    | false =>
      obtain rfl := h3 rfl
      exact parse_alone s d y m dd hC hD hy w hm hU hs (by omega)
    | true =>
      by_cases ht : t = []
      · subst ht
        exact parse_notime s d y m dd hC hD w hm hU hs (by omega)
      · simp only [if_true, if_neg ht]
        by_cases h0 : 0 ≤ Lib.indexAny t [90, 43]
        · exact parse_timed1 s d t y m dd (by omega) hC (by simpa using ht) hD hy h0 w hm hU hs (by omega)
        · by_cases h2' : 2 ≤ Lib.lastIndexByte (S t) 45
          · exact parse_timed2 s d t y m dd (by omega) hC (by simpa using ht) hD hy h0 h2' w hm hU hs (by omega)
          · exact parse_timed3 s d t y m dd (by omega) hC (by simpa using ht) hD hy h0 h2' w hm hU hs (by omega)

end Go.Proofs.YtedlgpccmlcijaaGreatDoor
