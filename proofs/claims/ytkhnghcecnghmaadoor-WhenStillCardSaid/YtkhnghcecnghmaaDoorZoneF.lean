/-
  PLAIN FACTS, contracts in the form that laws use, and the fact that the laws of zone ask first.
-/
import Derived.Test.YtkhnghcecnghmaaDoorZone
namespace Go.Proofs.YtkhnghcecnghmaaDoor
open Go.RowKit
set_option linter.unusedVariables false
set_option linter.unusedSimpArgs false

theorem print_parse_all : (List.range 1681).all (fun k => decide (parseZ (printZ ((k : Int) - 840)) = ((k : Int) - 840, 0))) = true := by decide +kernel
theorem print_parse (n : Int) (h : rightZ n = true) : parseZ (printZ n) = (n, 0) := by
  have hb : -840 ≤ n ∧ n ≤ 840 := by simpa [rightZ] using h
  have := List.all_eq_true.1 print_parse_all (n + 840).toNat (by simp; omega)
  have e : (((n + 840).toNat : Nat) : Int) - 840 = n := by omega
  rw [e] at this
  exact of_decide_eq_true this
theorem finZ_cases (x : UInt8) (n d : Int) (hn : 0 ≤ n) : (finZ x n d).2 = 0 ∧ rightZ (finZ x n d).1 = true ∨ finZ x n d = (0, 2) := by
  unfold finZ
  split
  · exact Or.inr rfl
  · rename_i h
    left
    split <;> simp [rightZ] <;> omega
theorem parse_cases (l : List UInt8) : (parseZ l).2 = 0 ∧ rightZ (parseZ l).1 = true ∨ ((parseZ l).2 = 2 ∨ (parseZ l).2 = 3) ∧ (parseZ l).1 = 0 := by
  unfold parseZ
  split
  · left; simp [rightZ]
  · unfold parseR
    split
    · rename_i x a b _
      split
      · split
        · rename_i h
          rcases finZ_cases x (60 * (10 * ((a.toNat : Int) - 48) + ((b.toNat : Int) - 48))) 0 (by unfold dgP at h; omega) with h | h
          · exact Or.inl h
          · rw [h]; simp
        · simp
      · simp
    · rename_i x a b c d _
      split
      · split
        · rename_i h
          rcases finZ_cases x (minsZ a b c d) ((c.toNat : Int) - 48) (by unfold dgP at h; unfold minsZ; omega) with h | h
          · exact Or.inl h
          · rw [h]; simp
        · simp
      · simp
    · simp
theorem printZ_len (n : Int) (h : n ≠ 0) : (printZ n).length = 5 := by
  unfold printZ; rw [if_neg h]; split <;> simp
theorem printZ_le (n : Int) : (printZ n).length ≤ 5 := by
  unfold printZ; split
  · simp
  · split <;> simp

theorem zonePrint_to (n : Int) (t : List UInt8) (w : World) (h : rightZ n = true) (ht : printZ n = t) : Gives 19 #[.int .i64 n] w (.tuple #[.string (S t), .nilIface]) := by
  subst ht; exact zonePrint_any n w h
theorem zoneParse_to (l : List UInt8) (n : Int) (w : World) (hl : l.length ≤ 1000) (h : parseZ l = (n, 0)) : Gives 28 #[.string (S l)] w (.tuple #[.int .i64 n, .nilIface]) := by
  have := zoneParse_any l w (by omega)
  rw [h] at this; exact this
theorem zoneParse_bad (l : List UInt8) (c : Int) (w : World) (hl : l.length ≤ 1000) (hc : c ≠ 0) (h : parseZ l = (0, c)) : Gives 28 #[.string (S l)] w (.tuple #[.int .i64 0, eno c]) := by
  have := zoneParse_any l w (by omega)
  rw [h] at this
  simpa [errV, hc] using this


end Go.Proofs.YtkhnghcecnghmaaDoor
