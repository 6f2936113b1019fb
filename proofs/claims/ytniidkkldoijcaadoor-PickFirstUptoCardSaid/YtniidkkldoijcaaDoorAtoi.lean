/-
  CONTRACTS of strconv.Atoi, Itoa at any text and number, on lists of bytes.
-/
import Derived.Test.YtniidkkldoijcaaDoorShelf
import Derived.Test.YtniidkkldoijcaaDoorBase
import Derived.Lib.AtoiErrMem
import Derived.Lib.AtoiAllCases
import Derived.Lib.AppendIntMem
namespace Go.Proofs.YtniidkkldoijcaaDoor
open Go.RowKit
set_option linter.unusedVariables false
set_option linter.unusedSimpArgs false

/-- the cells of the two errors of package strconv hold errors -/
def HasErr (W : World) : Prop := (∃ ev, W.cell? ⟨0, 0, none⟩ = some ev ∧ (ev = .nilIface ∨ ∃ te pe, ev = .iface te pe)) ∧ (∃ ev, W.cell? ⟨1, 0, none⟩ = some ev ∧ (ev = .nilIface ∨ ∃ te pe, ev = .iface te pe))
theorem HasErr.grow {w w' : World} (h : HasErr w) (g : G w w') : HasErr w' := by
  obtain ⟨⟨e1, h1, k1⟩, ⟨e2, h2, k2⟩⟩ := h
  exact ⟨⟨e1, (g.cell (World.block_lt_of_cell? _ _ h1)).trans h1, k1⟩, ⟨e2, (g.cell (World.block_lt_of_cell? _ _ h2)).trans h2, k2⟩⟩

theorem S_list (s : List UInt8) : (S s).data.toList = s := by simp [S]
theorem atoi_ok (s : List UInt8) (n : Int) (w : World) (hs : s.length ≤ 1000000) (h : Lib.atoiAll s = .ok n) : Gives 61 #[.string (S s)] w (.tuple #[.int .i64 n, .nilIface]) := by
  refine (Tryd.strconv_Atoi_ok (S s) (by simp; omega) n (by rw [S_list]; exact h) w).mono ?_
  rintro e w' ⟨rfl, hw⟩
  refine ⟨rfl, ?_⟩
  rcases hw with rfl | ⟨t, rfl⟩
  · exact G.refl _
  · exact Lib.bytesWorld_below _ _ _
theorem atoi_digit1 : ∀ n : Nat, n < 10 → Lib.atoiAll [UInt8.ofNat (48 + n)] = .ok (n : Int) := by
  intro n hn
  have : n = 0 ∨ n = 1 ∨ n = 2 ∨ n = 3 ∨ n = 4 ∨ n = 5 ∨ n = 6 ∨ n = 7 ∨ n = 8 ∨ n = 9 := by omega
  rcases this with rfl | rfl | rfl | rfl | rfl | rfl | rfl | rfl | rfl | rfl <;> rfl
theorem atoi_digit_any (n : Nat) (w : World) (h : n < 10) : Gives 61 #[.string (S [UInt8.ofNat (48 + n)])] w (.tuple #[.int .i64 n, .nilIface]) := atoi_ok _ _ w (by simp) (atoi_digit1 n h)
/-- no number: an error -/
theorem atoi_no (s : List UInt8) (w : World) (hs : s.length ≤ 1000000) (h : ∀ n, Lib.atoiAll s ≠ .ok n) (hE : HasErr w) : Makes 61 #[.string (S s)] w fun v _ => ∃ (n : Int) (N : Nat), v = .tuple #[.int .i64 n, .iface 125 (.pointer (some ⟨N, 0, none⟩))] := by
  obtain ⟨⟨e1, h1, k1⟩, ⟨e2, h2, k2⟩⟩ := hE
  rcases hc : Lib.atoiAll s with n | _ | _
  · exact absurd hc (h n)
  · refine (Any.strconv_Atoi_syntax Tryd.laysC172 (S s) (by simp; omega) (by rw [S_list]; exact hc) e1 w h1 k1).mono ?_
    rintro e w' ⟨N, rfl, _, _, g⟩
    exact ⟨_, rfl, ⟨_, _, rfl⟩, g⟩
  · refine (Tryd.strconv_Atoi_range (S s) (by simp; omega) (by rw [S_list]; exact hc) e2 w h2 k2).mono ?_
    rintro e w' ⟨N, rfl, _, _, g⟩
    exact ⟨_, rfl, ⟨_, _, rfl⟩, g⟩
theorem itoa_any (n : Int) (w : World) (h0 : -9223372036854775808 ≤ n) (h1 : n ≤ 9223372036854775807) (htab : Lib.TabIs Tryd.prog w "internal/strconv.uint64pow10" .u64 Lib.pow10Tab) : Gives 85 #[.int .i64 n] w (.string (S (Lib.itoa n))) := by
  refine (Tryd.strconv_Itoa n h0 h1 w htab).mono ?_
  rintro e w' ⟨rfl, k, os, rfl⟩
  exact ⟨rfl, Lib.below_grow _ w (Nat.le_refl _) k os⟩
end Go.Proofs.YtniidkkldoijcaaDoor
