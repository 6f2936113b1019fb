/-
  THE WALK of JsonBack.
-/
import Derived.Test.YtlejbindochiiaaDoorJsonNoted
import Derived.Test.YtlejbindochiiaaDoorJsonWeight
namespace Go.Proofs.YtlejbindochiiaaDoor
open Go.RowKit
set_option linter.unusedVariables false
set_option linter.unusedSimpArgs false

theorem weight_one {n : Nat} {p : Nat → Prop} {w : World} {v : Value} {x : Jt} (hv : JAt n p w v x) (hs : ∀ d, SzJ 1048576 1048576 d x) : ∀ W, G w W → Gives 7 #[v, .int .i64 1] W (.int .i64 (wtJ 20 x : Int)) := fun W g =>
  weight_all 20 (Nat.le_refl _) 1048576 1048576 n p W v x (by decide) (hv.grow g) (hs 21)
theorem light_sz {x : Jt} (hs : ∀ d, SzJ 1048576 1048576 d x) (h : wtJ 20 x ≤ 600) : SzJ 5000 1048576 12 x := wt_small 1048576 1048576 20 12 x (by decide) h (hs 12)
theorem light_len {x : Jt} (hs : ∀ d, SzJ 1048576 1048576 d x) (h : wtJ 20 x ≤ 600) (hr : rightJ 12 x = none) : (writeJ 12 x).length ≤ 10000000000 := by
  have h1 := write_bound 1048576 1048576 20 12 x (by decide) (by omega) (hs 12) hr
  have h2 : (6 * 1048576 + 1000) * wtJ 20 x ≤ (6 * 1048576 + 1000) * 600 := Nat.mul_le_mul_left _ h
  omega
end Go.Proofs.YtlejbindochiiaaDoor
