/-
  A region that draws its order (text Gentle), its tail veiled: what takes facts apart does not look into it.
-/
import Derived.Test.YtniidkkldoijcaaDoorGentle
namespace Go.Proofs.YtniidkkldoijcaaDoor
open Go.RowKit
set_option linter.unusedVariables false
set_option linter.unusedSimpArgs false

/-- a proposition into which nothing looks -/
structure Veil (p : Prop) : Prop where
  out : p
theorem wpAny_veiled {P : Program} {Q : Exit → Act → World → Prop} {a : Act} {w w0 : World} {l : List Oper} {fuel : Nat} {E : Array Bool} (R : World → World → Prop) (m : Nat) (Φ : Nat → Value → World → Prop) (U : List (Option (List (Nat × Tmp)))) (V : List (Nat × Tmp)) (T : List Oper) (hB : gForm .any l.toArray E m = true) (hfu : gLeft E l.length ≤ fuel)
    (hU : gU .any l.toArray E m l 0 = U) (hV : gEnd l.toArray E m = V) (hT : gRest E (l.drop m) m = T)
    (hR0 : ∀ x, R x x) (hRt : ∀ x y z, R x y → R y z → R x z) (hw0 : R w0 w) (hst : ∀ k v w w', R w w' → Φ k v w → Φ k v w') (hops0 : gAll P l.toArray R Φ a w0 l U 0)
    (hend0 : ∀ (vals : Nat → Value) W, R w0 W → gFacts Φ vals W V → Veil (wpList P l.toArray Q T (gFr vals V a) W)) : wpAny P .any l.toArray Q fuel E a w :=
  wpAny_gentle R m Φ U V T hB hfu hU hV hT hR0 hRt hw0 hst hops0 fun vals W g d => (hend0 vals W g d).out
end Go.Proofs.YtniidkkldoijcaaDoor
