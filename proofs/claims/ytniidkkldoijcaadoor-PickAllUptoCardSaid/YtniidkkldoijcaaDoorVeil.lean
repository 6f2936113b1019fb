/-
  A region that draws its order (text Gentle), its tail veiled: what takes facts apart does not look into it.
-/
import Derived.Test.YtniidkkldoijcaaDoorGentle
namespace Go.Proofs.YtniidkkldoijcaaDoor
open Go.RowKit
set_option linter.unusedVariables false
set_option linter.unusedSimpArgs false

/-- a proposition into which nothing looks -/
structure Veil (p : Prop) : Prop where
  out : p
theorem wpAny_veiled {P : Program} {Q : Exit → Act → World → Prop} {a : Act} {w w0 : World} {l : List Oper} {fuel : Nat} {E : Array Bool} (R : World → World → Prop) (m : Nat) (Φ : Nat → Value → World → Prop) (U : List (Option (List (Nat × Tmp)))) (V : List (Nat × Tmp)) (T : List Oper) (hB : gForm .any l.toArray E m = true) (hfu : gLeft E l.length ≤ fuel)
    (hU : gU .any l.toArray E m l 0 = U) (hV : gEnd l.toArray E m = V) (hT : gRest E (l.drop m) m = T)
    (hR0 : ∀ x, R x x) (hRt : ∀ x y z, R x y → R y z → R x z) (hw0 : R w0 w) (hst : ∀ k v w w', R w w' → Φ k v w → Φ k v w') (hops0 : gAll P l.toArray R Φ a w0 l U 0)
    (hend0 : ∀ (vals : Nat → Value) W, R w0 W → gFacts Φ vals W V → Veil (wpList P l.toArray Q T (gFr vals V a) W)) : wpAny P .any l.toArray Q fuel E a w :=
  wpAny_gentle R m Φ U V T hB hfu hU hV hT hR0 hRt hw0 hst hops0 fun vals W g d => (hend0 vals W g d).out
/-- one that is guarded, the guard not wanting it: what the guard's operation holds is no such Bool -/
theorem gOp_skip {P : Program} {ops : Array Oper} {R : World → World → Prop} {Φ : Value → World → Prop} {o : Oper} {u : List (Nat × Tmp)} {vals : Nat → Value} {a : Act} {W : World} {t tg : Tmp} {g : Nat} {w0 : Bool} {x : Value} (hv : vals g = x) (hx : x ≠ .bool w0) (hg : o.guard = some (g, w0)) (hgd : gDst ops g = some tg) (hm : (g, tg) ∈ u) (hu : u.all (fun p => p.2 != tg || p.1 == g) = true) (hts : decide (tg < a.tmps.size) = true) (hd : o.dst = some t) (htd : decide (t < a.tmps.size) = true) (h : Φ undef W) : gOp P ops R Φ o (gFr vals u a) W := by
  have ht := of_decide_eq_true htd
  have hy : yielded ops (gFr vals u a).tmps g ≠ some w0 := by
    unfold yielded
    have := gFr_get vals g tg u a hm hu (of_decide_eq_true hts)
    unfold gDst at hgd
    rw [hgd]
    simp only [Option.bind_some]
    rw [this, hv]
    intro e
    split at e
    · rename_i b hb
      cases hb
      cases e
      exact hx rfl
    · cases e
  unfold gOp
  rw [if_neg (by unfold Region.wanted; rw [hg]; simpa using hy)]
  unfold gRes
  rw [hd]
  simp only
  rw [Act.put_same, if_pos (by rw [gFr_size]; exact ht)]
  exact h
theorem undef_no {b : Bool} : undef ≠ .bool b := by intro h; cases h
theorem bool_no {a b : Bool} (h : a ≠ b) : Value.bool a ≠ .bool b := by intro e; cases e; exact h rfl
end Go.Proofs.YtniidkkldoijcaaDoor
