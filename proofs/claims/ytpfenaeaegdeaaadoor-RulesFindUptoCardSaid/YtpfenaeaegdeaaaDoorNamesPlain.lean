/-
  Names of the entries of the tables of package rules. Plain.
-/
import Derived.Test.YtpfenaeaegdeaaaDoorRulesOf
import Derived.RangeFuncBox
namespace Go.Proofs.YtpfenaeaegdeaaaDoor
open Go.RowKit
set_option linter.unusedVariables false

theorem boxed_below {W W' : World} {B : Nat} {t : TypeId} {v : Value} (h : Boxed W B t v) (g : Below W.heap.size W W') : Boxed W' B t v := (g.block B h.lt).trans h
theorem ownsRow_below {W W' : World} {base : Nat} {e : TypeId} {size : Nat} {v : Value} {n : Nat} {xs : List Value} (h : W.ownsRow base e size v n xs) (g : Below W.heap.size W W') : W'.ownsRow base e size v n xs := by
  refine ⟨h.1, h.2.imp id ?_⟩
  rintro ⟨b, cap, cur, e1, e2, e3, r⟩
  exact ⟨b, cap, cur, e1, e2, (g.block b (Array.getElem?_eq_some_iff.1 e3).1).trans e3, r⟩
theorem ownsRow_mono {W : World} {base base' : Nat} {e : TypeId} {size : Nat} {v : Value} {n : Nat} {xs : List Value} (h : W.ownsRow base e size v n xs) (g : base' ≤ base) : W.ownsRow base' e size v n xs := by
  refine ⟨h.1, h.2.imp id ?_⟩
  rintro ⟨b, cap, cur, e1, e2, r⟩
  exact ⟨b, cap, cur, e1, Nat.le_trans g e2, r⟩
theorem kpSeq_set {Bp B1 Bz b : Nat} {W : World} (v : Value) (h1 : b ≠ Bp) (h2 : b ≠ B1) (h3 : b ≠ Bz) : KpSeq Bp B1 Bz W (W.setCell ⟨b, 0, none⟩ v) :=
  ⟨World.cell?_setCell_other _ _ _ _ (by first | (simp; done) | (simp; omega)), World.cell?_setCell_other _ _ _ _ (by first | (simp; done) | (simp; omega)), World.cell?_setCell_other _ _ _ _ (by first | (simp; done) | (simp; omega)), World.frozen?_setCell _ _ _ _⟩
theorem below_grown {n : Nat} {W w1 : World} {e : TypeId} {size : Nat} {v : Value} {k : Nat} {xs : List Value} {tmp : Obj} (hrow : W.ownsRow n e size v k xs) (hn : n ≤ W.heap.size) (hgrow : (W.alloc tmp).grownBy w1 v.ownBlock) : Below n W w1 := by
  refine ((Below.refl n W).alloc hn tmp).grown hgrow (by simp; omega) fun j ej => ?_
  rcases hrow.2 with ⟨rfl, _⟩ | ⟨g, cap, cur, rfl, hb, _, _⟩
  · simp [Value.ownBlock] at ej
  · obtain rfl : g = j := by simpa [Value.ownBlock] using ej
    exact hb
theorem infoNames : (Tryd.prog.info? 9).map (fun i => (i.zero, i.size, i.bytes)) = some (some (.string ⟨#[]⟩), 1, 16) := by kernel_rfl
/-- the name that an entry's text begins with -/
def nameOf (x : List UInt8) : List UInt8 := (Lib.cut x [32]).1
theorem nameOf_text (v : Int) : (tabT v).map (fun e => nameOf e.text) = (tabT v).map Ent.name := by
  unfold tabT
  split
  · decide +kernel
  · decide +kernel
theorem tab_len (v : Int) : (tabT v).length ≤ 100 := by
  unfold tabT
  split
  · decide +kernel
  · decide +kernel

end Go.Proofs.YtpfenaeaegdeaaaDoor
