/-
  A world in which the variables that rows list hold what their rows say. Plain lemmas.
-/
import Derived.Test.YtlejbindochiiaaDoorRows
import Derived.ChangeSame
import Derived.ChangeVars
import Derived.JoinedOf
import Derived.RowKit
import Derived.RowKitTokens
import Derived.LaidLaws
import Derived.LaidHandle
import Derived.Stop.Joined
import Derived.Lib.LaidU8
namespace Go.Proofs.YtlejbindochiiaaDoor
open Go.ChangeShapes Go.WideShapes Go.RowKit
set_option linter.unusedVariables false

def putCells (h : Array Obj) (g : Nat) (cs : Array Value) : Array Obj := h.modify g fun
  | .cells _ t frozen => .cells cs t frozen
  | o => o
/-- the cells of a table's datum -/
def tabCells : DataW Unit → Array Value
  | .agg l => (l.map fun
    | .lit (.int k z) => Value.int k z
    | _ => undef).toArray
  | _ => #[]
/-! Places apart, reckoned with numbers (a list of hundreds of places is too much for 'decide' on places themselves). -/
def placeN : MemPlace → Nat
  | .cell b o => Nat.add (Nat.mul b 4096) (Nat.add o 1)
  | .map _ => 0
def freshN : List Nat → Bool
  | [] => true
  | x :: l => (l.all fun y => !(Nat.beq x y)) && freshN l
theorem freshN_nodup : ∀ l : List Nat, freshN l = true → l.Nodup
  | [], _ => List.nodup_nil
  | x :: l, h => by
    simp only [freshN, Bool.and_eq_true, List.all_eq_true] at h
    refine List.nodup_cons.2 ⟨fun hx => ?_, freshN_nodup l h.2⟩
    have := h.1 x hx
    simp at this
theorem nodup_of_fresh (ps : List MemPlace) (h : freshN (ps.map placeN) = true) : ps.Nodup := by
  have h3 := freshN_nodup _ h
  clear h
  induction ps with
  | nil => exact List.nodup_nil
  | cons a ps ih =>
    rw [List.map_cons, List.nodup_cons] at h3
    refine List.nodup_cons.2 ⟨fun ha => h3.1 (List.mem_map_of_mem ha), ih h3.2⟩
theorem laidMet_of_fresh {P : Program} {w : World} {l : List (String × DataW Unit)} (fuel : Nat) (h : (DataW.laidRun P w fuel (l.map (·.1))).map (·.1) = some l)
    (hf : (DataW.laidRun P w fuel (l.map (·.1))).map (fun x => freshN (x.2.map placeN)) = some true)
    (hr : (DataW.laidRun P w fuel (l.map (·.1))).map (fun x => laidRowsB P w x.2) = some true) : laidMet P l w := by
  cases hx : DataW.laidRun P w fuel (l.map (·.1)) with
  | none => simp [hx] at h
  | some x =>
    obtain ⟨l', ps⟩ := x
    simp only [hx, Option.map_some, Option.some.injEq] at h hf hr
    subst h
    exact laidMet_of_run fuel hx (decide_eq_true (nodup_of_fresh ps hf)) hr
theorem settled_size (os : Os) : (World.settled Tryd.prog os).heap.size = 7 := by kernel_rfl
/-- a world that meets the conditions: the settled one, the listed variables' cells laid (behind it the blocks that pointers among them lead to) -/
noncomputable def heldWorld (os : Os) : World :=
  let N := 7
  let bs : Array Obj := #[]
  let w0 := World.holding Tryd.prog os ⟨bs, #[], []⟩
  let h0 := w0.heap
  let h0 := putCells h0 0 #[.iface 91 (.agg #[typeHandle Tryd.prog 29])]
  { w0 with heap := h0 }

end Go.Proofs.YtlejbindochiiaaDoor
