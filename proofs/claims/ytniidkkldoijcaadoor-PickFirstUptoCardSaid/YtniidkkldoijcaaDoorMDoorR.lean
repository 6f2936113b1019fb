/-
  Texts merged into one: DoorW, DoorR, DoorR3.
-/
import Derived.Test.YtniidkkldoijcaaDoorRows
import Derived.ChangeSame
import Derived.ChangeVars
import Derived.JoinedOf
import Derived.RowKit
import Derived.RowKitTokens
import Derived.LaidLaws
import Derived.LaidHandle
import Derived.Stop.Joined
import Derived.Lib.LaidU8
import Derived.Test.YtniidkkldoijcaaDoorMRules
namespace Go.Proofs.YtniidkkldoijcaaDoor
open Go.ChangeShapes Go.WideShapes Go.RowKit
set_option linter.unusedVariables false

def putCells (h : Array Obj) (g : Nat) (cs : Array Value) : Array Obj := h.modify g fun
  | .cells _ t frozen => .cells cs t frozen
  | o => o
/-- the cells of a table's datum -/
def tabCells : DataW Unit → Array Value
  | .agg l => (l.map fun
    | .lit (.int k z) => Value.int k z
    | _ => undef).toArray
  | _ => #[]
/-! Places apart, reckoned with numbers (a list of hundreds of places is too much for 'decide' on places themselves). -/
def placeN : MemPlace → Nat
  | .cell b o => Nat.add (Nat.mul b 4096) (Nat.add o 1)
  | .map _ => 0
def freshN : List Nat → Bool
  | [] => true
  | x :: l => (l.all fun y => !(Nat.beq x y)) && freshN l
theorem freshN_nodup : ∀ l : List Nat, freshN l = true → l.Nodup
  | [], _ => List.nodup_nil
  | x :: l, h => by
    simp only [freshN, Bool.and_eq_true, List.all_eq_true] at h
    refine List.nodup_cons.2 ⟨fun hx => ?_, freshN_nodup l h.2⟩
    have := h.1 x hx
    simp at this
theorem nodup_of_fresh (ps : List MemPlace) (h : freshN (ps.map placeN) = true) : ps.Nodup := by
  have h3 := freshN_nodup _ h
  clear h
  induction ps with
  | nil => exact List.nodup_nil
  | cons a ps ih =>
    rw [List.map_cons, List.nodup_cons] at h3
    refine List.nodup_cons.2 ⟨fun ha => h3.1 (List.mem_map_of_mem ha), ih h3.2⟩
theorem laidMet_of_fresh {P : Program} {w : World} {l : List (String × DataW Unit)} (fuel : Nat) (h : (DataW.laidRun P w fuel (l.map (·.1))).map (·.1) = some l)
    (hf : (DataW.laidRun P w fuel (l.map (·.1))).map (fun x => freshN (x.2.map placeN)) = some true)
    (hr : (DataW.laidRun P w fuel (l.map (·.1))).map (fun x => laidRowsB P w x.2) = some true) : laidMet P l w := by
  cases hx : DataW.laidRun P w fuel (l.map (·.1)) with
  | none => simp [hx] at h
  | some x =>
    obtain ⟨l', ps⟩ := x
    simp only [hx, Option.map_some, Option.some.injEq] at h hf hr
    subst h
    exact laidMet_of_run fuel hx (decide_eq_true (nodup_of_fresh ps hf)) hr
theorem settled_size (os : Os) : (World.settled Tryd.prog os).heap.size = 11 := by kernel_rfl
/-- a world that meets the conditions: the settled one, the listed variables' cells laid (behind it the blocks that pointers among them lead to) -/
noncomputable def heldWorld (os : Os) : World :=
  let N := 11
  let bs : Array Obj := #[]
  let eN := N + bs.size
  let bs := (bs.push (.cells #[.string ⟨#[105, 110, 118, 97, 108, 105, 100, 32, 115, 121, 110, 116, 97, 120]⟩] 149)).push (.cells #[.string ⟨#[118, 97, 108, 117, 101, 32, 111, 117, 116, 32, 111, 102, 32, 114, 97, 110, 103, 101]⟩] 149)
  let w0 := World.holding Tryd.prog os ⟨bs, #[], []⟩
  let h0 := w0.heap
  let h0 := putCells h0 3 (tabCells Rows.laid_internal_strconv_uint64pow10)
  let h0 := putCells h0 4 (tabCells Rows.laid_math_bits_deBruijn32tab)
  let h0 := putCells h0 5 (tabCells Rows.laid_math_bits_deBruijn64tab)
  let h0 := putCells h0 0 #[.iface 147 (.pointer (some ⟨eN, 0, none⟩))]
  let h0 := putCells h0 1 #[.iface 147 (.pointer (some ⟨eN + 1, 0, none⟩))]
  { w0 with heap := h0 }

end Go.Proofs.YtniidkkldoijcaaDoor

namespace Go.Proofs.YtniidkkldoijcaaDoor
open Go.ChangeShapes Go.WideShapes Go.RowKit
set_option linter.unusedVariables false

theorem tabIs_of_reads {P : Program} {W : World} {name : String} {k : IntKind} {zs : List Int} {g : Nat} {t e : TypeId} {n : Nat}
    (hg : P.globalNamed name = some g) (hty : (P.globals[g]?).map (·.type) = some t) (ht : P.underlying t = some (.array n e)) (he : P.underlying e = some (.int k)) (hce : P.cellsOf e = 1) (hct : P.cellsOf t = n)
    (h : Lib.VarReads P W name (Lib.tabData k zs)) : Lib.TabIs P W name k zs := by
  obtain ⟨g', t', cs, fuel, p, hg', ht', hvar, hd⟩ := h
  obtain rfl := Option.some.inj (hg.symm.trans hg')
  obtain rfl := Option.some.inj (hty.symm.trans ht')
  unfold Lib.TabIs
  rw [hvar, ← Lib.cells_of_tab ht he hce hct hd]
theorem iface_of_trod {H : Type} {enc : TypeId × Value → H} {P : Program} {w : World} {base : Nat} {sp : Nat → Bool} {held : Bool} {fuel : Nat} {t : TypeId} {ms : Array (String × TypeId)} {cs : List Value} {d : DataW H} {p : List MemPlace}
    (ht : P.underlying t = some (.interface ms)) (h : DataW.trod enc P w base sp held fuel t cs = some (d, p)) : cs = [.nilIface] ∨ ∃ u v, cs = [.iface u v] := by
  cases fuel with
  | zero => simp [DataW.trod] at h
  | succ fuel =>
    unfold DataW.trod at h
    rw [ht] at h
    split at h <;> simp_all
theorem err_of_reads {P : Program} {W : World} {name : String} {d : DataW Unit} {g : Nat} {t : TypeId} {ms : Array (String × TypeId)}
    (hg : P.globalNamed name = some g) (hty : (P.globals[g]?).map (·.type) = some t) (ht : P.underlying t = some (.interface ms)) (h : Lib.VarReads P W name d) :
    ∃ ev, W.cell? ⟨g, 0, none⟩ = some ev ∧ (ev = .nilIface ∨ ∃ te pe, ev = .iface te pe) := by
  obtain ⟨g', t', cs, fuel, p, hg', ht', hvar, hd⟩ := h
  obtain rfl := Option.some.inj (hg.symm.trans hg')
  obtain rfl := Option.some.inj (hty.symm.trans ht')
  have hc := World.var?_cell hg hvar 0
  rcases iface_of_trod ht hd with e | ⟨u, v, e⟩
  · refine ⟨.nilIface, ?_, .inl rfl⟩
    obtain ⟨l⟩ := cs
    simp only at e
    subst e
    simpa using hc
  · refine ⟨.iface u v, ?_, .inr ⟨u, v, rfl⟩⟩
    obtain ⟨l⟩ := cs
    simp only at e
    subst e
    simpa using hc
theorem p10_data : Rows.laid_internal_strconv_uint64pow10 = (Lib.tabData .u64 Lib.pow10Tab : DataW Unit) := by kernel_rfl

end Go.Proofs.YtniidkkldoijcaaDoor

namespace Go.Proofs.YtniidkkldoijcaaDoor
open Go.ChangeShapes Go.WideShapes Go.RowKit
set_option linter.unusedVariables false

theorem rmem_of3 {W : World} {l : List (String × DataW Unit)} (hL : laidMet Tryd.prog l W) (hs : W.ShapedOpen Tryd.prog)
    (h2 : ("internal/strconv.uint64pow10", Rows.laid_internal_strconv_uint64pow10) ∈ l)
    (h3 : ("strconv.ErrSyntax", Rows.laid_strconv_ErrSyntax) ∈ l) (h4 : ("strconv.ErrRange", Rows.laid_strconv_ErrRange) ∈ l) : RMem W := by
  rw [p10_data] at h2
  exact ⟨tabIs_of_reads (g := 3) (t := 157) (e := 116) (n := 20) (by kernel_rfl) (by kernel_rfl) (by kernel_rfl) (by kernel_rfl) (by kernel_rfl) (by kernel_rfl) (Lib.laidMet.reads hL h2), ⟨err_of_reads (g := 0) (t := 90) (by kernel_rfl) (by kernel_rfl) Tryd.underlying90 (Lib.laidMet.reads hL h3), err_of_reads (g := 1) (t := 90) (by kernel_rfl) (by kernel_rfl) Tryd.underlying90 (Lib.laidMet.reads hL h4)⟩, Tryd.laysM145.s1_3 W hs⟩

end Go.Proofs.YtniidkkldoijcaaDoor
