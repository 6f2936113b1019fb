/-
  CONTRACTS of the function that json.Read defers: behind a panic, behind a return.
-/
import Derived.Test.YtlejbindochiiaaDoorJsonObj
import Derived.Test.YtlejbindochiiaaDoorErr
import Derived.Test.YtlejbindochiiaaDoorRowSet
import Derived.Recover
import Derived.Stop.Asserts
namespace Go.Proofs.YtlejbindochiiaaDoor
open Go.RowKit
set_option linter.unusedVariables false
set_option linter.unusedSimpArgs false

@[go_sem] theorem as_faultJ (v : Value) (w : World) : (Instr.typeAssert (.iface 54 v) 20 54 true).run Tryd.prog w = .ok (.tuple #[v, .bool true]) w := by kernel_rfl
set_option maxRecDepth 100000 in
set_option maxHeartbeats 1000000 in
theorem jcatch_idle (p : Addr) (q : Addr) (w : World) :
    CallsD Tryd.prog 18 #[.pointer (some p), .pointer (some q)] .returning w fun e u' w' => e = .returned (.tuple #[]) ∧ u' = .returning ∧ w' = w := by
  refine callsD_of_wpS Tryd.func18 rfl fun c₀ cs hu => ?_
  apply wpS_seq
  apply wpS_region
  simp [wpOpsS, go_sem, recoverD, hu, Tryd.ntmps18, Exit.thenS]
  apply wpS_seq
  apply wpS_region
  simp [wpOpsS, go_sem, recoverD, hu, Tryd.ntmps18, Exit.thenS]
  refine wpS_cond (t := false) (by simp [Act.eval, Array.replicate]) ?_
  simp only [Bool.false_eq_true, if_false]
  refine wpS_of_wp (wp_skip ?_)
  cases c₀
  simp_all [bodyPostS, results, Tryd.results18]

set_option maxRecDepth 100000 in
set_option maxHeartbeats 1000000 in
theorem jcatch_panic (P E : Nat) (a b c d : Value) (e0 : Value) (ec k : Int) (older : List PanicEntry) (w : World) (hP : w.heap[P]? = some (.cells #[a, b, c, d] 25)) (hE : w.heap[E]? = some (.cells #[e0] 29)) (hne : P ≠ E) :
    CallsD Tryd.prog 18 #[.pointer (some ⟨P, 0, none⟩), .pointer (some ⟨E, 0, none⟩)] (.panicking ({ v := faultJ ec k, recovered := false } :: older)) w fun e u' w' =>
      e = .returned (.tuple #[]) ∧ u' = .panicking ({ v := faultJ ec k, recovered := true } :: older) ∧ ∃ x, w'.heap[P]? = some (.cells #[.int .i64 0, .string (S []), .slice none 0 0, .slice none 0 0] 25) ∧ w'.heap[E]? = some (.cells #[x] 29) ∧ IsAt w' x ec k ∧ ∀ w0 : World, G w0 w → w0.heap.size ≤ P → w0.heap.size ≤ E → G w0 w' := by
  have p0 : w.cell? ⟨P, 0, none⟩ = some a := by rw [cell_of_row w P 0 _ _ _ hP]; rfl
  have p1 : w.cell? ⟨P, 1, none⟩ = some b := by rw [cell_of_row w P 1 _ _ _ hP]; rfl
  have p2 : w.cell? ⟨P, 2, none⟩ = some c := by rw [cell_of_row w P 2 _ _ _ hP]; rfl
  have p3 : w.cell? ⟨P, 3, none⟩ = some d := by rw [cell_of_row w P 3 _ _ _ hP]; rfl
  have q0 : w.cell? ⟨E, 0, none⟩ = some e0 := by rw [cell_of_row w E 0 _ _ _ hE]; rfl
  have zp := fun j => frozen_of_row w P j _ _ hP
  have zq := frozen_of_row w E 0 _ _ hE
  have hPl : P < w.heap.size := (Array.getElem?_eq_some_iff.1 hP).1
  have hEl : E < w.heap.size := (Array.getElem?_eq_some_iff.1 hE).1
  have hne2 : ¬ E = P := fun e => hne e.symm
  refine callsD_of_wpS Tryd.func18 rfl fun c₀ cs hu => ?_
  change Code.wpS _ _ _ { tmps := #[.pointer (some ⟨P, 0, none⟩), .pointer (some ⟨E, 0, none⟩), undef, undef, undef, undef, undef, undef, undef, undef, undef, undef, undef, undef, undef, undef, undef, undef, undef], defers := [] } _ _
  apply wpS_seq
  apply wpS_region
  simp [wpOpsS, go_sem, recoverD, hu, Exit.thenS, faultJ]
  apply wpS_seq
  apply wpS_region
  simp [wpOpsS, go_sem, recoverD, hu, Exit.thenS, faultJ]
  refine wpS_cond (t := true) (by simp [Act.eval]) ?_
  simp only [if_true]
  refine wpS_of_wp ?_
  have HP := hid hP
  have HE := hid hE
  clear hP hE
  go_wp2_with fail
  obtain ⟨W, hW⟩ : ∃ W, W = (((((w.setCell ⟨P, 0, none⟩ (.int .i64 0)).setCell ⟨P, 1, none⟩ (.string ⟨#[]⟩)).setCell ⟨P, 2, none⟩ (.slice none 0 0)).setCell ⟨P, 3, none⟩ (.slice none 0 0)).setCell ⟨E, 0, none⟩ (.iface 50 (.pointer (some ⟨w.heap.size, 0, none⟩)))) := ⟨_, rfl⟩
  have kP : W.heap[P]? = some (.cells #[.int .i64 0, .string (S []), .slice none 0 0, .slice none 0 0] 25) := by
    rw [hW, Below.heap_setCell _ _ _ _ hne]
    have h0 := row_setE (i := 0) (v := .int .i64 0) (cs' := #[.int .i64 0, b, c, d]) HP.out rfl
    have h1 := row_setE (i := 1) (v := .string ⟨#[]⟩) (cs' := #[.int .i64 0, .string (S []), c, d]) h0 rfl
    have h2 := row_setE (i := 2) (v := .slice none 0 0) (cs' := #[.int .i64 0, .string (S []), .slice none 0 0, d]) h1 rfl
    exact row_setE (i := 3) (v := .slice none 0 0) (cs' := #[.int .i64 0, .string (S []), .slice none 0 0, .slice none 0 0]) h2 rfl
  have kE : W.heap[E]? = some (.cells #[.iface 50 (.pointer (some ⟨w.heap.size, 0, none⟩))] 29) := by
    rw [hW]
    refine row_setE (i := 0) (cs := #[e0]) ?_ rfl
    rw [Below.heap_setCell _ _ _ _ hne2, Below.heap_setCell _ _ _ _ hne2, Below.heap_setCell _ _ _ _ hne2, Below.heap_setCell _ _ _ _ hne2]
    exact HE.out
  have hsz : W.heap.size = w.heap.size := by rw [hW]; simp
  have kG : ∀ w0 : World, G w0 w → w0.heap.size ≤ P → w0.heap.size ≤ E → G w0 W := fun w0 g h1 h2 => by
    rw [hW]
    exact Below.setCell (Below.setCell (Below.setCell (Below.setCell (Below.setCell g.below h1 _) h1 _) h1 _) h1 _) h2 _
  rw [← hW]
  have HW := hid hW
  clear hW
  refine ⟨rfl, _, rfl, .tuple #[], ?_, rfl, rfl, ?_, .iface 50 (.pointer (some ⟨w.heap.size, 0, none⟩)), ?_, ?_, ?_⟩
  · simp [results, Tryd.results18, go_sem]
  · exact row_alloc kP (lt_of_row kP)
  · exact row_alloc kE (lt_of_row kE)
  · exact IsAt.newAt _ _ _ _ _ hsz.symm
  · exact fun w0 g h1 h2 => (kG w0 g h1 h2).alloc _

end Go.Proofs.YtlejbindochiiaaDoor
