/-
  CONTRACTS of when.date, when.clock at any text. (written by gen_whenany.py)
-/
import Derived.Test.YtedlgpccmlcijaaGreatDoorMDates
import Derived.Test.YtedlgpccmlcijaaGreatDoorWhenDate3
import Derived.Test.YtedlgpccmlcijaaGreatDoorMClocks
import Derived.Test.YtedlgpccmlcijaaGreatDoorMLaws
namespace Go.Proofs.YtedlgpccmlcijaaGreatDoor
open Go.RowKit
set_option linter.unusedVariables false
set_option linter.unusedSimpArgs false

theorem findNow_str {k : ByteArray} (es : List MapEntry) (h : ∀ e ∈ es, ∃ x, e.key = .string x ∧ x ≠ k) : Instr.findNow .string (.string k) es 0 = some none := by
  rcases MapKept.findNow_spec (d := .string) (k := .string k) trivial es 0 (fun e he => by obtain ⟨x, hx, _⟩ := h e he; rw [hx]; trivial) with ⟨h1, _⟩ | ⟨j, e, _, h2, h3⟩
  · exact h1
  · obtain ⟨x, hx, hne⟩ := h e (List.mem_of_getElem? h2)
    rw [hx] at h3
    cases h3
    exact absurd rfl hne
set_option maxRecDepth 100000 in
set_option maxHeartbeats 1000000 in
theorem date_any (s : List UInt8) (base q : Nat) (x0 x1 x2 x3 x4 x5 : Int) (x6 : Bool) (x7 : Int) (w : World) (hU : HasU w) (hs : s.length ≤ 1000) (hbase : base ≤ q) (hrow : w.heap[q]? = some (.cells #[.int .i64 x0, .int .i64 x1, .int .i64 x2, .int .i64 x3, .int .i64 x4, .int .i64 x5, .bool x6, .int .i64 x7] 24 (0, 0))) :
    Calls Tryz.prog 53 #[.string (S s), .pointer (some ⟨q, 0, none⟩)] w fun e w' => e = .returned (.bool (dateP s x0 x1 x2).isSome) ∧ Below base w w' ∧ w'.heap[q]? = some (.cells #[.int .i64 ((dateP s x0 x1 x2).getD (x0, x1, x2)).1, .int .i64 ((dateP s x0 x1 x2).getD (x0, x1, x2)).2.1, .int .i64 ((dateP s x0 x1 x2).getD (x0, x1, x2)).2.2, .int .i64 x3, .int .i64 x4, .int .i64 x5, .bool x6, .int .i64 x7] 24 (0, 0)) := by
  unfold dateP
  by_cases h0 : shapeL s = dk0
  · rw [if_pos h0]
    exact date_at0 s base q x0 x1 x2 x3 x4 x5 x6 x7 w hU (shape_len (k := dk0) (by decide) h0) h0 (shape_dig (k := dk0) (by decide) h0) hbase hrow
  rw [if_neg h0]
  by_cases h1 : shapeL s = dk1
  · rw [if_pos h1]
    exact date_at1 s base q x0 x1 x2 x3 x4 x5 x6 x7 w hU (shape_len (k := dk1) (by decide) h1) h1 (shape_dig (k := dk1) (by decide) h1) hbase hrow
  rw [if_neg h1]
  by_cases h2 : shapeL s = dk2
  · rw [if_pos h2]
    exact date_at2 s base q x0 x1 x2 x3 x4 x5 x6 x7 w hU (shape_len (k := dk2) (by decide) h2) h2 (shape_dig (k := dk2) (by decide) h2) hbase hrow
  rw [if_neg h2]
  by_cases h3 : shapeL s = dk3
  · rw [if_pos h3]
    exact date_at3 s base q x0 x1 x2 x3 x4 x5 x6 x7 w hU (shape_len (k := dk3) (by decide) h3) h3 (shape_dig (k := dk3) (by decide) h3) hbase hrow
  rw [if_neg h3]
  by_cases h4 : shapeL s = dk4
  · rw [if_pos h4]
    exact date_at4 s base q x0 x1 x2 x3 x4 x5 x6 x7 w hU (shape_len (k := dk4) (by decide) h4) h4 (shape_dig (k := dk4) (by decide) h4) hbase hrow
  rw [if_neg h4]
  by_cases h5 : shapeL s = dk5
  · rw [if_pos h5]
    exact date_at5 s base q x0 x1 x2 x3 x4 x5 x6 x7 w hU (shape_len (k := dk5) (by decide) h5) h5 (shape_dig (k := dk5) (by decide) h5) hbase hrow
  rw [if_neg h5]
  by_cases h6 : shapeL s = dk6
  · rw [if_pos h6]
    exact date_at6 s base q x0 x1 x2 x3 x4 x5 x6 x7 w hU (shape_len (k := dk6) (by decide) h6) h6 (shape_dig (k := dk6) (by decide) h6) hbase hrow
  rw [if_neg h6]
  refine date_no s base q x0 x1 x2 x3 x4 x5 x6 x7 w hU hs (findNow_str _ ?_) hbase hrow
  intro e he
  simp only [dateMap, List.mem_cons, List.not_mem_nil, or_false] at he
  rcases he with rfl | rfl | rfl | rfl | rfl | rfl | rfl
  · exact ⟨_, rfl, fun e => h0 (S_inj.1 (show S dk0 = S (shapeL s) from e)).symm⟩
  · exact ⟨_, rfl, fun e => h1 (S_inj.1 (show S dk1 = S (shapeL s) from e)).symm⟩
  · exact ⟨_, rfl, fun e => h2 (S_inj.1 (show S dk2 = S (shapeL s) from e)).symm⟩
  · exact ⟨_, rfl, fun e => h3 (S_inj.1 (show S dk3 = S (shapeL s) from e)).symm⟩
  · exact ⟨_, rfl, fun e => h4 (S_inj.1 (show S dk4 = S (shapeL s) from e)).symm⟩
  · exact ⟨_, rfl, fun e => h5 (S_inj.1 (show S dk5 = S (shapeL s) from e)).symm⟩
  · exact ⟨_, rfl, fun e => h6 (S_inj.1 (show S dk6 = S (shapeL s) from e)).symm⟩
set_option maxRecDepth 100000 in
set_option maxHeartbeats 1000000 in
theorem clock_any (s : List UInt8) (base q : Nat) (x0 x1 x2 x3 x4 x5 : Int) (x6 : Bool) (x7 : Int) (w : World) (hU : HasU w) (hs : s.length ≤ 1000) (hbase : base ≤ q) (hrow : w.heap[q]? = some (.cells #[.int .i64 x0, .int .i64 x1, .int .i64 x2, .int .i64 x3, .int .i64 x4, .int .i64 x5, .bool x6, .int .i64 x7] 24 (0, 0))) :
    Calls Tryz.prog 56 #[.string (S s), .pointer (some ⟨q, 0, none⟩)] w fun e w' => e = .returned (.bool (clockP s x3 x4 x5).isSome) ∧ Below base w w' ∧ w'.heap[q]? = some (.cells #[.int .i64 x0, .int .i64 x1, .int .i64 x2, .int .i64 ((clockP s x3 x4 x5).getD (x3, x4, x5)).1, .int .i64 ((clockP s x3 x4 x5).getD (x3, x4, x5)).2.1, .int .i64 ((clockP s x3 x4 x5).getD (x3, x4, x5)).2.2, .bool x6, .int .i64 x7] 24 (0, 0)) := by
  unfold clockP
  by_cases h0 : shapeL s = ck0
  · rw [if_pos h0]
    exact clock_at0 s base q x0 x1 x2 x3 x4 x5 x6 x7 w hU (shape_len (k := ck0) (by decide) h0) h0 (shape_dig (k := ck0) (by decide) h0) hbase hrow
  rw [if_neg h0]
  by_cases h1 : shapeL s = dk1
  · rw [if_pos h1]
    exact clock_at1 s base q x0 x1 x2 x3 x4 x5 x6 x7 w hU (shape_len (k := dk1) (by decide) h1) h1 (shape_dig (k := dk1) (by decide) h1) hbase hrow
  rw [if_neg h1]
  by_cases h2 : shapeL s = ck2
  · rw [if_pos h2]
    exact clock_at2 s base q x0 x1 x2 x3 x4 x5 x6 x7 w hU (shape_len (k := ck2) (by decide) h2) h2 (shape_dig (k := ck2) (by decide) h2) hbase hrow
  rw [if_neg h2]
  by_cases h3 : shapeL s = ck3
  · rw [if_pos h3]
    exact clock_at3 s base q x0 x1 x2 x3 x4 x5 x6 x7 w hU (shape_len (k := ck3) (by decide) h3) h3 (shape_dig (k := ck3) (by decide) h3) hbase hrow
  rw [if_neg h3]
  by_cases h4 : shapeL s = ck4
  · rw [if_pos h4]
    exact clock_at4 s base q x0 x1 x2 x3 x4 x5 x6 x7 w hU (shape_len (k := ck4) (by decide) h4) h4 (shape_dig (k := ck4) (by decide) h4) hbase hrow
  rw [if_neg h4]
  by_cases h5 : shapeL s = dk4
  · rw [if_pos h5]
    exact clock_at5 s base q x0 x1 x2 x3 x4 x5 x6 x7 w hU (shape_len (k := dk4) (by decide) h5) h5 (shape_dig (k := dk4) (by decide) h5) hbase hrow
  rw [if_neg h5]
  refine clock_no s base q x0 x1 x2 x3 x4 x5 x6 x7 w hU hs (findNow_str _ ?_) hbase hrow
  intro e he
  simp only [clockMap, List.mem_cons, List.not_mem_nil, or_false] at he
  rcases he with rfl | rfl | rfl | rfl | rfl | rfl
  · exact ⟨_, rfl, fun e => h0 (S_inj.1 (show S ck0 = S (shapeL s) from e)).symm⟩
  · exact ⟨_, rfl, fun e => h1 (S_inj.1 (show S dk1 = S (shapeL s) from e)).symm⟩
  · exact ⟨_, rfl, fun e => h2 (S_inj.1 (show S ck2 = S (shapeL s) from e)).symm⟩
  · exact ⟨_, rfl, fun e => h3 (S_inj.1 (show S ck3 = S (shapeL s) from e)).symm⟩
  · exact ⟨_, rfl, fun e => h4 (S_inj.1 (show S ck4 = S (shapeL s) from e)).symm⟩
  · exact ⟨_, rfl, fun e => h5 (S_inj.1 (show S dk4 = S (shapeL s) from e)).symm⟩

end Go.Proofs.YtedlgpccmlcijaaGreatDoor
