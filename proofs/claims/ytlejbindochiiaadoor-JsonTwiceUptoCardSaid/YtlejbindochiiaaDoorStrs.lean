/-
  CONTRACTS of Go's own strings: IndexByte, HasPrefix, CutPrefix, CutSuffix, Cut at one byte.
-/
import Derived.Test.YtlejbindochiiaaDoorBase
import Derived.Lib.Bytealg
import Derived.OwnWalk
namespace Go.Proofs.YtlejbindochiiaaDoor
open Go.RowKit
set_option linter.unusedVariables false
set_option linter.unusedSimpArgs false

set_option maxRecDepth 100000 in
set_option maxHeartbeats 400000 in
theorem liteIndexByte_any (l : List UInt8) (c : UInt8) (w : World) : Pure 45 #[.string (S l), .int .u8 (c.toNat : Int)] w (.int .i64 (Lib.indexByte l c)) := by
  go_enter Tryd.func45, Tryd.ntmps45
  go_wp2
  rw [run_callFunc_extern Tryd.func52 (by kernel_rfl) (by kernel_rfl) (by kernel_rfl) (e := Extern.BytealgIndexByte.indexByte) (by kernel_rfl), Lib.run_indexByteString]
  simp only [Result.andThen]
  rw [Oper.upon_value]
  go_wp2
  go_ret
  exact ⟨ret_int (by simp), rfl⟩
set_option maxHeartbeats 400000 in
theorem indexByte_any (l : List UInt8) (c : UInt8) (w : World) : Pure 35 #[.string (S l), .int .u8 (c.toNat : Int)] w (.int .i64 (Lib.indexByte l c)) := by
  go_enter Tryd.func35, Tryd.ntmps35
  go_wp2_with fail
  refine (liteIndexByte_any l c _).use ?_
  go_wp2
  go_ret
  exact ⟨rfl, rfl⟩

/-! ## beginnings and ends -/
def hasP (l p : List UInt8) : Bool := l.take p.length == p
def hasE (l p : List UInt8) : Bool := decide (p.length ≤ l.length) && (l.drop (l.length - p.length) == p)
theorem hasP_le {l p : List UInt8} (h : hasP l p = true) : p.length ≤ l.length := by
  unfold hasP at h
  have := congrArg List.length (eq_of_beq h)
  simp at this; omega
theorem hasP_eq {l p : List UInt8} (h : hasP l p = true) : l = p ++ l.drop p.length := by
  unfold hasP at h
  conv => lhs; rw [← List.take_append_drop p.length l]
  rw [eq_of_beq h]
theorem hasP_append (p r : List UInt8) : hasP (p ++ r) p = true := by unfold hasP; simp
theorem hasE_eq {l p : List UInt8} (h : hasE l p = true) : l = l.take (l.length - p.length) ++ p := by
  unfold hasE at h
  simp only [Bool.and_eq_true] at h
  conv => lhs; rw [← List.take_append_drop (l.length - p.length) l]
  rw [eq_of_beq h.2]
theorem hasE_append (r p : List UInt8) : hasE (r ++ p) p = true := by unfold hasE; simp

set_option maxRecDepth 100000 in
set_option maxHeartbeats 400000 in
theorem liteHasPrefix_any (l p : List UInt8) (w : World) : Pure 26 #[.string (S l), .string (S p)] w (.bool (hasP l p)) := by
  go_enter Tryd.func26, Tryd.ntmps26
  by_cases h : p.length ≤ l.length
  · go_wp2
    go_ret
    exact ⟨ret_bool rfl, rfl⟩
  · have h2 : hasP l p = false := by cases e : hasP l p with
      | false => rfl
      | true => exact absurd (hasP_le e) h
    go_wp2
    go_ret
    exact ⟨ret_bool (by simp [h2]), rfl⟩
set_option maxHeartbeats 400000 in
theorem liteHasSuffix_any (l p : List UInt8) (w : World) (hl : l.length ≤ 140737488351328) : Pure 25 #[.string (S l), .string (S p)] w (.bool (hasE l p)) := by
  go_enter Tryd.func25, Tryd.ntmps25
  by_cases h : p.length ≤ l.length
  · have e : ((l.length : Int) - (p.length : Int)) = ((l.length - p.length : Nat) : Int) := by omega
    have e1 : l.length - p.length ≤ l.length := by omega
    have e2 : hasE l p = (l.drop (l.length - p.length) == p) := by unfold hasE; simp [h]
    go_wp2
    go_ret
    exact ⟨ret_bool e2.symm, rfl⟩
  · have e2 : hasE l p = false := by unfold hasE; simp [h]
    go_wp2
    go_ret
    exact ⟨ret_bool (by simp [e2]), rfl⟩
set_option maxHeartbeats 400000 in
theorem hasPrefix_any (l p : List UInt8) (w : World) : Pure 15 #[.string (S l), .string (S p)] w (.bool (hasP l p)) := by
  go_enter Tryd.func15, Tryd.ntmps15
  go_wp2_with fail
  refine (liteHasPrefix_any l p _).use ?_
  go_wp2
  go_ret
  exact ⟨rfl, rfl⟩
set_option maxHeartbeats 400000 in
theorem hasSuffix_any (l p : List UInt8) (w : World) (hl : l.length ≤ 140737488351328) : Pure 14 #[.string (S l), .string (S p)] w (.bool (hasE l p)) := by
  go_enter Tryd.func14, Tryd.ntmps14
  go_wp2_with fail
  refine (liteHasSuffix_any l p _ hl).use ?_
  go_wp2
  go_ret
  exact ⟨rfl, rfl⟩

/-! ## the first byte of a kind -/
theorem indexByte_none (l : List UInt8) (c : UInt8) (h : c ∉ l) : Lib.indexByte l c = -1 := by
  induction l with
  | nil => rfl
  | cons b l ih =>
    have h1 : (b == c) = false := beq_eq_false_iff_ne.2 fun e => h (e ▸ List.mem_cons_self)
    rw [Lib.indexByte, ih fun m => h (List.mem_cons_of_mem _ m)]
    simp [h1]
theorem indexByte_some (a r : List UInt8) (c : UInt8) (h : c ∉ a) : Lib.indexByte (a ++ c :: r) c = a.length := by
  induction a with
  | nil => simp [Lib.indexByte]
  | cons b l ih =>
    have h1 : (b == c) = false := beq_eq_false_iff_ne.2 fun e => h (e ▸ List.mem_cons_self)
    rw [List.cons_append, Lib.indexByte, ih fun m => h (List.mem_cons_of_mem _ m)]
    have h2 : (((l.length : Int)) == -1) = false := beq_eq_false_iff_ne.2 (by omega)
    simp [h1, h2]
/-- a text either has no byte c, or is what stands ahead of the first, it, and what follows -/
theorem first_split (l : List UInt8) (c : UInt8) : c ∉ l ∨ ∃ a r, l = a ++ c :: r ∧ c ∉ a := by
  induction l with
  | nil => exact .inl (by simp)
  | cons b l ih =>
    by_cases e : b = c
    · exact .inr ⟨[], l, by rw [e]; rfl, by simp⟩
    · rcases ih with h | ⟨a, r, rfl, h⟩
      · exact .inl (by simp [h, Ne.symm e])
      · exact .inr ⟨b :: a, r, rfl, by simp [h, Ne.symm e]⟩
theorem first_unique {a r b s : List UInt8} {c : UInt8} (h : a ++ c :: r = b ++ c :: s) (ha : c ∉ a) (hb : c ∉ b) : a = b ∧ r = s := by
  induction a generalizing b with
  | nil =>
    cases b with
    | nil => simpa using h
    | cons x b => simp at h; exact absurd h.1 (by intro e; exact hb (e ▸ List.mem_cons_self))
  | cons x a ih =>
    cases b with
    | nil => simp at h; exact absurd h.1.symm (by intro e; exact ha (e ▸ List.mem_cons_self))
    | cons y b =>
      simp at h
      obtain ⟨rfl, h⟩ := h
      have := ih h (fun m => ha (List.mem_cons_of_mem _ m)) (fun m => hb (List.mem_cons_of_mem _ m))
      simp [this.1, this.2]

end Go.Proofs.YtlejbindochiiaaDoor
