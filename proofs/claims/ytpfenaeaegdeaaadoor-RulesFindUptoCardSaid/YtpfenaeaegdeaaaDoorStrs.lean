/-
  CONTRACTS of Go's own strings: IndexByte, HasPrefix, CutPrefix, CutSuffix, Cut at one byte.
-/
import Derived.Test.YtpfenaeaegdeaaaDoorBase
import Derived.Lib.Bytealg
import Derived.OwnWalk
namespace Go.Proofs.YtpfenaeaegdeaaaDoor
open Go.RowKit
set_option linter.unusedVariables false
set_option linter.unusedSimpArgs false

set_option maxRecDepth 100000 in
set_option maxHeartbeats 400000 in
theorem liteIndexByte_any (l : List UInt8) (c : UInt8) (w : World) : Pure 70 #[.string (S l), .int .u8 (c.toNat : Int)] w (.int .i64 (Lib.indexByte l c)) := by
  go_enter Tryd.func70, Tryd.ntmps70
  go_wp2
  rw [run_callFunc_extern Tryd.func77 (by kernel_rfl) (by kernel_rfl) (by kernel_rfl) (e := Extern.BytealgIndexByte.indexByte) (by kernel_rfl), Lib.run_indexByteString]
  simp only [Result.andThen]
  rw [Oper.upon_value]
  go_wp2
  go_ret
  exact ⟨ret_int (by simp), rfl⟩

/-! ## beginnings and ends -/
def hasP (l p : List UInt8) : Bool := l.take p.length == p
def hasE (l p : List UInt8) : Bool := decide (p.length ≤ l.length) && (l.drop (l.length - p.length) == p)
theorem hasP_le {l p : List UInt8} (h : hasP l p = true) : p.length ≤ l.length := by
  unfold hasP at h
  have := congrArg List.length (eq_of_beq h)
  simp at this; omega
theorem hasP_eq {l p : List UInt8} (h : hasP l p = true) : l = p ++ l.drop p.length := by
  unfold hasP at h
  conv => lhs; rw [← List.take_append_drop p.length l]
  rw [eq_of_beq h]
theorem hasP_append (p r : List UInt8) : hasP (p ++ r) p = true := by unfold hasP; simp
theorem hasE_eq {l p : List UInt8} (h : hasE l p = true) : l = l.take (l.length - p.length) ++ p := by
  unfold hasE at h
  simp only [Bool.and_eq_true] at h
  conv => lhs; rw [← List.take_append_drop (l.length - p.length) l]
  rw [eq_of_beq h.2]
theorem hasE_append (r p : List UInt8) : hasE (r ++ p) p = true := by unfold hasE; simp

/-! ## the first byte of a kind -/
theorem indexByte_none (l : List UInt8) (c : UInt8) (h : c ∉ l) : Lib.indexByte l c = -1 := by
  induction l with
  | nil => rfl
  | cons b l ih =>
    have h1 : (b == c) = false := beq_eq_false_iff_ne.2 fun e => h (e ▸ List.mem_cons_self)
    rw [Lib.indexByte, ih fun m => h (List.mem_cons_of_mem _ m)]
    simp [h1]
theorem indexByte_some (a r : List UInt8) (c : UInt8) (h : c ∉ a) : Lib.indexByte (a ++ c :: r) c = a.length := by
  induction a with
  | nil => simp [Lib.indexByte]
  | cons b l ih =>
    have h1 : (b == c) = false := beq_eq_false_iff_ne.2 fun e => h (e ▸ List.mem_cons_self)
    rw [List.cons_append, Lib.indexByte, ih fun m => h (List.mem_cons_of_mem _ m)]
    have h2 : (((l.length : Int)) == -1) = false := beq_eq_false_iff_ne.2 (by omega)
    simp [h1, h2]
/-- a text either has no byte c, or is what stands ahead of the first, it, and what follows -/
theorem first_split (l : List UInt8) (c : UInt8) : c ∉ l ∨ ∃ a r, l = a ++ c :: r ∧ c ∉ a := by
  induction l with
  | nil => exact .inl (by simp)
  | cons b l ih =>
    by_cases e : b = c
    · exact .inr ⟨[], l, by rw [e]; rfl, by simp⟩
    · rcases ih with h | ⟨a, r, rfl, h⟩
      · exact .inl (by simp [h, Ne.symm e])
      · exact .inr ⟨b :: a, r, rfl, by simp [h, Ne.symm e]⟩
theorem first_unique {a r b s : List UInt8} {c : UInt8} (h : a ++ c :: r = b ++ c :: s) (ha : c ∉ a) (hb : c ∉ b) : a = b ∧ r = s := by
  induction a generalizing b with
  | nil =>
    cases b with
    | nil => simpa using h
    | cons x b => simp at h; exact absurd h.1 (by intro e; exact hb (e ▸ List.mem_cons_self))
  | cons x a ih =>
    cases b with
    | nil => simp at h; exact absurd h.1.symm (by intro e; exact ha (e ▸ List.mem_cons_self))
    | cons y b =>
      simp at h
      obtain ⟨rfl, h⟩ := h
      have := ih h (fun m => ha (List.mem_cons_of_mem _ m)) (fun m => hb (List.mem_cons_of_mem _ m))
      simp [this.1, this.2]
set_option maxHeartbeats 800000 in
theorem liteCut_none_any (l : List UInt8) (c : UInt8) (h : c ∉ l) (w : World) : Gives 44 #[.string (S l), .string (S [c])] w (.tuple #[.string (S l), .string (S []), .bool false]) := by
  go_enter Tryd.func44, Tryd.ntmps44
  have h1 := indexByte_none l c h
  have h2 : ([c] == l) = false := beq_eq_false_iff_ne.2 fun e => h (e ▸ by simp)
  go_wp2_with fail
  go_enter Tryd.func59, Tryd.ntmps59
  go_wp2_with fail
  refine (liteIndexByte_any l c _).use ?_
  rw [h1]
  go_wp2_with fail
  go_ret3
  exact ⟨rfl, G.refl _⟩
set_option maxHeartbeats 800000 in
theorem liteCut_some_any (a r : List UInt8) (c : UInt8) (h : c ∉ a) (w : World) (hl : a.length + r.length ≤ 140737488351328) : Gives 44 #[.string (S (a ++ c :: r)), .string (S [c])] w (.tuple #[.string (S a), .string (S r), .bool true]) := by
  go_enter Tryd.func44, Tryd.ntmps44
  have h1 := indexByte_some a r c h
  have e1 : (a ++ c :: r).take a.length = a := by simp
  have e2 : (a ++ c :: r).drop (a.length + 1) = r := by simp
  have e3 : (a ++ c :: r).length = a.length + 1 + r.length := by simp; omega
  have e6 : (a ++ c :: r).take (a.length + 1 + r.length) = (a ++ c :: r) := by rw [← e3]; exact List.take_length
  obtain ⟨l, hl'⟩ : ∃ l, l = a ++ c :: r := ⟨_, rfl⟩
  rw [← hl'] at h1 e1 e2 e3 e6 ⊢
  clear hl'
  have e4 : a.length ≤ l.length := by omega
  have e5 : a.length + 1 ≤ l.length := by omega
  cases h2 : ([c] == l) with
  | false =>
    go_wp2_with fail
    go_enter Tryd.func59, Tryd.ntmps59
    go_wp2_with fail
    refine (liteIndexByte_any l c _).use ?_
    rw [h1]
    go_wp2_with fail
    go_quiet (fail)
    go_wp2_with fail
    go_ret3
    exact ⟨rfl, (G.refl _).drewN _⟩
  | true =>
    have h3 : a.length = 0 := by
      have := congrArg List.length (eq_of_beq h2)
      simp at this; omega
    go_wp2_with fail
    go_enter Tryd.func59, Tryd.ntmps59
    go_wp2_with fail
    go_quiet (fail)
    go_wp2_with fail
    go_ret3
    exact ⟨by rw [h3] at e1 e2 e6; simp at e1 e2; simp only [Nat.zero_add] at e6; simp [e1, e6, e2]; rfl, (G.refl _).drewN _⟩
set_option maxHeartbeats 400000 in
theorem cut_none_any (l : List UInt8) (c : UInt8) (h : c ∉ l) (w : World) : Gives 32 #[.string (S l), .string (S [c])] w (.tuple #[.string (S l), .string (S []), .bool false]) := by
  go_enter Tryd.func32, Tryd.ntmps32
  go_wp2_with fail
  refine (liteCut_none_any l c h _).use ?_; intro w1 g1
  go_wp2_with fail
  go_ret3
  exact ⟨rfl, g1⟩
set_option maxHeartbeats 400000 in
theorem cut_some_any (a r : List UInt8) (c : UInt8) (h : c ∉ a) (w : World) (hl : a.length + r.length ≤ 140737488351328) : Gives 32 #[.string (S (a ++ c :: r)), .string (S [c])] w (.tuple #[.string (S a), .string (S r), .bool true]) := by
  go_enter Tryd.func32, Tryd.ntmps32
  go_wp2_with fail
  refine (liteCut_some_any a r c h _ hl).use ?_; intro w1 g1
  go_wp2_with fail
  go_ret3
  exact ⟨rfl, g1⟩

end Go.Proofs.YtpfenaeaegdeaaaDoor
