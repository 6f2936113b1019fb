/-
  Texts merged into one: Err, Name, Strs.
-/
import Derived.Test.YtccaknanagmmhaaGreatBase
import Derived.Lib.Bytealg
import Derived.OwnWalk
namespace Go.Proofs.YtccaknanagmmhaaGreat
open Go.RowKit
set_option linter.unusedVariables false
set_option linter.unusedSimpArgs false

/-- an error that is an Errno -/
@[go_sem] def eno (n : Int) : Value := .iface 59 (.int .i64 n)
/-- an error that is an At, told by its cells -/
def IsAt (w : World) (v : Value) (code place : Int) : Prop := ∃ b, v = .iface 60 (.pointer (some ⟨b, 0, none⟩)) ∧ w.cell? ⟨b, 0, none⟩ = some (.int .i64 code) ∧ w.cell? ⟨b, 1, none⟩ = some (.int .i64 place) ∧ b < w.heap.size
theorem IsAt.grow {w w' : World} {v : Value} {code place : Int} (h : IsAt w v code place) (g : G w w') : IsAt w' v code place := by
  obtain ⟨b, h1, h2, h3, h4⟩ := h
  exact ⟨b, h1, by rw [g.cell h4]; exact h2, by rw [g.cell h4]; exact h3, Nat.lt_of_lt_of_le h4 g.size⟩

theorem IsAt.new (w : World) (t : TypeId) (code place : Int) : IsAt (w.alloc (.cells #[.int .i64 code, .int .i64 place] t)) (.iface 60 (.pointer (some ⟨w.heap.size, 0, none⟩))) code place :=
  ⟨w.heap.size, rfl, by rw [World.cell?_alloc_new]; rfl, by rw [World.cell?_alloc_new]; rfl, by simp⟩
theorem IsAt.newAt (w : World) (t : TypeId) (code place : Int) (n : Nat) (h : n = w.heap.size) : IsAt (w.alloc (.cells #[.int .i64 code, .int .i64 place] t)) (.iface 60 (.pointer (some ⟨n, 0, none⟩))) code place := by
  subst h; exact IsAt.new w t code place

end Go.Proofs.YtccaknanagmmhaaGreat

namespace Go.Proofs.YtccaknanagmmhaaGreat
open Go.RowKit
set_option linter.unusedVariables false
set_option linter.unusedSimpArgs false

def letterB (c : Int) : Bool := decide ((97 ≤ c ∧ c ≤ 122) ∨ (65 ≤ c ∧ c ≤ 90) ∨ (48 ≤ c ∧ c ≤ 57) ∨ c = 45)
def isNameL (l : List UInt8) : Bool := l.all (fun c => letterB c.toNat) && (!l.isEmpty && decide ((l.length : Int) ≤ 40))
def turn1 (low high by_ : Int) (c : UInt8) : UInt8 := if low ≤ c.toNat ∧ c.toNat ≤ high then UInt8.ofNat ((c.toNat + by_) % 256).toNat else c
def upperL (l : List UInt8) : List UInt8 := l.map (turn1 97 122 (-32))
def lowerL (l : List UInt8) : List UInt8 := l.map (turn1 65 90 32)
def sameL (a b : List UInt8) : Bool := upperL a == upperL b

theorem turn1_yes {low high by_ : Int} {c : UInt8} (h1 : low ≤ c.toNat) (h2 : (c.toNat : Int) ≤ high) : ((turn1 low high by_ c).toNat : Int) = (c.toNat + by_) % 256 := by
  unfold turn1
  rw [if_pos ⟨h1, h2⟩]
  simp; omega
theorem turn1_no {low high by_ : Int} {c : UInt8} (h : (c.toNat : Int) < low ∨ high < c.toNat) : turn1 low high by_ c = c := by
  unfold turn1; rw [if_neg (by omega)]
@[simp] theorem upperL_length (l : List UInt8) : (upperL l).length = l.length := by simp [upperL]
@[simp] theorem lowerL_length (l : List UInt8) : (lowerL l).length = l.length := by simp [lowerL]

set_option maxRecDepth 100000 in
set_option maxHeartbeats 400000 in
theorem letter_any (c : Int) (w : World) :
    Pure 37 #[.int .u8 c] w (.bool (letterB c)) := by
  go_enter Tryz.func37, Tryz.ntmps37
  go_wp2
  all_goals go_ret
  all_goals exact ⟨ret_bool (by unfold letterB; rw [Bool.eq_iff_iff]; simp; omega), rfl⟩

theorem all_take_succ (p : UInt8 → Bool) (l : List UInt8) (k : Nat) (h : k < l.length) : (l.take (k + 1)).all p = ((l.take k).all p && p l[k]) := by
  rw [List.take_succ_eq_append_getElem h, List.all_append]; simp

set_option maxRecDepth 100000 in
set_option maxHeartbeats 400000 in
theorem is_any (l : List UInt8) (w : World) (hs : l.length ≤ 140737488355328) :
    Pure 16 #[.string (S l)] w (.bool (isNameL l)) := by
  go_enter Tryz.func16, Tryz.ntmps16
  go_wp2
  go_loop [6] (fun i => ∃ k : Nat, k ≤ l.length ∧ i = .int .i64 k ∧ (l.take k).all (fun c => letterB c.toNat) = true) (fun i => l.length - (intOf i).toNat)
  case atStart => exact ⟨0, Nat.zero_le _, rfl, rfl⟩
  case round =>
    obtain ⟨k, hk, rfl, hall⟩ := hrel
    have Hall := hid hall; clear hall
    by_cases hlt : k < l.length
    · have hsn := all_take_succ (fun c => letterB c.toNat) l k hlt
      have Hsn := hid hsn; clear hsn
      go_wp2_with (go_at_call 37; refine (letter_any _ _).use ?_)
      · rename_i h
        go_ret
        refine ⟨ret_bool ?_, rfl⟩
        have h2 : letterB (l[k].toNat : Int) = false := by simpa using h
        have : l.all (fun c => letterB c.toNat) = false := by
          rw [List.all_eq_false]
          exact ⟨l[k], List.getElem_mem hlt, by simpa using h2⟩
        simp [isNameL, this]
      · rename_i h
        go_round
        case rel =>
          refine ⟨k + 1, by omega, by go_num, ?_⟩
          rw [Hsn.out, Hall.out]; simpa using h
        case measure => simp [intOf]; omega
    · have hk' : k = l.length := by omega
      have ha := Hall.out
      rw [List.take_of_length_le (by omega)] at ha
      have Ha := hid ha
      clear ha hk' Hall
      go_wp2
      all_goals go_ret
      all_goals refine ⟨ret_bool ?_, rfl⟩
      all_goals unfold isNameL
      all_goals first | (simp; done) | (rw [Ha.out]; simp [*])

end Go.Proofs.YtccaknanagmmhaaGreat

namespace Go.Proofs.YtccaknanagmmhaaGreat
open Go.RowKit
set_option linter.unusedVariables false
set_option linter.unusedSimpArgs false

set_option maxRecDepth 100000 in
set_option maxHeartbeats 400000 in
theorem liteIndexByte_any (l : List UInt8) (c : UInt8) (w : World) : Pure 57 #[.string (S l), .int .u8 (c.toNat : Int)] w (.int .i64 (Lib.indexByte l c)) := by
  go_enter Tryz.func57, Tryz.ntmps57
  go_wp2
  rw [run_callFunc_extern Tryz.func66 (by kernel_rfl) (by kernel_rfl) (by kernel_rfl) (e := Extern.BytealgIndexByte.indexByte) (by kernel_rfl), Lib.run_indexByteString]
  simp only [Result.andThen]
  rw [Oper.upon_value]
  go_wp2
  go_ret
  exact ⟨ret_int (by simp), rfl⟩
set_option maxHeartbeats 400000 in
theorem indexByte_any (l : List UInt8) (c : UInt8) (w : World) : Pure 47 #[.string (S l), .int .u8 (c.toNat : Int)] w (.int .i64 (Lib.indexByte l c)) := by
  go_enter Tryz.func47, Tryz.ntmps47
  go_wp2_with fail
  refine (liteIndexByte_any l c _).use ?_
  go_wp2
  go_ret
  exact ⟨rfl, rfl⟩

/-! ## beginnings and ends -/
def hasP (l p : List UInt8) : Bool := l.take p.length == p
def hasE (l p : List UInt8) : Bool := decide (p.length ≤ l.length) && (l.drop (l.length - p.length) == p)
theorem hasP_le {l p : List UInt8} (h : hasP l p = true) : p.length ≤ l.length := by
  unfold hasP at h
  have := congrArg List.length (eq_of_beq h)
  simp at this; omega
theorem hasP_eq {l p : List UInt8} (h : hasP l p = true) : l = p ++ l.drop p.length := by
  unfold hasP at h
  conv => lhs; rw [← List.take_append_drop p.length l]
  rw [eq_of_beq h]
theorem hasP_append (p r : List UInt8) : hasP (p ++ r) p = true := by unfold hasP; simp
theorem hasE_eq {l p : List UInt8} (h : hasE l p = true) : l = l.take (l.length - p.length) ++ p := by
  unfold hasE at h
  simp only [Bool.and_eq_true] at h
  conv => lhs; rw [← List.take_append_drop (l.length - p.length) l]
  rw [eq_of_beq h.2]
theorem hasE_append (r p : List UInt8) : hasE (r ++ p) p = true := by unfold hasE; simp

set_option maxRecDepth 100000 in
set_option maxHeartbeats 400000 in
theorem liteHasPrefix_any (l p : List UInt8) (w : World) : Pure 43 #[.string (S l), .string (S p)] w (.bool (hasP l p)) := by
  go_enter Tryz.func43, Tryz.ntmps43
  by_cases h : p.length ≤ l.length
  · go_wp2
    go_ret
    exact ⟨ret_bool rfl, rfl⟩
  · have h2 : hasP l p = false := by cases e : hasP l p with
      | false => rfl
      | true => exact absurd (hasP_le e) h
    go_wp2
    go_ret
    exact ⟨ret_bool (by simp [h2]), rfl⟩
set_option maxHeartbeats 400000 in
theorem liteHasSuffix_any (l p : List UInt8) (w : World) (hl : l.length ≤ 140737488351328) : Pure 36 #[.string (S l), .string (S p)] w (.bool (hasE l p)) := by
  go_enter Tryz.func36, Tryz.ntmps36
  by_cases h : p.length ≤ l.length
  · have e : ((l.length : Int) - (p.length : Int)) = ((l.length - p.length : Nat) : Int) := by omega
    have e1 : l.length - p.length ≤ l.length := by omega
    have e2 : hasE l p = (l.drop (l.length - p.length) == p) := by unfold hasE; simp [h]
    go_wp2
    go_ret
    exact ⟨ret_bool e2.symm, rfl⟩
  · have e2 : hasE l p = false := by unfold hasE; simp [h]
    go_wp2
    go_ret
    exact ⟨ret_bool (by simp [e2]), rfl⟩
set_option maxHeartbeats 400000 in
theorem hasPrefix_any (l p : List UInt8) (w : World) : Pure 23 #[.string (S l), .string (S p)] w (.bool (hasP l p)) := by
  go_enter Tryz.func23, Tryz.ntmps23
  go_wp2_with fail
  refine (liteHasPrefix_any l p _).use ?_
  go_wp2
  go_ret
  exact ⟨rfl, rfl⟩
set_option maxHeartbeats 400000 in
theorem hasSuffix_any (l p : List UInt8) (w : World) (hl : l.length ≤ 140737488351328) : Pure 15 #[.string (S l), .string (S p)] w (.bool (hasE l p)) := by
  go_enter Tryz.func15, Tryz.ntmps15
  go_wp2_with fail
  refine (liteHasSuffix_any l p _ hl).use ?_
  go_wp2
  go_ret
  exact ⟨rfl, rfl⟩
set_option maxHeartbeats 400000 in
theorem cutSuffix_any (l p : List UInt8) (w : World) (hl : l.length ≤ 140737488351328) : Pure 19 #[.string (S l), .string (S p)] w (.tuple #[.string (S (if hasE l p = true then l.take (l.length - p.length) else l)), .bool (hasE l p)]) := by
  go_enter Tryz.func19, Tryz.ntmps19
  cases h : hasE l p with
  | true =>
    have hle : p.length ≤ l.length := by unfold hasE at h; simp at h; exact h.1
    have e : ((l.length : Int) - (p.length : Int)) = ((l.length - p.length : Nat) : Int) := by omega
    have e1 : l.length - p.length ≤ l.length := by omega
    go_wp2_with fail
    go_enter Tryz.func39, Tryz.ntmps39
    go_wp2_with fail
    refine (liteHasSuffix_any l p _ hl).use ?_
    go_wp2
    go_ret2
    exact ⟨by simp, rfl⟩
  | false =>
    go_wp2_with fail
    go_enter Tryz.func39, Tryz.ntmps39
    go_wp2_with fail
    refine (liteHasSuffix_any l p _ hl).use ?_
    go_wp2
    go_ret2
    exact ⟨by simp, rfl⟩

/-! ## the first byte of a kind -/
theorem indexByte_none (l : List UInt8) (c : UInt8) (h : c ∉ l) : Lib.indexByte l c = -1 := by
  induction l with
  | nil => rfl
  | cons b l ih =>
    have h1 : (b == c) = false := beq_eq_false_iff_ne.2 fun e => h (e ▸ List.mem_cons_self)
    rw [Lib.indexByte, ih fun m => h (List.mem_cons_of_mem _ m)]
    simp [h1]
theorem indexByte_some (a r : List UInt8) (c : UInt8) (h : c ∉ a) : Lib.indexByte (a ++ c :: r) c = a.length := by
  induction a with
  | nil => simp [Lib.indexByte]
  | cons b l ih =>
    have h1 : (b == c) = false := beq_eq_false_iff_ne.2 fun e => h (e ▸ List.mem_cons_self)
    rw [List.cons_append, Lib.indexByte, ih fun m => h (List.mem_cons_of_mem _ m)]
    have h2 : (((l.length : Int)) == -1) = false := beq_eq_false_iff_ne.2 (by omega)
    simp [h1, h2]
/-- a text either has no byte c, or is what stands ahead of the first, it, and what follows -/
theorem first_split (l : List UInt8) (c : UInt8) : c ∉ l ∨ ∃ a r, l = a ++ c :: r ∧ c ∉ a := by
  induction l with
  | nil => exact .inl (by simp)
  | cons b l ih =>
    by_cases e : b = c
    · exact .inr ⟨[], l, by rw [e]; rfl, by simp⟩
    · rcases ih with h | ⟨a, r, rfl, h⟩
      · exact .inl (by simp [h, Ne.symm e])
      · exact .inr ⟨b :: a, r, rfl, by simp [h, Ne.symm e]⟩
theorem first_unique {a r b s : List UInt8} {c : UInt8} (h : a ++ c :: r = b ++ c :: s) (ha : c ∉ a) (hb : c ∉ b) : a = b ∧ r = s := by
  induction a generalizing b with
  | nil =>
    cases b with
    | nil => simpa using h
    | cons x b => simp at h; exact absurd h.1 (by intro e; exact hb (e ▸ List.mem_cons_self))
  | cons x a ih =>
    cases b with
    | nil => simp at h; exact absurd h.1.symm (by intro e; exact ha (e ▸ List.mem_cons_self))
    | cons y b =>
      simp at h
      obtain ⟨rfl, h⟩ := h
      have := ih h (fun m => ha (List.mem_cons_of_mem _ m)) (fun m => hb (List.mem_cons_of_mem _ m))
      simp [this.1, this.2]

end Go.Proofs.YtccaknanagmmhaaGreat
