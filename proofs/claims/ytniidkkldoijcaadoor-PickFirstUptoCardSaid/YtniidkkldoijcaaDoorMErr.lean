/-
  Texts merged into one: Strs, Name, Err.
-/
import Derived.Test.YtniidkkldoijcaaDoorBase
import Derived.Lib.Bytealg
import Derived.OwnWalk
namespace Go.Proofs.YtniidkkldoijcaaDoor
open Go.RowKit
set_option linter.unusedVariables false
set_option linter.unusedSimpArgs false

set_option maxRecDepth 100000 in
set_option maxHeartbeats 400000 in
theorem liteIndexByte_any (l : List UInt8) (c : UInt8) (w : World) : Pure 105 #[.string (S l), .int .u8 (c.toNat : Int)] w (.int .i64 (Lib.indexByte l c)) := by
  go_enter Tryd.func105, Tryd.ntmps105
  go_wp2
  rw [run_callFunc_extern Tryd.func115 (by kernel_rfl) (by kernel_rfl) (by kernel_rfl) (e := Extern.BytealgIndexByte.indexByte) (by kernel_rfl), Lib.run_indexByteString]
  simp only [Result.andThen]
  rw [Oper.upon_value]
  go_wp2
  go_ret
  exact ⟨ret_int (by simp), rfl⟩

/-! ## beginnings and ends -/
def hasP (l p : List UInt8) : Bool := l.take p.length == p
def hasE (l p : List UInt8) : Bool := decide (p.length ≤ l.length) && (l.drop (l.length - p.length) == p)
theorem hasP_le {l p : List UInt8} (h : hasP l p = true) : p.length ≤ l.length := by
  unfold hasP at h
  have := congrArg List.length (eq_of_beq h)
  simp at this; omega
theorem hasP_eq {l p : List UInt8} (h : hasP l p = true) : l = p ++ l.drop p.length := by
  unfold hasP at h
  conv => lhs; rw [← List.take_append_drop p.length l]
  rw [eq_of_beq h]
theorem hasP_append (p r : List UInt8) : hasP (p ++ r) p = true := by unfold hasP; simp
theorem hasE_eq {l p : List UInt8} (h : hasE l p = true) : l = l.take (l.length - p.length) ++ p := by
  unfold hasE at h
  simp only [Bool.and_eq_true] at h
  conv => lhs; rw [← List.take_append_drop (l.length - p.length) l]
  rw [eq_of_beq h.2]
theorem hasE_append (r p : List UInt8) : hasE (r ++ p) p = true := by unfold hasE; simp

/-! ## the first byte of a kind -/
theorem indexByte_none (l : List UInt8) (c : UInt8) (h : c ∉ l) : Lib.indexByte l c = -1 := by
  induction l with
  | nil => rfl
  | cons b l ih =>
    have h1 : (b == c) = false := beq_eq_false_iff_ne.2 fun e => h (e ▸ List.mem_cons_self)
    rw [Lib.indexByte, ih fun m => h (List.mem_cons_of_mem _ m)]
    simp [h1]
theorem indexByte_some (a r : List UInt8) (c : UInt8) (h : c ∉ a) : Lib.indexByte (a ++ c :: r) c = a.length := by
  induction a with
  | nil => simp [Lib.indexByte]
  | cons b l ih =>
    have h1 : (b == c) = false := beq_eq_false_iff_ne.2 fun e => h (e ▸ List.mem_cons_self)
    rw [List.cons_append, Lib.indexByte, ih fun m => h (List.mem_cons_of_mem _ m)]
    have h2 : (((l.length : Int)) == -1) = false := beq_eq_false_iff_ne.2 (by omega)
    simp [h1, h2]
/-- a text either has no byte c, or is what stands ahead of the first, it, and what follows -/
theorem first_split (l : List UInt8) (c : UInt8) : c ∉ l ∨ ∃ a r, l = a ++ c :: r ∧ c ∉ a := by
  induction l with
  | nil => exact .inl (by simp)
  | cons b l ih =>
    by_cases e : b = c
    · exact .inr ⟨[], l, by rw [e]; rfl, by simp⟩
    · rcases ih with h | ⟨a, r, rfl, h⟩
      · exact .inl (by simp [h, Ne.symm e])
      · exact .inr ⟨b :: a, r, rfl, by simp [h, Ne.symm e]⟩
theorem first_unique {a r b s : List UInt8} {c : UInt8} (h : a ++ c :: r = b ++ c :: s) (ha : c ∉ a) (hb : c ∉ b) : a = b ∧ r = s := by
  induction a generalizing b with
  | nil =>
    cases b with
    | nil => simpa using h
    | cons x b => simp at h; exact absurd h.1 (by intro e; exact hb (e ▸ List.mem_cons_self))
  | cons x a ih =>
    cases b with
    | nil => simp at h; exact absurd h.1.symm (by intro e; exact ha (e ▸ List.mem_cons_self))
    | cons y b =>
      simp at h
      obtain ⟨rfl, h⟩ := h
      have := ih h (fun m => ha (List.mem_cons_of_mem _ m)) (fun m => hb (List.mem_cons_of_mem _ m))
      simp [this.1, this.2]
set_option maxHeartbeats 800000 in
theorem liteCut_none_any (l : List UInt8) (c : UInt8) (h : c ∉ l) (w : World) : Gives 86 #[.string (S l), .string (S [c])] w (.tuple #[.string (S l), .string (S []), .bool false]) := by
  go_enter Tryd.func86, Tryd.ntmps86
  have h1 := indexByte_none l c h
  have h2 : ([c] == l) = false := beq_eq_false_iff_ne.2 fun e => h (e ▸ by simp)
  go_wp2_with fail
  go_enter Tryd.func99, Tryd.ntmps99
  go_wp2_with fail
  refine (liteIndexByte_any l c _).use ?_
  rw [h1]
  go_wp2_with fail
  go_ret3
  exact ⟨rfl, G.refl _⟩
set_option maxHeartbeats 800000 in
theorem liteCut_some_any (a r : List UInt8) (c : UInt8) (h : c ∉ a) (w : World) (hl : a.length + r.length ≤ 140737488351328) : Gives 86 #[.string (S (a ++ c :: r)), .string (S [c])] w (.tuple #[.string (S a), .string (S r), .bool true]) := by
  go_enter Tryd.func86, Tryd.ntmps86
  have h1 := indexByte_some a r c h
  have e1 : (a ++ c :: r).take a.length = a := by simp
  have e2 : (a ++ c :: r).drop (a.length + 1) = r := by simp
  have e3 : (a ++ c :: r).length = a.length + 1 + r.length := by simp; omega
  have e6 : (a ++ c :: r).take (a.length + 1 + r.length) = (a ++ c :: r) := by rw [← e3]; exact List.take_length
  obtain ⟨l, hl'⟩ : ∃ l, l = a ++ c :: r := ⟨_, rfl⟩
  rw [← hl'] at h1 e1 e2 e3 e6 ⊢
  clear hl'
  have e4 : a.length ≤ l.length := by omega
  have e5 : a.length + 1 ≤ l.length := by omega
  cases h2 : ([c] == l) with
  | false =>
    go_wp2_with fail
    go_enter Tryd.func99, Tryd.ntmps99
    go_wp2_with fail
    refine (liteIndexByte_any l c _).use ?_
    rw [h1]
    go_wp2_with fail
    go_quiet (fail)
    go_wp2_with fail
    go_ret3
    exact ⟨rfl, (G.refl _).drewN _⟩
  | true =>
    have h3 : a.length = 0 := by
      have := congrArg List.length (eq_of_beq h2)
      simp at this; omega
    go_wp2_with fail
    go_enter Tryd.func99, Tryd.ntmps99
    go_wp2_with fail
    go_quiet (fail)
    go_wp2_with fail
    go_ret3
    exact ⟨by rw [h3] at e1 e2 e6; simp at e1 e2; simp only [Nat.zero_add] at e6; simp [e1, e6, e2]; rfl, (G.refl _).drewN _⟩
set_option maxHeartbeats 400000 in
theorem cut_none_any (l : List UInt8) (c : UInt8) (h : c ∉ l) (w : World) : Gives 71 #[.string (S l), .string (S [c])] w (.tuple #[.string (S l), .string (S []), .bool false]) := by
  go_enter Tryd.func71, Tryd.ntmps71
  go_wp2_with fail
  refine (liteCut_none_any l c h _).use ?_; intro w1 g1
  go_wp2_with fail
  go_ret3
  exact ⟨rfl, g1⟩
set_option maxHeartbeats 400000 in
theorem cut_some_any (a r : List UInt8) (c : UInt8) (h : c ∉ a) (w : World) (hl : a.length + r.length ≤ 140737488351328) : Gives 71 #[.string (S (a ++ c :: r)), .string (S [c])] w (.tuple #[.string (S a), .string (S r), .bool true]) := by
  go_enter Tryd.func71, Tryd.ntmps71
  go_wp2_with fail
  refine (liteCut_some_any a r c h _ hl).use ?_; intro w1 g1
  go_wp2_with fail
  go_ret3
  exact ⟨rfl, g1⟩

end Go.Proofs.YtniidkkldoijcaaDoor

namespace Go.Proofs.YtniidkkldoijcaaDoor
open Go.RowKit
set_option linter.unusedVariables false
set_option linter.unusedSimpArgs false

def letterB (c : Int) : Bool := decide ((97 ≤ c ∧ c ≤ 122) ∨ (65 ≤ c ∧ c ≤ 90) ∨ (48 ≤ c ∧ c ≤ 57) ∨ c = 45)
def isNameL (l : List UInt8) : Bool := l.all (fun c => letterB c.toNat) && (!l.isEmpty && decide ((l.length : Int) ≤ 40))
def turn1 (low high by_ : Int) (c : UInt8) : UInt8 := if low ≤ c.toNat ∧ c.toNat ≤ high then UInt8.ofNat ((c.toNat + by_) % 256).toNat else c
def upperL (l : List UInt8) : List UInt8 := l.map (turn1 97 122 (-32))
def lowerL (l : List UInt8) : List UInt8 := l.map (turn1 65 90 32)
def sameL (a b : List UInt8) : Bool := upperL a == upperL b

theorem turn1_yes {low high by_ : Int} {c : UInt8} (h1 : low ≤ c.toNat) (h2 : (c.toNat : Int) ≤ high) : ((turn1 low high by_ c).toNat : Int) = (c.toNat + by_) % 256 := by
  unfold turn1
  rw [if_pos ⟨h1, h2⟩]
  simp; omega
theorem turn1_no {low high by_ : Int} {c : UInt8} (h : (c.toNat : Int) < low ∨ high < c.toNat) : turn1 low high by_ c = c := by
  unfold turn1; rw [if_neg (by omega)]
@[simp] theorem upperL_length (l : List UInt8) : (upperL l).length = l.length := by simp [upperL]
@[simp] theorem lowerL_length (l : List UInt8) : (lowerL l).length = l.length := by simp [lowerL]

set_option maxRecDepth 100000 in
set_option maxHeartbeats 400000 in
theorem letter_any (c : Int) (w : World) :
    Pure 56 #[.int .u8 c] w (.bool (letterB c)) := by
  go_enter Tryd.func56, Tryd.ntmps56
  go_wp2
  all_goals go_ret
  all_goals exact ⟨ret_bool (by unfold letterB; rw [Bool.eq_iff_iff]; simp; omega), rfl⟩

theorem all_take_succ (p : UInt8 → Bool) (l : List UInt8) (k : Nat) (h : k < l.length) : (l.take (k + 1)).all p = ((l.take k).all p && p l[k]) := by
  rw [List.take_succ_eq_append_getElem h, List.all_append]; simp

set_option maxRecDepth 100000 in
set_option maxHeartbeats 400000 in
theorem is_any (l : List UInt8) (w : World) (hs : l.length ≤ 140737488355328) :
    Pure 36 #[.string (S l)] w (.bool (isNameL l)) := by
  go_enter Tryd.func36, Tryd.ntmps36
  go_wp2
  go_loop [6] (fun i => ∃ k : Nat, k ≤ l.length ∧ i = .int .i64 k ∧ (l.take k).all (fun c => letterB c.toNat) = true) (fun i => l.length - (intOf i).toNat)
  case atStart => exact ⟨0, Nat.zero_le _, rfl, rfl⟩
  case round =>
    obtain ⟨k, hk, rfl, hall⟩ := hrel
    have Hall := hid hall; clear hall
    by_cases hlt : k < l.length
    · have hsn := all_take_succ (fun c => letterB c.toNat) l k hlt
      have Hsn := hid hsn; clear hsn
      go_wp2_with (go_at_call 56; refine (letter_any _ _).use ?_)
      · rename_i h
        go_ret
        refine ⟨ret_bool ?_, rfl⟩
        have h2 : letterB (l[k].toNat : Int) = false := by simpa using h
        have : l.all (fun c => letterB c.toNat) = false := by
          rw [List.all_eq_false]
          exact ⟨l[k], List.getElem_mem hlt, by simpa using h2⟩
        simp [isNameL, this]
      · rename_i h
        go_round
        case rel =>
          refine ⟨k + 1, by omega, by go_num, ?_⟩
          rw [Hsn.out, Hall.out]; simpa using h
        case measure => simp [intOf]; omega
    · have hk' : k = l.length := by omega
      have ha := Hall.out
      rw [List.take_of_length_le (by omega)] at ha
      have Ha := hid ha
      clear ha hk' Hall
      go_wp2
      all_goals go_ret
      all_goals refine ⟨ret_bool ?_, rfl⟩
      all_goals unfold isNameL
      all_goals first | (simp; done) | (rw [Ha.out]; simp [*])

set_option maxRecDepth 100000 in
set_option maxHeartbeats 400000 in
theorem turn_any (l : List UInt8) (low high by_ : Int) (w : World) (hs : l.length ≤ 140737488355328) (h3 : -256 ≤ by_) (h4 : by_ ≤ 256) :
    Gives 43 #[.string (S l), .int .u8 low, .int .u8 high, .int .i64 by_] w (.string (S (l.map (turn1 low high by_)))) := by
  have hconv := run_bytes_of_string (P := Tryd.prog) w 9 93 5 (S l) Tryd.underlying9 Tryd.underlying93 Tryd.underlying5
  go_enter Tryd.func43, Tryd.ntmps43
  go_wp2
  have hown := OwnB.of_bytes w 5 (S l)
  rw [S_size, S_data] at hown
  generalize hcap : grownCap w l.length 0 5 = cap at hown ⊢
  have hbel : Below w.heap.size w (w.alloc (.cells (bytesRow (S l) cap) 5 ((bytesRow (S l) cap).size, (bytesRow (S l) cap).size + 1))).drew := ((Below.refl _ _).alloc (Nat.le_refl _) _).drew
  have hownH := hid hown; clear hown
  clear hcap hconv
  go_loopw [16] (fun i wr => ∃ k : Nat, k ≤ l.length ∧ i = .int .i64 k ∧ OwnB wr w.heap.size (upTo (turn1 low high by_) k l) ∧ Below w.heap.size w wr) (fun i _ => l.length - (intOf i).toNat)
  case atStart => exact ⟨0, Nat.zero_le _, rfl, hownH.out, hbel⟩
  case round =>
    obtain ⟨k, hk, rfl, ho, hb⟩ := hrel
    clear hbel hownH
    by_cases hlt : k < l.length
    · obtain ⟨hc, hf⟩ := ho k (by rw [upTo_length]; exact hlt)
      rw [upTo_at _ _ _ hlt] at hc
      have ho' := hid ho; clear ho
      have hb1 : l[k].toNat < 256 := UInt8.toNat_lt _
      go_wp2
      all_goals go_roundw
      all_goals try (case measure => simp [intOf]; omega)
      case rel =>
        refine ⟨k + 1, by omega, by go_num, ?_, hb.setCell (Nat.le_refl _) _⟩
        rw [← turn1_yes (by assumption) (by assumption), ← upTo_set _ _ _ hlt]
        exact ho'.out.set k (by rw [upTo_length]; exact hlt) _
      all_goals
        refine ⟨k + 1, by omega, by go_num, ?_, hb⟩
        rw [← upTo_same _ _ _ hlt (turn1_no (by omega))]
        exact ho'.out
    · have hback := ho.back (P := Tryd.prog) 93 9 5 cap Tryd.underlying93 Tryd.underlying5 Tryd.underlying9
      rw [upTo_all _ _ _ (by omega)] at hback
      rw [upTo_all _ _ _ (by omega)] at ho
      rw [List.length_map] at hback
      go_wp2
      go_ret
      exact ⟨rfl, hb⟩

set_option maxRecDepth 100000 in
set_option maxHeartbeats 400000 in
theorem upper_any (l : List UInt8) (w : World) (hs : l.length ≤ 140737488355328) :
    Gives 34 #[.string (S l)] w (.string (S (upperL l))) := by
  go_enter Tryd.func34, Tryd.ntmps34
  go_wp2_with (go_at_call 43; refine (turn_any l 97 122 (-32) _ hs (by omega) (by omega)).use ?_; intro w' hb)
  go_ret
  exact ⟨rfl, hb⟩
set_option maxRecDepth 100000 in
set_option maxHeartbeats 400000 in
theorem lower_any (l : List UInt8) (w : World) (hs : l.length ≤ 140737488355328) :
    Gives 17 #[.string (S l)] w (.string (S (lowerL l))) := by
  go_enter Tryd.func17, Tryd.ntmps17
  go_wp2_with (go_at_call 43; refine (turn_any l 65 90 32 _ hs (by omega) (by omega)).use ?_; intro w' hb)
  go_ret
  exact ⟨rfl, hb⟩
set_option maxRecDepth 100000 in
set_option maxHeartbeats 400000 in
theorem same_any (a b : List UInt8) (w : World) (ha : a.length ≤ 140737488355328) (hb : b.length ≤ 140737488355328) :
    Gives 13 #[.string (S a), .string (S b)] w (.bool (sameL a b)) := by
  go_enter Tryd.func13, Tryd.ntmps13
  go_wp2_with fail
  refine (upper_any a _ ha).use ?_; intro w1 hb1
  go_wp2_with fail
  refine (upper_any b _ hb).use ?_; intro w2 hb2
  go_wp2_with fail
  go_ret
  exact ⟨ret_bool rfl, hb1.trans hb2⟩

end Go.Proofs.YtniidkkldoijcaaDoor

namespace Go.Proofs.YtniidkkldoijcaaDoor
open Go.RowKit
set_option linter.unusedVariables false
set_option linter.unusedSimpArgs false

/-- an error that is an Errno -/
@[go_sem] def eno (n : Int) : Value := .iface 118 (.int .i64 n)
/-- an error that is an At, told by its cells -/
def IsAt (w : World) (v : Value) (code place : Int) : Prop := ∃ b, v = .iface 117 (.pointer (some ⟨b, 0, none⟩)) ∧ w.cell? ⟨b, 0, none⟩ = some (.int .i64 code) ∧ w.cell? ⟨b, 1, none⟩ = some (.int .i64 place) ∧ b < w.heap.size
theorem IsAt.grow {w w' : World} {v : Value} {code place : Int} (h : IsAt w v code place) (g : G w w') : IsAt w' v code place := by
  obtain ⟨b, h1, h2, h3, h4⟩ := h
  exact ⟨b, h1, by rw [g.cell h4]; exact h2, by rw [g.cell h4]; exact h3, Nat.lt_of_lt_of_le h4 g.size⟩

theorem IsAt.new (w : World) (t : TypeId) (code place : Int) : IsAt (w.alloc (.cells #[.int .i64 code, .int .i64 place] t)) (.iface 117 (.pointer (some ⟨w.heap.size, 0, none⟩))) code place :=
  ⟨w.heap.size, rfl, by rw [World.cell?_alloc_new]; rfl, by rw [World.cell?_alloc_new]; rfl, by simp⟩
theorem IsAt.newAt (w : World) (t : TypeId) (code place : Int) (n : Nat) (h : n = w.heap.size) : IsAt (w.alloc (.cells #[.int .i64 code, .int .i64 place] t)) (.iface 117 (.pointer (some ⟨n, 0, none⟩))) code place := by
  subst h; exact IsAt.new w t code place

end Go.Proofs.YtniidkkldoijcaaDoor
