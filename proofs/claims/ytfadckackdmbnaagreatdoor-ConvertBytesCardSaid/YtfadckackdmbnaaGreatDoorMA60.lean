/-
  Texts merged into one: Strs, Name, Err, ReplPlain, ReplLen, Once.
-/
import Derived.Test.YtfadckackdmbnaaGreatDoorMA44
import Derived.Lib.Bytealg
import Derived.OwnWalk
import Derived.Defers
import Derived.Laws.Pointers
import Derived.Laws.LoneSync
import Derived.RegionTactic
import Derived.RegionCalls
import Derived.ChangeAlike
namespace Go.Proofs.YtfadckackdmbnaaGreatDoor
open Go.RowKit
set_option linter.unusedVariables false
set_option linter.unusedSimpArgs false
set_option maxRecDepth 100000 in
set_option maxHeartbeats 400000 in
theorem liteIndexByte_any (l : List UInt8) (c : UInt8) (w : World) : Pure 171 #[.string (S l), .int .u8 (c.toNat : Int)] w (.int .i64 (Lib.indexByte l c)) := by
  go_enter Tryz.func171, Tryz.ntmps171
  go_wp2
  rw [run_callFunc_extern Tryz.func197 (by kernel_rfl) (by kernel_rfl) (by kernel_rfl) (e := Extern.BytealgIndexByte.indexByte) (by kernel_rfl), Lib.run_indexByteString]
  simp only [Result.andThen]
  rw [Oper.upon_value]
  go_wp2
  go_ret
  exact ⟨ret_int (by simp), rfl⟩
set_option maxHeartbeats 400000 in
theorem indexByte_any (l : List UInt8) (c : UInt8) (w : World) : Pure 122 #[.string (S l), .int .u8 (c.toNat : Int)] w (.int .i64 (Lib.indexByte l c)) := by
  go_enter Tryz.func122, Tryz.ntmps122
  go_wp2_with fail
  refine (liteIndexByte_any l c _).use ?_
  go_wp2
  go_ret
  exact ⟨rfl, rfl⟩
def hasP (l p : List UInt8) : Bool := l.take p.length == p
def hasE (l p : List UInt8) : Bool := decide (p.length ≤ l.length) && (l.drop (l.length - p.length) == p)
theorem hasP_le {l p : List UInt8} (h : hasP l p = true) : p.length ≤ l.length := by
  unfold hasP at h
  have := congrArg List.length (eq_of_beq h)
  simp at this; omega
theorem hasP_eq {l p : List UInt8} (h : hasP l p = true) : l = p ++ l.drop p.length := by
  unfold hasP at h
  conv => lhs; rw [← List.take_append_drop p.length l]
  rw [eq_of_beq h]
theorem hasP_append (p r : List UInt8) : hasP (p ++ r) p = true := by unfold hasP; simp
theorem hasE_eq {l p : List UInt8} (h : hasE l p = true) : l = l.take (l.length - p.length) ++ p := by
  unfold hasE at h
  simp only [Bool.and_eq_true] at h
  conv => lhs; rw [← List.take_append_drop (l.length - p.length) l]
  rw [eq_of_beq h.2]
theorem hasE_append (r p : List UInt8) : hasE (r ++ p) p = true := by unfold hasE; simp
set_option maxRecDepth 100000 in
set_option maxHeartbeats 400000 in
theorem liteHasPrefix_any (l p : List UInt8) (w : World) : Pure 153 #[.string (S l), .string (S p)] w (.bool (hasP l p)) := by
  go_enter Tryz.func153, Tryz.ntmps153
  by_cases h : p.length ≤ l.length
  · go_wp2
    go_ret
    exact ⟨ret_bool rfl, rfl⟩
  · have h2 : hasP l p = false := by cases e : hasP l p with
      | false => rfl
      | true => exact absurd (hasP_le e) h
    go_wp2
    go_ret
    exact ⟨ret_bool (by simp [h2]), rfl⟩
set_option maxHeartbeats 400000 in
theorem liteHasSuffix_any (l p : List UInt8) (w : World) (hl : l.length ≤ 140737488351328) : Pure 173 #[.string (S l), .string (S p)] w (.bool (hasE l p)) := by
  go_enter Tryz.func173, Tryz.ntmps173
  by_cases h : p.length ≤ l.length
  · have e : ((l.length : Int) - (p.length : Int)) = ((l.length - p.length : Nat) : Int) := by omega
    have e1 : l.length - p.length ≤ l.length := by omega
    have e2 : hasE l p = (l.drop (l.length - p.length) == p) := by unfold hasE; simp [h]
    go_wp2
    go_ret
    exact ⟨ret_bool e2.symm, rfl⟩
  · have e2 : hasE l p = false := by unfold hasE; simp [h]
    go_wp2
    go_ret
    exact ⟨ret_bool (by simp [e2]), rfl⟩
set_option maxHeartbeats 400000 in
theorem cutPrefix_any (l p : List UInt8) (w : World) : Pure 60 #[.string (S l), .string (S p)] w (.tuple #[.string (S (if hasP l p = true then l.drop p.length else l)), .bool (hasP l p)]) := by
  go_enter Tryz.func60, Tryz.ntmps60
  cases h : hasP l p with
  | true =>
    have hle := hasP_le h
    go_wp2_with fail
    go_enter Tryz.func102, Tryz.ntmps102
    go_wp2_with fail
    refine (liteHasPrefix_any l p _).use ?_
    go_wp2
    go_ret2
    exact ⟨by simp, rfl⟩
  | false =>
    go_wp2_with fail
    go_enter Tryz.func102, Tryz.ntmps102
    go_wp2_with fail
    refine (liteHasPrefix_any l p _).use ?_
    go_wp2
    go_ret2
    exact ⟨by simp, rfl⟩
set_option maxHeartbeats 400000 in
theorem cutSuffix_any (l p : List UInt8) (w : World) (hl : l.length ≤ 140737488351328) : Pure 81 #[.string (S l), .string (S p)] w (.tuple #[.string (S (if hasE l p = true then l.take (l.length - p.length) else l)), .bool (hasE l p)]) := by
  go_enter Tryz.func81, Tryz.ntmps81
  cases h : hasE l p with
  | true =>
    have hle : p.length ≤ l.length := by unfold hasE at h; simp at h; exact h.1
    have e : ((l.length : Int) - (p.length : Int)) = ((l.length - p.length : Nat) : Int) := by omega
    have e1 : l.length - p.length ≤ l.length := by omega
    go_wp2_with fail
    go_enter Tryz.func124, Tryz.ntmps124
    go_wp2_with fail
    refine (liteHasSuffix_any l p _ hl).use ?_
    go_wp2
    go_ret2
    exact ⟨by simp, rfl⟩
  | false =>
    go_wp2_with fail
    go_enter Tryz.func124, Tryz.ntmps124
    go_wp2_with fail
    refine (liteHasSuffix_any l p _ hl).use ?_
    go_wp2
    go_ret2
    exact ⟨by simp, rfl⟩
theorem indexByte_none (l : List UInt8) (c : UInt8) (h : c ∉ l) : Lib.indexByte l c = -1 := by
  induction l with
  | nil => rfl
  | cons b l ih =>
    have h1 : (b == c) = false := beq_eq_false_iff_ne.2 fun e => h (e ▸ List.mem_cons_self)
    rw [Lib.indexByte, ih fun m => h (List.mem_cons_of_mem _ m)]
    simp [h1]
theorem indexByte_some (a r : List UInt8) (c : UInt8) (h : c ∉ a) : Lib.indexByte (a ++ c :: r) c = a.length := by
  induction a with
  | nil => simp [Lib.indexByte]
  | cons b l ih =>
    have h1 : (b == c) = false := beq_eq_false_iff_ne.2 fun e => h (e ▸ List.mem_cons_self)
    rw [List.cons_append, Lib.indexByte, ih fun m => h (List.mem_cons_of_mem _ m)]
    have h2 : (((l.length : Int)) == -1) = false := beq_eq_false_iff_ne.2 (by omega)
    simp [h1, h2]
theorem first_split (l : List UInt8) (c : UInt8) : c ∉ l ∨ ∃ a r, l = a ++ c :: r ∧ c ∉ a := by
  induction l with
  | nil => exact .inl (by simp)
  | cons b l ih =>
    by_cases e : b = c
    · exact .inr ⟨[], l, by rw [e]; rfl, by simp⟩
    · rcases ih with h | ⟨a, r, rfl, h⟩
      · exact .inl (by simp [h, Ne.symm e])
      · exact .inr ⟨b :: a, r, rfl, by simp [h, Ne.symm e]⟩
theorem first_unique {a r b s : List UInt8} {c : UInt8} (h : a ++ c :: r = b ++ c :: s) (ha : c ∉ a) (hb : c ∉ b) : a = b ∧ r = s := by
  induction a generalizing b with
  | nil =>
    cases b with
    | nil => simpa using h
    | cons x b => simp at h; exact absurd h.1 (by intro e; exact hb (e ▸ List.mem_cons_self))
  | cons x a ih =>
    cases b with
    | nil => simp at h; exact absurd h.1.symm (by intro e; exact ha (e ▸ List.mem_cons_self))
    | cons y b =>
      simp at h
      obtain ⟨rfl, h⟩ := h
      have := ih h (fun m => ha (List.mem_cons_of_mem _ m)) (fun m => hb (List.mem_cons_of_mem _ m))
      simp [this.1, this.2]
set_option maxHeartbeats 800000 in
theorem liteCut_none_any (l : List UInt8) (c : UInt8) (h : c ∉ l) (w : World) : Gives 103 #[.string (S l), .string (S [c])] w (.tuple #[.string (S l), .string (S []), .bool false]) := by
  go_enter Tryz.func103, Tryz.ntmps103
  have h1 := indexByte_none l c h
  have h2 : ([c] == l) = false := beq_eq_false_iff_ne.2 fun e => h (e ▸ by simp)
  go_wp2_with fail
  go_enter Tryz.func154, Tryz.ntmps154
  go_wp2_with fail
  refine (liteIndexByte_any l c _).use ?_
  rw [h1]
  go_wp2_with fail
  go_ret3
  exact ⟨rfl, G.refl _⟩
set_option maxHeartbeats 800000 in
theorem liteCut_some_any (a r : List UInt8) (c : UInt8) (h : c ∉ a) (w : World) (hl : a.length + r.length ≤ 140737488351328) : Gives 103 #[.string (S (a ++ c :: r)), .string (S [c])] w (.tuple #[.string (S a), .string (S r), .bool true]) := by
  go_enter Tryz.func103, Tryz.ntmps103
  have h1 := indexByte_some a r c h
  have e1 : (a ++ c :: r).take a.length = a := by simp
  have e2 : (a ++ c :: r).drop (a.length + 1) = r := by simp
  have e3 : (a ++ c :: r).length = a.length + 1 + r.length := by simp; omega
  have e6 : (a ++ c :: r).take (a.length + 1 + r.length) = (a ++ c :: r) := by rw [← e3]; exact List.take_length
  obtain ⟨l, hl'⟩ : ∃ l, l = a ++ c :: r := ⟨_, rfl⟩
  rw [← hl'] at h1 e1 e2 e3 e6 ⊢
  clear hl'
  have e4 : a.length ≤ l.length := by omega
  have e5 : a.length + 1 ≤ l.length := by omega
  cases h2 : ([c] == l) with
  | false =>
    go_wp2_with fail
    go_enter Tryz.func154, Tryz.ntmps154
    go_wp2_with fail
    refine (liteIndexByte_any l c _).use ?_
    rw [h1]
    go_wp2_with fail
    go_quiet (fail)
    go_wp2_with fail
    go_ret3
    exact ⟨rfl, (G.refl _).drewN _⟩
  | true =>
    have h3 : a.length = 0 := by
      have := congrArg List.length (eq_of_beq h2)
      simp at this; omega
    go_wp2_with fail
    go_enter Tryz.func154, Tryz.ntmps154
    go_wp2_with fail
    go_quiet (fail)
    go_wp2_with fail
    go_ret3
    exact ⟨by rw [h3] at e1 e2 e6; simp at e1 e2; simp only [Nat.zero_add] at e6; simp [e1, e6, e2]; rfl, (G.refl _).drewN _⟩
set_option maxHeartbeats 400000 in
theorem cut_none_any (l : List UInt8) (c : UInt8) (h : c ∉ l) (w : World) : Gives 61 #[.string (S l), .string (S [c])] w (.tuple #[.string (S l), .string (S []), .bool false]) := by
  go_enter Tryz.func61, Tryz.ntmps61
  go_wp2_with fail
  refine (liteCut_none_any l c h _).use ?_; intro w1 g1
  go_wp2_with fail
  go_ret3
  exact ⟨rfl, g1⟩
set_option maxHeartbeats 400000 in
theorem cut_some_any (a r : List UInt8) (c : UInt8) (h : c ∉ a) (w : World) (hl : a.length + r.length ≤ 140737488351328) : Gives 61 #[.string (S (a ++ c :: r)), .string (S [c])] w (.tuple #[.string (S a), .string (S r), .bool true]) := by
  go_enter Tryz.func61, Tryz.ntmps61
  go_wp2_with fail
  refine (liteCut_some_any a r c h _ hl).use ?_; intro w1 g1
  go_wp2_with fail
  go_ret3
  exact ⟨rfl, g1⟩
end Go.Proofs.YtfadckackdmbnaaGreatDoor

namespace Go.Proofs.YtfadckackdmbnaaGreatDoor
open Go.RowKit
set_option linter.unusedVariables false
set_option linter.unusedSimpArgs false
def letterB (c : Int) : Bool := decide ((97 ≤ c ∧ c ≤ 122) ∨ (65 ≤ c ∧ c ≤ 90) ∨ (48 ≤ c ∧ c ≤ 57) ∨ c = 45)
def isNameL (l : List UInt8) : Bool := l.all (fun c => letterB c.toNat) && (!l.isEmpty && decide ((l.length : Int) ≤ 40))
def turn1 (low high by_ : Int) (c : UInt8) : UInt8 := if low ≤ c.toNat ∧ c.toNat ≤ high then UInt8.ofNat ((c.toNat + by_) % 256).toNat else c
def upperL (l : List UInt8) : List UInt8 := l.map (turn1 97 122 (-32))
def lowerL (l : List UInt8) : List UInt8 := l.map (turn1 65 90 32)
def sameL (a b : List UInt8) : Bool := upperL a == upperL b
theorem turn1_yes {low high by_ : Int} {c : UInt8} (h1 : low ≤ c.toNat) (h2 : (c.toNat : Int) ≤ high) : ((turn1 low high by_ c).toNat : Int) = (c.toNat + by_) % 256 := by
  unfold turn1
  rw [if_pos ⟨h1, h2⟩]
  simp; omega
theorem turn1_no {low high by_ : Int} {c : UInt8} (h : (c.toNat : Int) < low ∨ high < c.toNat) : turn1 low high by_ c = c := by
  unfold turn1; rw [if_neg (by omega)]
@[simp] theorem upperL_length (l : List UInt8) : (upperL l).length = l.length := by simp [upperL]
@[simp] theorem lowerL_length (l : List UInt8) : (lowerL l).length = l.length := by simp [lowerL]
set_option maxRecDepth 100000 in
set_option maxHeartbeats 400000 in
theorem letter_any (c : Int) (w : World) :
    Pure 179 #[.int .u8 c] w (.bool (letterB c)) := by
  go_enter Tryz.func179, Tryz.ntmps179
  go_wp2
  all_goals go_ret
  all_goals exact ⟨ret_bool (by unfold letterB; rw [Bool.eq_iff_iff]; simp; omega), rfl⟩
theorem all_take_succ (p : UInt8 → Bool) (l : List UInt8) (k : Nat) (h : k < l.length) : (l.take (k + 1)).all p = ((l.take k).all p && p l[k]) := by
  rw [List.take_succ_eq_append_getElem h, List.all_append]; simp
set_option maxRecDepth 100000 in
set_option maxHeartbeats 400000 in
theorem is_any (l : List UInt8) (w : World) (hs : l.length ≤ 140737488355328) :
    Pure 131 #[.string (S l)] w (.bool (isNameL l)) := by
  go_enter Tryz.func131, Tryz.ntmps131
  go_wp2
  go_loop [6] (fun i => ∃ k : Nat, k ≤ l.length ∧ i = .int .i64 k ∧ (l.take k).all (fun c => letterB c.toNat) = true) (fun i => l.length - (intOf i).toNat)
  case atStart => exact ⟨0, Nat.zero_le _, rfl, rfl⟩
  case round =>
    obtain ⟨k, hk, rfl, hall⟩ := hrel
    have Hall := hid hall; clear hall
    by_cases hlt : k < l.length
    · have hsn := all_take_succ (fun c => letterB c.toNat) l k hlt
      have Hsn := hid hsn; clear hsn
      go_wp2_with (go_at_call 179; refine (letter_any _ _).use ?_)
      · rename_i h
        go_ret
        refine ⟨ret_bool ?_, rfl⟩
        have h2 : letterB (l[k].toNat : Int) = false := by simpa using h
        have : l.all (fun c => letterB c.toNat) = false := by
          rw [List.all_eq_false]
          exact ⟨l[k], List.getElem_mem hlt, by simpa using h2⟩
        simp [isNameL, this]
      · rename_i h
        go_round
        case rel =>
          refine ⟨k + 1, by omega, by go_num, ?_⟩
          rw [Hsn.out, Hall.out]; simpa using h
        case measure => simp [intOf]; omega
    · have hk' : k = l.length := by omega
      have ha := Hall.out
      rw [List.take_of_length_le (by omega)] at ha
      have Ha := hid ha
      clear ha hk' Hall
      go_wp2
      all_goals go_ret
      all_goals refine ⟨ret_bool ?_, rfl⟩
      all_goals unfold isNameL
      all_goals first | (simp; done) | (rw [Ha.out]; simp [*])
set_option maxRecDepth 100000 in
set_option maxHeartbeats 400000 in
theorem turn_any (l : List UInt8) (low high by_ : Int) (w : World) (hs : l.length ≤ 140737488355328) (h3 : -256 ≤ by_) (h4 : by_ ≤ 256) :
    Gives 83 #[.string (S l), .int .u8 low, .int .u8 high, .int .i64 by_] w (.string (S (l.map (turn1 low high by_)))) := by
  have hconv := run_bytes_of_string (P := Tryz.prog) w 9 114 5 (S l) Tryz.underlying9 Tryz.underlying114 Tryz.underlying5
  go_enter Tryz.func83, Tryz.ntmps83
  go_wp2
  have hown := OwnB.of_bytes w 5 (S l)
  rw [S_size, S_data] at hown
  generalize hcap : grownCap w l.length 0 5 = cap at hown ⊢
  have hbel : Below w.heap.size w (w.alloc (.cells (bytesRow (S l) cap) 5 ((bytesRow (S l) cap).size, (bytesRow (S l) cap).size + 1))).drew := ((Below.refl _ _).alloc (Nat.le_refl _) _).drew
  have hownH := hid hown; clear hown
  clear hcap hconv
  go_loopw [16] (fun i wr => ∃ k : Nat, k ≤ l.length ∧ i = .int .i64 k ∧ OwnB wr w.heap.size (upTo (turn1 low high by_) k l) ∧ Below w.heap.size w wr) (fun i _ => l.length - (intOf i).toNat)
  case atStart => exact ⟨0, Nat.zero_le _, rfl, hownH.out, hbel⟩
  case round =>
    obtain ⟨k, hk, rfl, ho, hb⟩ := hrel
    clear hbel hownH
    by_cases hlt : k < l.length
    · obtain ⟨hc, hf⟩ := ho k (by rw [upTo_length]; exact hlt)
      rw [upTo_at _ _ _ hlt] at hc
      have ho' := hid ho; clear ho
      have hb1 : l[k].toNat < 256 := UInt8.toNat_lt _
      go_wp2
      all_goals go_roundw
      all_goals try (case measure => simp [intOf]; omega)
      case rel =>
        refine ⟨k + 1, by omega, by go_num, ?_, hb.setCell (Nat.le_refl _) _⟩
        rw [← turn1_yes (by assumption) (by assumption), ← upTo_set _ _ _ hlt]
        exact ho'.out.set k (by rw [upTo_length]; exact hlt) _
      all_goals
        refine ⟨k + 1, by omega, by go_num, ?_, hb⟩
        rw [← upTo_same _ _ _ hlt (turn1_no (by omega))]
        exact ho'.out
    · have hback := ho.back (P := Tryz.prog) 114 9 5 cap Tryz.underlying114 Tryz.underlying5 Tryz.underlying9
      rw [upTo_all _ _ _ (by omega)] at hback
      rw [upTo_all _ _ _ (by omega)] at ho
      rw [List.length_map] at hback
      go_wp2
      go_ret
      exact ⟨rfl, hb⟩
set_option maxRecDepth 100000 in
set_option maxHeartbeats 400000 in
theorem upper_any (l : List UInt8) (w : World) (hs : l.length ≤ 140737488355328) :
    Gives 53 #[.string (S l)] w (.string (S (upperL l))) := by
  go_enter Tryz.func53, Tryz.ntmps53
  go_wp2_with (go_at_call 83; refine (turn_any l 97 122 (-32) _ hs (by omega) (by omega)).use ?_; intro w' hb)
  go_ret
  exact ⟨rfl, hb⟩
set_option maxRecDepth 100000 in
set_option maxHeartbeats 400000 in
theorem lower_any (l : List UInt8) (w : World) (hs : l.length ≤ 140737488355328) :
    Gives 46 #[.string (S l)] w (.string (S (lowerL l))) := by
  go_enter Tryz.func46, Tryz.ntmps46
  go_wp2_with (go_at_call 83; refine (turn_any l 65 90 32 _ hs (by omega) (by omega)).use ?_; intro w' hb)
  go_ret
  exact ⟨rfl, hb⟩
set_option maxRecDepth 100000 in
set_option maxHeartbeats 400000 in
theorem same_any (a b : List UInt8) (w : World) (ha : a.length ≤ 140737488355328) (hb : b.length ≤ 140737488355328) :
    Gives 22 #[.string (S a), .string (S b)] w (.bool (sameL a b)) := by
  go_enter Tryz.func22, Tryz.ntmps22
  go_wp2_with fail
  refine (upper_any a _ ha).use ?_; intro w1 hb1
  go_wp2_with fail
  refine (upper_any b _ hb).use ?_; intro w2 hb2
  go_wp2_with fail
  go_ret
  exact ⟨ret_bool rfl, hb1.trans hb2⟩
end Go.Proofs.YtfadckackdmbnaaGreatDoor

namespace Go.Proofs.YtfadckackdmbnaaGreatDoor
open Go.RowKit
set_option linter.unusedVariables false
set_option linter.unusedSimpArgs false
@[go_sem] def eno (n : Int) : Value := .iface 60 (.int .i64 n)
def IsAt (w : World) (v : Value) (code place : Int) : Prop := ∃ b, v = .iface 78 (.pointer (some ⟨b, 0, none⟩)) ∧ w.cell? ⟨b, 0, none⟩ = some (.int .i64 code) ∧ w.cell? ⟨b, 1, none⟩ = some (.int .i64 place) ∧ b < w.heap.size
theorem IsAt.grow {w w' : World} {v : Value} {code place : Int} (h : IsAt w v code place) (g : G w w') : IsAt w' v code place := by
  obtain ⟨b, h1, h2, h3, h4⟩ := h
  exact ⟨b, h1, by rw [g.cell h4]; exact h2, by rw [g.cell h4]; exact h3, Nat.lt_of_lt_of_le h4 g.size⟩
theorem IsAt.new (w : World) (t : TypeId) (code place : Int) : IsAt (w.alloc (.cells #[.int .i64 code, .int .i64 place] t)) (.iface 78 (.pointer (some ⟨w.heap.size, 0, none⟩))) code place :=
  ⟨w.heap.size, rfl, by rw [World.cell?_alloc_new]; rfl, by rw [World.cell?_alloc_new]; rfl, by simp⟩
theorem IsAt.newAt (w : World) (t : TypeId) (code place : Int) (n : Nat) (h : n = w.heap.size) : IsAt (w.alloc (.cells #[.int .i64 code, .int .i64 place] t)) (.iface 78 (.pointer (some ⟨n, 0, none⟩))) code place := by
  subst h; exact IsAt.new w t code place
end Go.Proofs.YtfadckackdmbnaaGreatDoor

namespace Go.Proofs.YtfadckackdmbnaaGreatDoor
open Go.RowKit
set_option linter.unusedVariables false
set_option linter.unusedSimpArgs false
def rep1 (f : UInt8 → Option (List UInt8)) (c : UInt8) : List UInt8 := (f c).getD [c]
def replL (f : UInt8 → Option (List UInt8)) (s : List UInt8) : List UInt8 := s.flatMap (rep1 f)
theorem replL_append (f : UInt8 → Option (List UInt8)) (a b : List UInt8) : replL f (a ++ b) = replL f a ++ replL f b := by simp [replL]
theorem replL_cons (f : UInt8 → Option (List UInt8)) (c : UInt8) (t : List UInt8) : replL f (c :: t) = rep1 f c ++ replL f t := by simp [replL]
def caretF (c : UInt8) : Option (List UInt8) := if c = 94 then some [94, 94] else if c = 10 then some [94, 110] else if c = 34 then some [94, 39] else none
def encL (s : List UInt8) : List UInt8 := replL caretF s
theorem enc_len (s : List UInt8) : s.length ≤ (encL s).length ∧ (encL s).length ≤ 2 * s.length := by
  have h : ∀ c : UInt8, 1 ≤ (rep1 caretF c).length ∧ (rep1 caretF c).length ≤ 2 := fun c => of_decide_eq_true (byte_all (fun c => decide (1 ≤ (rep1 caretF c).length ∧ (rep1 caretF c).length ≤ 2)) (by decide +kernel) c)
  induction s with
  | nil => exact ⟨Nat.le_refl _, Nat.le_refl _⟩
  | cons c t ih =>
    have := h c
    show (c :: t).length ≤ (rep1 caretF c ++ encL t).length ∧ (rep1 caretF c ++ encL t).length ≤ _
    simp only [List.length_append, List.length_cons]
    omega
def escF (c : UInt8) : Option (List UInt8) := if c = 92 then some [92, 92] else if c = 44 then some [92, 44] else if c = 59 then some [92, 59] else if c = 10 then some [92, 110] else none
def escL (s : List UInt8) : List UInt8 := replL escF s
def needL (s : List UInt8) : Nat := (s.filter fun c => ([92, 44, 59, 10] : List UInt8).contains c).length
theorem esc_len (s : List UInt8) : (escL s).length = s.length + needL s := by
  have h : ∀ c : UInt8, (rep1 escF c).length = 1 + if ([92, 44, 59, 10] : List UInt8).contains c = true then 1 else 0 := fun c => of_decide_eq_true (byte_all (fun c => decide ((rep1 escF c).length = 1 + if ([92, 44, 59, 10] : List UInt8).contains c = true then 1 else 0)) (by decide +kernel) c)
  induction s with
  | nil => rfl
  | cons c t ih =>
    have e : (escL (c :: t)).length = (rep1 escF c).length + (escL t).length := by
      show (rep1 escF c ++ escL t).length = _
      rw [List.length_append]
    rw [e, h, ih]
    unfold needL
    rw [List.filter_cons]
    split <;> simp <;> omega
inductive PiecesR where
  | good (texts : List (List UInt8)) (cuts : List UInt8)
  | bad (code : Int) (place : Nat)
def unescB (c : UInt8) : Option UInt8 := if c = 92 ∨ c = 44 ∨ c = 59 then some c else if c = 110 ∨ c = 78 then some 10 else none
def piecesGo (at_ : List UInt8) : List UInt8 → Nat → List UInt8 → List (List UInt8) → List UInt8 → PiecesR
  | [], _, cur, texts, cuts => .good (texts ++ [cur]) cuts
  | [c], k, cur, texts, cuts => if c = 92 then .bad 7 (k + 1) else if at_.contains c = true then .good (texts ++ [cur] ++ [[]]) (cuts ++ [c]) else .good (texts ++ [cur ++ [c]]) cuts
  | c :: d :: t, k, cur, texts, cuts =>
    if c = 92 then
      match unescB d with
      | some x => piecesGo at_ t (k + 2) (cur ++ [x]) texts cuts
      | none => .bad 3 (k + 1)
    else if at_.contains c = true then piecesGo at_ (d :: t) (k + 1) [] (texts ++ [cur]) (cuts ++ [c])
    else piecesGo at_ (d :: t) (k + 1) (cur ++ [c]) texts cuts
theorem pieces_nil (a : List UInt8) (k : Nat) (cur : List UInt8) (ts : List (List UInt8)) (cs : List UInt8) : piecesGo a [] k cur ts cs = .good (ts ++ [cur]) cs := rfl
theorem pieces_esc {a : List UInt8} {d x : UInt8} {t : List UInt8} {k : Nat} {cur : List UInt8} {ts : List (List UInt8)} {cs : List UInt8} (h : unescB d = some x) : piecesGo a (92 :: d :: t) k cur ts cs = piecesGo a t (k + 2) (cur ++ [x]) ts cs := by
  show (if (92 : UInt8) = 92 then _ else _) = _
  rw [if_pos rfl, h]
theorem pieces_cut {a : List UInt8} {c : UInt8} {t : List UInt8} {k : Nat} {cur : List UInt8} {ts : List (List UInt8)} {cs : List UInt8} (h1 : c ≠ 92) (h2 : a.contains c = true) : piecesGo a (c :: t) k cur ts cs = piecesGo a t (k + 1) [] (ts ++ [cur]) (cs ++ [c]) := by
  cases t with
  | nil => show (if c = 92 then _ else _) = _; rw [if_neg h1, if_pos h2]; rfl
  | cons d t => show (if c = 92 then _ else _) = _; rw [if_neg h1, if_pos h2]
theorem pieces_one {a : List UInt8} {c : UInt8} {t : List UInt8} {k : Nat} {cur : List UInt8} {ts : List (List UInt8)} {cs : List UInt8} (h1 : c ≠ 92) (h2 : a.contains c = false) : piecesGo a (c :: t) k cur ts cs = piecesGo a t (k + 1) (cur ++ [c]) ts cs := by
  cases t with
  | nil => show (if c = 92 then _ else _) = _; rw [if_neg h1, if_neg (by simpa using h2)]; rfl
  | cons d t => show (if c = 92 then _ else _) = _; rw [if_neg h1, if_neg (by simpa using h2)]
theorem esc_cases (c : UInt8) : (∃ d, rep1 escF c = [92, d] ∧ unescB d = some c) ∨ (rep1 escF c = [c] ∧ c ≠ 92 ∧ c ≠ 44 ∧ c ≠ 59) := by
  by_cases h1 : c = 92
  · subst h1; exact .inl ⟨92, rfl, rfl⟩
  by_cases h2 : c = 44
  · subst h2; exact .inl ⟨44, rfl, rfl⟩
  by_cases h3 : c = 59
  · subst h3; exact .inl ⟨59, rfl, rfl⟩
  by_cases h4 : c = 10
  · subst h4; exact .inl ⟨110, rfl, rfl⟩
  · right
    refine ⟨?_, h1, h2, h3⟩
    unfold rep1 escF
    rw [if_neg h1, if_neg h2, if_neg h3, if_neg h4]; rfl
theorem pieces_escL (a : List UInt8) (ha : ∀ c ∈ a, c = 44 ∨ c = 59) (s : List UInt8) : ∀ (r : List UInt8) (k : Nat) (cur : List UInt8) (ts : List (List UInt8)) (cs : List UInt8), piecesGo a (escL s ++ r) k cur ts cs = piecesGo a r (k + (escL s).length) (cur ++ s) ts cs := by
  induction s with
  | nil => intro r k cur ts cs; simp [escL, replL]
  | cons c t ih =>
    intro r k cur ts cs
    have e : escL (c :: t) = rep1 escF c ++ escL t := rfl
    rcases esc_cases c with ⟨d, h1, h2⟩ | ⟨h1, h2, h3, h4⟩
    · rw [e, h1]
      show piecesGo a (92 :: d :: (escL t ++ r)) k cur ts cs = _
      rw [pieces_esc h2, ih]
      simp; congr 1; omega
    · rw [e, h1]
      show piecesGo a (c :: (escL t ++ r)) k cur ts cs = _
      rw [pieces_one h2 (by
        cases hc : a.contains c with
        | false => rfl
        | true => rcases ha c (by simpa using hc) with h | h; exact absurd h h3; exact absurd h h4), ih]
      simp; congr 1; omega
end Go.Proofs.YtfadckackdmbnaaGreatDoor

namespace Go.Proofs.YtfadckackdmbnaaGreatDoor
open Go.RowKit
set_option linter.unusedVariables false
set_option linter.unusedSimpArgs false
structure Keyed1 (f : UInt8 → Option (List UInt8)) (keys : List UInt8) : Prop where
  nodup : keys.Nodup
  iff : ∀ c, f c = none ↔ c ∉ keys
  pos : ∀ c l, f c = some l → 1 ≤ l.length
  small : ∀ c l, f c = some l → l.length ≤ 10
def grow1 (f : UInt8 → Option (List UInt8)) (c : UInt8) : Nat := (rep1 f c).length - 1
def addK (f : UInt8 → Option (List UInt8)) (s : List UInt8) (keys : List UInt8) : Nat := (keys.map fun k => s.count k * grow1 f k).sum
theorem addK_cons (f : UInt8 → Option (List UInt8)) (c : UInt8) (t : List UInt8) (keys : List UInt8) (hn : keys.Nodup) : addK f (c :: t) keys = addK f t keys + if c ∈ keys then grow1 f c else 0 := by
  induction keys with
  | nil => simp [addK]
  | cons k ks ih =>
    obtain ⟨h1, h2⟩ := List.nodup_cons.1 hn
    have ih := ih h2
    have e : ∀ l, addK f l (k :: ks) = l.count k * grow1 f k + addK f l ks := fun l => by simp [addK]
    rw [e, e, ih, List.count_cons]
    by_cases hc : c = k
    · subst hc
      simp [h1, Nat.add_mul]; omega
    · have hck : (c == k) = false := beq_eq_false_iff_ne.2 hc
      simp [hc, hck]
      omega
theorem repl_len {f : UInt8 → Option (List UInt8)} {keys : List UInt8} (h : Keyed1 f keys) (s : List UInt8) : (replL f s).length = s.length + addK f s keys := by
  induction s with
  | nil =>
    have h0 : ∀ l : List UInt8, (l.map fun _ => 0).sum = 0 := fun l => by induction l with
      | nil => rfl
      | cons _ _ ih => simpa using ih
    simp [replL, addK, h0]
  | cons c t ih =>
    rw [replL_cons, List.length_append, ih, addK_cons f c t keys h.nodup]
    have hr : (rep1 f c).length = 1 + if c ∈ keys then grow1 f c else 0 := by
      unfold grow1
      by_cases hc : c ∈ keys
      · rw [if_pos hc]
        cases hf : f c with
        | none => exact absurd hc ((h.iff c).1 hf)
        | some l =>
          have := h.pos c l hf
          simp [rep1, hf]; omega
      · rw [if_neg hc]
        have := (h.iff c).2 hc
        simp [rep1, this]
    rw [hr]; simp; omega
theorem repl_same {f : UInt8 → Option (List UInt8)} (s : List UInt8) (h : ∀ c ∈ s, f c = none) : replL f s = s := by
  induction s with
  | nil => rfl
  | cons c t ih =>
    rw [replL_cons, ih fun d hd => h d (List.mem_cons_of_mem _ hd)]
    simp [rep1, h c List.mem_cons_self]
theorem repl_snoc (f : UInt8 → Option (List UInt8)) (s : List UInt8) (k : Nat) (h : k < s.length) : replL f (s.take (k + 1)) = replL f (s.take k) ++ rep1 f s[k] := by
  rw [List.take_succ_eq_append_getElem h, replL_append]; simp [replL]
theorem repl_le {f : UInt8 → Option (List UInt8)} {keys : List UInt8} (h : Keyed1 f keys) (s : List UInt8) : s.length ≤ (replL f s).length ∧ (replL f s).length ≤ 10 * s.length := by
  have h1 : ∀ c, 1 ≤ (rep1 f c).length ∧ (rep1 f c).length ≤ 10 := by
    intro c
    cases hf : f c with
    | none => simp [rep1, hf]
    | some l => have := h.pos c l hf; have := h.small c l hf; simp [rep1, hf]; omega
  induction s with
  | nil => simp [replL]
  | cons c t ih =>
    have := h1 c
    rw [replL_cons]; simp only [List.length_append, List.length_cons]; omega
theorem repl_take_le (f : UInt8 → Option (List UInt8)) (s : List UInt8) (k : Nat) : (replL f (s.take k)).length ≤ (replL f s).length := by
  conv => rhs; rw [← List.take_append_drop k s, replL_append]
  simp
end Go.Proofs.YtfadckackdmbnaaGreatDoor

namespace Go.Proofs.YtfadckackdmbnaaGreatDoor
open Go.RowKit
set_option linter.unusedVariables false
set_option linter.unusedSimpArgs false
theorem race_disable (w : World) : (callFunc 255 #[]).run Tryz.prog w = .ok (.value (.tuple #[])) w := run_call_mark0 Tryz.func255 (by kernel_rfl) (by kernel_rfl) (by kernel_rfl) .disable (by kernel_rfl) w
theorem race_enable (w : World) : (callFunc 257 #[]).run Tryz.prog w = .ok (.value (.tuple #[])) w := run_call_mark0 Tryz.func257 (by kernel_rfl) (by kernel_rfl) (by kernel_rfl) .enable (by kernel_rfl) w
theorem race_acquire (a : Addr) (w : World) : (callFunc 258 #[.pointer (some a)]).run Tryz.prog w = .ok (.value (.tuple #[])) w := run_call_marked Tryz.func258 (by kernel_rfl) (by kernel_rfl) (by kernel_rfl) .acquire (by kernel_rfl) a w
theorem race_releaseMerge (a : Addr) (w : World) : (callFunc 260 #[.pointer (some a)]).run Tryz.prog w = .ok (.value (.tuple #[])) w := run_call_marked Tryz.func260 (by kernel_rfl) (by kernel_rfl) (by kernel_rfl) .releaseMerge (by kernel_rfl) a w
set_option maxRecDepth 100000 in
set_option maxHeartbeats 1600000 in
theorem store_deferred (a : Addr) (x : Value) (u : FrameMode) (w : World) (hc : w.cell? a = some x) (hz : w.frozen? a = false) :
    CallsD Tryz.prog 228 #[.pointer (some a), .bool true] u w fun e u' w' => u' = u ∧ (e = .returned (.tuple #[]) ∧ w' = w.drew.setCell a (.int .u32 1)) := by
  have hc' : w.drew.cell? a = some x := by go_simp
  have hz' : w.drew.frozen? a = false := by go_simp
  have hst := run_call_store (P := Tryz.prog) Tryz.func244 (by kernel_rfl) (by kernel_rfl) (by kernel_rfl) (by kernel_rfl) (k := .u32) (y := 1) hc' hz'
  go_enter_d Tryz.func228, Tryz.ntmps228
  go_wp2
  go_region_calls
  all_goals (go_end0; exact ⟨rfl, rfl⟩)
set_option maxRecDepth 100000 in
set_option maxHeartbeats 1600000 in
theorem unlock_deferred (a : Addr) (u : FrameMode) (w : World) (hc : w.cell? a = some (.int .i32 1)) (hz : w.frozen? a = false) :
    CallsD Tryz.prog 227 #[.pointer (some a)] u w fun e u' w' => u' = u ∧ (e = .returned (.tuple #[]) ∧ w' = w.setCell a (.int .i32 0)) := by
  have hd := race_disable
  have he := race_enable
  have hr := race_releaseMerge
  have hadd := run_call_add (P := Tryz.prog) Tryz.func261 (by kernel_rfl) (by kernel_rfl) (by kernel_rfl) .i32 (by kernel_rfl) (y := -1) (s := 0) hc hz (by simp [go_sem]; rfl)
  have hcv := run_convert_to_unsafe (P := Tryz.prog) (src := 346) (dst := 144) Tryz.underlying346 Tryz.underlying144 (by kernel_rfl) hc
  go_enter_d Tryz.func227, Tryz.ntmps227
  go_wp2
  go_end0
  go_wp2
  go_end0
  exact ⟨rfl, rfl⟩
set_option maxRecDepth 100000 in
set_option maxHeartbeats 1600000 in
theorem lock_free (a : Addr) (w : World) (hc : w.cell? a = some (.int .i32 0)) (hz : w.frozen? a = false) :
    Calls Tryz.prog 226 #[.pointer (some a)] w fun e w' => e = .returned (.tuple #[]) ∧ w' = w.setCell a (.int .i32 1) := by
  have hd := race_disable
  have he := race_enable
  have ha := race_acquire
  have hcas := run_call_cas_hit (P := Tryz.prog) Tryz.func256 (by kernel_rfl) (by kernel_rfl) (by kernel_rfl) .i32 (by kernel_rfl) (y := 1) hc hz
  have hc' : (w.setCell a (.int .i32 1)).cell? a = some (.int .i32 1) := World.cell?_setCell_same w a _ hc
  have hcv := run_convert_to_unsafe (P := Tryz.prog) (src := 346) (dst := 144) Tryz.underlying346 Tryz.underlying144 (by kernel_rfl) hc'
  go_enter Tryz.func226, Tryz.ntmps226
  go_wp2
  first | go_end0 | (simp only [Exit.inBlock, Exit.then]; refine bodyPost_ret (results_none rfl _ _ _) rfl ?_) | refine bodyPost_ret (results_none rfl _ _ _) rfl ?_
  go_wp2
  go_end0
  exact ⟨rfl, rfl⟩
set_option maxRecDepth 100000 in
set_option maxHeartbeats 1600000 in
theorem boolLoad_zero (a : Addr) (w : World) (h : w.cell? a = some (.int .u32 0)) : Pure 204 #[.pointer (some a)] w (.bool false) := by
  have hl := run_call_load (P := Tryz.prog) Tryz.func225 (by kernel_rfl) (by kernel_rfl) (by kernel_rfl) .u32 (by kernel_rfl) h
  go_enter Tryz.func204, Tryz.ntmps204
  go_wp2
  go_ret
  exact ⟨rfl, rfl⟩
def Onced (w : World) (b off : Nat) (e : Ending) (w' : World) (R : World → Prop) : Prop :=
  e = .returned (.tuple #[]) ∧ R w' ∧ w'.cell? ⟨b, off, none⟩ = some (.int .u32 0) ∧ w'.frozen? ⟨b, off, none⟩ = false ∧ w'.cell? ⟨b, off + 1, none⟩ = some (.int .i32 1) ∧ w'.frozen? ⟨b, off + 1, none⟩ = false
set_option maxRecDepth 100000 in
set_option maxHeartbeats 4000000 in
theorem slow_any (p : Value) (b off : Nat) (w : World) (R : World → Prop)
    (h0 : w.cell? ⟨b, off, none⟩ = some (.int .u32 0)) (h1 : w.cell? ⟨b, off + 1, none⟩ = some (.int .i32 0)) (f0 : w.frozen? ⟨b, off, none⟩ = false) (f1 : w.frozen? ⟨b, off + 1, none⟩ = false)
    (hf : Calls Tryz.prog 189 #[p] (w.setCell ⟨b, off + 1, none⟩ (.int .i32 1)) fun e w' => Onced w b off e w' R) :
    Calls Tryz.prog 205 #[.pointer (some ⟨b, off, none⟩), .func (.func 189) #[p] #[]] w fun e w' => e = .returned (.tuple #[]) ∧ ∃ w1, R w1 ∧ w' = (w1.drew.setCell ⟨b, off, none⟩ (.int .u32 1)).setCell ⟨b, off + 1, none⟩ (.int .i32 0) := by
  have l0 : (w.setCell ⟨b, off + 1, none⟩ (.int .i32 1)).cell? ⟨b, off, none⟩ = some (.int .u32 0) := (World.cell?_setCell_other _ ⟨b, off + 1, none⟩ ⟨b, off, none⟩ _ (by simp)).trans h0
  have hnot : ∀ (x : Bool) (w : World), (Op.unary .not (.bool x)).run Tryz.prog w = .ok (.bool (!x)) w := fun _ _ => rfl
  go_enter_defers Tryz.func205, Tryz.ntmps205
  go_wp2_with (go_at_call 226; refine (lock_free ⟨b, off + 1, none⟩ _ (by go_simp) (by go_simp)).mono ?_; rintro e w' ⟨rfl, rfl⟩)
  refine (boolLoad_zero ⟨b, off, none⟩ _ l0).use ?_
  go_wp2_with fail
  refine Calls.mono hf ?_
  rintro e w1 ⟨rfl, hr, a0, z0, a1, z1⟩
  go_wp2_with fail
  refine leaves_cons (f := 228) (args := #[.pointer (some ⟨b, off, none⟩), .bool true]) (by simp) (by simp [go_sem]) ?_
  refine (store_deferred ⟨b, off, none⟩ (.int .u32 0) .returning _ a0 z0).mono ?_
  rintro e u' w2 ⟨rfl, rfl, rfl⟩
  refine leaves_cons (f := 227) (args := #[.pointer (some ⟨b, off + 1, none⟩)]) (by simp [settle]) (by simp [go_sem]) ?_
  refine (unlock_deferred ⟨b, off + 1, none⟩ _ _ ?_ (by simp [z1])).mono ?_
  · refine (World.cell?_setCell_other _ ⟨b, off, none⟩ ⟨b, off + 1, none⟩ _ (by simp)).trans ?_
    rw [World.cell?_drew]
    exact a1
  rintro e u' w2 ⟨rfl, rfl, rfl⟩
  simp [Leaves, settle, results, Tryz.results205]
  exact ⟨w1, hr, rfl⟩
set_option maxRecDepth 100000 in
set_option maxHeartbeats 4000000 in
theorem onceDo_any (p : Value) (b off : Nat) (w : World) (R : World → Prop)
    (h0 : w.cell? ⟨b, off, none⟩ = some (.int .u32 0)) (h1 : w.cell? ⟨b, off + 1, none⟩ = some (.int .i32 0)) (f0 : w.frozen? ⟨b, off, none⟩ = false) (f1 : w.frozen? ⟨b, off + 1, none⟩ = false)
    (hf : Calls Tryz.prog 189 #[p] (w.setCell ⟨b, off + 1, none⟩ (.int .i32 1)) fun e w' => Onced w b off e w' R) :
    Calls Tryz.prog 188 #[.pointer (some ⟨b, off, none⟩), .func (.func 189) #[p] #[]] w fun e w' => e = .returned (.tuple #[]) ∧ ∃ w1, R w1 ∧ w' = (w1.drew.setCell ⟨b, off, none⟩ (.int .u32 1)).setCell ⟨b, off + 1, none⟩ (.int .i32 0) := by
  have hnot : ∀ (x : Bool) (w : World), (Op.unary .not (.bool x)).run Tryz.prog w = .ok (.bool (!x)) w := fun _ _ => rfl
  go_enter Tryz.func188, Tryz.ntmps188
  go_wp2_with fail
  refine (boolLoad_zero ⟨b, off, none⟩ _ h0).use ?_
  go_wp2_with fail
  refine Calls.mono (slow_any p b off w R h0 h1 f0 f1 hf) ?_
  rintro e w' ⟨rfl, hr⟩
  go_wp2_with fail
  go_end0
  exact ⟨rfl, hr⟩
end Go.Proofs.YtfadckackdmbnaaGreatDoor
