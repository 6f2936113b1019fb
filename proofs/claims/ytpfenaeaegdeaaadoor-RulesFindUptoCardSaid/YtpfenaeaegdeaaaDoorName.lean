/-
  CONTRACTS of package name: letter, Is, turn, Upper, Lower, Same, for all texts of at most 2 to the 47 bytes, and the plain functions that they compute.
-/
import Derived.Test.YtpfenaeaegdeaaaDoorBase
namespace Go.Proofs.YtpfenaeaegdeaaaDoor
open Go.RowKit
set_option linter.unusedVariables false
set_option linter.unusedSimpArgs false

def letterB (c : Int) : Bool := decide ((97 ≤ c ∧ c ≤ 122) ∨ (65 ≤ c ∧ c ≤ 90) ∨ (48 ≤ c ∧ c ≤ 57) ∨ c = 45)
def isNameL (l : List UInt8) : Bool := l.all (fun c => letterB c.toNat) && (!l.isEmpty && decide ((l.length : Int) ≤ 40))
def turn1 (low high by_ : Int) (c : UInt8) : UInt8 := if low ≤ c.toNat ∧ c.toNat ≤ high then UInt8.ofNat ((c.toNat + by_) % 256).toNat else c
def upperL (l : List UInt8) : List UInt8 := l.map (turn1 97 122 (-32))
def lowerL (l : List UInt8) : List UInt8 := l.map (turn1 65 90 32)
def sameL (a b : List UInt8) : Bool := upperL a == upperL b

theorem turn1_yes {low high by_ : Int} {c : UInt8} (h1 : low ≤ c.toNat) (h2 : (c.toNat : Int) ≤ high) : ((turn1 low high by_ c).toNat : Int) = (c.toNat + by_) % 256 := by
  unfold turn1
  rw [if_pos ⟨h1, h2⟩]
  simp; omega
theorem turn1_no {low high by_ : Int} {c : UInt8} (h : (c.toNat : Int) < low ∨ high < c.toNat) : turn1 low high by_ c = c := by
  unfold turn1; rw [if_neg (by omega)]
@[simp] theorem upperL_length (l : List UInt8) : (upperL l).length = l.length := by simp [upperL]
@[simp] theorem lowerL_length (l : List UInt8) : (lowerL l).length = l.length := by simp [lowerL]

set_option maxRecDepth 100000 in
set_option maxHeartbeats 400000 in
theorem letter_any (c : Int) (w : World) :
    Pure 33 #[.int .u8 c] w (.bool (letterB c)) := by
  go_enter Tryd.func33, Tryd.ntmps33
  go_wp2
  all_goals go_ret
  all_goals exact ⟨ret_bool (by unfold letterB; rw [Bool.eq_iff_iff]; simp; omega), rfl⟩

theorem all_take_succ (p : UInt8 → Bool) (l : List UInt8) (k : Nat) (h : k < l.length) : (l.take (k + 1)).all p = ((l.take k).all p && p l[k]) := by
  rw [List.take_succ_eq_append_getElem h, List.all_append]; simp

set_option maxRecDepth 100000 in
set_option maxHeartbeats 400000 in
theorem is_any (l : List UInt8) (w : World) (hs : l.length ≤ 140737488355328) :
    Pure 21 #[.string (S l)] w (.bool (isNameL l)) := by
  go_enter Tryd.func21, Tryd.ntmps21
  go_wp2
  go_loop [6] (fun i => ∃ k : Nat, k ≤ l.length ∧ i = .int .i64 k ∧ (l.take k).all (fun c => letterB c.toNat) = true) (fun i => l.length - (intOf i).toNat)
  case atStart => exact ⟨0, Nat.zero_le _, rfl, rfl⟩
  case round =>
    obtain ⟨k, hk, rfl, hall⟩ := hrel
    have Hall := hid hall; clear hall
    by_cases hlt : k < l.length
    · have hsn := all_take_succ (fun c => letterB c.toNat) l k hlt
      have Hsn := hid hsn; clear hsn
      go_wp2_with (go_at_call 33; refine (letter_any _ _).use ?_)
      · rename_i h
        go_ret
        refine ⟨ret_bool ?_, rfl⟩
        have h2 : letterB (l[k].toNat : Int) = false := by simpa using h
        have : l.all (fun c => letterB c.toNat) = false := by
          rw [List.all_eq_false]
          exact ⟨l[k], List.getElem_mem hlt, by simpa using h2⟩
        simp [isNameL, this]
      · rename_i h
        go_round
        case rel =>
          refine ⟨k + 1, by omega, by go_num, ?_⟩
          rw [Hsn.out, Hall.out]; simpa using h
        case measure => simp [intOf]; omega
    · have hk' : k = l.length := by omega
      have ha := Hall.out
      rw [List.take_of_length_le (by omega)] at ha
      have Ha := hid ha
      clear ha hk' Hall
      go_wp2
      all_goals go_ret
      all_goals refine ⟨ret_bool ?_, rfl⟩
      all_goals unfold isNameL
      all_goals first | (simp; done) | (rw [Ha.out]; simp [*])

set_option maxRecDepth 100000 in
set_option maxHeartbeats 400000 in
theorem turn_any (l : List UInt8) (low high by_ : Int) (w : World) (hs : l.length ≤ 140737488355328) (h3 : -256 ≤ by_) (h4 : by_ ≤ 256) :
    Gives 34 #[.string (S l), .int .u8 low, .int .u8 high, .int .i64 by_] w (.string (S (l.map (turn1 low high by_)))) := by
  have hconv := run_bytes_of_string (P := Tryd.prog) w 9 79 5 (S l) Tryd.underlying9 Tryd.underlying79 Tryd.underlying5
  go_enter Tryd.func34, Tryd.ntmps34
  go_wp2
  have hown := OwnB.of_bytes w 5 (S l)
  rw [S_size, S_data] at hown
  generalize hcap : grownCap w l.length 0 5 = cap at hown ⊢
  have hbel : Below w.heap.size w (w.alloc (.cells (bytesRow (S l) cap) 5 ((bytesRow (S l) cap).size, (bytesRow (S l) cap).size + 1))).drew := ((Below.refl _ _).alloc (Nat.le_refl _) _).drew
  have hownH := hid hown; clear hown
  clear hcap hconv
  go_loopw [16] (fun i wr => ∃ k : Nat, k ≤ l.length ∧ i = .int .i64 k ∧ OwnB wr w.heap.size (upTo (turn1 low high by_) k l) ∧ Below w.heap.size w wr) (fun i _ => l.length - (intOf i).toNat)
  case atStart => exact ⟨0, Nat.zero_le _, rfl, hownH.out, hbel⟩
  case round =>
    obtain ⟨k, hk, rfl, ho, hb⟩ := hrel
    clear hbel hownH
    by_cases hlt : k < l.length
    · obtain ⟨hc, hf⟩ := ho k (by rw [upTo_length]; exact hlt)
      rw [upTo_at _ _ _ hlt] at hc
      have ho' := hid ho; clear ho
      have hb1 : l[k].toNat < 256 := UInt8.toNat_lt _
      go_wp2
      all_goals go_roundw
      all_goals try (case measure => simp [intOf]; omega)
      case rel =>
        refine ⟨k + 1, by omega, by go_num, ?_, hb.setCell (Nat.le_refl _) _⟩
        rw [← turn1_yes (by assumption) (by assumption), ← upTo_set _ _ _ hlt]
        exact ho'.out.set k (by rw [upTo_length]; exact hlt) _
      all_goals
        refine ⟨k + 1, by omega, by go_num, ?_, hb⟩
        rw [← upTo_same _ _ _ hlt (turn1_no (by omega))]
        exact ho'.out
    · have hback := ho.back (P := Tryd.prog) 79 9 5 cap Tryd.underlying79 Tryd.underlying5 Tryd.underlying9
      rw [upTo_all _ _ _ (by omega)] at hback
      rw [upTo_all _ _ _ (by omega)] at ho
      rw [List.length_map] at hback
      go_wp2
      go_ret
      exact ⟨rfl, hb⟩

set_option maxRecDepth 100000 in
set_option maxHeartbeats 400000 in
theorem upper_any (l : List UInt8) (w : World) (hs : l.length ≤ 140737488355328) :
    Gives 22 #[.string (S l)] w (.string (S (upperL l))) := by
  go_enter Tryd.func22, Tryd.ntmps22
  go_wp2_with (go_at_call 34; refine (turn_any l 97 122 (-32) _ hs (by omega) (by omega)).use ?_; intro w' hb)
  go_ret
  exact ⟨rfl, hb⟩
set_option maxRecDepth 100000 in
set_option maxHeartbeats 400000 in
theorem lower_any (l : List UInt8) (w : World) (hs : l.length ≤ 140737488355328) :
    Gives 25 #[.string (S l)] w (.string (S (lowerL l))) := by
  go_enter Tryd.func25, Tryd.ntmps25
  go_wp2_with (go_at_call 34; refine (turn_any l 65 90 32 _ hs (by omega) (by omega)).use ?_; intro w' hb)
  go_ret
  exact ⟨rfl, hb⟩
set_option maxRecDepth 100000 in
set_option maxHeartbeats 400000 in
theorem same_any (a b : List UInt8) (w : World) (ha : a.length ≤ 140737488355328) (hb : b.length ≤ 140737488355328) :
    Gives 19 #[.string (S a), .string (S b)] w (.bool (sameL a b)) := by
  go_enter Tryd.func19, Tryd.ntmps19
  go_wp2_with fail
  refine (upper_any a _ ha).use ?_; intro w1 hb1
  go_wp2_with fail
  refine (upper_any b _ hb).use ?_; intro w2 hb2
  go_wp2_with fail
  go_ret
  exact ⟨ret_bool rfl, hb1.trans hb2⟩

end Go.Proofs.YtpfenaeaegdeaaaDoor
