/-
  Lemmas for the law ConvertBytes.
-/
import Derived.Test.YtfadckackdmbnaaGreatDoorMB55
import Derived.Test.YtfadckackdmbnaaGreatDoorMB57
import Derived.Test.YtfadckackdmbnaaGreatDoorMA62
import Derived.Test.YtfadckackdmbnaaGreatDoorMA56
namespace Go.Proofs.YtfadckackdmbnaaGreatDoor
open Go.RowKit
set_option linter.unusedVariables false
set_option linter.unusedSimpArgs false
theorem upper_lower (l : List UInt8) : upperL (lowerL l) = upperL l := by
  unfold upperL lowerL
  rw [List.map_map]
  exact List.map_congr_left fun c _ => of_decide_eq_true (byte_all (fun c => decide ((turn1 97 122 (-32) ∘ turn1 65 90 32) c = turn1 97 122 (-32) c)) (by decide +kernel) c)
theorem isName_upper (l : List UInt8) : isNameL (upperL l) = isNameL l := by
  unfold isNameL upperL
  rw [List.all_map, List.length_map]
  have e : ((fun c : UInt8 => letterB c.toNat) ∘ turn1 97 122 (-32)) = fun c : UInt8 => letterB c.toNat := by
    funext c
    exact of_decide_eq_true (byte_all (fun c => decide (((fun c : UInt8 => letterB c.toNat) ∘ turn1 97 122 (-32)) c = letterB c.toNat)) (by decide +kernel) c)
  rw [e]; simp
theorem isName_lower (l : List UInt8) : isNameL (lowerL l) = isNameL l := by
  rw [← isName_upper (lowerL l), upper_lower, isName_upper]
def nameCh (c : UInt8) : Bool := letterB c.toNat
theorem begGo_append (a b : List UInt8) (k : Nat) (h : begGo a k ≠ 0) : begGo (a ++ b) k = begGo a k := by
  induction a generalizing k with
  | nil => exact absurd rfl h
  | cons c t ih =>
    rw [List.cons_append]
    unfold begGo at h ⊢
    split
    · rfl
    · rename_i h1
      rw [if_neg h1] at h
      split
      · rename_i h2
        rw [if_pos h2] at h
        exact ih _ h
      · rename_i h2
        exact absurd (by rw [if_neg h2]) h
theorem begL_append {a : List UInt8} (b : List UInt8) (h : begL a ≠ 0) : begL (a ++ b) = begL a := begGo_append a b 0 h
theorem mediaP_seen (c : UInt8) (h : mediaP c = true) : seenP c = true := by
  unfold mediaP at h; unfold seenP
  have := of_decide_eq_true h
  exact decide_eq_true ⟨this.1, this.2.1⟩
theorem letB_seen (k : Int) (h0 : 0 ≤ k) (h1 : k < 64) : seenP (byteOf (letB k)) = true := by
  have h : (List.range 64).all (fun n => seenP (byteOf (letB (n : Int)))) = true := by decide +kernel
  have := List.all_eq_true.1 h k.toNat (by simp; omega)
  have e : ((k.toNat : Nat) : Int) = k := by omega
  rwa [e] at this
theorem quad_seen (n : Int) (h : 0 ≤ n) : (quadL n).all seenP = true := by
  unfold quadL
  simp only [List.all_cons, List.all_nil, Bool.and_true, Bool.and_eq_true]
  exact ⟨letB_seen _ (by omega) (by omega), letB_seen _ (by omega) (by omega), letB_seen _ (by omega) (by omega), letB_seen _ (by omega) (by omega)⟩
theorem all_take {p : UInt8 → Bool} {l : List UInt8} (h : l.all p = true) (n : Nat) : (l.take n).all p = true :=
  List.all_eq_true.2 fun x hx => List.all_eq_true.1 h x (List.mem_of_mem_take hx)
theorem enc_seen : ∀ l : List UInt8, (b64E l).all seenP = true
  | [] => rfl
  | [a] => by
    rw [encL_1, List.all_append, all_take (quad_seen _ (num3_range a 0 0).1)]; decide
  | [a, b] => by
    rw [encL_2, List.all_append, all_take (quad_seen _ (num3_range a b 0).1)]; decide
  | a :: b :: c :: t => by
    rw [encL_3, List.all_append, quad_seen _ (num3_range a b c).1, enc_seen t]; rfl
theorem dataU_right (k b : List UInt8) (h : mediaB k = true) : begL (dataU k b) = 4 ∧ isRight (dataU k b) = true := by
  have h1 : begL (dataU k b) = 4 := by
    unfold dataU
    rw [List.append_assoc, List.append_assoc, begL_append _ (by decide)]; decide
  refine ⟨h1, decide_eq_true ⟨by omega, ?_, ?_⟩⟩
  · unfold dataU
    rw [List.all_append, List.all_append, List.all_append, enc_seen]
    have : k.all seenP = true := List.all_eq_true.2 fun x hx => mediaP_seen x (List.all_eq_true.1 h x hx)
    rw [this]; decide
  · rw [h1]; unfold dataU; simp [dataP]
theorem name_chars {n : L8} (h : isNameL n = true) : ∀ c ∈ n, nameCh c = true := by
  unfold isNameL at h
  rw [Bool.and_eq_true, List.all_eq_true] at h
  exact h.1

end Go.Proofs.YtfadckackdmbnaaGreatDoor
