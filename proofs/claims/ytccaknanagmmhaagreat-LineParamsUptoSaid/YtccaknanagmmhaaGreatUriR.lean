/-
  CONTRACTS of package uri: begins, Scheme, Right, media, Data, Undata, for all texts of at most 2 to the 40 bytes, and the plain functions that they compute.
-/
import Derived.Test.YtccaknanagmmhaaGreatMErr
namespace Go.Proofs.YtccaknanagmmhaaGreat
open Go.RowKit
set_option linter.unusedVariables false
set_option linter.unusedSimpArgs false

/-- whether a scheme goes on with the byte c at the place k -/
def schP (k : Nat) (c : Int) : Prop := (97 ≤ c ∧ c ≤ 122) ∨ (65 ≤ c ∧ c ≤ 90) ∨ (0 < k ∧ ((48 ≤ c ∧ c ≤ 57) ∨ c = 43 ∨ c = 45 ∨ c = 46))
instance (k : Nat) (c : Int) : Decidable (schP k c) := by unfold schP; infer_instance
def begGo : List UInt8 → Nat → Nat
  | [], _ => 0
  | c :: t, k => if (c.toNat : Int) = 58 then k else if schP k c.toNat then begGo t (k + 1) else 0
def begL (l : List UInt8) : Nat := begGo l 0
theorem begGo_at {l : List UInt8} {k : Nat} (h : k < l.length) : begGo (l.drop k) k = if (l[k].toNat : Int) = 58 then k else if schP k l[k].toNat then begGo (l.drop (k + 1)) (k + 1) else 0 := by
  rw [List.drop_eq_getElem_cons h]; rfl
theorem beg_end {l : List UInt8} {k : Nat} (hr : begL l = begGo (l.drop k) k) (h : l.length ≤ k) : begL l = 0 := by
  rw [hr, List.drop_eq_nil_of_le h]; rfl
theorem beg_colon {l : List UInt8} {k : Nat} (hr : begL l = begGo (l.drop k) k) (h : k < l.length) (hc : (l[k].toNat : Int) = 58) : begL l = k := by
  rw [hr, begGo_at h, if_pos hc]
theorem beg_on {l : List UInt8} {k : Nat} (hr : begL l = begGo (l.drop k) k) (h : k < l.length) (hc : (l[k].toNat : Int) ≠ 58) (hs : schP k l[k].toNat) : begL l = begGo (l.drop (k + 1)) (k + 1) := by
  rw [hr, begGo_at h, if_neg hc, if_pos hs]
theorem beg_stop {l : List UInt8} {k : Nat} (hr : begL l = begGo (l.drop k) k) (h : k < l.length) (hc : (l[k].toNat : Int) ≠ 58) (hs : ¬ schP k l[k].toNat) : begL l = 0 := by
  rw [hr, begGo_at h, if_neg hc, if_neg hs]
theorem begGo_le (l : List UInt8) (k : Nat) : begGo l k = 0 ∨ (k ≤ begGo l k ∧ begGo l k < k + l.length) := by
  induction l generalizing k with
  | nil => exact .inl rfl
  | cons c t ih =>
    unfold begGo
    split
    · right; simp
    · split
      · rcases ih (k + 1) with h | h
        · exact .inl h
        · right; simp; omega
      · exact .inl rfl
theorem begL_le (l : List UInt8) : begL l ≤ l.length := by
  unfold begL; rcases begGo_le l 0 with h | h <;> omega
theorem begL_lt {l : List UInt8} (h : begL l ≠ 0) : begL l < l.length := by
  unfold begL at h ⊢; rcases begGo_le l 0 with h' | h' <;> omega

def seenP (c : UInt8) : Bool := decide (33 ≤ (c.toNat : Int) ∧ (c.toNat : Int) ≤ 126)
def mediaP (c : UInt8) : Bool := decide (33 ≤ (c.toNat : Int) ∧ (c.toNat : Int) ≤ 126 ∧ (c.toNat : Int) ≠ 44 ∧ (c.toNat : Int) ≠ 59)
def mediaB (l : List UInt8) : Bool := l.all mediaP
theorem all_step {p : UInt8 → Bool} {l : List UInt8} {k : Nat} (ha : (l.take k).all p = true) (h : k < l.length) (hp : p l[k] = true) : (l.take (k + 1)).all p = true := by
  rw [List.take_succ_eq_append_getElem h, List.all_append, ha]; simp [hp]
theorem all_at {p : UInt8 → Bool} {l : List UInt8} {k : Nat} (h : k < l.length) (hp : p l[k] = false) : l.all p = false := by
  rw [List.all_eq_false]; exact ⟨l[k], List.getElem_mem h, by simp [hp]⟩
theorem all_end {p : UInt8 → Bool} {l : List UInt8} {k : Nat} (ha : (l.take k).all p = true) (h : l.length ≤ k) : l.all p = true := by
  rwa [List.take_of_length_le h] at ha
/-- the first byte that p does not hold of -/
def badAt (p : UInt8 → Bool) (l : List UInt8) : Option Nat := l.findIdx? (fun c => !p c)
theorem badAt_none {p : UInt8 → Bool} {l : List UInt8} : badAt p l = none ↔ l.all p = true := by
  unfold badAt; simp [List.findIdx?_eq_none_iff]
theorem badAt_at {p : UInt8 → Bool} {l : List UInt8} {k : Nat} (ha : (l.take k).all p = true) (h : k < l.length) (hp : p l[k] = false) : badAt p l = some k := by
  unfold badAt
  rw [List.findIdx?_eq_some_iff_getElem]
  refine ⟨h, by simp [hp], fun j hj => ?_⟩
  have := List.all_eq_true.1 ha (l[j]'(by omega)) (by rw [List.mem_take_iff_getElem]; exact ⟨j, by omega, rfl⟩)
  simp [this]

/-- what Right hands back -/
def RightPost (l : List UInt8) (v : Value) (w' : World) : Prop :=
  if begL l = 0 then v = eno 8 else match badAt seenP l with
    | some i => IsAt w' v 3 i
    | none => if begL l + 1 = l.length then IsAt w' v 7 l.length else v = .nilIface
end Go.Proofs.YtccaknanagmmhaaGreat
