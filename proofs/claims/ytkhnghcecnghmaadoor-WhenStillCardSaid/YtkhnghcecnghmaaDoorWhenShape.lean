/-
  The shape of a text and its bytes: plain lemmas on shapeL.
-/
import Derived.Test.YtkhnghcecnghmaaDoorWhenDate
import Derived.Laws.RangeAny
import Derived.Lib.MapLaws
import Derived.Lib.TrimAscii
namespace Go.Proofs.YtkhnghcecnghmaaDoor
open Go.RowKit
set_option linter.unusedVariables false
set_option linter.unusedSimpArgs false

/-- 9 for a digit, byte by byte -/
def shB (b : UInt8) : UInt8 := if dgB b then 57 else b
theorem shF_byte (b : UInt8) (h : b.toNat < 128) : Lib.encodeRune (shF (b.toNat : Int)) = [shB b] := by
  have key : ∀ i : Fin 128, Lib.encodeRune (shF (i.val : Int)) = [shB (UInt8.ofNat i.val)] := by decide +kernel
  have := key ⟨b.toNat, h⟩
  simpa using this
theorem shF_nn (n : Nat) : 0 ≤ shF (n : Int) := by unfold shF; split <;> omega
theorem shapeL_cons (b : UInt8) (t : List UInt8) (h : b.toNat < 128) : shapeL (b :: t) = shB b :: shapeL t := by
  unfold shapeL
  rw [Lib.mapD_step shF (b :: t) (by simp), Lib.decodeL_ascii b t h]
  dsimp only
  rw [if_pos (shF_nn _), shF_byte b h]
  simp
theorem shapeL_ascii : ∀ (l : List UInt8), (∀ b ∈ l, b.toNat < 128) → shapeL l = l.map shB
  | [], _ => rfl
  | b :: t, h => by
    rw [shapeL_cons b t (h b List.mem_cons_self), shapeL_ascii t fun x hx => h x (List.mem_cons_of_mem _ hx)]
    rfl
theorem head_high (b : UInt8) (t : List UInt8) (h : ¬ b.toNat < 128) : ∃ c r, shapeL (b :: t) = c :: r ∧ 128 ≤ c.toNat := by
  unfold shapeL
  rw [Lib.mapD_step shF (b :: t) (by simp)]
  have h1 : 128 ≤ (Lib.decodeL (b :: t)).1 := by
    unfold Lib.decodeL
    exact (decode_high ⟨(b :: t).toArray⟩ 0 (by simp [ByteArray.size]) (by
      have : ((⟨(b :: t).toArray⟩ : ByteArray)[0]'(by simp [ByteArray.size])) = b := rfl
      rw [this]; omega)).1
  generalize Lib.decodeL (b :: t) = d at h1 ⊢
  obtain ⟨r, n⟩ := d
  dsimp only at h1 ⊢
  rw [if_pos (shF_nn _)]
  have h2 : shF (r : Int) = (r : Int) := by unfold shF; rw [if_neg (by omega)]
  rw [h2]
  have h3 : ∃ c q, Lib.encodeRuneZ (r : Int) = c :: q ∧ 128 ≤ c ∧ c < 256 := by
    unfold Lib.encodeRuneZ
    rw [if_neg (by omega)]
    repeat' split
    all_goals exact ⟨_, _, rfl, by omega, by omega⟩
  obtain ⟨c, q, e, h4, h5⟩ := h3
  unfold Lib.encodeRune
  rw [e]
  refine ⟨_, _, rfl, ?_⟩
  have : (c.toNat.toUInt8).toNat = c.toNat := by simp [Nat.toUInt8]; omega
  show 128 ≤ (c.toNat.toUInt8).toNat
  omega
/-- a text whose shape is made of small bytes is made of small bytes -/
theorem shape_inv : ∀ (k l : List UInt8), (∀ b ∈ k, b.toNat < 128) → shapeL l = k → k = l.map shB
  | k, [], _, h => by rw [← h]; rfl
  | k, b :: t, hk, h => by
    by_cases hb : b.toNat < 128
    · rw [shapeL_cons b t hb] at h
      subst h
      rw [List.map_cons, ← shape_inv (shapeL t) t (fun x hx => hk x (List.mem_cons_of_mem _ hx)) rfl]
    · obtain ⟨c, r, e, h1⟩ := head_high b t hb
      rw [e] at h
      subst h
      have := hk c List.mem_cons_self
      omega
theorem shape_len {k l : List UInt8} (hk : ∀ b ∈ k, b.toNat < 128) (h : shapeL l = k) : l.length = k.length := by
  rw [shape_inv k l hk h]; simp
theorem dgB_of_sh {b : UInt8} (h : shB b = 57) : dgB b = true := by
  unfold shB at h
  split at h
  · assumption
  · subst h; rfl
theorem shape_dig {k l : List UInt8} (hk : ∀ b ∈ k, b.toNat < 128) (h : shapeL l = k) : ∀ (a b : Nat) (c : UInt8), c ∈ (l.take b).drop a → (∀ i, a ≤ i → i < b → k[i]? = some 57) → dgB c = true := by
  intro a b c hc hi
  have e := shape_inv k l hk h
  obtain ⟨j, hj, rfl⟩ := List.mem_iff_getElem.1 hc
  simp at hj
  have h1 := hi (a + j) (by omega) (by omega)
  rw [e] at h1
  have h2 : ((l.take b).drop a)[j]'(by simp; omega) = l[a + j]'(by omega) := by simp
  rw [h2]
  rw [List.getElem?_map, List.getElem?_eq_getElem (by omega)] at h1
  exact dgB_of_sh (by simpa using h1)

/-! ## what date and clock read -/
def numAt (s : List UInt8) (a b : Nat) : Int := (valL ((s.take b).drop a) : Nat)
def dk0 : List UInt8 := []
def dk1 : List UInt8 := [57, 57, 57, 57]
def dk2 : List UInt8 := [57, 57, 57, 57, 45, 57, 57]
def dk3 : List UInt8 := [57, 57, 57, 57, 57, 57, 57, 57]
def dk4 : List UInt8 := [45, 45, 57, 57]
def dk5 : List UInt8 := [45, 45, 57, 57, 57, 57]
def dk6 : List UInt8 := [45, 45, 45, 57, 57]
def ck0 : List UInt8 := [57, 57]
def ck3 : List UInt8 := [45, 57, 57]
def ck4 : List UInt8 := [45, 57, 57, 57, 57]
def ck2 : List UInt8 := [57, 57, 57, 57, 57, 57]
/-- the three numbers of a date: what is not told stays -/
def dateP (s : List UInt8) (y m d : Int) : Option (Int × Int × Int) :=
  if shapeL s = dk0 then some (y, m, d)
  else if shapeL s = dk1 then some (numAt s 0 4, m, d)
  else if shapeL s = dk2 then some (numAt s 0 4, numAt s 5 7, d)
  else if shapeL s = dk3 then some (numAt s 0 4, numAt s 4 6, numAt s 6 8)
  else if shapeL s = dk4 then some (y, numAt s 2 4, d)
  else if shapeL s = dk5 then some (y, numAt s 2 4, numAt s 4 6)
  else if shapeL s = dk6 then some (y, m, numAt s 3 5)
  else none
def clockP (s : List UInt8) (h n c : Int) : Option (Int × Int × Int) :=
  if shapeL s = ck0 then some (numAt s 0 2, n, c)
  else if shapeL s = dk1 then some (numAt s 0 2, numAt s 2 4, c)
  else if shapeL s = ck2 then some (numAt s 0 2, numAt s 2 4, numAt s 4 6)
  else if shapeL s = ck3 then some (h, numAt s 1 3, c)
  else if shapeL s = ck4 then some (h, numAt s 1 3, numAt s 3 5)
  else if shapeL s = dk4 then some (h, n, numAt s 2 4)
  else none

end Go.Proofs.YtkhnghcecnghmaaDoor
