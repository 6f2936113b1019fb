/-
  CONTRACTS of package utf, the rest: Point, Bad, Points, Cut.
-/
import Derived.Test.YtlejbindochiiaaDoorUtf
namespace Go.Proofs.YtlejbindochiiaaDoor
open Go.RowKit
set_option linter.unusedVariables false
set_option linter.unusedSimpArgs false

def pointL (r : Int) : List UInt8 :=
  if r < 128 then [byteOf r]
  else if r < 2048 then [byteOf (192 + r / 64), byteOf (128 + r % 64)]
  else if r < 65536 then [byteOf (224 + r / 4096), byteOf (128 + r / 64 % 64), byteOf (128 + r % 64)]
  else [byteOf (240 + r / 262144), byteOf (128 + r / 4096 % 64), byteOf (128 + r / 64 % 64), byteOf (128 + r % 64)]

set_option maxRecDepth 100000 in
set_option maxHeartbeats 400000 in
theorem point_bad (r : Int) (w : World) (h : mayB r = false) : Gives 51 #[.int .i64 r] w (.tuple #[.string (S []), eno 2]) := by
  go_enter Tryd.func51, Tryd.ntmps51
  go_wp2_with fail
  refine (may_any r _).use ?_
  rw [h]
  go_wp2_with fail
  go_ret2
  exact ⟨rfl, (by repeat (first | exact G.refl _ | assumption | apply G.drew | apply G.drewN | apply G.alloc | refine G.trans ?_ (by assumption)))⟩
theorem may_range {r : Int} (h : mayB r = true) : 0 ≤ r ∧ r ≤ 1114111 := by
  have := of_decide_eq_true h; omega
set_option maxRecDepth 100000 in
set_option maxHeartbeats 400000 in
theorem point_any (r : Int) (w : World) (h : mayB r = true) : Gives 51 #[.int .i64 r] w (.tuple #[.string (S (pointL r)), .nilIface]) := by
  obtain ⟨h0, h9⟩ := may_range h
  have a1 : bits .and .i64 r 63 = r % 64 := i64_mask 6 (by omega) r 63 h0 (by omega) rfl
  have a2 : bits .and .i64 (r / 64) 63 = r / 64 % 64 := i64_mask 6 (by omega) _ 63 (by omega) (by omega) rfl
  have a3 : bits .and .i64 (r / 4096) 63 = r / 4096 % 64 := i64_mask 6 (by omega) _ 63 (by omega) (by omega) rfl
  have o1 : bits .or .i64 128 (r % 64) = 128 + r % 64 := i64_join 6 _ _ (by omega) (by decide) (by omega) (by omega) (by omega) (by omega)
  have o2 : bits .or .i64 128 (r / 64 % 64) = 128 + r / 64 % 64 := i64_join 6 _ _ (by omega) (by decide) (by omega) (by omega) (by omega) (by omega)
  have o3 : bits .or .i64 128 (r / 4096 % 64) = 128 + r / 4096 % 64 := i64_join 6 _ _ (by omega) (by decide) (by omega) (by omega) (by omega) (by omega)
  by_cases h1 : r < 128
  · have hp : Hid (pointL r = [byteOf r]) := hid (by unfold pointL; rw [if_pos h1])
    clear a1 a2 a3 o1 o2 o3
    go_enter Tryd.func51, Tryd.ntmps51
    go_wp2_with fail
    refine (may_any r _).use ?_
    rw [h]
    go_wp2_with fail
    go_ret2
    exact ⟨by rw [hp.out]; rfl, (by repeat (first | exact G.refl _ | assumption | apply G.drew | apply G.drewN | apply G.alloc | refine G.trans ?_ (by assumption)))⟩
  by_cases h2 : r < 2048
  · have hp : Hid (pointL r = [byteOf (192 + r / 64), byteOf (128 + r % 64)]) := hid (by unfold pointL; rw [if_neg h1, if_pos h2])
    have o4 : bits .or .i64 192 (r / 64) = 192 + r / 64 := i64_join 5 _ _ (by omega) (by decide) (by omega) (by omega) (by omega) (by omega)
    clear a2 a3 o2 o3
    go_enter Tryd.func51, Tryd.ntmps51
    go_wp2_with fail
    refine (may_any r _).use ?_
    rw [h]
    go_wp2_with fail
    go_ret2
    exact ⟨by rw [hp.out]; rfl, (by repeat (first | exact G.refl _ | assumption | apply G.drew | apply G.drewN | apply G.alloc | refine G.trans ?_ (by assumption)))⟩
  by_cases h3 : r < 65536
  · have hp : Hid (pointL r = [byteOf (224 + r / 4096), byteOf (128 + r / 64 % 64), byteOf (128 + r % 64)]) := hid (by unfold pointL; rw [if_neg h1, if_neg h2, if_pos h3])
    have o4 : bits .or .i64 224 (r / 4096) = 224 + r / 4096 := i64_join 4 _ _ (by omega) (by decide) (by omega) (by omega) (by omega) (by omega)
    clear a3 o3
    go_enter Tryd.func51, Tryd.ntmps51
    go_wp2_with fail
    refine (may_any r _).use ?_
    rw [h]
    go_wp2_with fail
    go_ret2
    exact ⟨by rw [hp.out]; rfl, (by repeat (first | exact G.refl _ | assumption | apply G.drew | apply G.drewN | apply G.alloc | refine G.trans ?_ (by assumption)))⟩
  · have hp : Hid (pointL r = [byteOf (240 + r / 262144), byteOf (128 + r / 4096 % 64), byteOf (128 + r / 64 % 64), byteOf (128 + r % 64)]) := hid (by unfold pointL; rw [if_neg h1, if_neg h2, if_neg h3])
    have o4 : bits .or .i64 240 (r / 262144) = 240 + r / 262144 := i64_join 3 _ _ (by omega) (by decide) (by omega) (by omega) (by omega) (by omega)
    go_enter Tryd.func51, Tryd.ntmps51
    go_wp2_with fail
    refine (may_any r _).use ?_
    rw [h]
    go_wp2_with fail
    go_ret2
    exact ⟨by rw [hp.out]; rfl, (by repeat (first | exact G.refl _ | assumption | apply G.drew | apply G.drewN | apply G.alloc | refine G.trans ?_ (by assumption)))⟩

theorem finU_bounds (low r n : Int) : finU low r n = (0, 0) ∨ finU low r n = (r, n) ∧ mayB r = true ∧ low ≤ r := by
  unfold finU
  split
  · exact Or.inl rfl
  · rename_i h
    right
    refine ⟨rfl, ?_, by omega⟩
    cases hm : mayB r
    · exact absurd (Or.inr hm) h
    · rfl
theorem nextL_bounds (l : List UInt8) : nextL l = (0, 0) ∨ ∃ r : Int, ∃ n : Nat, nextL l = (r, (n : Int)) ∧ mayB r = true ∧ 1 ≤ n ∧ n ≤ 4 ∧ n ≤ l.length := by
  match l with
  | [] => left; rfl
  | b :: t =>
    by_cases h1 : b.toNat < 128
    · right
      refine ⟨b.toNat, 1, ?_, ?_, by omega, by omega, by simp⟩
      · show (if b.toNat < 128 then _ else _) = _
        rw [if_pos h1]; rfl
      · unfold mayB; simp; omega
    by_cases h2 : b.toNat < 192
    · left
      show (if b.toNat < 128 then _ else _) = _
      rw [if_neg h1, if_pos h2]
    by_cases h3 : b.toNat < 224
    · match t with
      | [] => left; show (if b.toNat < 128 then _ else _) = _; rw [if_neg h1, if_neg h2, if_pos h3]
      | c1 :: t =>
        rw [nextL_2 (by omega) h3]
        split
        · rcases finU_bounds 128 (acc ((b.toNat : Int) - 192) c1) 2 with h | ⟨h, h', _⟩
          · exact Or.inl h
          · right; exact ⟨_, 2, h, h', by omega, by omega, by simp⟩
        · left; rfl
    by_cases h4 : b.toNat < 240
    · match t with
      | [] => left; show (if b.toNat < 128 then _ else _) = _; rw [if_neg h1, if_neg h2, if_neg h3, if_pos h4]
      | [c1] => left; show (if b.toNat < 128 then _ else _) = _; rw [if_neg h1, if_neg h2, if_neg h3, if_pos h4]
      | c1 :: c2 :: t =>
        rw [nextL_3 (by omega) h4]
        split
        · rcases finU_bounds 2048 (acc (acc ((b.toNat : Int) - 224) c1) c2) 3 with h | ⟨h, h', _⟩
          · exact Or.inl h
          · right; exact ⟨_, 3, h, h', by omega, by omega, by simp⟩
        · left; rfl
    by_cases h5 : b.toNat < 248
    · match t with
      | [] => left; show (if b.toNat < 128 then _ else _) = _; rw [if_neg h1, if_neg h2, if_neg h3, if_neg h4, if_pos h5]
      | [c1] => left; show (if b.toNat < 128 then _ else _) = _; rw [if_neg h1, if_neg h2, if_neg h3, if_neg h4, if_pos h5]
      | [c1, c2] => left; show (if b.toNat < 128 then _ else _) = _; rw [if_neg h1, if_neg h2, if_neg h3, if_neg h4, if_pos h5]
      | c1 :: c2 :: c3 :: t =>
        rw [nextL_4 (by omega) h5]
        split
        · rcases finU_bounds 65536 (acc (acc (acc ((b.toNat : Int) - 240) c1) c2) c3) 4 with h | ⟨h, h', _⟩
          · exact Or.inl h
          · right; exact ⟨_, 4, h, h', by omega, by omega, by simp⟩
        · left; rfl
    · left
      show (if b.toNat < 128 then _ else _) = _
      rw [if_neg h1, if_neg h2, if_neg h3, if_neg h4, if_neg h5]

/-- how many bytes the code point ahead has (0: none) -/
def stepL (l : List UInt8) : Nat := (nextL l).2.toNat
/-- where a text has what is no code point -/
def badL (l : List UInt8) : Option Nat :=
  match l with
  | [] => none
  | b :: t => if h : stepL (b :: t) = 0 then some 0 else (badL ((b :: t).drop (stepL (b :: t)))).map (· + stepL (b :: t))
termination_by l.length
decreasing_by simp; omega
/-- a text's code points -/
def ptsL (l : List UInt8) : List Int :=
  match l with
  | [] => []
  | b :: t => if h : stepL (b :: t) = 0 then [] else (nextL (b :: t)).1 :: ptsL ((b :: t).drop (stepL (b :: t)))
termination_by l.length
decreasing_by simp; omega
/-- the most bytes, up to n, behind which no code point is cut -/
def cutL (l : List UInt8) (n : Nat) : Nat :=
  match l with
  | [] => 0
  | b :: t => if max (stepL (b :: t)) 1 ≤ n then max (stepL (b :: t)) 1 + cutL ((b :: t).drop (max (stepL (b :: t)) 1)) (n - max (stepL (b :: t)) 1) else 0
termination_by l.length
decreasing_by simp; omega

theorem badL_nil : badL [] = none := by rw [badL]
theorem badL_zero {l : List UInt8} (h0 : l ≠ []) (h : stepL l = 0) : badL l = some 0 := by
  cases l with
  | nil => exact absurd rfl h0
  | cons b t => rw [badL, dif_pos h]
theorem badL_step {l : List UInt8} (h : stepL l ≠ 0) : badL l = (badL (l.drop (stepL l))).map (· + stepL l) := by
  cases l with
  | nil => exact absurd rfl h
  | cons b t => rw [badL, dif_neg h]
theorem ptsL_nil : ptsL [] = [] := by rw [ptsL]
theorem ptsL_step {l : List UInt8} (h : stepL l ≠ 0) : ptsL l = (nextL l).1 :: ptsL (l.drop (stepL l)) := by
  cases l with
  | nil => exact absurd rfl h
  | cons b t => rw [ptsL, dif_neg h]

end Go.Proofs.YtlejbindochiiaaDoor
