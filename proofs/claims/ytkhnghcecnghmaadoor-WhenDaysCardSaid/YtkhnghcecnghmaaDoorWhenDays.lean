/-
  WALK of the law WhenDays.
-/
import Derived.Test.YtkhnghcecnghmaaDoorWhenDated
import Derived.Test.YtkhnghcecnghmaaDoorPick
namespace Go.Proofs.YtkhnghcecnghmaaDoor
open Go.RowKit
set_option linter.unusedVariables false
set_option linter.unusedSimpArgs false

def sumD (y : Int) : Nat → Int
  | 0 => 0
  | k + 1 => sumD y k + daysL y ((k : Int) + 1)
theorem sumD_le (y : Int) (k : Nat) : 0 ≤ sumD y k ∧ sumD y k ≤ 31 * k := by
  induction k with
  | zero => exact ⟨Int.le_refl _, Int.le_refl _⟩
  | succ k ih => have := daysL_le y ((k : Int) + 1); unfold sumD; omega
theorem days_feb (y : Int) (h0 : 0 ≤ y) : daysL y 2 = if y % 4 ≠ 0 ∨ y % 100 = 0 ∧ y % 400 ≠ 0 then 28 else 29 := by
  have e4 : y.tmod 4 = y % 4 := Int.tmod_eq_emod_of_nonneg h0
  have e100 : y.tmod 100 = y % 100 := Int.tmod_eq_emod_of_nonneg h0
  have e400 : y.tmod 400 = y % 400 := Int.tmod_eq_emod_of_nonneg h0
  unfold daysL
  rw [if_neg (by omega), e4, e100, e400]
  by_cases h : y % 4 ≠ 0 ∨ y % 100 = 0 ∧ y % 400 ≠ 0
  · rw [if_pos ⟨rfl, by omega, h⟩, if_pos h]
  · rw [if_neg (fun x => h x.2.2), if_pos rfl, if_neg h]
theorem days_other (y m : Int) (h1 : 1 ≤ m) (h2 : m ≤ 12) (h3 : m ≠ 2) : daysL y m = daysL 0 m := by
  unfold daysL
  simp only [h3, false_and, if_false]
theorem sumD_12 (y : Int) : sumD y 12 = 336 + daysL y 2 + 1 := by
  simp only [sumD]
  have e : ∀ m : Int, 1 ≤ m → m ≤ 12 → m ≠ 2 → daysL y m = daysL 0 m := days_other y
  have hh : ∀ k : Nat, ((k : Int) + 1) = ((k + 1 : Nat) : Int) := fun k => by omega
  simp only [hh]
  rw [e _ (by decide) (by decide) (by decide : ((0 + 1 : Nat) : Int) ≠ 2), e _ (by decide) (by decide) (by decide : ((2 + 1 : Nat) : Int) ≠ 2), e _ (by decide) (by decide) (by decide : ((3 + 1 : Nat) : Int) ≠ 2), e _ (by decide) (by decide) (by decide : ((4 + 1 : Nat) : Int) ≠ 2), e _ (by decide) (by decide) (by decide : ((5 + 1 : Nat) : Int) ≠ 2), e _ (by decide) (by decide) (by decide : ((6 + 1 : Nat) : Int) ≠ 2), e _ (by decide) (by decide) (by decide : ((7 + 1 : Nat) : Int) ≠ 2), e _ (by decide) (by decide) (by decide : ((8 + 1 : Nat) : Int) ≠ 2), e _ (by decide) (by decide) (by decide : ((9 + 1 : Nat) : Int) ≠ 2), e _ (by decide) (by decide) (by decide : ((10 + 1 : Nat) : Int) ≠ 2), e _ (by decide) (by decide) (by decide : ((11 + 1 : Nat) : Int) ≠ 2)]
  have v : daysL 0 ((0 + 1 : Nat) : Int) = 31 ∧ daysL 0 ((2 + 1 : Nat) : Int) = 31 ∧ daysL 0 ((3 + 1 : Nat) : Int) = 30 ∧ daysL 0 ((4 + 1 : Nat) : Int) = 31 ∧ daysL 0 ((5 + 1 : Nat) : Int) = 30 ∧ daysL 0 ((6 + 1 : Nat) : Int) = 31 ∧ daysL 0 ((7 + 1 : Nat) : Int) = 31 ∧ daysL 0 ((8 + 1 : Nat) : Int) = 30 ∧ daysL 0 ((9 + 1 : Nat) : Int) = 31 ∧ daysL 0 ((10 + 1 : Nat) : Int) = 30 ∧ daysL 0 ((11 + 1 : Nat) : Int) = 31 := by decide
  obtain ⟨v1, v3, v4, v5, v6, v7, v8, v9, v10, v11, v12⟩ := v
  rw [v1, v3, v4, v5, v6, v7, v8, v9, v10, v11, v12]
  have : daysL y ((1 + 1 : Nat) : Int) = daysL y 2 := rfl
  omega
theorem leap_right (y : Int) (h0 : 0 ≤ y) (h1 : y ≤ 9999) : (⟨y, 2, 29, -1, -1, -1, false, 0⟩ : St).right = if daysL y 2 = 29 then 0 else 2 := by
  have hb : (⟨y, 2, 29, -1, -1, -1, false, 0⟩ : St).bad = false := by
    have hy : ¬ y = -1 := by omega
    have hf : formL y 2 29 = [57, 57, 57] := by simp [formL, dgF, hy]
    unfold St.bad
    simp only [hf]
    rfl
  have hf : (⟨y, 2, 29, -1, -1, -1, false, 0⟩ : St).fits = decide (daysL y 2 = 29) := by
    have hd := days_feb y h0
    have hle : daysL y 2 = 28 ∨ daysL y 2 = 29 := by rw [hd]; split; exact .inl rfl; exact .inr rfl
    have h1' : wth y 0 9999 = true := by unfold wth; simp [h0, h1]
    unfold St.fits St.most
    simp only [h1']
    rw [if_neg (by decide)]
    rcases hle with h | h
    · rw [h]; decide
    · rw [h]; decide
  unfold St.right
  rw [hb, hf]
  by_cases h : daysL y 2 = 29 <;> simp [h]

set_option maxRecDepth 100000 in
set_option maxHeartbeats 4000000 in
theorem whenDays_walk (n : Int) (w : World) (zn : -9223372036854775808 ≤ n ∧ n ≤ 9223372036854775807) (hm : HasM w) (hU : HasU w) : Gives 5 #[.int .i64 n] w (.bool true) := by
  have hpk := pickV_lt n (n := 9600) (by decide)
  obtain ⟨y, hy⟩ : ∃ y, pickV n 9600 = y := ⟨_, rfl⟩
  rw [hy] at hpk
  have HY := hid hy
  have hy0 : (0 : Int) ≤ (y : Int) := by omega
  have hR := fun W hm => right_any ⟨(y : Int), 2, 29, -1, -1, -1, false, 0⟩ W hm (by show _ ≤ (y : Int); omega) (by show (y : Int) ≤ _; omega)
  rw [leap_right (y : Int) (by omega) (by omega)] at hR
  have hf1 := days_feb (y : Int) hy0
  have hf2 := days_feb ((y : Int) + 400) (by omega)
  have hs1 := sumD_12 (y : Int)
  have hs2 := sumD_12 ((y : Int) + 400)
  have hff : daysL ((y : Int) + 400) 2 = daysL (y : Int) 2 := by
    rw [hf1, hf2]
    have e1 : ((y : Int) + 400) % 4 = (y : Int) % 4 := by omega
    have e2 : ((y : Int) + 400) % 100 = (y : Int) % 100 := by omega
    have e3 : ((y : Int) + 400) % 400 = (y : Int) % 400 := by omega
    rw [e1, e2, e3]
  have hcase : daysL (y : Int) 2 = 28 ∨ daysL (y : Int) 2 = 29 := by rw [hf1]; split; exact .inl rfl; exact .inr rfl
  have HR := hid hR
  have HS1 := hid hs1
  have HS2 := hid hs2
  have HFF := hid hff
  have HCASE := hid hcase
  have HM := hid hm
  have HU := hid hU
  clear hR hf1 hf2 hs1 hs2 hff hcase hm hU hy
  go_enter Tryd.func5, Tryd.ntmps5
  go_wp2_with fail
  refine (dated_any _ HM.out HU.out).use ?_; intro w1 g1
  have G1 := hid g1
  clear g1
  go_wp2_with fail
  refine (pick_any n 9600 _ (by decide) (by decide)).use ?_
  rw [HY.out]
  go_wp2_with fail
  go_loop [3, 4, 5] (fun a b m => ∃ k : Nat, k ≤ 12 ∧ a = .int .i64 (sumD y k) ∧ b = .int .i64 (sumD ((y : Int) + 400) k) ∧ m = .int .i64 ((k : Int) + 1)) (fun _ _ m => (13 - intOf m).toNat)
  case atStart => exact ⟨0, by omega, rfl, rfl, by go_num⟩
  case round =>
    obtain ⟨k, hk, rfl, rfl, rfl⟩ := hrel
    obtain ⟨a0, a1⟩ := sumD_le (y : Int) k
    obtain ⟨b0, b1⟩ := sumD_le ((y : Int) + 400) k
    by_cases hlt : k < 12
    · obtain ⟨d0, d1⟩ := daysL_le (y : Int) ((k : Int) + 1)
      obtain ⟨e0, e1⟩ := daysL_le ((y : Int) + 400) ((k : Int) + 1)
      go_wp2_with fail
      refine (days_any (y : Int) ((k : Int) + 1) _ ⟨by omega, by omega⟩).use ?_
      go_wp2_with fail
      refine (days_any ((y : Int) + 400) ((k : Int) + 1) _ ⟨by omega, by omega⟩).use ?_
      go_wp2_with fail
      go_round
      case rel => exact ⟨k + 1, by omega, rfl, rfl, by go_num⟩
      case measure => simp [intOf]; omega
    · obtain rfl : k = 12 := by omega
      rw [HS1.out, HS2.out, HFF.out]
      clear a0 a1 b0 b1
      rcases HCASE.out with hc | hc
      · have hR2 := HR.out
        rw [hc, show errV (if (28 : Int) = 29 then 0 else 2) = eno 2 from rfl] at hR2
        rw [hc]
        have HR2 := hid hR2
        clear hR2 hc
        have z0 : Hid (daysL (y : Int) 0 = 0) := hid (by unfold daysL; rw [if_pos (by omega)])
        have z13 : Hid (daysL (y : Int) 13 = 0) := hid (by unfold daysL; rw [if_pos (by omega)])
        go_wp2_with fail
        refine (HR2.out _ (HM.out.grow G1.out)).use ?_
        intro w2 g2
        go_wp2_with fail
        refine (days_any (-1) 2 _ ⟨by decide, by decide⟩).use ?_
        rw [show daysL (-1) 2 = 29 from by decide]
        go_wp2_with fail
        refine (days_any (y : Int) 0 _ ⟨by omega, by omega⟩).use ?_
        rw [z0.out]
        go_wp2_with fail
        refine (days_any (y : Int) 13 _ ⟨by omega, by omega⟩).use ?_
        rw [z13.out]
        go_wp2_with fail
        go_ret
        exact ⟨rfl, G1.out.trans g2⟩
      · have hR2 := HR.out
        rw [hc, show errV (if (29 : Int) = 29 then 0 else 2) = .nilIface from rfl] at hR2
        rw [hc]
        have HR2 := hid hR2
        clear hR2 hc
        have z0 : Hid (daysL (y : Int) 0 = 0) := hid (by unfold daysL; rw [if_pos (by omega)])
        have z13 : Hid (daysL (y : Int) 13 = 0) := hid (by unfold daysL; rw [if_pos (by omega)])
        go_wp2_with fail
        refine (HR2.out _ (HM.out.grow G1.out)).use ?_
        intro w2 g2
        go_wp2_with fail
        refine (days_any (-1) 2 _ ⟨by decide, by decide⟩).use ?_
        rw [show daysL (-1) 2 = 29 from by decide]
        go_wp2_with fail
        refine (days_any (y : Int) 0 _ ⟨by omega, by omega⟩).use ?_
        rw [z0.out]
        go_wp2_with fail
        refine (days_any (y : Int) 13 _ ⟨by omega, by omega⟩).use ?_
        rw [z13.out]
        go_wp2_with fail
        go_ret
        exact ⟨rfl, G1.out.trans g2⟩

end Go.Proofs.YtkhnghcecnghmaaDoor
