/-
  The walk of the law ZoneShort: for all numbers it returns true, in every world that holds errors.errorType.
-/
import Derived.Test.YtaiehmahgejhdaaDoorZoneF
import Derived.Test.YtaiehmahgejhdaaDoorPick
import Derived.Test.YtaiehmahgejhdaaDoorTell
namespace Go.Proofs.YtaiehmahgejhdaaDoor
open Go.RowKit
set_option linter.unusedVariables false
set_option linter.unusedSimpArgs false

theorem short_all : (List.range 100).all (fun k => [(43 : UInt8), 45].all fun x => (decide ((k : Int) ≤ 14) && decide (parseZ (x :: twoL k) = (if x = 45 then -(60 * (k : Int)) else 60 * k, 0) ∧ parseZ (x :: (twoL k ++ [48, 48])) = (if x = 45 then -(60 * (k : Int)) else 60 * k, 0)))
    || (decide (14 < (k : Int)) && decide (parseZ (x :: twoL k) = (0, 2) ∧ parseZ (x :: (twoL k ++ [48, 48])) = (0, 2)))) = true := by decide +kernel
theorem short_cases (k : Nat) (hk : k < 100) (x : UInt8) (hx : x = 43 ∨ x = 45) :
    ((k : Int) ≤ 14 ∧ ∃ m : Int, (m = 60 * k ∨ m = -60 * k) ∧ parseZ (x :: twoL k) = (m, 0) ∧ parseZ (x :: (twoL k ++ [48, 48])) = (m, 0)) ∨ (14 < (k : Int) ∧ parseZ (x :: twoL k) = (0, 2) ∧ parseZ (x :: (twoL k ++ [48, 48])) = (0, 2)) := by
  have h := List.all_eq_true.1 short_all k (by simpa using hk)
  have h := List.all_eq_true.1 h x (by rcases hx with rfl | rfl <;> simp)
  simp only [Bool.or_eq_true, Bool.and_eq_true, decide_eq_true_eq] at h
  rcases h with ⟨h1, h2, h3⟩ | ⟨h1, h2, h3⟩
  · refine .inl ⟨h1, _, ?_, h2, h3⟩
    split <;> omega
  · exact .inr ⟨h1, h2, h3⟩
theorem twoL_u8 (k : Nat) (hk : k < 100) : twoL (k : Int) = [48 + UInt8.ofNat (k / 10), 48 + UInt8.ofNat (k % 10)] := by
  have h : (List.range 100).all (fun k => decide (twoL (k : Int) = [48 + UInt8.ofNat (k / 10), 48 + UInt8.ofNat (k % 10)])) = true := by decide +kernel
  exact of_decide_eq_true (List.all_eq_true.1 h k (by simpa using hk))
theorem tell_nil (w : World) : Pure 15 #[.nilIface] w (.int .i64 0) := by
  go_enter Tryd.func15, Tryd.ntmps15
  go_wp2
  go_ret
  exact ⟨rfl, rfl⟩

set_option maxRecDepth 100000 in
set_option maxHeartbeats 1000000 in
theorem zoneShort_true (h : Int) (w : World) (hE : LaidE w) : Gives 3 #[.int .i64 h, .bool true] w (.bool true) := by
  have hk : pickV h 100 < 100 := by have := pickV_lt h (n := 100) (by omega); omega
  have hc := short_cases (pickV h 100) hk 45 (by simp)
  have HP : Hid (∀ w, Pure 13 #[.int .i64 h, .int .i64 100] w (.int .i64 (pickV h 100))) := hid fun w => pick_any h 100 w (by omega) (by omega)
  generalize pickV h 100 = k at *
  rcases hc with ⟨h1, m, hm, h2, h3⟩ | ⟨h1, h2, h3⟩
  · have H2 : Hid (parseZ [45, 48 + UInt8.ofNat (k / 10), 48 + UInt8.ofNat (k % 10)] = (m, 0)) := hid (by rw [twoL_u8 k hk] at h2; exact h2)
    have H3 : Hid (parseZ [45, 48 + UInt8.ofNat (k / 10), 48 + UInt8.ofNat (k % 10), 48, 48] = (m, 0)) := hid (by rw [twoL_u8 k hk] at h3; exact h3)
    clear h2 h3
    go_enter Tryd.func3, Tryd.ntmps3
    go_wp2_with fail
    refine (zoned_any _).use ?_; intro w1 g1
    go_wp2_with fail
    refine (HP.out _).use ?_
    go_wp2_with fail
    refine (zoneParse_to _ m _ (by simp) H2.out).use ?_; intro w2 g2
    go_wp2_with fail
    refine (zoneParse_to _ m _ (by simp) H3.out).use ?_; intro w3 g3
    go_wp2_with fail
    refine (tell_nil _).use ?_
    go_wp2_with fail
    refine (tell_nil _).use ?_
    go_wp2_with fail
    all_goals go_ret
    all_goals exact ⟨ret_bool (by simp; try omega), (by repeat (first | exact G.refl _ | assumption | apply G.drew | apply G.alloc | refine G.trans ?_ (by assumption)))⟩
  · have H2 : Hid (parseZ [45, 48 + UInt8.ofNat (k / 10), 48 + UInt8.ofNat (k % 10)] = (0, 2)) := hid (by rw [twoL_u8 k hk] at h2; exact h2)
    have H3 : Hid (parseZ [45, 48 + UInt8.ofNat (k / 10), 48 + UInt8.ofNat (k % 10), 48, 48] = (0, 2)) := hid (by rw [twoL_u8 k hk] at h3; exact h3)
    clear h2 h3
    go_enter Tryd.func3, Tryd.ntmps3
    go_wp2_with fail
    refine (zoned_any _).use ?_; intro w1 g1
    go_wp2_with fail
    refine (HP.out _).use ?_
    go_wp2_with fail
    refine (zoneParse_bad _ 2 _ (by simp) (by decide) H2.out).use ?_; intro w2 g2
    go_wp2_with fail
    refine (zoneParse_bad _ 2 _ (by simp) (by decide) H3.out).use ?_; intro w3 g3
    go_wp2_with fail
    refine (tell_eno 2 _ (hE.grow (by repeat (first | exact G.refl _ | assumption | apply G.drew | apply G.alloc | refine G.trans ?_ (by assumption))))).use ?_; intro w4 g4
    go_wp2_with fail
    refine (tell_eno 2 _ (hE.grow (by repeat (first | exact G.refl _ | assumption | apply G.drew | apply G.alloc | refine G.trans ?_ (by assumption))))).use ?_; intro w5 g5
    go_wp2_with fail
    all_goals go_ret
    all_goals exact ⟨ret_bool (by simp; try omega), (by repeat (first | exact G.refl _ | assumption | apply G.drew | apply G.alloc | refine G.trans ?_ (by assumption)))⟩
set_option maxRecDepth 100000 in
set_option maxHeartbeats 1000000 in
theorem zoneShort_false (h : Int) (w : World) (hE : LaidE w) : Gives 3 #[.int .i64 h, .bool false] w (.bool true) := by
  have hk : pickV h 100 < 100 := by have := pickV_lt h (n := 100) (by omega); omega
  have hc := short_cases (pickV h 100) hk 43 (by simp)
  have HP : Hid (∀ w, Pure 13 #[.int .i64 h, .int .i64 100] w (.int .i64 (pickV h 100))) := hid fun w => pick_any h 100 w (by omega) (by omega)
  generalize pickV h 100 = k at *
  rcases hc with ⟨h1, m, hm, h2, h3⟩ | ⟨h1, h2, h3⟩
  · have H2 : Hid (parseZ [43, 48 + UInt8.ofNat (k / 10), 48 + UInt8.ofNat (k % 10)] = (m, 0)) := hid (by rw [twoL_u8 k hk] at h2; exact h2)
    have H3 : Hid (parseZ [43, 48 + UInt8.ofNat (k / 10), 48 + UInt8.ofNat (k % 10), 48, 48] = (m, 0)) := hid (by rw [twoL_u8 k hk] at h3; exact h3)
    clear h2 h3
    go_enter Tryd.func3, Tryd.ntmps3
    go_wp2_with fail
    refine (zoned_any _).use ?_; intro w1 g1
    go_wp2_with fail
    refine (HP.out _).use ?_
    go_wp2_with fail
    refine (zoneParse_to _ m _ (by simp) H2.out).use ?_; intro w2 g2
    go_wp2_with fail
    refine (zoneParse_to _ m _ (by simp) H3.out).use ?_; intro w3 g3
    go_wp2_with fail
    refine (tell_nil _).use ?_
    go_wp2_with fail
    refine (tell_nil _).use ?_
    go_wp2_with fail
    all_goals go_ret
    all_goals exact ⟨ret_bool (by simp; try omega), (by repeat (first | exact G.refl _ | assumption | apply G.drew | apply G.alloc | refine G.trans ?_ (by assumption)))⟩
  · have H2 : Hid (parseZ [43, 48 + UInt8.ofNat (k / 10), 48 + UInt8.ofNat (k % 10)] = (0, 2)) := hid (by rw [twoL_u8 k hk] at h2; exact h2)
    have H3 : Hid (parseZ [43, 48 + UInt8.ofNat (k / 10), 48 + UInt8.ofNat (k % 10), 48, 48] = (0, 2)) := hid (by rw [twoL_u8 k hk] at h3; exact h3)
    clear h2 h3
    go_enter Tryd.func3, Tryd.ntmps3
    go_wp2_with fail
    refine (zoned_any _).use ?_; intro w1 g1
    go_wp2_with fail
    refine (HP.out _).use ?_
    go_wp2_with fail
    refine (zoneParse_bad _ 2 _ (by simp) (by decide) H2.out).use ?_; intro w2 g2
    go_wp2_with fail
    refine (zoneParse_bad _ 2 _ (by simp) (by decide) H3.out).use ?_; intro w3 g3
    go_wp2_with fail
    refine (tell_eno 2 _ (hE.grow (by repeat (first | exact G.refl _ | assumption | apply G.drew | apply G.alloc | refine G.trans ?_ (by assumption))))).use ?_; intro w4 g4
    go_wp2_with fail
    refine (tell_eno 2 _ (hE.grow (by repeat (first | exact G.refl _ | assumption | apply G.drew | apply G.alloc | refine G.trans ?_ (by assumption))))).use ?_; intro w5 g5
    go_wp2_with fail
    all_goals go_ret
    all_goals exact ⟨ret_bool (by simp; try omega), (by repeat (first | exact G.refl _ | assumption | apply G.drew | apply G.alloc | refine G.trans ?_ (by assumption)))⟩
theorem zoneShort_walk (h : Int) (west : Bool) (w : World) (hr : -9223372036854775808 ≤ h ∧ h ≤ 9223372036854775807) (hE : LaidE w) : Gives 3 #[.int .i64 h, .bool west] w (.bool true) := by
  cases west
  · exact zoneShort_false h w hE
  · exact zoneShort_true h w hE

end Go.Proofs.YtaiehmahgejhdaaDoor
