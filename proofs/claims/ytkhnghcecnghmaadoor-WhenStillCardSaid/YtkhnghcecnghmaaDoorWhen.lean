/-
  CONTRACTS of package when: form, within, Days, digits.
-/
import Derived.Test.YtkhnghcecnghmaaDoorZoneF
import Derived.Laws.NewBlocks
namespace Go.Proofs.YtkhnghcecnghmaaDoor
open Go.RowKit
set_option linter.unusedVariables false
set_option linter.unusedSimpArgs false

/-- 9 for what is told, - for what is not -/
def dgF (n : Int) : UInt8 := if n = -1 then 45 else 57
def formL (a b c : Int) : List UInt8 := [dgF a, dgF b, dgF c]
theorem dgF_no : dgF (-1) = 45 := rfl
theorem dgF_yes {n : Int} (h : n ≠ -1) : dgF n = 57 := if_neg h
set_option maxRecDepth 100000 in
set_option maxHeartbeats 2000000 in
theorem form_any (a b c : Int) (q : Nat) (w : World) (h0 : w.cell? ⟨q, 0, none⟩ = some (.int .i64 a)) (h1 : w.cell? ⟨q, 1, none⟩ = some (.int .i64 b)) (h2 : w.cell? ⟨q, 2, none⟩ = some (.int .i64 c)) (hq : q < w.heap.size) :
    Gives 17 #[.slice (some ⟨q, 0, none⟩) 3 3] w (.string (S (formL a b c))) := by
  have hmk : ∀ w, (Instr.makeSlice 57 (.int .i64 3) (.int .i64 3)).run Tryd.prog w = .ok (.slice (some ⟨w.heap.size, 0, none⟩) 3 3) (w.alloc (.cells #[.int .u8 0, .int .u8 0, .int .u8 0] 5)) := fun _ => by kernel_rfl
  have HF : Hid (formL a b c = [dgF a, dgF b, dgF c]) := hid rfl
  have e0 : ¬ q = w.heap.size := by omega
  have ba : a = -1 ∧ (a != -1) = false ∨ a ≠ -1 ∧ (a != -1) = true := by by_cases h : a = -1; exact .inl ⟨h, by simp [h]⟩; exact .inr ⟨h, by simpa [bne_iff_ne] using h⟩
  have bb : b = -1 ∧ (b != -1) = false ∨ b ≠ -1 ∧ (b != -1) = true := by by_cases h : b = -1; exact .inl ⟨h, by simp [h]⟩; exact .inr ⟨h, by simpa [bne_iff_ne] using h⟩
  have bc : c = -1 ∧ (c != -1) = false ∨ c ≠ -1 ∧ (c != -1) = true := by by_cases h : c = -1; exact .inl ⟨h, by simp [h]⟩; exact .inr ⟨h, by simpa [bne_iff_ne] using h⟩
  rcases ba with ⟨xa, ba⟩ | ⟨xa, ba⟩ <;> rcases bb with ⟨xb, bb⟩ | ⟨xb, bb⟩ <;> rcases bc with ⟨xc, bc⟩ | ⟨xc, bc⟩
  all_goals
    have XA := hid xa
    have XB := hid xb
    have XC := hid xc
    clear xa xb xc
    go_enter Tryd.func17, Tryd.ntmps17
    go_wp2
    refine wp_loop_rounds 4 ?_
    rw [rounds_succ]
    go_wp2
    rw [rounds_succ]
    go_wp2
    rw [rounds_succ]
    go_wp2
    rw [rounds_succ]
    go_wp2
    go_ret
    refine ⟨?_, (G.refl _).alloc _⟩
    rw [HF.out]
    simp only [dgF, XA.out, XB.out, XC.out, if_true, if_false]
    rfl

def wth (n a b : Int) : Bool := decide (n = -1) || (decide (a ≤ n) && decide (n ≤ b))
set_option maxRecDepth 100000 in
set_option maxHeartbeats 400000 in
theorem within_any (n a b : Int) (w : World) : Pure 21 #[.int .i64 n, .int .i64 a, .int .i64 b] w (.bool (wth n a b)) := by
  by_cases h1 : n = -1
  · subst h1
    go_enter Tryd.func21, Tryd.ntmps21
    go_wp2
    go_ret
    exact ⟨ret_bool (by simp [wth]), rfl⟩
  · have b1 : (n == -1) = false := by simpa using h1
    by_cases h2 : a ≤ n <;> by_cases h3 : n ≤ b
    all_goals
      go_enter Tryd.func21, Tryd.ntmps21
      go_wp2
      go_ret
      exact ⟨ret_bool (by simp [wth, h1, h2, h3]), rfl⟩

/-- how many days -/
def daysL (y m : Int) : Int :=
  if m < 1 ∨ 12 < m then 0
  else if m = 2 ∧ y ≠ -1 ∧ (y.tmod 4 ≠ 0 ∨ y.tmod 100 = 0 ∧ y.tmod 400 ≠ 0) then 28
  else if m = 2 then 29
  else if m = 4 ∨ m = 6 ∨ m = 9 ∨ m = 11 then 30 else 31
set_option maxRecDepth 100000 in
set_option maxHeartbeats 4000000 in
theorem days_any (y m : Int) (w : World) (hy : -9223372036854775808 ≤ y ∧ y ≤ 9223372036854775807) : Pure 14 #[.int .i64 y, .int .i64 m] w (.int .i64 (daysL y m)) := by
  by_cases h0 : m < 1 ∨ 12 < m
  · have HR : Hid (daysL y m = 0) := hid (by unfold daysL; rw [if_pos h0])
    by_cases h1 : m < 1
    · clear h0
      go_enter Tryd.func14, Tryd.ntmps14
      go_wp2
      go_ret
      exact ⟨ret_int HR.out.symm, rfl⟩
    · have h2 : 12 < m := by omega
      clear h0
      go_enter Tryd.func14, Tryd.ntmps14
      go_wp2
      go_ret
      exact ⟨ret_int HR.out.symm, rfl⟩
  · have hm : 1 ≤ m ∧ m ≤ 12 := by omega
    obtain ⟨hm1, hm2⟩ := hm
    by_cases h2 : m = 2
    · subst h2
      by_cases hy1 : y = -1
      · subst hy1
        go_enter Tryd.func14, Tryd.ntmps14
        go_wp2
        go_ret
        exact ⟨rfl, rfl⟩
      · have b1 : (y != -1) = true := by simpa [bne_iff_ne] using hy1
        have q4 : (y.tmod 4 != 0) = true ∧ y.tmod 4 ≠ 0 ∨ (y.tmod 4 != 0) = false ∧ y.tmod 4 = 0 := by by_cases h : y.tmod 4 = 0; exact .inr ⟨by simp [h], h⟩; exact .inl ⟨by simpa [bne_iff_ne] using h, h⟩
        have q100 : (y.tmod 100 == 0) = true ∧ y.tmod 100 = 0 ∨ (y.tmod 100 == 0) = false ∧ y.tmod 100 ≠ 0 := by by_cases h : y.tmod 100 = 0; exact .inl ⟨by simp [h], h⟩; exact .inr ⟨by simpa using h, h⟩
        have q400 : (y.tmod 400 != 0) = true ∧ y.tmod 400 ≠ 0 ∨ (y.tmod 400 != 0) = false ∧ y.tmod 400 = 0 := by by_cases h : y.tmod 400 = 0; exact .inr ⟨by simp [h], h⟩; exact .inl ⟨by simpa [bne_iff_ne] using h, h⟩
        rcases q4 with ⟨b4, q4⟩ | ⟨b4, q4⟩ <;> rcases q100 with ⟨b100, q100⟩ | ⟨b100, q100⟩ <;> rcases q400 with ⟨b400, q400⟩ | ⟨b400, q400⟩
        all_goals
          have HR : Hid (daysL y 2 = if y.tmod 4 ≠ 0 ∨ y.tmod 100 = 0 ∧ y.tmod 400 ≠ 0 then 28 else 29) := hid (by unfold daysL; rw [if_neg (by omega)]; by_cases h : y.tmod 4 ≠ 0 ∨ y.tmod 100 = 0 ∧ y.tmod 400 ≠ 0 <;> simp [h, hy1])
          have Q4 := hid q4
          have Q100 := hid q100
          have Q400 := hid q400
          clear q4 q100 q400 hm1 hm2 h0 hy1
          go_enter Tryd.func14, Tryd.ntmps14
          go_wp2
          go_ret
          refine ⟨ret_int ?_, rfl⟩
          rw [HR.out]
          simp [Q4.out, Q100.out, Q400.out]
    · have b2 : (m == 2) = false := by simpa using h2
      have hm3 : m = 1 ∨ m = 3 ∨ m = 4 ∨ m = 5 ∨ m = 6 ∨ m = 7 ∨ m = 8 ∨ m = 9 ∨ m = 10 ∨ m = 11 ∨ m = 12 := by omega
      clear h0 h2 b2
      rcases hm3 with rfl | rfl | rfl | rfl | rfl | rfl | rfl | rfl | rfl | rfl | rfl
      all_goals
        go_enter Tryd.func14, Tryd.ntmps14
        go_wp2
        go_ret
        exact ⟨rfl, rfl⟩

/-! ## digits -/
def digL (n : Int) : Nat → List UInt8
  | 0 => []
  | k + 1 => digL (n / 10) k ++ [UInt8.ofNat (48 + n % 10).toNat]
theorem digL_length (k : Nat) : ∀ n, (digL n k).length = k := by
  induction k with
  | zero => intro n; rfl
  | succ k ih => intro n; simp [digL, ih]
set_option maxRecDepth 100000 in
set_option maxHeartbeats 2000000 in
theorem digits2_any (n : Int) (w : World) (h0 : 0 ≤ n) (h1 : n ≤ 9999) : Gives 18 #[.int .i64 n, .int .i64 2] w (.string (S (digL n 2))) := by
  have hmk : ∀ w, (Instr.makeSlice 57 (.int .i64 2) (.int .i64 2)).run Tryd.prog w = .ok (.slice (some ⟨w.heap.size, 0, none⟩) 2 2) (w.alloc (.cells #[.int .u8 0, .int .u8 0] 5)) := fun _ => by kernel_rfl
  go_enter Tryd.func18, Tryd.ntmps18
  go_wp2
  refine wp_loop_rounds 3 ?_
  rw [rounds_succ]
  go_wp2
  rw [rounds_succ]
  go_wp2
  rw [rounds_succ]
  go_wp2
  go_ret
  exact ⟨rfl, (G.refl _).alloc _⟩
set_option maxRecDepth 100000 in
set_option maxHeartbeats 2000000 in
theorem digits4_any (n : Int) (w : World) (h0 : 0 ≤ n) (h1 : n ≤ 9999) : Gives 18 #[.int .i64 n, .int .i64 4] w (.string (S (digL n 4))) := by
  have hmk : ∀ w, (Instr.makeSlice 57 (.int .i64 4) (.int .i64 4)).run Tryd.prog w = .ok (.slice (some ⟨w.heap.size, 0, none⟩) 4 4) (w.alloc (.cells #[.int .u8 0, .int .u8 0, .int .u8 0, .int .u8 0] 5)) := fun _ => by kernel_rfl
  go_enter Tryd.func18, Tryd.ntmps18
  go_wp2
  refine wp_loop_rounds 5 ?_
  rw [rounds_succ]
  go_wp2
  rw [rounds_succ]
  go_wp2
  rw [rounds_succ]
  go_wp2
  rw [rounds_succ]
  go_wp2
  rw [rounds_succ]
  go_wp2
  go_ret
  exact ⟨rfl, (G.refl _).alloc _⟩

end Go.Proofs.YtkhnghcecnghmaaDoor
