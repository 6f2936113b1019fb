/-
  CONTRACT of slices.Equal at slices of ints.
-/
import Derived.Test.YtlejbindochiiaaUtf3
namespace Go.Proofs.Ytlejbindochiiaa
open Go.RowKit
set_option linter.unusedVariables false
set_option linter.unusedSimpArgs false

theorem IsInts.len {w : World} {v : Value} {xs : List Int} (h : IsInts w v xs) : ∃ a cap, v = .slice a xs.length cap := by
  rcases h with ⟨h1, h2⟩ | ⟨b, cap, h1, _⟩
  · subst h2; exact ⟨none, 0, h1⟩
  · exact ⟨_, _, h1⟩
theorem take_ext_eq {xs ys : List Int} (h : xs.length = ys.length) {k : Nat} (hk : xs.length ≤ k) (ht : xs.take k = ys.take k) : xs = ys := by
  rwa [List.take_of_length_le hk, List.take_of_length_le (by omega)] at ht

set_option maxRecDepth 100000 in
set_option maxHeartbeats 400000 in
theorem intsEqual_draws {a b : Value} {xs ys : List Int} {w : World} (ha : IsInts w a xs) (hb : IsInts w b ys) (lx : xs.length ≤ 140737488355328) (ly : ys.length ≤ 140737488355328) :
    Calls Try.prog 31 #[a, b] w fun e w' => e = .returned (.bool (xs == ys)) ∧ ∃ n, w' = w.drewN n := by
  by_cases hl : xs.length = ys.length
  · have hlb : ((xs.length : Int) != ys.length) = false := by simp [hl]
    rcases ha with ⟨rfl, rfl⟩ | ⟨p, cap, rfl, hp, hx, hc⟩
    · have hy : ys = [] := List.eq_nil_of_length_eq_zero (by simpa using hl.symm)
      subst hy
      obtain ⟨a, cap, rfl⟩ := hb.len
      clear hl hlb hb
      go_enter Try.func31, Try.ntmps31
      go_wp2
      refine wp_loop_rounds 1 ?_
      rw [rounds_succ]
      go_wp2
      go_ret
      exact ⟨ret_bool rfl, 0, rfl⟩
    · rcases hb with ⟨rfl, rfl⟩ | ⟨q, cap2, rfl, hq, hy, hd⟩
      · exact absurd (List.eq_nil_of_length_eq_zero (by simpa using hl)) hx
      · have Hl := hid hl
        have hln : xs.length ≤ ys.length := by omega
        have hln2 : ys.length ≤ xs.length := by omega
        have Hc := hid hc
        have Hd := hid hd
        clear hl hx hy hc hd
        go_enter Try.func31, Try.ntmps31
        go_wp2
        go_loopw [13] (fun i wr => ∃ k j : Nat, k ≤ xs.length ∧ i = .int .i64 k ∧ wr = w.drewN j ∧ xs.take k = ys.take k) (fun i _ => xs.length - (intOf i).toNat)
        case atStart => exact ⟨0, 0, Nat.zero_le _, rfl, rfl, by simp⟩
        case round =>
          obtain ⟨k, j, hk, rfl, rfl, ht⟩ := hrel
          have Ht := hid ht
          clear ht
          by_cases hlt : k < xs.length
          · have c1 := Hc.out k hlt
            have c2 := Hd.out k (by omega)
            have b1 : (k : Int) < ys.length := by omega
            by_cases he : xs[k] = ys[k]'(by omega)
            · have t : (xs[k] != ys[k]'(by omega)) = false := by simp [he]
              have He := hid he
              clear he
              go_wp2
              go_quiet (fail)
              go_wp2
              go_roundw
              case rel =>
                refine ⟨k + 1, _, by omega, by go_num, rfl, ?_⟩
                rw [List.take_succ_eq_append_getElem hlt, List.take_succ_eq_append_getElem (by omega), Ht.out, He.out]
              case measure => simp [intOf]; omega
            · have t : (xs[k] != ys[k]'(by omega)) = true := by simpa using he
              have He := hid he
              clear he
              go_wp2
              go_quiet (fail)
              go_wp2
              go_ret
              refine ⟨ret_bool ?_, j + nq, by simp [World.drewN, Nat.add_assoc]⟩
              symm
              rw [beq_eq_false_iff_ne]
              intro e
              subst e
              exact He.out rfl
          · go_wp2
            go_ret
            refine ⟨ret_bool ?_, j, rfl⟩
            symm
            rw [beq_iff_eq]
            exact take_ext_eq Hl.out (by omega) Ht.out
  · have hlb : ((xs.length : Int) != ys.length) = true := bne_iff_ne.2 (by omega)
    obtain ⟨p, c1, rfl⟩ := ha.len
    obtain ⟨q, c2, rfl⟩ := hb.len
    have Hl := hid hl
    clear hl ha hb
    go_enter Try.func31, Try.ntmps31
    go_wp2
    go_ret
    refine ⟨ret_bool ?_, 0, rfl⟩
    symm
    rw [beq_eq_false_iff_ne]
    intro e
    subst e
    exact Hl.out rfl

theorem intsEqual_any {a b : Value} {xs ys : List Int} {w : World} (ha : IsInts w a xs) (hb : IsInts w b ys) (lx : xs.length ≤ 140737488355328) (ly : ys.length ≤ 140737488355328) :
    Gives 31 #[a, b] w (.bool (xs == ys)) :=
  (intsEqual_draws ha hb lx ly).mono fun e w' ⟨h, n, hw⟩ => ⟨h, by rw [hw]; exact (G.refl w).drewN n⟩
/-- within a region that only reads -/
theorem intsEqual_quiet {a b : Value} {xs ys : List Int} {w : World} (n : Nat) (ha : IsInts w a xs) (hb : IsInts w b ys) (lx : xs.length ≤ 140737488355328) (ly : ys.length ≤ 140737488355328) {r : Bool} (hr : (xs == ys) = r) :
    Calls Try.prog 31 #[a, b] (w.drewN n) fun e w' => e = .returned (.bool r) ∧ ∃ m, w' = w.drewN m := by
  subst hr
  exact (intsEqual_draws (w := w.drewN n) (ha.grow ((G.refl w).drewN n)) (hb.grow ((G.refl w).drewN n)) lx ly).mono fun e w' ⟨h, m, hw⟩ => ⟨h, n + m, by rw [hw]; simp [World.drewN, Nat.add_assoc]⟩

end Go.Proofs.Ytlejbindochiiaa
