/-
  The walks of the laws ZoneBack and ZoneTurned: for every number and every text of at most 2 to the 47 bytes they return true.
-/
import Derived.Test.YtaiehmahgejhdaaZone
namespace Go.Proofs.Ytaiehmahgejhdaa
open Go.RowKit
set_option linter.unusedVariables false
set_option linter.unusedSimpArgs false

theorem print_parse_all : (List.range 1681).all (fun k => decide (parseZ (printZ ((k : Int) - 840)) = ((k : Int) - 840, 0))) = true := by decide +kernel
theorem print_parse (n : Int) (h : rightZ n = true) : parseZ (printZ n) = (n, 0) := by
  have hb : -840 ≤ n ∧ n ≤ 840 := by simpa [rightZ] using h
  have := List.all_eq_true.1 print_parse_all (n + 840).toNat (by simp; omega)
  have e : (((n + 840).toNat : Nat) : Int) - 840 = n := by omega
  rw [e] at this
  exact of_decide_eq_true this
theorem finZ_cases (x : UInt8) (n d : Int) (hn : 0 ≤ n) : (finZ x n d).2 = 0 ∧ rightZ (finZ x n d).1 = true ∨ finZ x n d = (0, 2) := by
  unfold finZ
  split
  · exact Or.inr rfl
  · rename_i h
    left
    split <;> simp [rightZ] <;> omega
theorem parse_cases (l : List UInt8) : (parseZ l).2 = 0 ∧ rightZ (parseZ l).1 = true ∨ ((parseZ l).2 = 2 ∨ (parseZ l).2 = 3) ∧ (parseZ l).1 = 0 := by
  unfold parseZ
  split
  · left; simp [rightZ]
  · unfold parseR
    split
    · rename_i x a b _
      split
      · split
        · rename_i h
          rcases finZ_cases x (60 * (10 * ((a.toNat : Int) - 48) + ((b.toNat : Int) - 48))) 0 (by unfold dgP at h; omega) with h | h
          · exact Or.inl h
          · rw [h]; simp
        · simp
      · simp
    · rename_i x a b c d _
      split
      · split
        · rename_i h
          rcases finZ_cases x (minsZ a b c d) ((c.toNat : Int) - 48) (by unfold dgP at h; unfold minsZ; omega) with h | h
          · exact Or.inl h
          · rw [h]; simp
        · simp
      · simp
    · simp
theorem printZ_len (n : Int) (h : n ≠ 0) : (printZ n).length = 5 := by
  unfold printZ; rw [if_neg h]; split <;> simp
theorem printZ_le (n : Int) : (printZ n).length ≤ 5 := by
  unfold printZ; split
  · simp
  · split <;> simp

theorem zonePrint_to (n : Int) (t : List UInt8) (w : World) (h : rightZ n = true) (ht : printZ n = t) : Gives 25 #[.int .i64 n] w (.tuple #[.string (S t), .nilIface]) := by
  subst ht; exact zonePrint_any n w h
theorem zoneParse_to (l : List UInt8) (n : Int) (w : World) (hl : l.length ≤ 1000) (h : parseZ l = (n, 0)) : Gives 27 #[.string (S l)] w (.tuple #[.int .i64 n, .nilIface]) := by
  have := zoneParse_any l w (by omega)
  rw [h] at this; exact this
theorem zoneParse_bad (l : List UInt8) (c : Int) (w : World) (hl : l.length ≤ 1000) (hc : c ≠ 0) (h : parseZ l = (0, c)) : Gives 27 #[.string (S l)] w (.tuple #[.int .i64 0, eno c]) := by
  have := zoneParse_any l w (by omega)
  rw [h] at this
  simpa [errV, hc] using this

set_option maxRecDepth 100000 in
set_option maxHeartbeats 400000 in
theorem zoned_any (w : World) : Gives 24 #[] w (.bool true) := by
  go_enter Try.func24, Try.ntmps24
  go_wp2_with fail
  refine (zonePrint_to (-150) [45, 48, 50, 51, 48] _ (by decide) (by decide)).use ?_; intro w1 g1
  go_wp2_with fail
  refine (zoneParse_to [43, 48, 53] 300 _ (by simp) (by decide)).use ?_; intro w2 g2
  go_wp2_with fail
  go_ret
  exact ⟨rfl, (by repeat (first | exact G.refl _ | assumption | apply G.drew | apply G.alloc | refine G.trans ?_ (by assumption)))⟩

set_option maxRecDepth 100000 in
set_option maxHeartbeats 1000000 in
theorem zoneTurned_walk (n : Int) (w : World) (hn : -9223372036854775808 ≤ n ∧ n ≤ 9223372036854775807) : Gives 6 #[.int .i64 n] w (.bool true) := by
  cases hr : rightZ n
  · go_enter Try.func6, Try.ntmps6
    go_wp2_with fail
    refine (zoned_any _).use ?_; intro w1 g1
    go_wp2_with fail
    refine (zoneRight_any n _).use ?_
    rw [hr]
    go_wp2_with fail
    go_ret
    exact ⟨rfl, (by repeat (first | exact G.refl _ | assumption | apply G.drew | apply G.alloc | refine G.trans ?_ (by assumption)))⟩
  · by_cases h0 : n = 0
    · subst h0
      go_enter Try.func6, Try.ntmps6
      go_wp2_with fail
      refine (zoned_any _).use ?_; intro w1 g1
      go_wp2_with fail
      refine (zoneRight_any _ _).use ?_
      rw [hr]
      go_wp2_with fail
      go_ret
      exact ⟨rfl, (by repeat (first | exact G.refl _ | assumption | apply G.drew | apply G.alloc | refine G.trans ?_ (by assumption)))⟩
    · have hb : -840 ≤ n ∧ n ≤ 840 := by simpa [rightZ] using hr
      have hr' : rightZ (-n) = true := by simp [rightZ]; omega
      obtain ⟨x, y, l, hx, hy, hxy, hl⟩ : ∃ x y l, printZ n = x :: l ∧ printZ (-n) = y :: l ∧ x ≠ y ∧ l.length = 4 := by
        unfold printZ
        rw [if_neg h0, if_neg (show ¬ -n = 0 by omega)]
        by_cases hneg : n < 0
        · rw [if_pos hneg, if_neg (show ¬ -n < 0 by omega)]
          exact ⟨45, 43, _, rfl, rfl, by decide, by simp⟩
        · rw [if_neg hneg, if_pos (show -n < 0 by omega)]
          refine ⟨43, 45, _, rfl, ?_, by decide, by simp⟩
          simp
      have c1 := fun w => zonePrint_to n (x :: l) w hr hx
      have c2 := fun w => zonePrint_to (-n) (y :: l) w hr' hy
      have C1 := hid c1
      have C2 := hid c2
      have hxy2 : ((x.toNat : Int) != y.toNat) = true := bne_iff_ne.2 fun h => hxy (UInt8.toNat_inj.1 (by omega))
      have h02 : (n == 0) = false := beq_eq_false_iff_ne.2 h0
      have hl5 : (x :: l).length = 5 := by simp [hl]
      have hl6 : (y :: l).length = 5 := by simp [hl]
      have HL := hid hl
      clear c1 c2 hx hy hl hl5 hl6
      go_enter Try.func6, Try.ntmps6
      go_wp2_with fail
      refine (zoned_any _).use ?_; intro w1 g1
      go_wp2_with fail
      refine (zoneRight_any n _).use ?_
      rw [hr]
      go_wp2_with fail
      refine (C1.out _).use ?_; intro w2 g2
      go_wp2_with fail
      refine (C2.out _).use ?_; intro w3 g3
      go_wp2_with fail
      have e4 : (l.length : Int) + 1 = 5 := by have := HL.out; omega
      refine wp_region_grow (by kernel_rfl) (by kernel_rfl) ?_
      repeat (first | go_big_quiet_skip | (go_big_quiet_want; go_big_quiet_op; first | go_big_quiet_on | (apply Exists.intro; apply And.intro; (focus (intro _ hg; exact Pure.gq hg (zoneRight_any _ _))); go_big_quiet_on) | (refine ⟨_, fun _ _ => rfl, ?_⟩; go_big_quiet_on)))
      refine wpQuiet_nil ?_
      intro wq gq
      go_wp2_with fail
      go_ret
      exact ⟨ret_bool (by simp [hr', hxy2]), (by repeat (first | exact G.refl _ | assumption | apply G.drew | apply G.alloc | refine G.trans ?_ (by assumption)))⟩

theorem zoneParse_cases (l : List UInt8) (w : World) (hl : l.length ≤ 1000) :
    (∃ n, rightZ n = true ∧ Gives 27 #[.string (S l)] w (.tuple #[.int .i64 n, .nilIface])) ∨ (∃ c, Gives 27 #[.string (S l)] w (.tuple #[.int .i64 0, eno c])) := by
  rcases parse_cases l with ⟨h1, h2⟩ | ⟨h1, h2⟩
  · left
    exact ⟨_, h2, zoneParse_to l _ w hl (by rw [← h1])⟩
  · right
    refine ⟨(parseZ l).2, zoneParse_bad l _ w hl (by omega) (by rw [← h2])⟩

set_option maxRecDepth 100000 in
set_option maxHeartbeats 1000000 in
theorem zoneBack_walk (n : Int) (s : List UInt8) (w : World) (hn : -9223372036854775808 ≤ n ∧ n ≤ 9223372036854775807) (zs : s.length ≤ 140737488351232) : Gives 5 #[.int .i64 n, .string (S s)] w (.bool true) := by
  have tail : ∀ w, s.length ≤ 50 → (∃ m, rightZ m = true ∧ Gives 27 #[.string (S s)] w (.tuple #[.int .i64 m, .nilIface])) ∨ (∃ c, Gives 27 #[.string (S s)] w (.tuple #[.int .i64 0, eno c])) := fun w h => zoneParse_cases s w (by omega)
  have Tail := hid tail; clear tail
  cases hr : rightZ n
  · go_enter Try.func5, Try.ntmps5
    go_wp2_with fail
    refine (zoned_any _).use ?_; intro w1 g1
    go_wp2_with fail
    refine (zonePrint_bad n _ hr).use ?_; intro w2 g2
    go_wp2_with fail
    refine (zoneRight_any n _).use ?_
    rw [hr]
    by_cases hl : 50 < s.length
    · go_wp2_with fail
      go_ret
      exact ⟨rfl, (by repeat (first | exact G.refl _ | assumption | apply G.drew | apply G.alloc | refine G.trans ?_ (by assumption)))⟩
    · go_wp2_with fail
      rcases Tail.out w2 (by omega) with ⟨m, hm, hP⟩ | ⟨c, hP⟩
      · refine hP.use ?_; intro w3 g3
        go_wp2_with fail
        refine (zonePrint_any m _ hm).use ?_; intro w4 g4
        go_wp2_with fail
        refine (zoneParse_to _ m _ (by have := printZ_le m; omega) (print_parse m hm)).use ?_; intro w5 g5
        go_wp2_with fail
        refine (zoneRight_any m _).use ?_
        go_wp2_with fail
        go_ret
        exact ⟨ret_bool (by simp [hm]), (by repeat (first | exact G.refl _ | assumption | apply G.drew | apply G.alloc | refine G.trans ?_ (by assumption)))⟩
      · refine hP.use ?_; intro w3 g3
        go_wp2_with fail
        go_ret
        exact ⟨ret_bool (by simp), (by repeat (first | exact G.refl _ | assumption | apply G.drew | apply G.alloc | refine G.trans ?_ (by assumption)))⟩
  · go_enter Try.func5, Try.ntmps5
    go_wp2_with fail
    refine (zoned_any _).use ?_; intro w1 g1
    go_wp2_with fail
    refine (zonePrint_any n _ hr).use ?_; intro w2 g2
    go_wp2_with fail
    refine (zoneRight_any n _).use ?_
    rw [hr]
    go_wp2_with fail
    refine (zoneParse_to _ n _ (by have := printZ_le n; omega) (print_parse n hr)).use ?_; intro w3 g3
    by_cases hl : 50 < s.length
    · go_wp2_with fail
      go_ret
      exact ⟨rfl, (by repeat (first | exact G.refl _ | assumption | apply G.drew | apply G.alloc | refine G.trans ?_ (by assumption)))⟩
    · go_wp2_with fail
      rcases Tail.out w3 (by omega) with ⟨m, hm, hP⟩ | ⟨c, hP⟩
      · refine hP.use ?_; intro w4 g4
        go_wp2_with fail
        refine (zonePrint_any m _ hm).use ?_; intro w5 g5
        go_wp2_with fail
        refine (zoneParse_to _ m _ (by have := printZ_le m; omega) (print_parse m hm)).use ?_; intro w6 g6
        go_wp2_with fail
        refine (zoneRight_any m _).use ?_
        go_wp2_with fail
        go_ret
        exact ⟨ret_bool (by simp [hm]), (by repeat (first | exact G.refl _ | assumption | apply G.drew | apply G.alloc | refine G.trans ?_ (by assumption)))⟩
      · refine hP.use ?_; intro w4 g4
        go_wp2_with fail
        go_ret
        exact ⟨ret_bool (by simp), (by repeat (first | exact G.refl _ | assumption | apply G.drew | apply G.alloc | refine G.trans ?_ (by assumption)))⟩

end Go.Proofs.Ytaiehmahgejhdaa
