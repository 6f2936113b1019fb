/-
  The walks of the laws UtfOnly, UtfJoins, UtfOrder, UtfLong, UtfCutFits: for all numbers and texts they return true.
-/
import Derived.Test.YtaiehmahgejhdaaUtfPlain
import Derived.Test.YtaiehmahgejhdaaIntsEq
import Derived.Test.YtaiehmahgejhdaaPick
namespace Go.Proofs.Ytaiehmahgejhdaa
open Go.RowKit
set_option linter.unusedVariables false
set_option linter.unusedSimpArgs false

theorem point_to (r : Int) (t : List UInt8) (w : World) (h : mayB r = true) (ht : pointL r = t) : Gives 31 #[.int .i64 r] w (.tuple #[.string (S t), .nilIface]) := by
  subst ht; exact point_any r w h
theorem next_to (l : List UInt8) (r n : Int) (w : World) (hl : l.length ≤ 1000) (h : nextL l = (r, n)) : Pure 35 #[.string (S l)] w (.tuple #[.int .i64 r, .int .i64 n]) := next_of h w (by omega)
theorem bad_to (l : List UInt8) (b : Option Nat) (w : World) (hl : l.length ≤ 1000000) (h : badL l = b) : Pure 30 #[.string (S l)] w (.int .i64 (badV b)) := by
  subst h; exact bad_any l w (by omega)
theorem pts_good (l : List UInt8) (w : World) (hl : l.length ≤ 1000000) (h : badL l = none) : Makes 29 #[.string (S l)] w (fun v w' => ∃ s, v = .tuple #[s, .nilIface] ∧ IsInts w' s (ptsL l)) :=
  (pts_any l w hl).mono fun v w' _ hq => by unfold PtsPost at hq; rw [h] at hq; exact hq
theorem pts_wrong (l : List UInt8) (k : Nat) (w : World) (hl : l.length ≤ 1000000) (h : badL l = some k) : Makes 29 #[.string (S l)] w (fun v w' => ∃ e, v = .tuple #[.slice none 0 0, e] ∧ IsAt w' e 3 k) :=
  (pts_any l w hl).mono fun v w' _ hq => by unfold PtsPost at hq; rw [h] at hq; exact hq
theorem IsInts.lit2 (w : World) (a b : Int) (t : TypeId) : IsInts (w.alloc (.cells #[.int .i64 a, .int .i64 b] t)) (.slice (some ⟨w.heap.size, 0, none⟩) 2 2) [a, b] :=
  Or.inr ⟨w.heap.size, 2, rfl, by simp, by simp, fun j hj => by
    rw [World.cell?_alloc_new]
    match j, hj with
    | 0, _ => rfl
    | 1, _ => rfl⟩
theorem ptsA : badL [97, 195, 169] = none ∧ ptsL [97, 195, 169] = [97, 233] := by
  have e1 : nextL [97, 195, 169] = (97, 1) := by decide
  have e2 : nextL [195, 169] = (233, 2) := by decide
  refine ⟨?_, ?_⟩
  · rw [badL_step (by unfold stepL; rw [e1]; decide)]
    have : stepL [97, 195, 169] = 1 := by unfold stepL; rw [e1]; decide
    rw [this]
    show (badL [195, 169]).map _ = _
    rw [badL_step (by unfold stepL; rw [e2]; decide)]
    have : stepL [195, 169] = 2 := by unfold stepL; rw [e2]; decide
    rw [this]
    show ((badL []).map _).map _ = _
    rw [badL_nil]; rfl
  · rw [ptsL_step (by unfold stepL; rw [e1]; decide), e1]
    have : stepL [97, 195, 169] = 1 := by unfold stepL; rw [e1]; decide
    rw [this]
    show _ :: ptsL [195, 169] = _
    rw [ptsL_step (by unfold stepL; rw [e2]; decide), e2]
    have : stepL [195, 169] = 2 := by unfold stepL; rw [e2]; decide
    rw [this]
    show _ :: _ :: ptsL [] = _
    rw [ptsL_nil]
theorem badA : badL [97, 255] = some 1 := by
  have e1 : nextL [97, 255] = (97, 1) := by decide
  have e2 : nextL [255] = (0, 0) := by decide
  rw [badL_step (by unfold stepL; rw [e1]; decide)]
  have : stepL [97, 255] = 1 := by unfold stepL; rw [e1]; decide
  rw [this]
  show (badL [255]).map _ = _
  rw [badL_zero (by simp) (by unfold stepL; rw [e2]; decide)]; rfl

set_option maxRecDepth 100000 in
set_option maxHeartbeats 1000000 in
theorem pointed_any (w : World) : Gives 28 #[] w (.bool true) := by
  go_enter Try.func28, Try.ntmps28
  go_wp2_with fail
  refine (point_to 0x20ac [0xe2, 0x82, 0xac] _ (by decide) (by decide)).use ?_; intro w1 g1
  go_wp2_with fail
  refine (next_to [0xf0, 0x9f, 0x98, 0x80, 0x78] 0x1f600 4 _ (by simp) (by decide)).use ?_
  go_wp2_with fail
  refine (pts_good [97, 195, 169] _ (by simp) ptsA.1).use ?_
  rintro v w2 ⟨s, rfl, hs⟩ g2
  rw [ptsA.2] at hs
  have Hs := hid hs
  clear hs
  go_wp2_with fail
  refine (intsEqual_any (Hs.out.grow ((G.refl _).alloc _)) (IsInts.lit2 w2 97 233 _) (by simp) (by simp)).use ?_; intro w3 g3
  go_wp2_with fail
  refine (bad_to [97, 255] (some 1) _ (by simp) badA).use ?_
  go_wp2_with fail
  go_ret
  refine ⟨ret_bool (by decide), (by repeat (first | exact G.refl _ | assumption | apply G.drew | apply G.alloc | refine G.trans ?_ (by assumption)))⟩

set_option maxRecDepth 100000 in
set_option maxHeartbeats 1000000 in
theorem utfOrder_walk (a b : Int) (w : World) (ha : -9223372036854775808 ≤ a ∧ a ≤ 9223372036854775807) (hb : -9223372036854775808 ≤ b ∧ b ≤ 9223372036854775807) : Gives 8 #[.int .i64 a, .int .i64 b] w (.bool true) := by
  cases hma : mayB a <;> cases hmb : mayB b
  · go_enter Try.func8, Try.ntmps8
    go_wp2_with fail
    refine (pointed_any _).use ?_; intro w1 g1
    go_wp2_with fail
    refine (point_bad a _ hma).use ?_; intro w2 g2
    go_wp2_with fail
    refine (point_bad b _ hmb).use ?_; intro w3 g3
    go_wp2_with fail
    go_ret
    exact ⟨ret_bool (by simp), (by repeat (first | exact G.refl _ | assumption | apply G.drew | apply G.alloc | refine G.trans ?_ (by assumption)))⟩
  · go_enter Try.func8, Try.ntmps8
    go_wp2_with fail
    refine (pointed_any _).use ?_; intro w1 g1
    go_wp2_with fail
    refine (point_bad a _ hma).use ?_; intro w2 g2
    go_wp2_with fail
    refine (point_any b _ hmb).use ?_; intro w3 g3
    go_wp2_with fail
    go_ret
    exact ⟨ret_bool (by simp), (by repeat (first | exact G.refl _ | assumption | apply G.drew | apply G.alloc | refine G.trans ?_ (by assumption)))⟩
  · go_enter Try.func8, Try.ntmps8
    go_wp2_with fail
    refine (pointed_any _).use ?_; intro w1 g1
    go_wp2_with fail
    refine (point_any a _ hma).use ?_; intro w2 g2
    go_wp2_with fail
    refine (point_bad b _ hmb).use ?_; intro w3 g3
    go_wp2_with fail
    go_ret
    exact ⟨ret_bool (by simp), (by repeat (first | exact G.refl _ | assumption | apply G.drew | apply G.alloc | refine G.trans ?_ (by assumption)))⟩
  · have e1 := point_less hma hmb
    have e2 := point_eq hma hmb
    go_enter Try.func8, Try.ntmps8
    go_wp2_with fail
    refine (pointed_any _).use ?_; intro w1 g1
    go_wp2_with fail
    refine (point_any a _ hma).use ?_; intro w2 g2
    go_wp2_with fail
    refine (point_any b _ hmb).use ?_; intro w3 g3
    go_wp2_with fail
    go_ret
    exact ⟨ret_bool (by simp), (by repeat (first | exact G.refl _ | assumption | apply G.drew | apply G.alloc | refine G.trans ?_ (by assumption)))⟩

def longL (r : Int) : Int := if r < 128 then 1 else if r < 2048 then 2 else if r < 65536 then 3 else 4
theorem pointL_long (r : Int) : ((pointL r).length : Int) = longL r := by
  unfold pointL longL
  split
  · rfl
  · split
    · rfl
    · split <;> rfl
set_option maxRecDepth 100000 in
set_option maxHeartbeats 1000000 in
theorem utfLong_walk (r : Int) (w : World) (ha : -9223372036854775808 ≤ r ∧ r ≤ 9223372036854775807) : Gives 9 #[.int .i64 r] w (.bool true) := by
  cases hma : mayB r
  · go_enter Try.func9, Try.ntmps9
    go_wp2_with fail
    refine (pointed_any _).use ?_; intro w1 g1
    go_wp2_with fail
    refine (point_bad r _ hma).use ?_; intro w2 g2
    go_wp2_with fail
    refine (may_any r _).use ?_
    rw [hma]
    go_wp2_with fail
    go_ret
    exact ⟨ret_bool rfl, (by repeat (first | exact G.refl _ | assumption | apply G.drew | apply G.alloc | refine G.trans ?_ (by assumption)))⟩
  · have hr := may_range hma
    obtain ⟨r0, r9⟩ := hr
    have hl := pointL_long r
    unfold longL at hl
    by_cases h1 : r < 128
    rotate_left
    by_cases h2 : r < 2048
    rotate_left
    by_cases h3 : r < 65536
    all_goals
      simp only [*, ↓reduceIte] at hl
      go_enter Try.func9, Try.ntmps9
      go_wp2_with fail
      refine (pointed_any _).use ?_; intro w1 g1
      go_wp2_with fail
      refine (point_any r _ hma).use ?_; intro w2 g2
      go_wp2_with fail
      refine wp_loop_rounds 4 ?_
      rw [rounds_succ]
      go_wp2_with fail
      rw [rounds_succ]
      go_wp2_with fail
      rw [rounds_succ]
      go_wp2_with fail
      rw [rounds_succ]
      go_wp2_with fail
      refine (may_any r _).use ?_
      go_wp2_with fail
      go_ret
      exact ⟨ret_bool (by simp [hma, r0]), (by repeat (first | exact G.refl _ | assumption | apply G.drew | apply G.alloc | refine G.trans ?_ (by assumption)))⟩

/-- what UtfCutFits asks of the cut -/
theorem badV_none {o : Option Nat} (h : o = none) : badV o = -1 := by subst h; rfl
theorem badV_some {o : Option Nat} {k : Nat} (h : o = some k) : badV o = k := by subst h; rfl
set_option maxRecDepth 100000 in
set_option maxHeartbeats 1000000 in
theorem utfCutFits_walk (s : List UInt8) (n : Int) (w : World) (zs : s.length ≤ 140737488351232) (hn : -9223372036854775808 ≤ n ∧ n ≤ 9223372036854775807) : Gives 10 #[.string (S s), .int .i64 n] w (.bool true) := by
  by_cases hl : 300 < s.length
  · go_enter Try.func10, Try.ntmps10
    go_wp2_with fail
    refine (pointed_any _).use ?_; intro w1 g1
    go_wp2_with fail
    go_ret
    exact ⟨rfl, (by repeat (first | exact G.refl _ | assumption | apply G.drew | apply G.alloc | refine G.trans ?_ (by assumption)))⟩
  cases hb : badL s with
  | some k =>
    go_enter Try.func10, Try.ntmps10
    go_wp2_with fail
    refine (pointed_any _).use ?_; intro w1 g1
    go_wp2_with fail
    refine (bad_to s _ _ (by omega) hb).use ?_
    rw [badV_some rfl]
    go_wp2_with fail
    go_ret
    exact ⟨rfl, (by repeat (first | exact G.refl _ | assumption | apply G.drew | apply G.alloc | refine G.trans ?_ (by assumption)))⟩
  | none =>
    have hm := pickV_lt n (n := 90) (by omega)
    generalize hmd : pickV n 90 = m at *
    obtain ⟨k1, k2, k3, k4, k5⟩ := cut_spec hb m
    generalize hk : cutL s m = k at *
    have K5 := hid k5
    have hnx := nextL_bounds (s.drop k)
    have Hx := hid hnx
    have pk : ∀ w, Pure 33 #[.int .i64 n, .int .i64 90] w (.int .i64 (m : Int)) := fun w => by have := pick_any n 90 w (by omega) (by omega); rw [hmd] at this; exact this
    have ck : ∀ w, Pure 34 #[.string (S s), .int .i64 m] w (.int .i64 (k : Int)) := fun w => by have := cut_any s m w (by omega) (by omega); rw [hk] at this; exact this
    have PK := hid pk
    have CK := hid ck
    clear pk ck hmd hk k5 hnx
    go_enter Try.func10, Try.ntmps10
    go_wp2_with fail
    refine (pointed_any _).use ?_; intro w1 g1
    go_wp2_with fail
    refine (bad_to s _ _ (by omega) hb).use ?_
    rw [badV_none rfl]
    go_wp2_with fail
    refine (PK.out _).use ?_
    go_wp2_with fail
    refine (CK.out _).use ?_
    go_wp2_with fail
    refine (bad_to (s.take k) _ _ (by simp; omega) k3).use ?_
    rw [badV_none rfl]
    go_wp2_with fail
    refine (bad_to (s.drop k) _ _ (by simp; omega) k4).use ?_
    rw [badV_none rfl]
    rcases Hx.out with hx | ⟨r, j, hx, hr, j1, j4, jl⟩
    · have Hn := hid hx
      clear hx
      go_wp2_with fail
      refine (next_to (s.drop k) _ _ _ (by simp; omega) Hn.out).use ?_
      have e1 : (k : Int) = s.length := by
        have h5 := K5.out
        have : stepL (s.drop k) = 0 := by unfold stepL; rw [Hn.out]; rfl
        rw [this] at h5; omega
      have e2 : ((k : Int) == s.length) = true := beq_iff_eq.2 e1
      clear e1
      go_wp2_with fail
      go_ret
      exact ⟨ret_bool (by simp [e2]), (by repeat (first | exact G.refl _ | assumption | apply G.drew | apply G.alloc | refine G.trans ?_ (by assumption)))⟩
    · have Hn := hid hx
      clear hx
      go_wp2_with fail
      refine (next_to (s.drop k) _ _ _ (by simp; omega) Hn.out).use ?_
      have e1 : k = s.length ∨ m < k + j := by
        have h5 := K5.out
        rw [stepL_of Hn.out] at h5; exact h5
      have E1 := hid e1
      clear e1
      go_wp2_with fail
      all_goals go_ret
      all_goals refine ⟨ret_bool ?_, (by repeat (first | exact G.refl _ | assumption | apply G.drew | apply G.alloc | refine G.trans ?_ (by assumption)))⟩
      all_goals have h6 := E1.out
      all_goals first | rfl | (simp; omega)

theorem flat_len : ∀ xs : List Int, xs.length ≤ (xs.flatMap pointL).length
  | [] => by simp
  | x :: xs => by
    have := pointL_len x
    have := flat_len xs
    simp only [List.flatMap_cons, List.length_append, List.length_cons]
    omega
theorem flat_take (xs : List Int) (k : Nat) : ((xs.take k).flatMap pointL).length ≤ (xs.flatMap pointL).length := by
  have : xs.flatMap pointL = (xs.take k).flatMap pointL ++ (xs.drop k).flatMap pointL := by
    rw [← List.flatMap_append, List.take_append_drop]
  rw [this, List.length_append]; omega
set_option maxRecDepth 100000 in
set_option maxHeartbeats 1000000 in
theorem utfOnly_walk (s : List UInt8) (w : World) (zs : s.length ≤ 140737488351232) : Gives 7 #[.string (S s)] w (.bool true) := by
  by_cases hl : 300 < s.length
  · go_enter Try.func7, Try.ntmps7
    go_wp2_with fail
    refine (pointed_any _).use ?_; intro w1 g1
    go_wp2_with fail
    go_ret
    exact ⟨rfl, (by repeat (first | exact G.refl _ | assumption | apply G.drew | apply G.alloc | refine G.trans ?_ (by assumption)))⟩
  cases hb : badL s with
  | some k =>
    go_enter Try.func7, Try.ntmps7
    go_wp2_with fail
    refine (pointed_any _).use ?_; intro w1 g1
    go_wp2_with fail
    refine (pts_wrong s k _ (by omega) hb).use ?_
    rintro v w2 ⟨e, rfl, b, rfl, hc1, hc2, hlt⟩ g2
    go_wp2_with fail
    refine (bad_to s _ _ (by omega) hb).use ?_
    rw [badV_some rfl]
    go_wp2_with fail
    go_ret
    exact ⟨ret_bool (by simp), (by repeat (first | exact G.refl _ | assumption | apply G.drew | apply G.alloc | refine G.trans ?_ (by assumption)))⟩
  | none =>
    have hj := pts_join hb
    have hmay := pts_may hb
    generalize hxs : ptsL s = xs at *
    have HJ := hid hj
    have HM := hid hmay
    have hlen : xs.length ≤ s.length := by
      rw [← hj]
      exact flat_len xs
    have pg : ∀ w, Makes 29 #[.string (S s)] w (fun v w' => ∃ s, v = .tuple #[s, .nilIface] ∧ IsInts w' s xs) := fun w => by have := pts_good s w (by omega) hb; rw [hxs] at this; exact this
    have PG := hid pg
    clear hj hmay hxs pg
    go_enter Try.func7, Try.ntmps7
    go_wp2_with fail
    refine (pointed_any _).use ?_; intro w1 g1
    go_wp2_with fail
    refine (PG.out _).use ?_
    rintro v w2 ⟨sv, rfl, hs⟩ g2
    obtain ⟨p, cap, hsv⟩ := hs.len
    have Hs := hid hs
    clear hs
    subst hsv
    go_wp2_with fail
    go_loopw [5, 32] (fun t i wr => ∃ k : Nat, k ≤ xs.length ∧ i = .int .i64 k ∧ t = .string (S ((xs.take k).flatMap pointL)) ∧ G w2 wr) (fun _ i _ => xs.length - (intOf i).toNat)
    case atStart => exact ⟨0, Nat.zero_le _, rfl, by simp; rfl, G.refl _⟩
    case round =>
      obtain ⟨k, hk, rfl, rfl, g3⟩ := hrel
      by_cases hlt : k < xs.length
      · have hpl : ((xs.take k).flatMap pointL).length ≤ 300 := by have := flat_take xs k; rw [HJ.out] at this; omega
        have hq := pointL_len xs[k]
        have hnext : (xs.take (k + 1)).flatMap pointL = (xs.take k).flatMap pointL ++ pointL xs[k] := by
          rw [List.take_succ_eq_append_getElem hlt, List.flatMap_append]; simp
        have HN := hid hnext
        have hmk := HM.out xs[k] (List.getElem_mem hlt)
        generalize (xs.take k).flatMap pointL = pre at *
        clear hnext
        rcases Hs.out with ⟨h1, h2⟩ | ⟨b, cp, h1, hb2, hx0, hc⟩
        · subst h2; simp at hlt
        · cases h1
          have hck := (hc k hlt)
          rw [← g3.cell (p := ⟨b, k, none⟩) hb2] at hck
          clear hc hx0
          go_wp2_with (go_at_call 31; refine (point_any xs[k] _ hmk).use ?_; intro w4 g4)
          go_roundw
          case rel => exact ⟨k + 1, by omega, by go_num, by rw [HN.out], (by repeat (first | exact G.refl _ | assumption | apply G.drew | apply G.alloc | refine G.trans ?_ (by assumption)))⟩
          case measure => simp [intOf]; omega
      · have hke : (xs.take k).flatMap pointL = s := by rw [List.take_of_length_le (by omega)]; exact HJ.out
        rw [hke]
        clear hke
        go_wp2_with (go_at_call 30; refine (bad_to s _ _ (by omega) hb).use ?_; rw [badV_none rfl])
        go_ret
        exact ⟨ret_bool (by simp), (by repeat (first | exact G.refl _ | assumption | apply G.drew | apply G.alloc | refine G.trans ?_ (by assumption)))⟩

end Go.Proofs.Ytaiehmahgejhdaa
