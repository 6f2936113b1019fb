/-
  The walk of the law FoldBack: over all texts of at most 2 to the 47 bytes, and all numbers, it returns true.
-/
import Derived.Test.YtnllmdognnfnhaaFoldF
import Derived.Test.YtnllmdognnfnhaaFoldPieces
namespace Go.Proofs.Ytnllmdognnfnhaa
open Go.RowKit
set_option linter.unusedVariables false
set_option linter.unusedSimpArgs false

/-- a folded line is read as one line -/
theorem fold_read {s : List UInt8} (hs : goodF s) (hb : blankB s = false) (width : Nat) (hw : 10 ≤ width) :
    ∃ fs, linesGo (foldOut s width width) 0 [] = .good [⟨s, 0, fs⟩] ∧ (foldOut s width width).length ≤ 4 * s.length + 2 ∧ fs.length ≤ s.length := by
  obtain ⟨g1, g2, g3⟩ := hs
  obtain ⟨p, ps, h1, h2, h3, h4, h5, h6, h7⟩ := fold_pieces width (by omega) s.length s width (Nat.le_refl _) g1 (by omega)
  have hl := lines_foldX (x := 32) rfl rfl h2 (nlB_clean g2) g3 hb h6
  have hp := pieces_le ps fun q hq => (h4 q hq).2.1
  have hle : (p ++ ps.flatten).length = s.length := by rw [h2]
  rw [List.length_append] at hle
  refine ⟨_, by rw [h1]; exact hl, ?_, ?_⟩
  · rw [h1, joinF_length, h2]; omega
  · simp; omega

set_option maxRecDepth 100000 in
set_option maxHeartbeats 4000000 in
theorem foldBack_walk (s : List UInt8) (a b : Int) (w : World) (zs : s.length ≤ 140737488351232) (za : -9223372036854775808 ≤ a ∧ a ≤ 9223372036854775807) (zb : -9223372036854775808 ≤ b ∧ b ≤ 9223372036854775807) :
    Gives 15 #[.string (S s), .int .i64 a, .int .i64 b] w (.bool true) := by
  by_cases hlen : 1500 < s.length
  · go_enter Try.func15, Try.ntmps15
    go_wp2_with fail
    refine (folded_any _).use ?_; intro w1 g1
    go_wp2_with fail
    go_ret
    exact ⟨rfl, g1⟩
  cases hbl : blankB s with
  | true =>
    obtain ⟨c, t, rfl⟩ : ∃ c t, s = c :: t := by cases s with
      | nil => simp [blankB] at hbl
      | cons c t => exact ⟨c, t, rfl⟩
    have hc : c = 32 ∨ c = 9 := by simpa [blankB] using hbl
    have ht : t.length + 1 ≤ 1500 := by simp at hlen; omega
    clear hbl hlen zs
    rcases hc with rfl | rfl
    all_goals
      go_enter Try.func15, Try.ntmps15
      go_wp2_with fail
      refine (folded_any _).use ?_; intro w1 g1
      go_wp2_with fail
      go_ret
      exact ⟨rfl, g1⟩
  | false =>
    have wa := width_le a
    have wb := width_le b
    by_cases hg : goodF s
    case neg =>
      have HBL := hid hbl
      have hne : s ≠ [] := by
        rintro rfl
        exact hg ⟨badL_nil, rfl, by simp⟩
      obtain ⟨c, t, rfl⟩ : ∃ c t, s = c :: t := by cases s with
        | nil => exact absurd rfl hne
        | cons c t => exact ⟨c, t, rfl⟩
      have hbl2 : (c == 32 || c == 9) = false := hbl
      rw [Bool.or_eq_false_iff] at hbl2
      have q1 : ((c.toNat : Int) == 32) = false := beq_eq_false_iff_ne.2 (fun e => by have := beq_eq_false_iff_ne.1 hbl2.1; exact this (UInt8.toNat_inj.1 (by show c.toNat = 32; omega)))
      have q2 : ((c.toNat : Int) == 9) = false := beq_eq_false_iff_ne.2 (fun e => by have := beq_eq_false_iff_ne.1 hbl2.2; exact this (UInt8.toNat_inj.1 (by show c.toNat = 9; omega)))
      have hl1 : t.length + 1 ≤ 1500 := by simp at hlen; omega
      have HG := hid hg
      clear hbl hbl2 hne hg hlen zs
      go_enter Try.func15, Try.ntmps15
      go_wp2_with fail
      refine (folded_any _).use ?_; intro w1 g1
      go_wp2_with fail
      refine (width_any a _).use ?_
      go_wp2_with fail
      refine (fold_no (c :: t) (10 + pickV a 66) _ (by omega) wa (by simp; omega) HG.out).use ?_
      rintro v w2 ⟨e, rfl, he⟩ g2
      go_wp2_with fail
      refine (width_any b _).use ?_
      go_wp2_with fail
      refine (fold_no (c :: t) (10 + pickV b 66) _ (by omega) wb (by simp; omega) HG.out).use ?_
      rintro v w3 ⟨e', rfl, he'⟩ g3
      rcases he with ⟨p, rfl⟩ | ⟨p, rfl⟩ <;> rcases he' with ⟨p', rfl⟩ | ⟨p', rfl⟩
      all_goals
        go_wp2_with fail
        go_ret
        exact ⟨rfl, (by repeat (first | exact G.refl _ | assumption | apply G.drew | apply G.alloc | refine G.trans ?_ (by assumption)))⟩
    case pos =>
      obtain ⟨fa, A1, A2, A3⟩ := fold_read hg hbl (10 + pickV a 66) (by omega)
      obtain ⟨fb, B1, B2, B3⟩ := fold_read hg hbl (10 + pickV b 66) (by omega)
      obtain ⟨TA, hTA⟩ : ∃ TA, foldOut s (10 + pickV a 66) (10 + pickV a 66) = TA := ⟨_, rfl⟩
      obtain ⟨TB, hTB⟩ : ∃ TB, foldOut s (10 + pickV b 66) (10 + pickV b 66) = TB := ⟨_, rfl⟩
      rw [hTA] at A1 A2
      rw [hTB] at B1 B2
      have HG := hid hg
      have HA1 := hid A1
      have HB1 := hid B1
      have HTA := hid hTA
      have HTB := hid hTB
      have hsl : s.length ≤ 1500 := by omega
      have hq : s = [] ∨ ∃ c t, s = c :: t ∧ ((c.toNat : Int) == 32) = false ∧ ((c.toNat : Int) == 9) = false ∧ t.length + 1 ≤ 1500 := by
        cases s with
        | nil => exact .inl rfl
        | cons c t =>
          right
          have hbl2 : (c == 32 || c == 9) = false := hbl
          rw [Bool.or_eq_false_iff] at hbl2
          refine ⟨c, t, rfl, ?_, ?_, by simpa using hsl⟩
          · exact beq_eq_false_iff_ne.2 (fun e => by have := beq_eq_false_iff_ne.1 hbl2.1; exact this (UInt8.toNat_inj.1 (by show c.toNat = 32; omega)))
          · exact beq_eq_false_iff_ne.2 (fun e => by have := beq_eq_false_iff_ne.1 hbl2.2; exact this (UInt8.toNat_inj.1 (by show c.toNat = 9; omega)))
      clear hg A1 B1 hTA hTB hbl hlen zs
      rcases hq with rfl | ⟨c, t, rfl, q1, q2, q3⟩
      all_goals
        go_enter Try.func15, Try.ntmps15
        go_wp2_with fail
        refine (folded_any _).use ?_; intro w1 g1
        go_wp2_with fail
        refine (width_any a _).use ?_
        go_wp2_with fail
        refine (fold_to _ (10 + pickV a 66) TA _ (by omega) wa HG.out HTA.out).use ?_; intro w2 g2
        go_wp2_with fail
        refine (width_any b _).use ?_
        go_wp2_with fail
        refine (fold_to _ (10 + pickV b 66) TB _ (by omega) wb HG.out HTB.out).use ?_; intro w3 g3
        go_wp2_with fail
        refine (lines_good TA _ _ (by omega) HA1.out).use ?_
        rintro v w4 ⟨x, rfl, hx⟩ g4
        have HX := hid hx
        clear hx
        obtain ⟨xa, xc, rfl⟩ := HX.out.len
        go_wp2_with fail
        refine (lines_good TB _ _ (by omega) HB1.out).use ?_
        rintro v w5 ⟨y, rfl, hy⟩ g5
        obtain ⟨bx, cx, ex, _, hcx⟩ := (HX.out.grow g5).at_ (by simp)
        obtain ⟨by_, cy, rfl, _, hcy⟩ := hy.at_ (by simp)
        obtain ⟨x0, -⟩ := hcx 0 _ rfl
        obtain ⟨y0, -⟩ := hcy 0 _ rfl
        simp only [Value.slice.injEq] at ex
        obtain ⟨rfl, -, rfl⟩ := ex
        simp only [Nat.mul_zero] at x0 y0
        clear hcx hcy hy HX
        go_wp2_with fail
        go_ret
        exact ⟨ret_bool (by simp), (by repeat (first | exact G.refl _ | assumption | apply G.drew | apply G.alloc | refine G.trans ?_ (by assumption)))⟩

end Go.Proofs.Ytnllmdognnfnhaa
