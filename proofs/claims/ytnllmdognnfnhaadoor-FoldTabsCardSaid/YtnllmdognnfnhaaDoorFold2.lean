/-
  CONTRACTS of fold.Fold and fold.Place: for all texts, and widths that may be.
-/
import Derived.Test.YtnllmdognnfnhaaDoorFold
import Derived.Test.YtnllmdognnfnhaaDoorBuilder
namespace Go.Proofs.YtnllmdognnfnhaaDoor
open Go.RowKit
set_option linter.unusedVariables false
set_option linter.unusedSimpArgs false

theorem step_le4 (l : List UInt8) : stepL l ≤ 4 := by
  rcases nextL_bounds l with h | ⟨r, n, h, _, _, h4, _⟩
  · unfold stepL; rw [h]; decide
  · rw [stepL_of h]; exact h4
/-- how a piece is cut off -/
theorem cut_piece {r : List UInt8} {rm : Nat} (hb : badL r = none) (hr : 4 ≤ rm) : (r.drop (cutL r rm) = [] ∧ r.take (cutL r rm) = r ∧ r.length ≤ rm) ∨ (r.drop (cutL r rm) ≠ [] ∧ 1 ≤ cutL r rm ∧ cutL r rm ≤ rm ∧ cutL r rm ≤ r.length ∧ badL (r.drop (cutL r rm)) = none ∧ badL (r.take (cutL r rm)) = none) := by
  obtain ⟨h1, h2, h3, h4, h5⟩ := cut_spec hb rm
  by_cases hd : r.drop (cutL r rm) = []
  · have : r.length ≤ cutL r rm := by have := congrArg List.length hd; simp at this; omega
    exact .inl ⟨hd, List.take_of_length_le this, by omega⟩
  · right
    refine ⟨hd, ?_, h1, h2, h4, h3⟩
    rcases h5 with h5 | h5
    · exact absurd (List.drop_eq_nil_of_le (by omega)) hd
    · have := step_le4 (r.drop (cutL r rm)); omega
theorem foldOut_last {r : List UInt8} {rm width : Nat} (h : r.drop (cutL r rm) = []) : foldOut r rm width = r.take (cutL r rm) ++ [13, 10] := by
  rw [foldOut, dif_pos (.inl h)]
theorem foldOut_more {r : List UInt8} {rm width : Nat} (h : r.drop (cutL r rm) ≠ []) (h1 : 1 ≤ cutL r rm) : foldOut r rm width = r.take (cutL r rm) ++ 13 :: 10 :: 32 :: foldOut (r.drop (cutL r rm)) (width - 1) width := by
  rw [foldOut, dif_neg (by rintro (h2 | h2); exact h h2; omega)]

def goodF (s : List UInt8) : Prop := badL s = none ∧ brkL s = s.length ∧ s.length ≤ 1500
/-- what is an error, whichever -/
def IsErr (e : Value) : Prop := (∃ a, e = .iface 69 (.pointer (some a))) ∨ ∃ n, e = .iface 29 (.int .i64 n)

def strLenV : Value → Nat
  | .string s => s.size
  | _ => 0
@[simp] theorem strLenV_S (l : List UInt8) : strLenV (.string (S l)) = l.length := S_size l
theorem cut_to (l : List UInt8) (n k : Nat) (w : World) (hl : l.length ≤ 140737488351232) (hn : n ≤ 1000000) (h : cutL l n = k) : Pure 49 #[.string (S l), .int .i64 n] w (.int .i64 k) := by
  subst h; exact cut_any l n w hl hn

set_option maxRecDepth 100000 in
set_option maxHeartbeats 4000000 in
theorem fold_yes (s : List UInt8) (width : Nat) (w : World) (hw1 : 10 ≤ width) (hw2 : width ≤ 75) (hs : goodF s) : Gives 25 #[.string (S s), .int .i64 width] w (.tuple #[.string (S (foldOut s width width)), .nilIface]) := by
  obtain ⟨g1, g2, g3⟩ := hs
  have hB : Hid (badV (badL s) = -1) := hid (by rw [g1]; rfl)
  have hA : Hid (Lib.indexAny s [13, 10] = -1) := hid (by rw [brk_any, if_pos g2])
  have HG1 := hid g1
  have b1 : decide ((width : Int) < 10) = false := decide_eq_false (by omega)
  have b2 : decide (75 < (width : Int)) = false := decide_eq_false (by omega)
  have b3 : decide (1500 < (s.length : Int)) = false := decide_eq_false (by omega)
  clear g1 g2
  go_enter Tryd.func25, Tryd.ntmps25
  go_wp2_with fail
  refine (bad_any s _ (by omega)).use ?_
  rw [hB.out]
  go_wp2_with fail
  refine (anyNl s (-1) _ (by omega) hA.out).use ?_; intro w1 gw1
  go_wp2_with fail
  go_loopw [0, 9] (fun sv rv wr => ∃ (r : List UInt8) (rm : Nat) (acc : List UInt8), sv = .string (S r) ∧ rv = .int .i64 rm ∧ badL r = none ∧ 9 ≤ rm ∧ rm ≤ 75 ∧ r.length ≤ s.length ∧ acc.length ≤ 4 * (s.length - r.length) ∧ IsB w wr w1.heap.size acc ∧ G w wr ∧ acc ++ foldOut r rm width = foldOut s width width) (fun sv _ _ => strLenV sv)
  case atStart => exact ⟨s, width, [], rfl, rfl, HG1.out, by omega, hw2, Nat.le_refl _, by simp, IsB.new gw1, gw1.alloc _, rfl⟩
  case round =>
    obtain ⟨r, rm, acc, rfl, rfl, hb, hr1, hr2, hrl, hal, hib, hg, hout⟩ := hrel
    have HIB := hid hib
    have HG := hid hg
    have HOUT := hid hout
    clear hib hg hout
    obtain ⟨n, hn⟩ : ∃ n, cutL r rm = n := ⟨_, rfl⟩
    obtain ⟨r', hr'⟩ : ∃ r', r.drop n = r' := ⟨_, rfl⟩
    have HN := hid hn
    rcases cut_piece hb (show 4 ≤ rm by omega) with ⟨c1, c2, c3⟩ | ⟨c1, c2, c3, c4, c5, c6⟩
    · rw [hn, hr'] at c1
      subst c1
      have HL : Hid (foldOut r rm width = r.take n ++ [13, 10]) := hid (by rw [foldOut_last (by rw [hn, hr']), hn])
      have hn2 : n ≤ r.length := by have := (cut_spec hb rm).2.1; omega
      have hnr : (r.take n).length ≤ 1500 := by simp; omega
      clear hn c2 hb
      go_wp2_with (go_at_call 49; refine (cut_to r rm n _ (by omega) (by omega) HN.out).use ?_)
      refine (writeString_any HIB.out HG.out (r.take n ++ [13, 10]) (by simp; omega)).mono ?_
      rintro e w2 ⟨rfl, hib2, hg2, -⟩
      have HIB2 := hid hib2
      have HG2 := hid hg2
      clear hib2 hg2
      go_wp2_with fail
      refine (string_any HIB2.out HG2.out).mono ?_
      rintro e w3 ⟨rfl, hg3, -⟩
      go_wp2_with fail
      go_ret2
      exact ⟨by rw [← HOUT.out, HL.out]; rfl, hg3⟩
    · rw [hn] at c1 c2 c3 c4 c5
      rw [hr'] at c1 c5
      have HL : Hid (foldOut r rm width = r.take n ++ 13 :: 10 :: 32 :: foldOut r' (width - 1) width) := hid (by rw [foldOut_more (by rw [hn, hr']; exact c1) (by omega), hn, hr'])
      have hnr : (r.take n).length = n := by simp; omega
      have HNR := hid hnr
      have hrl' : Hid (r'.length = r.length - n) := hid (by rw [← hr']; simp)
      have hw9 : (width : Int) - 1 = ((width - 1 : Nat) : Int) := by omega
      have HW9 := hid hw9
      obtain ⟨c, t', rfl⟩ : ∃ c t', r' = c :: t' := by cases r' with
        | nil => exact absurd rfl c1
        | cons c t' => exact ⟨c, t', rfl⟩
      have HC5 := hid c5
      clear hn hb hnr hw9 c1 c5 c6
      go_wp2_with (go_at_call 49; refine (cut_to r rm n _ (by omega) (by omega) HN.out).use ?_)
      refine (writeString_any HIB.out HG.out (r.take n ++ [13, 10]) (by have := HNR.out; simp; omega)).mono ?_
      rintro e w2 ⟨rfl, hib2, hg2, -⟩
      have HIB2 := hid hib2
      have HG2 := hid hg2
      clear hib2 hg2
      go_wp2_with fail
      refine (writeString_any HIB2.out HG2.out [32] (by have := HNR.out; simp; omega)).mono ?_
      rintro e w3 ⟨rfl, hib3, hg3, -⟩
      have HIB3 := hid hib3
      have HG3 := hid hg3
      clear hib3 hg3
      go_wp2_with fail
      go_roundw
      case rel =>
        have e1 := hrl'.out
        have e2 := HNR.out
        refine ⟨c :: t', width - 1, _, rfl, ?_, HC5.out, by omega, by omega, by omega, ?_, HIB3.out, HG3.out, ?_⟩
        · first | rfl | congr 1
        · have e3 : (acc ++ (r.take n ++ [13, 10]) ++ [32]).length = acc.length + n + 3 := by simp only [List.length_append, e2]; simp; omega
          omega
        · rw [← HOUT.out, HL.out]; simp
      case measure =>
        have e1 := hrl'.out
        simp at e1 ⊢; omega

theorem not_good {s : List UInt8} (h : ¬ goodF s) : (∃ k, badL s = some k) ∨ badL s = none ∧ brkL s ≠ s.length ∨ badL s = none ∧ brkL s = s.length ∧ 1500 < s.length := by
  cases hb : badL s with
  | some k => exact .inl ⟨k, rfl⟩
  | none =>
    by_cases h2 : brkL s = s.length
    · right; right
      refine ⟨rfl, h2, ?_⟩
      rcases Nat.lt_or_ge 1500 s.length with h' | h'
      · exact h'
      · exact absurd ⟨hb, h2, h'⟩ h
    · exact .inr (.inl ⟨rfl, h2⟩)
set_option maxRecDepth 100000 in
set_option maxHeartbeats 4000000 in
theorem fold_no (s : List UInt8) (width : Nat) (w : World) (hw1 : 10 ≤ width) (hw2 : width ≤ 75) (hl : s.length ≤ 1000000) (hs : ¬ goodF s) : Makes 25 #[.string (S s), .int .i64 width] w (fun v _ => ∃ e, v = .tuple #[.string (S []), e] ∧ IsErr e) := by
  have b1 : decide ((width : Int) < 10) = false := decide_eq_false (by omega)
  have b2 : decide (75 < (width : Int)) = false := decide_eq_false (by omega)
  rcases not_good hs with ⟨k, hk⟩ | ⟨hb, hk⟩ | ⟨hb, hk, h15⟩
  · have hB : Hid (badV (badL s) = (k : Int)) := hid (by rw [hk]; rfl)
    clear hk
    go_enter Tryd.func25, Tryd.ntmps25
    go_wp2_with fail
    refine (bad_any s _ (by omega)).use ?_
    rw [hB.out]
    go_wp2_with fail
    go_ret2
    exact ⟨_, rfl, ⟨_, rfl, .inl ⟨_, rfl⟩⟩, (by repeat (first | exact G.refl _ | assumption | apply G.drew | apply G.alloc | refine G.trans ?_ (by assumption)))⟩
  · have hB : Hid (badV (badL s) = -1) := hid (by rw [hb]; rfl)
    have hA : Hid (Lib.indexAny s [13, 10] = (brkL s : Int)) := hid (by rw [brk_any, if_neg hk])
    clear hb hk
    go_enter Tryd.func25, Tryd.ntmps25
    go_wp2_with fail
    refine (bad_any s _ (by omega)).use ?_
    rw [hB.out]
    go_wp2_with fail
    refine (anyNl s (brkL s) _ (by omega) hA.out).use ?_; intro w1 gw1
    go_wp2_with fail
    go_ret2
    exact ⟨_, rfl, ⟨_, rfl, .inl ⟨_, rfl⟩⟩, (by repeat (first | exact G.refl _ | assumption | apply G.drew | apply G.alloc | refine G.trans ?_ (by assumption)))⟩
  · have hB : Hid (badV (badL s) = -1) := hid (by rw [hb]; rfl)
    have hA : Hid (Lib.indexAny s [13, 10] = -1) := hid (by rw [brk_any, if_pos hk])
    clear hb hk
    go_enter Tryd.func25, Tryd.ntmps25
    go_wp2_with fail
    refine (bad_any s _ (by omega)).use ?_
    rw [hB.out]
    go_wp2_with fail
    refine (anyNl s (-1) _ (by omega) hA.out).use ?_; intro w1 gw1
    go_wp2_with fail
    go_ret2
    exact ⟨_, rfl, ⟨_, rfl, .inr ⟨_, rfl⟩⟩, (by repeat (first | exact G.refl _ | assumption | apply G.drew | apply G.alloc | refine G.trans ?_ (by assumption)))⟩


end Go.Proofs.YtnllmdognnfnhaaDoor
