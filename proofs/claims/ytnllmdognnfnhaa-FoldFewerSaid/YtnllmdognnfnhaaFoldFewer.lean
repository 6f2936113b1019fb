/-
  The walk of the law FoldFewer: over all texts of at most 2 to the 47 bytes, and all numbers, it returns true.
-/
import Derived.Test.YtnllmdognnfnhaaFoldF
import Derived.Test.YtnllmdognnfnhaaFoldPieces
import Derived.Shelf.LaysM
namespace Go.Proofs.Ytnllmdognnfnhaa
open Go.RowKit
set_option linter.unusedVariables false
set_option linter.unusedSimpArgs false

theorem count_to (s sub : List UInt8) (n : Nat) (m : Int) (w : World) (hs : s.length ≤ 1000000) (hm : w.cell? ⟨0, 0, none⟩ = some (.int .i64 m)) (h2 : 2 ≤ sub.length) (h : Lib.count s sub = n) : Pure 49 #[.string (S s), .string (S sub)] w (.int .i64 n) := by
  subst h
  exact (Try.strings_Count (S s) (S sub) m w (by simp; omega) hm (by simpa using h2)).mono fun e w' ⟨h1, h2⟩ => ⟨h1, h2.symm⟩

/-- a folded line: how many pieces, how many bytes -/
theorem fold_count {s : List UInt8} (hs : goodF s) (width : Nat) (hw : 10 ≤ width) : ∃ N T, foldOut s width width = T ∧ T.length + 1 = s.length + 3 * N ∧ Lib.count T [13, 10] = N ∧ N = foldN s width width ∧ N ≤ s.length + 1 := by
  obtain ⟨g1, g2, g3⟩ := hs
  obtain ⟨p, ps, h1, h2, h3, h4, h5, h6, h7⟩ := fold_pieces width (by omega) s.length s width (Nat.le_refl _) g1 (by omega)
  have hc := nlB_clean g2
  have hle : (p ++ ps.flatten).length = s.length := by rw [h2]
  rw [List.length_append] at hle
  have hp := pieces_le ps fun q hq => (h4 q hq).2.1
  refine ⟨1 + ps.length, joinF 32 p ps, h1, ?_, ?_, h7.symm, by omega⟩
  · rw [joinF_length, h2]; omega
  · exact count_pieces 32 rfl ps p (fun c hc' => hc c (by rw [← h2]; exact List.mem_append_left _ hc')) (fun q hq c hc' => hc c (by rw [← h2]; exact List.mem_append_right _ (List.mem_flatten.2 ⟨q, hq, hc'⟩)))

set_option maxRecDepth 100000 in
set_option maxHeartbeats 4000000 in
theorem foldFewer_walk (s : List UInt8) (a b : Int) (w : World) (hsh : w.ShapedOpen Try.prog) (zs : s.length ≤ 140737488351232) (za : -9223372036854775808 ≤ a ∧ a ≤ 9223372036854775807) (zb : -9223372036854775808 ≤ b ∧ b ≤ 9223372036854775807) :
    Gives 18 #[.string (S s), .int .i64 a, .int .i64 b] w (.bool true) := by
  obtain ⟨mx, hmx⟩ : ∃ m, w.cell? ⟨0, 0, none⟩ = some (.int .i64 m) := Try.laysM138.s1_3 w hsh
  have hml : 0 < w.heap.size := World.block_lt_of_cell? w _ hmx
  have HMX := hid hmx
  clear hmx hsh
  by_cases hlen : 1000 < s.length
  · go_enter Try.func18, Try.ntmps18
    go_wp2_with fail
    refine (folded_any _).use ?_; intro w1 g1
    go_wp2_with fail
    go_ret
    exact ⟨rfl, g1⟩
  have wa := width_le a
  have wb := width_le b
  obtain ⟨A, hA⟩ : ∃ A, 10 + pickV a 66 = A := ⟨_, rfl⟩
  obtain ⟨B, hB⟩ : ∃ B, 10 + pickV b 66 = B := ⟨_, rfl⟩
  have hA1 : 10 ≤ A := by omega
  have hB1 : 10 ≤ B := by omega
  rw [hA] at wa
  rw [hB] at wb
  have WA : Hid (∀ w, Pure 45 #[.int .i64 a] w (.int .i64 (A : Nat))) := hid (fun w => by have := width_any a w; rw [hA] at this; exact this)
  have WB : Hid (∀ w, Pure 45 #[.int .i64 b] w (.int .i64 (B : Nat))) := hid (fun w => by have := width_any b w; rw [hB] at this; exact this)
  clear hA hB
  obtain ⟨lo, hlo⟩ : ∃ lo, min A B = lo := ⟨_, rfl⟩
  obtain ⟨hi, hhi⟩ : ∃ hi, max A B = hi := ⟨_, rfl⟩
  have emin : min (A : Int) (B : Int) = (lo : Int) := by omega
  have emax : max (A : Int) (B : Int) = (hi : Int) := by omega
  have l1 : 10 ≤ lo := by omega
  have l2 : hi ≤ 75 := by omega
  have l3 : lo ≤ hi := by omega
  clear hlo hhi
  by_cases hg : goodF s
  case neg =>
    have HG := hid hg
    clear hg
    go_enter Try.func18, Try.ntmps18
    go_wp2_with fail
    refine (folded_any _).use ?_; intro w1 g1
    go_wp2_with (go_at_call 45; first | refine (WA.out _).use ?_ | refine (WB.out _).use ?_)
    refine (fold_no s lo _ (by omega) (by omega) (by omega) HG.out).use ?_
    rintro v w2 ⟨e, rfl, he⟩ g2
    go_wp2_with fail
    refine (fold_no s hi _ (by omega) (by omega) (by omega) HG.out).use ?_
    rintro v w3 ⟨e', rfl, he'⟩ g3
    rcases he with ⟨p, rfl⟩ | ⟨p, rfl⟩ <;> rcases he' with ⟨p', rfl⟩ | ⟨p', rfl⟩
    all_goals
      go_wp2_with fail
      go_ret
      exact ⟨rfl, (by repeat (first | exact G.refl _ | assumption | apply G.drew | apply G.alloc | refine G.trans ?_ (by assumption)))⟩
  case pos =>
    obtain ⟨N, T, hT, hTl, hTc, hTn, hTb⟩ := fold_count hg lo (by omega)
    obtain ⟨M, U, hU, hUl, hUc, hUn, hUb⟩ := fold_count hg hi (by omega)
    have hMN : M ≤ N := by
      rw [hTn, hUn]
      have := foldN_le lo hi (by omega) l3 s.length s 0 lo hi (Nat.le_refl _) hg.1 hg.1 badL_nil (Nat.zero_le _) (by omega) l3
      exact this
    have hM1 : 1 ≤ M := by rw [hUn]; exact foldN_pos _ _ _
    have HG := hid hg
    have HT := hid hT
    have HU := hid hU
    have HTC := hid hTc
    have HUC := hid hUc
    have tb : T.length ≤ 10000 := by omega
    have ub : U.length ≤ 10000 := by omega
    have q1 : ((T.length : Int) == (s.length : Int) + 3 * (N : Int) - 1) = true := beq_iff_eq.2 (by omega)
    have q2 : ((U.length : Int) == (s.length : Int) + 3 * (M : Int) - 1) = true := beq_iff_eq.2 (by omega)
    have hN2 : N ≤ 10000 := by omega
    clear hg hT hU hTc hUc hTn hUn hTl hUl
    go_enter Try.func18, Try.ntmps18
    go_wp2_with fail
    refine (folded_any _).use ?_; intro w1 g1
    go_wp2_with (go_at_call 45; first | refine (WA.out _).use ?_ | refine (WB.out _).use ?_)
    refine (fold_to s lo T _ (by omega) (by omega) HG.out HT.out).use ?_; intro w2 g2
    go_wp2_with fail
    refine (fold_to s hi U _ (by omega) (by omega) HG.out HU.out).use ?_; intro w3 g3
    have hm3 : w3.cell? ⟨0, 0, none⟩ = some (.int .i64 mx) := by rw [((g1.trans g2).trans g3).cell hml]; exact HMX.out
    go_wp2_with fail
    refine (count_to T [13, 10] N mx _ (by omega) hm3 (by simp) HTC.out).use ?_
    go_wp2_with fail
    refine (count_to U [13, 10] M mx _ (by omega) hm3 (by simp) HUC.out).use ?_
    go_wp2_with fail
    go_ret
    exact ⟨rfl, (by repeat (first | exact G.refl _ | assumption | apply G.drew | apply G.alloc | refine G.trans ?_ (by assumption)))⟩

end Go.Proofs.Ytnllmdognnfnhaa
