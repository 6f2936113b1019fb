/-
  WALKS of the laws CaretBack, CaretJoins.
-/
import Derived.Test.YthbjabjchfmmoaaGenRepl
import Derived.Test.YthbjabjchfmmoaaAny
namespace Go.Proofs.Ythbjabjchfmmoaa
open Go.RowKit
set_option linter.unusedVariables false
set_option linter.unusedSimpArgs false

set_option maxRecDepth 100000 in
set_option maxHeartbeats 1000000 in
theorem careted_any (w : World) : Gives 5 #[] w (.bool true) := by
  have he := fun w => encode_any [97, 94, 34, 10] w (by decide)
  have hd := fun w => decode_any [94, 94, 94, 39, 94, 110, 94, 120, 94] w (by decide)
  rw [show replL caretF [97, 94, 34, 10] = [97, 94, 94, 94, 39, 94, 110] from by decide] at he
  rw [show decL [94, 94, 94, 39, 94, 110, 94, 120, 94] = [94, 34, 10, 94, 120, 94] from by decide] at hd
  have HE := hid he
  have HD := hid hd
  clear he hd
  go_enter Try.func5, Try.ntmps5
  go_wp2_with fail
  refine (HE.out _).use ?_
  intro w1 g1
  go_wp2_with fail
  refine (HD.out _).use ?_
  intro w2 g2
  go_wp2_with fail
  go_ret
  exact ⟨rfl, g1.trans g2⟩
theorem ascii_quote : asciiL [34, 10] := fun c hc => by
  simp at hc
  rcases hc with rfl | rfl <;> decide
theorem noAny_enc (s : List UInt8) : Lib.containsAny (encL s) [34, 10] = false := by
  unfold Lib.containsAny
  rw [indexAny_neg (fun c hc => ?_)]
  · rfl
  · obtain ⟨h1, h2⟩ := enc_clean s
    have n1 : c ≠ 34 := fun e => h1 (e ▸ hc)
    have n2 : c ≠ 10 := fun e => h2 (e ▸ hc)
    simp [n1, n2]
set_option maxRecDepth 100000 in
set_option maxHeartbeats 2000000 in
theorem caretBack_walk (s : List UInt8) (w : World) (zs : s.length ≤ 140737488351232) : Gives 4 #[.string (S s)] w (.bool true) := by
  by_cases hbig : 300 < s.length
  · go_enter Try.func4, Try.ntmps4
    go_wp2_with fail
    refine (careted_any _).use ?_; intro w1 g1
    go_wp2_with fail
    go_ret
    exact ⟨rfl, (by repeat (first | exact G.refl _ | assumption | apply G.drew | apply G.alloc | refine G.trans ?_ (by assumption)))⟩
  · have hl : s.length ≤ 300 := by omega
    obtain ⟨t, ht⟩ : ∃ t, encL s = t := ⟨_, rfl⟩
    obtain ⟨l1, l2⟩ := enc_len s
    rw [ht] at l1 l2
    have hl1 : (t.length : Int) ≥ s.length := by omega
    have hl2 : (t.length : Int) ≤ 2 * s.length := by omega
    have he := fun w => encode_any s w (by omega)
    rw [show replL caretF s = t from ht] at he
    have hd := fun w => decode_any t w (by omega)
    rw [show decL t = s from by rw [← ht]; exact decL_enc s] at hd
    have hc := fun w => containsAny_any t [34, 10] w (by omega) (by simp) (by simp) ascii_quote
    rw [show Lib.containsAny t [34, 10] = false from by rw [← ht]; exact noAny_enc s] at hc
    have HE := hid he
    have HD := hid hd
    have HC := hid hc
    clear he hd hc ht
    go_enter Try.func4, Try.ntmps4
    go_wp2_with fail
    refine (careted_any _).use ?_; intro w1 g1
    go_wp2_with fail
    refine (HE.out _).use ?_
    intro w2 g2
    go_wp2_with fail
    refine (HD.out _).use ?_
    intro w3 g3
    go_wp2_with fail
    refine (HC.out _).use ?_
    intro w4 g4
    go_wp2_with fail
    go_ret
    exact ⟨rfl, ((g1.trans g2).trans g3).trans g4⟩
set_option maxRecDepth 100000 in
set_option maxHeartbeats 2000000 in
theorem caretJoins_walk (a b : List UInt8) (w : World) (za : a.length ≤ 140737488351232) (zb : b.length ≤ 140737488351232) : Gives 3 #[.string (S a), .string (S b)] w (.bool true) := by
  by_cases hbig : 300 < a.length + b.length
  · have hb : (300 : Int) < a.length + b.length := by omega
    go_enter Try.func3, Try.ntmps3
    go_wp2_with fail
    refine (careted_any _).use ?_; intro w1 g1
    go_wp2_with fail
    go_ret
    exact ⟨rfl, (by repeat (first | exact G.refl _ | assumption | apply G.drew | apply G.alloc | refine G.trans ?_ (by assumption)))⟩
  · have hb : ¬ (300 : Int) < a.length + b.length := by omega
    have h1 := fun w => encode_any (a ++ b) w (by simp; omega)
    have h2 := fun w => encode_any a w (by omega)
    have h3 := fun w => encode_any b w (by omega)
    rw [replL_append] at h1
    obtain ⟨x, hx⟩ : ∃ x, replL caretF a = x := ⟨_, rfl⟩
    obtain ⟨y, hy⟩ : ∃ y, replL caretF b = y := ⟨_, rfl⟩
    have hxy : ¬ 9223372036854775807 < x.length + y.length := by
      have e1 := (enc_len a).2
      have e2 := (enc_len b).2
      rw [show encL a = x from hx] at e1
      rw [show encL b = y from hy] at e2
      omega
    rw [hx, hy] at h1
    rw [hx] at h2
    rw [hy] at h3
    have H1 := hid h1
    have H2 := hid h2
    have H3 := hid h3
    clear h1 h2 h3 hx hy
    go_enter Try.func3, Try.ntmps3
    go_wp2_with fail
    refine (careted_any _).use ?_; intro w1 g1
    go_wp2_with fail
    refine (H1.out _).use ?_
    intro w2 g2
    go_wp2_with fail
    refine (H2.out _).use ?_
    intro w3 g3
    go_wp2_with fail
    refine (H3.out _).use ?_
    intro w4 g4
    go_wp2_with fail
    go_ret
    exact ⟨rfl, ((g1.trans g2).trans g3).trans g4⟩

end Go.Proofs.Ythbjabjchfmmoaa
