/-
  CONTRACT of b64.Encode, for all texts of at most 2 to the 40 bytes, and the plain function that it computes.
-/
import Derived.Test.YtaiehmahgejhdaaDoorBuilder
namespace Go.Proofs.YtaiehmahgejhdaaDoor
open Go.RowKit
set_option linter.unusedVariables false
set_option linter.unusedSimpArgs false

def lettersL : List UInt8 := [65, 66, 67, 68, 69, 70, 71, 72, 73, 74, 75, 76, 77, 78, 79, 80, 81, 82, 83, 84, 85, 86, 87, 88, 89, 90, 97, 98, 99, 100, 101, 102, 103, 104, 105, 106, 107, 108, 109, 110, 111, 112, 113, 114, 115, 116, 117, 118, 119, 120, 121, 122, 48, 49, 50, 51, 52, 53, 54, 55, 56, 57, 43, 47]
def lettersS : ByteArray := ⟨#[65, 66, 67, 68, 69, 70, 71, 72, 73, 74, 75, 76, 77, 78, 79, 80, 81, 82, 83, 84, 85, 86, 87, 88, 89, 90, 97, 98, 99, 100, 101, 102, 103, 104, 105, 106, 107, 108, 109, 110, 111, 112, 113, 114, 115, 116, 117, 118, 119, 120, 121, 122, 48, 49, 50, 51, 52, 53, 54, 55, 56, 57, 43, 47]⟩
theorem letters_len : lettersL.length = 64 := by decide
/-- the letter of a number below 64 -/
def letB (k : Int) : Int := ((lettersL.getD k.toNat 0).toNat : Int)
theorem letB_range (k : Int) : 0 ≤ letB k ∧ letB k < 256 := by
  unfold letB; have := (lettersL.getD k.toNat 0).toNat_lt; omega
theorem run_letter (k : Int) (h0 : 0 ≤ k) (h1 : k < 64) (w : World) : (Instr.index 9 (.string ⟨#[65, 66, 67, 68, 69, 70, 71, 72, 73, 74, 75, 76, 77, 78, 79, 80, 81, 82, 83, 84, 85, 86, 87, 88, 89, 90, 97, 98, 99, 100, 101, 102, 103, 104, 105, 106, 107, 108, 109, 110, 111, 112, 113, 114, 115, 116, 117, 118, 119, 120, 121, 122, 48, 49, 50, 51, 52, 53, 54, 55, 56, 57, 43, 47]⟩) (.int .i64 k)).run Tryd.prog w = .ok (.int .u8 (letB k)) w := by
  have h := run_index_string (P := Tryd.prog) w 9 (S lettersL) .i64 k Tryd.underlying9
  have hs : (S lettersL).size = 64 := by rw [S_size, letters_len]
  rw [dif_pos ⟨h0, by rw [hs]; omega⟩] at h
  have e : (⟨#[65, 66, 67, 68, 69, 70, 71, 72, 73, 74, 75, 76, 77, 78, 79, 80, 81, 82, 83, 84, 85, 86, 87, 88, 89, 90, 97, 98, 99, 100, 101, 102, 103, 104, 105, 106, 107, 108, 109, 110, 111, 112, 113, 114, 115, 116, 117, 118, 119, 120, 121, 122, 48, 49, 50, 51, 52, 53, 54, 55, 56, 57, 43, 47]⟩ : ByteArray) = S lettersL := rfl
  rw [e, h]
  unfold letB
  rw [S_get]
  have hk : k.toNat < lettersL.length := by rw [letters_len]; omega
  simp [List.getD, List.getElem?_eq_getElem hk]

/-- the four letters of three bytes' number -/
def quadL (n : Int) : List UInt8 := [byteOf (letB (n / 262144 % 64)), byteOf (letB (n / 4096 % 64)), byteOf (letB (n / 64 % 64)), byteOf (letB (n % 64))]
def num3 (a b c : UInt8) : Int := ((a.toNat : Int) * 256 + b.toNat) * 256 + c.toNat
def encL : List UInt8 → List UInt8
  | [] => []
  | [a] => (quadL (num3 a 0 0)).take 2 ++ [61, 61]
  | [a, b] => (quadL (num3 a b 0)).take 3 ++ [61]
  | a :: b :: c :: t => quadL (num3 a b c) ++ encL t
theorem quadL_length (n : Int) : (quadL n).length = 4 := rfl
theorem encL_length : ∀ l : List UInt8, (encL l).length = (l.length + 2) / 3 * 4
  | [] => rfl
  | [a] => by simp [encL, quadL]
  | [a, b] => by simp [encL, quadL]
  | a :: b :: c :: t => by
    rw [encL, List.length_append, quadL_length, encL_length t]
    simp only [List.length_cons]
    omega

theorem drop3 (a b c : UInt8) (t : List UInt8) : (a :: b :: c :: t).drop (min 3 ((t.length : Int) + 1 + 1 + 1)).toNat = t := by
  have e3 : (min 3 ((t.length : Int) + 1 + 1 + 1)).toNat = 3 := by omega
  rw [e3]; rfl
theorem encL_1 (a : UInt8) : encL [a] = (quadL (num3 a 0 0)).take 2 ++ [61, 61] := rfl
theorem encL_2 (a b : UInt8) : encL [a, b] = (quadL (num3 a b 0)).take 3 ++ [61] := rfl
theorem encL_3 (a b c : UInt8) (t : List UInt8) : encL (a :: b :: c :: t) = quadL (num3 a b c) ++ encL t := by rw [encL]

set_option maxRecDepth 100000 in
set_option maxHeartbeats 4000000 in
theorem encode_any (l : List UInt8) (w : World) (hl : l.length ≤ 1099511627776) : Gives 21 #[.string (S l)] w (.string (S (encL l))) := by
  go_enter Tryd.func21, Tryd.ntmps21
  go_wp2_with fail
  have hnew := IsB.new (G.refl w)
  have Hnew := hid hnew
  clear hnew
  go_loopw [0] (fun s wr => ∃ rest pre : List UInt8, s = .string (S rest) ∧ encL l = pre ++ encL rest ∧ rest.length ≤ l.length ∧ pre.length + (rest.length + 2) / 3 * 4 ≤ (l.length + 2) / 3 * 4 ∧ IsB w wr w.heap.size pre ∧ G w wr) (fun s _ => match s with | .string x => x.size | _ => 0)
  case atStart => exact ⟨l, [], rfl, by simp, Nat.le_refl _, by simp, Hnew.out, (G.refl w).alloc _⟩
  case round =>
    obtain ⟨rest, pre, rfl, he, hrl, hpl, hb, hg⟩ := hrel
    have Hb := hid hb
    have He := hid he
    clear hb he Hnew
    rcases rest with _ | ⟨a, _ | ⟨b, _ | ⟨c, t⟩⟩⟩
    · go_wp2_with fail
      refine (string_any Hb.out hg).mono ?_
      rintro e w1 ⟨rfl, g1, _⟩
      go_wp2_with fail
      go_ret
      exact ⟨by rw [He.out]; simp [encL], g1⟩
    · simp only [List.length_cons, List.length_nil] at hrl hpl
      have ha : a.toNat < 256 := a.toNat_lt
      have o0 : bits .or .i64 0 (a.toNat : Int) = (a.toNat : Int) := by have := i64_join 8 0 (a.toNat : Int) (by omega) (by decide) (by omega) (by omega) (by omega) (by omega); omega
      have HN : Hid (num3 a 0 0 = (a.toNat : Int) * 256 * 256) := hid (by unfold num3; simp)
      have n0 : 0 ≤ (a.toNat : Int) * 256 * 256 := by omega
      have n1 : (a.toNat : Int) * 256 * 256 < 16777216 := by omega
      obtain ⟨N, hN⟩ : ∃ N, N = (a.toNat : Int) * 256 * 256 := ⟨_, rfl⟩
      rw [← hN] at n0 n1
      have m0 : bits .and .i64 (N / 262144) 63 = N / 262144 % 64 := i64_mask 6 (by omega) _ 63 (by omega) (by omega) rfl
      have m1 : bits .and .i64 (N / 4096) 63 = N / 4096 % 64 := i64_mask 6 (by omega) _ 63 (by omega) (by omega) rfl
      have HQ : Hid (quadL N = [byteOf (letB (N / 262144 % 64)), byteOf (letB (N / 4096 % 64)), byteOf (letB (N / 64 % 64)), byteOf (letB (N % 64))]) := hid rfl
      have b0a : 0 ≤ N / 262144 % 64 := by omega
      have b0b : N / 262144 % 64 < 64 := by omega
      generalize N / 262144 % 64 = K0 at *
      have l0 := run_letter K0 b0a b0b
      have r0 := letB_range K0
      have b1a : 0 ≤ N / 4096 % 64 := by omega
      have b1b : N / 4096 % 64 < 64 := by omega
      generalize N / 4096 % 64 = K1 at *
      have l1 := run_letter K1 b1a b1b
      have r1 := letB_range K1
      have hN2 := hid hN
      clear hN
      go_wp2_with fail
      refine wp_loop_rounds 4 ?_
      rw [rounds_succ]
      go_wp2_with fail
      rw [rounds_succ]
      go_wp2_with fail
      rw [rounds_succ]
      go_wp2_with fail
      rw [rounds_succ]
      go_wp2_with fail
      simp only [← hN2.out]
      refine wp_loop_rounds 5 ?_
      rw [rounds_succ]
      go_wp2_with fail
      refine (writeByte_any Hb.out hg (letB K0) r0.1 r0.2 (by simp; omega)).mono ?_
      rintro e w0 ⟨rfl, hb0, hg0, _⟩
      have Hb0 := hid hb0
      clear hb0
      go_wp2_with fail
      rw [rounds_succ]
      go_wp2_with fail
      refine (writeByte_any Hb0.out hg0 (letB K1) r1.1 r1.2 (by simp; omega)).mono ?_
      rintro e w1 ⟨rfl, hb1, hg1, _⟩
      have Hb1 := hid hb1
      clear hb1
      go_wp2_with fail
      rw [rounds_succ]
      go_wp2_with fail
      refine (writeByte_any Hb1.out hg1 61 (by omega) (by omega) (by simp; omega)).mono ?_
      rintro e w2 ⟨rfl, hb2, hg2, _⟩
      have Hb2 := hid hb2
      clear hb2
      go_wp2_with fail
      rw [rounds_succ]
      go_wp2_with fail
      refine (writeByte_any Hb2.out hg2 61 (by omega) (by omega) (by simp; omega)).mono ?_
      rintro e w3 ⟨rfl, hb3, hg3, _⟩
      have Hb3 := hid hb3
      clear hb3
      go_wp2_with fail
      rw [rounds_succ]
      go_wp2_with fail
      go_roundw
      case rel =>
        refine ⟨[], _, by first | rfl | rw [drop3], ?_, (by first | omega | simp), ?_, Hb3.out, hg3⟩
        · rw [He.out, encL_1, HN.out, ← hN2.out, HQ.out]; simp [encL]
        · simp; omega
      case measure => simp; omega
    · simp only [List.length_cons, List.length_nil] at hrl hpl
      have ha : a.toNat < 256 := a.toNat_lt
      have hb : b.toNat < 256 := b.toNat_lt
      have o0 : bits .or .i64 0 (a.toNat : Int) = (a.toNat : Int) := by have := i64_join 8 0 (a.toNat : Int) (by omega) (by decide) (by omega) (by omega) (by omega) (by omega); omega
      have o1 : bits .or .i64 ((a.toNat : Int) * 256) (b.toNat : Int) = (a.toNat : Int) * 256 + b.toNat := i64_join 8 _ _ (by omega) (by simp) (by omega) (by omega) (by omega) (by omega)
      have HN : Hid (num3 a b 0 = ((a.toNat : Int) * 256 + b.toNat) * 256) := hid (by unfold num3; simp)
      have n0 : 0 ≤ ((a.toNat : Int) * 256 + b.toNat) * 256 := by omega
      have n1 : ((a.toNat : Int) * 256 + b.toNat) * 256 < 16777216 := by omega
      obtain ⟨N, hN⟩ : ∃ N, N = ((a.toNat : Int) * 256 + b.toNat) * 256 := ⟨_, rfl⟩
      rw [← hN] at n0 n1
      have m0 : bits .and .i64 (N / 262144) 63 = N / 262144 % 64 := i64_mask 6 (by omega) _ 63 (by omega) (by omega) rfl
      have m1 : bits .and .i64 (N / 4096) 63 = N / 4096 % 64 := i64_mask 6 (by omega) _ 63 (by omega) (by omega) rfl
      have m2 : bits .and .i64 (N / 64) 63 = N / 64 % 64 := i64_mask 6 (by omega) _ 63 (by omega) (by omega) rfl
      have HQ : Hid (quadL N = [byteOf (letB (N / 262144 % 64)), byteOf (letB (N / 4096 % 64)), byteOf (letB (N / 64 % 64)), byteOf (letB (N % 64))]) := hid rfl
      have b0a : 0 ≤ N / 262144 % 64 := by omega
      have b0b : N / 262144 % 64 < 64 := by omega
      generalize N / 262144 % 64 = K0 at *
      have l0 := run_letter K0 b0a b0b
      have r0 := letB_range K0
      have b1a : 0 ≤ N / 4096 % 64 := by omega
      have b1b : N / 4096 % 64 < 64 := by omega
      generalize N / 4096 % 64 = K1 at *
      have l1 := run_letter K1 b1a b1b
      have r1 := letB_range K1
      have b2a : 0 ≤ N / 64 % 64 := by omega
      have b2b : N / 64 % 64 < 64 := by omega
      generalize N / 64 % 64 = K2 at *
      have l2 := run_letter K2 b2a b2b
      have r2 := letB_range K2
      have hN2 := hid hN
      clear hN
      go_wp2_with fail
      refine wp_loop_rounds 4 ?_
      rw [rounds_succ]
      go_wp2_with fail
      rw [rounds_succ]
      go_wp2_with fail
      rw [rounds_succ]
      go_wp2_with fail
      rw [rounds_succ]
      go_wp2_with fail
      simp only [← hN2.out]
      refine wp_loop_rounds 5 ?_
      rw [rounds_succ]
      go_wp2_with fail
      refine (writeByte_any Hb.out hg (letB K0) r0.1 r0.2 (by simp; omega)).mono ?_
      rintro e w0 ⟨rfl, hb0, hg0, _⟩
      have Hb0 := hid hb0
      clear hb0
      go_wp2_with fail
      rw [rounds_succ]
      go_wp2_with fail
      refine (writeByte_any Hb0.out hg0 (letB K1) r1.1 r1.2 (by simp; omega)).mono ?_
      rintro e w1 ⟨rfl, hb1, hg1, _⟩
      have Hb1 := hid hb1
      clear hb1
      go_wp2_with fail
      rw [rounds_succ]
      go_wp2_with fail
      refine (writeByte_any Hb1.out hg1 (letB K2) r2.1 r2.2 (by simp; omega)).mono ?_
      rintro e w2 ⟨rfl, hb2, hg2, _⟩
      have Hb2 := hid hb2
      clear hb2
      go_wp2_with fail
      rw [rounds_succ]
      go_wp2_with fail
      refine (writeByte_any Hb2.out hg2 61 (by omega) (by omega) (by simp; omega)).mono ?_
      rintro e w3 ⟨rfl, hb3, hg3, _⟩
      have Hb3 := hid hb3
      clear hb3
      go_wp2_with fail
      rw [rounds_succ]
      go_wp2_with fail
      go_roundw
      case rel =>
        refine ⟨[], _, by first | rfl | rw [drop3], ?_, (by first | omega | simp), ?_, Hb3.out, hg3⟩
        · rw [He.out, encL_2, HN.out, ← hN2.out, HQ.out]; simp [encL]
        · simp; omega
      case measure => simp; omega
    · simp only [List.length_cons, List.length_nil] at hrl hpl
      have ha : a.toNat < 256 := a.toNat_lt
      have hb : b.toNat < 256 := b.toNat_lt
      have hc : c.toNat < 256 := c.toNat_lt
      have o0 : bits .or .i64 0 (a.toNat : Int) = (a.toNat : Int) := by have := i64_join 8 0 (a.toNat : Int) (by omega) (by decide) (by omega) (by omega) (by omega) (by omega); omega
      have o1 : bits .or .i64 ((a.toNat : Int) * 256) (b.toNat : Int) = (a.toNat : Int) * 256 + b.toNat := i64_join 8 _ _ (by omega) (by simp) (by omega) (by omega) (by omega) (by omega)
      have o2 : bits .or .i64 (((a.toNat : Int) * 256 + b.toNat) * 256) (c.toNat : Int) = ((a.toNat : Int) * 256 + b.toNat) * 256 + c.toNat := i64_join 8 _ _ (by omega) (by simp) (by omega) (by omega) (by omega) (by omega)
      have HN : Hid (num3 a b c = ((a.toNat : Int) * 256 + b.toNat) * 256 + c.toNat) := hid (by unfold num3; simp)
      have n0 : 0 ≤ ((a.toNat : Int) * 256 + b.toNat) * 256 + c.toNat := by omega
      have n1 : ((a.toNat : Int) * 256 + b.toNat) * 256 + c.toNat < 16777216 := by omega
      obtain ⟨N, hN⟩ : ∃ N, N = ((a.toNat : Int) * 256 + b.toNat) * 256 + c.toNat := ⟨_, rfl⟩
      rw [← hN] at n0 n1
      have m0 : bits .and .i64 (N / 262144) 63 = N / 262144 % 64 := i64_mask 6 (by omega) _ 63 (by omega) (by omega) rfl
      have m1 : bits .and .i64 (N / 4096) 63 = N / 4096 % 64 := i64_mask 6 (by omega) _ 63 (by omega) (by omega) rfl
      have m2 : bits .and .i64 (N / 64) 63 = N / 64 % 64 := i64_mask 6 (by omega) _ 63 (by omega) (by omega) rfl
      have m3 : bits .and .i64 N 63 = N % 64 := i64_mask 6 (by omega) _ 63 (by omega) (by omega) rfl
      have HQ : Hid (quadL N = [byteOf (letB (N / 262144 % 64)), byteOf (letB (N / 4096 % 64)), byteOf (letB (N / 64 % 64)), byteOf (letB (N % 64))]) := hid rfl
      have b0a : 0 ≤ N / 262144 % 64 := by omega
      have b0b : N / 262144 % 64 < 64 := by omega
      generalize N / 262144 % 64 = K0 at *
      have l0 := run_letter K0 b0a b0b
      have r0 := letB_range K0
      have b1a : 0 ≤ N / 4096 % 64 := by omega
      have b1b : N / 4096 % 64 < 64 := by omega
      generalize N / 4096 % 64 = K1 at *
      have l1 := run_letter K1 b1a b1b
      have r1 := letB_range K1
      have b2a : 0 ≤ N / 64 % 64 := by omega
      have b2b : N / 64 % 64 < 64 := by omega
      generalize N / 64 % 64 = K2 at *
      have l2 := run_letter K2 b2a b2b
      have r2 := letB_range K2
      have b3a : 0 ≤ N % 64 := by omega
      have b3b : N % 64 < 64 := by omega
      generalize N % 64 = K3 at *
      have l3 := run_letter K3 b3a b3b
      have r3 := letB_range K3
      have hN2 := hid hN
      clear hN
      go_wp2_with fail
      refine wp_loop_rounds 4 ?_
      rw [rounds_succ]
      go_wp2_with fail
      rw [rounds_succ]
      go_wp2_with fail
      rw [rounds_succ]
      go_wp2_with fail
      rw [rounds_succ]
      go_wp2_with fail
      simp only [← hN2.out]
      refine wp_loop_rounds 5 ?_
      rw [rounds_succ]
      go_wp2_with fail
      refine (writeByte_any Hb.out hg (letB K0) r0.1 r0.2 (by simp; omega)).mono ?_
      rintro e w0 ⟨rfl, hb0, hg0, _⟩
      have Hb0 := hid hb0
      clear hb0
      go_wp2_with fail
      rw [rounds_succ]
      go_wp2_with fail
      refine (writeByte_any Hb0.out hg0 (letB K1) r1.1 r1.2 (by simp; omega)).mono ?_
      rintro e w1 ⟨rfl, hb1, hg1, _⟩
      have Hb1 := hid hb1
      clear hb1
      go_wp2_with fail
      rw [rounds_succ]
      go_wp2_with fail
      refine (writeByte_any Hb1.out hg1 (letB K2) r2.1 r2.2 (by simp; omega)).mono ?_
      rintro e w2 ⟨rfl, hb2, hg2, _⟩
      have Hb2 := hid hb2
      clear hb2
      go_wp2_with fail
      rw [rounds_succ]
      go_wp2_with fail
      refine (writeByte_any Hb2.out hg2 (letB K3) r3.1 r3.2 (by simp; omega)).mono ?_
      rintro e w3 ⟨rfl, hb3, hg3, _⟩
      have Hb3 := hid hb3
      clear hb3
      go_wp2_with fail
      rw [rounds_succ]
      go_wp2_with fail
      go_roundw
      case rel =>
        refine ⟨t, _, by first | rfl | rw [drop3], ?_, (by first | omega | simp), ?_, Hb3.out, hg3⟩
        · rw [He.out, encL_3, HN.out, ← hN2.out, HQ.out]; simp [encL]
        · simp; omega
      case measure => simp; omega

end Go.Proofs.YtaiehmahgejhdaaDoor
