/-
  CONTRACT of json.quoted.
-/
import Derived.Test.YtlejbindochiiaaDoorJsonBackL
import Derived.Test.YtlejbindochiiaaDoorBuilder
import Derived.Test.YtlejbindochiiaaDoorJsonEsc
namespace Go.Proofs.YtlejbindochiiaaDoor
open Go.RowKit
set_option linter.unusedVariables false
set_option linter.unusedSimpArgs false

theorem plain_byte (c : UInt8) (h : c ∉ ([34, 92, 8, 12, 10, 13, 9, 98, 102, 110, 114, 116, 0, 1, 2, 3, 4, 5, 6, 7, 11, 14, 15, 16, 17, 18, 19, 20, 21, 22, 23, 24, 25, 26, 27, 28, 29, 30, 31] : List UInt8)) : Lib.indexByte [34, 34, 92, 92, 8, 98, 12, 102, 10, 110, 13, 114, 9, 116] c = -1 ∧ 32 ≤ c.toNat ∧ byteJ c = [c] := by
  have key := byte_all (fun c => decide (c ∉ ([34, 92, 8, 12, 10, 13, 9, 98, 102, 110, 114, 116, 0, 1, 2, 3, 4, 5, 6, 7, 11, 14, 15, 16, 17, 18, 19, 20, 21, 22, 23, 24, 25, 26, 27, 28, 29, 30, 31] : List UInt8) → Lib.indexByte [34, 34, 92, 92, 8, 98, 12, 102, 10, 110, 13, 114, 9, 116] c = -1 ∧ 32 ≤ c.toNat ∧ byteJ c = [c])) (by decide +kernel) c
  exact of_decide_eq_true key h
theorem flat_take {s : List UInt8} {j : Nat} {c : UInt8} (hj : j < s.length) (hc : s[j] = c) : 34 :: ((s.take (j + 1)).flatMap byteJ) = 34 :: ((s.take j).flatMap byteJ) ++ byteJ c := by
  rw [List.take_add_one, List.getElem?_eq_getElem hj, hc]; simp
theorem byteOf_nat (c : UInt8) : byteOf (c.toNat : Int) = c := by simp [byteOf]
theorem byteJ_six (c : UInt8) : (byteJ c).length ≤ 6 := by
  have key := byte_all (fun c => decide ((byteJ c).length ≤ 6)) (by decide +kernel) c
  exact of_decide_eq_true key
theorem flat_six (s : List UInt8) : (s.flatMap byteJ).length ≤ 6 * s.length := by
  induction s with
  | nil => simp
  | cons c s ih => have := byteJ_six c; simp only [List.flatMap_cons, List.length_append, List.length_cons]; omega
set_option maxRecDepth 100000 in
set_option maxHeartbeats 8000000 in
theorem quoted_any (s : List UInt8) (w : World) (hs : s.length ≤ 1000000000) : Gives 28 #[.string (S s)] w (.string (S (quoteJ s))) := by
  go_enter Tryd.func28, Tryd.ntmps28
  go_wp2_with fail
  refine (writeByte_any (IsB.new (G.refl w)) ((G.refl w).alloc _) 34 (by decide) (by decide) (by simp)).mono ?_
  rintro e w1 ⟨rfl, hb1, g1, _⟩
  obtain ⟨b, hb⟩ : ∃ b, w.heap.size = b := ⟨_, rfl⟩
  rw [hb] at hb1
  have HB1 := hid (show IsB w w1 b [34] from hb1)
  have G1 := hid g1
  clear hb1 g1
  go_wp2_with fail
  have HB := hid hb
  clear hb
  go_loopw [4, 5, 6, 10] (fun _ _ _ i wr => ∃ j : Nat, i = .int .i64 (j : Int) ∧ j ≤ s.length ∧ IsB w wr b (34 :: (s.take j).flatMap byteJ) ∧ G w wr) (fun _ _ _ i _ => s.length - (intOf i).toNat)
  case atStart => exact ⟨0, rfl, by omega, HB1.out, G1.out⟩
  case round =>
    obtain ⟨j, rfl, hj, hb, g⟩ := hrel
    have IB := hid hb
    have GR := hid g
    clear hb g
    have hj1 : j + 1 ≤ 1000000001 := by omega
    have hfl : ((s.take j).flatMap byteJ).length ≤ 6000000000 := by have := flat_six (s.take j); rw [List.length_take] at this; omega
    have HFL := hid hfl
    clear hfl
    by_cases hlt : j < s.length
    · have hlti : (j : Int) < (s.length : Int) := by omega
      obtain ⟨c, hc⟩ : ∃ c, s[j] = c := ⟨_, rfl⟩
      have FT := hid (flat_take hlt hc)
      by_cases hm : c ∈ ([34, 92, 8, 12, 10, 13, 9, 98, 102, 110, 114, 116, 0, 1, 2, 3, 4, 5, 6, 7, 11, 14, 15, 16, 17, 18, 19, 20, 21, 22, 23, 24, 25, 26, 27, 28, 29, 30, 31] : List UInt8)
      · simp only [List.mem_cons, List.not_mem_nil, or_false] at hm
        rcases hm with rfl | rfl | rfl | rfl | rfl | rfl | rfl | rfl | rfl | rfl | rfl | rfl | rfl | rfl | rfl | rfl | rfl | rfl | rfl | rfl | rfl | rfl | rfl | rfl | rfl | rfl | rfl | rfl | rfl | rfl | rfl | rfl | rfl | rfl | rfl | rfl | rfl | rfl | rfl
        · have IX : Hid (∀ W, Pure 35 #[.string ⟨#[34, 34, 92, 92, 8, 98, 12, 102, 10, 110, 13, 114, 9, 116]⟩, .int .u8 34] W (.int .i64 0)) := hid (fun W => indexByte_any [34, 34, 92, 92, 8, 98, 12, 102, 10, 110, 13, 114, 9, 116] 34 W)
          go_wp2_with fail
          refine (IX.out _).use ?_
          go_wp2_with fail
          refine (writeString_any IB.out GR.out [92, 34] (by have := HFL.out; simp only [List.length_cons, List.length_nil]; omega)).mono ?_
          rintro e w3 ⟨rfl, hb3, g3, _⟩
          have IB3 := hid (show IsB w w3 b (34 :: ((s.take (j + 1)).flatMap byteJ)) by rw [FT.out]; exact hb3)
          have G3 := hid g3
          clear hb3 g3
          go_wp2_with fail
          go_roundw
          case rel => exact ⟨j + 1, by simp, by omega, IB3.out, G3.out⟩
          case measure => simp [intOf]; omega
        · have IX : Hid (∀ W, Pure 35 #[.string ⟨#[34, 34, 92, 92, 8, 98, 12, 102, 10, 110, 13, 114, 9, 116]⟩, .int .u8 92] W (.int .i64 2)) := hid (fun W => indexByte_any [34, 34, 92, 92, 8, 98, 12, 102, 10, 110, 13, 114, 9, 116] 92 W)
          go_wp2_with fail
          refine (IX.out _).use ?_
          go_wp2_with fail
          refine (writeString_any IB.out GR.out [92, 92] (by have := HFL.out; simp only [List.length_cons, List.length_nil]; omega)).mono ?_
          rintro e w3 ⟨rfl, hb3, g3, _⟩
          have IB3 := hid (show IsB w w3 b (34 :: ((s.take (j + 1)).flatMap byteJ)) by rw [FT.out]; exact hb3)
          have G3 := hid g3
          clear hb3 g3
          go_wp2_with fail
          go_roundw
          case rel => exact ⟨j + 1, by simp, by omega, IB3.out, G3.out⟩
          case measure => simp [intOf]; omega
        · have IX : Hid (∀ W, Pure 35 #[.string ⟨#[34, 34, 92, 92, 8, 98, 12, 102, 10, 110, 13, 114, 9, 116]⟩, .int .u8 8] W (.int .i64 4)) := hid (fun W => indexByte_any [34, 34, 92, 92, 8, 98, 12, 102, 10, 110, 13, 114, 9, 116] 8 W)
          go_wp2_with fail
          refine (IX.out _).use ?_
          go_wp2_with fail
          refine (writeString_any IB.out GR.out [92, 98] (by have := HFL.out; simp only [List.length_cons, List.length_nil]; omega)).mono ?_
          rintro e w3 ⟨rfl, hb3, g3, _⟩
          have IB3 := hid (show IsB w w3 b (34 :: ((s.take (j + 1)).flatMap byteJ)) by rw [FT.out]; exact hb3)
          have G3 := hid g3
          clear hb3 g3
          go_wp2_with fail
          go_roundw
          case rel => exact ⟨j + 1, by simp, by omega, IB3.out, G3.out⟩
          case measure => simp [intOf]; omega
        · have IX : Hid (∀ W, Pure 35 #[.string ⟨#[34, 34, 92, 92, 8, 98, 12, 102, 10, 110, 13, 114, 9, 116]⟩, .int .u8 12] W (.int .i64 6)) := hid (fun W => indexByte_any [34, 34, 92, 92, 8, 98, 12, 102, 10, 110, 13, 114, 9, 116] 12 W)
          go_wp2_with fail
          refine (IX.out _).use ?_
          go_wp2_with fail
          refine (writeString_any IB.out GR.out [92, 102] (by have := HFL.out; simp only [List.length_cons, List.length_nil]; omega)).mono ?_
          rintro e w3 ⟨rfl, hb3, g3, _⟩
          have IB3 := hid (show IsB w w3 b (34 :: ((s.take (j + 1)).flatMap byteJ)) by rw [FT.out]; exact hb3)
          have G3 := hid g3
          clear hb3 g3
          go_wp2_with fail
          go_roundw
          case rel => exact ⟨j + 1, by simp, by omega, IB3.out, G3.out⟩
          case measure => simp [intOf]; omega
        · have IX : Hid (∀ W, Pure 35 #[.string ⟨#[34, 34, 92, 92, 8, 98, 12, 102, 10, 110, 13, 114, 9, 116]⟩, .int .u8 10] W (.int .i64 8)) := hid (fun W => indexByte_any [34, 34, 92, 92, 8, 98, 12, 102, 10, 110, 13, 114, 9, 116] 10 W)
          go_wp2_with fail
          refine (IX.out _).use ?_
          go_wp2_with fail
          refine (writeString_any IB.out GR.out [92, 110] (by have := HFL.out; simp only [List.length_cons, List.length_nil]; omega)).mono ?_
          rintro e w3 ⟨rfl, hb3, g3, _⟩
          have IB3 := hid (show IsB w w3 b (34 :: ((s.take (j + 1)).flatMap byteJ)) by rw [FT.out]; exact hb3)
          have G3 := hid g3
          clear hb3 g3
          go_wp2_with fail
          go_roundw
          case rel => exact ⟨j + 1, by simp, by omega, IB3.out, G3.out⟩
          case measure => simp [intOf]; omega
        · have IX : Hid (∀ W, Pure 35 #[.string ⟨#[34, 34, 92, 92, 8, 98, 12, 102, 10, 110, 13, 114, 9, 116]⟩, .int .u8 13] W (.int .i64 10)) := hid (fun W => indexByte_any [34, 34, 92, 92, 8, 98, 12, 102, 10, 110, 13, 114, 9, 116] 13 W)
          go_wp2_with fail
          refine (IX.out _).use ?_
          go_wp2_with fail
          refine (writeString_any IB.out GR.out [92, 114] (by have := HFL.out; simp only [List.length_cons, List.length_nil]; omega)).mono ?_
          rintro e w3 ⟨rfl, hb3, g3, _⟩
          have IB3 := hid (show IsB w w3 b (34 :: ((s.take (j + 1)).flatMap byteJ)) by rw [FT.out]; exact hb3)
          have G3 := hid g3
          clear hb3 g3
          go_wp2_with fail
          go_roundw
          case rel => exact ⟨j + 1, by simp, by omega, IB3.out, G3.out⟩
          case measure => simp [intOf]; omega
        · have IX : Hid (∀ W, Pure 35 #[.string ⟨#[34, 34, 92, 92, 8, 98, 12, 102, 10, 110, 13, 114, 9, 116]⟩, .int .u8 9] W (.int .i64 12)) := hid (fun W => indexByte_any [34, 34, 92, 92, 8, 98, 12, 102, 10, 110, 13, 114, 9, 116] 9 W)
          go_wp2_with fail
          refine (IX.out _).use ?_
          go_wp2_with fail
          refine (writeString_any IB.out GR.out [92, 116] (by have := HFL.out; simp only [List.length_cons, List.length_nil]; omega)).mono ?_
          rintro e w3 ⟨rfl, hb3, g3, _⟩
          have IB3 := hid (show IsB w w3 b (34 :: ((s.take (j + 1)).flatMap byteJ)) by rw [FT.out]; exact hb3)
          have G3 := hid g3
          clear hb3 g3
          go_wp2_with fail
          go_roundw
          case rel => exact ⟨j + 1, by simp, by omega, IB3.out, G3.out⟩
          case measure => simp [intOf]; omega
        · have IX : Hid (∀ W, Pure 35 #[.string ⟨#[34, 34, 92, 92, 8, 98, 12, 102, 10, 110, 13, 114, 9, 116]⟩, .int .u8 98] W (.int .i64 5)) := hid (fun W => indexByte_any [34, 34, 92, 92, 8, 98, 12, 102, 10, 110, 13, 114, 9, 116] 98 W)
          go_wp2_with fail
          refine (IX.out _).use ?_
          go_wp2_with fail
          refine (writeByte_any IB.out GR.out 98 (by decide) (by decide) (by have := HFL.out; simp only [List.length_cons, List.length_nil]; omega)).mono ?_
          rintro e w3 ⟨rfl, hb3, g3, _⟩
          have IB3 := hid (show IsB w w3 b (34 :: ((s.take (j + 1)).flatMap byteJ)) by rw [FT.out]; exact hb3)
          have G3 := hid g3
          clear hb3 g3
          go_wp2_with fail
          go_roundw
          case rel => exact ⟨j + 1, by simp, by omega, IB3.out, G3.out⟩
          case measure => simp [intOf]; omega
        · have IX : Hid (∀ W, Pure 35 #[.string ⟨#[34, 34, 92, 92, 8, 98, 12, 102, 10, 110, 13, 114, 9, 116]⟩, .int .u8 102] W (.int .i64 7)) := hid (fun W => indexByte_any [34, 34, 92, 92, 8, 98, 12, 102, 10, 110, 13, 114, 9, 116] 102 W)
          go_wp2_with fail
          refine (IX.out _).use ?_
          go_wp2_with fail
          refine (writeByte_any IB.out GR.out 102 (by decide) (by decide) (by have := HFL.out; simp only [List.length_cons, List.length_nil]; omega)).mono ?_
          rintro e w3 ⟨rfl, hb3, g3, _⟩
          have IB3 := hid (show IsB w w3 b (34 :: ((s.take (j + 1)).flatMap byteJ)) by rw [FT.out]; exact hb3)
          have G3 := hid g3
          clear hb3 g3
          go_wp2_with fail
          go_roundw
          case rel => exact ⟨j + 1, by simp, by omega, IB3.out, G3.out⟩
          case measure => simp [intOf]; omega
        · have IX : Hid (∀ W, Pure 35 #[.string ⟨#[34, 34, 92, 92, 8, 98, 12, 102, 10, 110, 13, 114, 9, 116]⟩, .int .u8 110] W (.int .i64 9)) := hid (fun W => indexByte_any [34, 34, 92, 92, 8, 98, 12, 102, 10, 110, 13, 114, 9, 116] 110 W)
          go_wp2_with fail
          refine (IX.out _).use ?_
          go_wp2_with fail
          refine (writeByte_any IB.out GR.out 110 (by decide) (by decide) (by have := HFL.out; simp only [List.length_cons, List.length_nil]; omega)).mono ?_
          rintro e w3 ⟨rfl, hb3, g3, _⟩
          have IB3 := hid (show IsB w w3 b (34 :: ((s.take (j + 1)).flatMap byteJ)) by rw [FT.out]; exact hb3)
          have G3 := hid g3
          clear hb3 g3
          go_wp2_with fail
          go_roundw
          case rel => exact ⟨j + 1, by simp, by omega, IB3.out, G3.out⟩
          case measure => simp [intOf]; omega
        · have IX : Hid (∀ W, Pure 35 #[.string ⟨#[34, 34, 92, 92, 8, 98, 12, 102, 10, 110, 13, 114, 9, 116]⟩, .int .u8 114] W (.int .i64 11)) := hid (fun W => indexByte_any [34, 34, 92, 92, 8, 98, 12, 102, 10, 110, 13, 114, 9, 116] 114 W)
          go_wp2_with fail
          refine (IX.out _).use ?_
          go_wp2_with fail
          refine (writeByte_any IB.out GR.out 114 (by decide) (by decide) (by have := HFL.out; simp only [List.length_cons, List.length_nil]; omega)).mono ?_
          rintro e w3 ⟨rfl, hb3, g3, _⟩
          have IB3 := hid (show IsB w w3 b (34 :: ((s.take (j + 1)).flatMap byteJ)) by rw [FT.out]; exact hb3)
          have G3 := hid g3
          clear hb3 g3
          go_wp2_with fail
          go_roundw
          case rel => exact ⟨j + 1, by simp, by omega, IB3.out, G3.out⟩
          case measure => simp [intOf]; omega
        · have IX : Hid (∀ W, Pure 35 #[.string ⟨#[34, 34, 92, 92, 8, 98, 12, 102, 10, 110, 13, 114, 9, 116]⟩, .int .u8 116] W (.int .i64 13)) := hid (fun W => indexByte_any [34, 34, 92, 92, 8, 98, 12, 102, 10, 110, 13, 114, 9, 116] 116 W)
          go_wp2_with fail
          refine (IX.out _).use ?_
          go_wp2_with fail
          refine (writeByte_any IB.out GR.out 116 (by decide) (by decide) (by have := HFL.out; simp only [List.length_cons, List.length_nil]; omega)).mono ?_
          rintro e w3 ⟨rfl, hb3, g3, _⟩
          have IB3 := hid (show IsB w w3 b (34 :: ((s.take (j + 1)).flatMap byteJ)) by rw [FT.out]; exact hb3)
          have G3 := hid g3
          clear hb3 g3
          go_wp2_with fail
          go_roundw
          case rel => exact ⟨j + 1, by simp, by omega, IB3.out, G3.out⟩
          case measure => simp [intOf]; omega
        · have IX : Hid (∀ W, Pure 35 #[.string ⟨#[34, 34, 92, 92, 8, 98, 12, 102, 10, 110, 13, 114, 9, 116]⟩, .int .u8 0] W (.int .i64 (-1))) := hid (fun W => indexByte_any [34, 34, 92, 92, 8, 98, 12, 102, 10, 110, 13, 114, 9, 116] 0 W)
          go_wp2_with fail
          refine (IX.out _).use ?_
          go_wp2_with fail
          refine (writeString_any (IB.out.grow ((G.refl wr).alloc _)) (GR.out.alloc _) [92, 117, 48, 48, 48, 48] (by have := HFL.out; simp only [List.length_cons, List.length_nil]; omega)).mono ?_
          rintro e w3 ⟨rfl, hb3, g3, _⟩
          have IB3 := hid (show IsB w w3 b (34 :: ((s.take (j + 1)).flatMap byteJ)) by rw [FT.out]; exact hb3)
          have G3 := hid g3
          clear hb3 g3
          go_wp2_with fail
          go_roundw
          case rel => exact ⟨j + 1, by simp, by omega, IB3.out, G3.out⟩
          case measure => simp [intOf]; omega
        · have IX : Hid (∀ W, Pure 35 #[.string ⟨#[34, 34, 92, 92, 8, 98, 12, 102, 10, 110, 13, 114, 9, 116]⟩, .int .u8 1] W (.int .i64 (-1))) := hid (fun W => indexByte_any [34, 34, 92, 92, 8, 98, 12, 102, 10, 110, 13, 114, 9, 116] 1 W)
          go_wp2_with fail
          refine (IX.out _).use ?_
          go_wp2_with fail
          refine (writeString_any (IB.out.grow ((G.refl wr).alloc _)) (GR.out.alloc _) [92, 117, 48, 48, 48, 49] (by have := HFL.out; simp only [List.length_cons, List.length_nil]; omega)).mono ?_
          rintro e w3 ⟨rfl, hb3, g3, _⟩
          have IB3 := hid (show IsB w w3 b (34 :: ((s.take (j + 1)).flatMap byteJ)) by rw [FT.out]; exact hb3)
          have G3 := hid g3
          clear hb3 g3
          go_wp2_with fail
          go_roundw
          case rel => exact ⟨j + 1, by simp, by omega, IB3.out, G3.out⟩
          case measure => simp [intOf]; omega
        · have IX : Hid (∀ W, Pure 35 #[.string ⟨#[34, 34, 92, 92, 8, 98, 12, 102, 10, 110, 13, 114, 9, 116]⟩, .int .u8 2] W (.int .i64 (-1))) := hid (fun W => indexByte_any [34, 34, 92, 92, 8, 98, 12, 102, 10, 110, 13, 114, 9, 116] 2 W)
          go_wp2_with fail
          refine (IX.out _).use ?_
          go_wp2_with fail
          refine (writeString_any (IB.out.grow ((G.refl wr).alloc _)) (GR.out.alloc _) [92, 117, 48, 48, 48, 50] (by have := HFL.out; simp only [List.length_cons, List.length_nil]; omega)).mono ?_
          rintro e w3 ⟨rfl, hb3, g3, _⟩
          have IB3 := hid (show IsB w w3 b (34 :: ((s.take (j + 1)).flatMap byteJ)) by rw [FT.out]; exact hb3)
          have G3 := hid g3
          clear hb3 g3
          go_wp2_with fail
          go_roundw
          case rel => exact ⟨j + 1, by simp, by omega, IB3.out, G3.out⟩
          case measure => simp [intOf]; omega
        · have IX : Hid (∀ W, Pure 35 #[.string ⟨#[34, 34, 92, 92, 8, 98, 12, 102, 10, 110, 13, 114, 9, 116]⟩, .int .u8 3] W (.int .i64 (-1))) := hid (fun W => indexByte_any [34, 34, 92, 92, 8, 98, 12, 102, 10, 110, 13, 114, 9, 116] 3 W)
          go_wp2_with fail
          refine (IX.out _).use ?_
          go_wp2_with fail
          refine (writeString_any (IB.out.grow ((G.refl wr).alloc _)) (GR.out.alloc _) [92, 117, 48, 48, 48, 51] (by have := HFL.out; simp only [List.length_cons, List.length_nil]; omega)).mono ?_
          rintro e w3 ⟨rfl, hb3, g3, _⟩
          have IB3 := hid (show IsB w w3 b (34 :: ((s.take (j + 1)).flatMap byteJ)) by rw [FT.out]; exact hb3)
          have G3 := hid g3
          clear hb3 g3
          go_wp2_with fail
          go_roundw
          case rel => exact ⟨j + 1, by simp, by omega, IB3.out, G3.out⟩
          case measure => simp [intOf]; omega
        · have IX : Hid (∀ W, Pure 35 #[.string ⟨#[34, 34, 92, 92, 8, 98, 12, 102, 10, 110, 13, 114, 9, 116]⟩, .int .u8 4] W (.int .i64 (-1))) := hid (fun W => indexByte_any [34, 34, 92, 92, 8, 98, 12, 102, 10, 110, 13, 114, 9, 116] 4 W)
          go_wp2_with fail
          refine (IX.out _).use ?_
          go_wp2_with fail
          refine (writeString_any (IB.out.grow ((G.refl wr).alloc _)) (GR.out.alloc _) [92, 117, 48, 48, 48, 52] (by have := HFL.out; simp only [List.length_cons, List.length_nil]; omega)).mono ?_
          rintro e w3 ⟨rfl, hb3, g3, _⟩
          have IB3 := hid (show IsB w w3 b (34 :: ((s.take (j + 1)).flatMap byteJ)) by rw [FT.out]; exact hb3)
          have G3 := hid g3
          clear hb3 g3
          go_wp2_with fail
          go_roundw
          case rel => exact ⟨j + 1, by simp, by omega, IB3.out, G3.out⟩
          case measure => simp [intOf]; omega
        · have IX : Hid (∀ W, Pure 35 #[.string ⟨#[34, 34, 92, 92, 8, 98, 12, 102, 10, 110, 13, 114, 9, 116]⟩, .int .u8 5] W (.int .i64 (-1))) := hid (fun W => indexByte_any [34, 34, 92, 92, 8, 98, 12, 102, 10, 110, 13, 114, 9, 116] 5 W)
          go_wp2_with fail
          refine (IX.out _).use ?_
          go_wp2_with fail
          refine (writeString_any (IB.out.grow ((G.refl wr).alloc _)) (GR.out.alloc _) [92, 117, 48, 48, 48, 53] (by have := HFL.out; simp only [List.length_cons, List.length_nil]; omega)).mono ?_
          rintro e w3 ⟨rfl, hb3, g3, _⟩
          have IB3 := hid (show IsB w w3 b (34 :: ((s.take (j + 1)).flatMap byteJ)) by rw [FT.out]; exact hb3)
          have G3 := hid g3
          clear hb3 g3
          go_wp2_with fail
          go_roundw
          case rel => exact ⟨j + 1, by simp, by omega, IB3.out, G3.out⟩
          case measure => simp [intOf]; omega
        · have IX : Hid (∀ W, Pure 35 #[.string ⟨#[34, 34, 92, 92, 8, 98, 12, 102, 10, 110, 13, 114, 9, 116]⟩, .int .u8 6] W (.int .i64 (-1))) := hid (fun W => indexByte_any [34, 34, 92, 92, 8, 98, 12, 102, 10, 110, 13, 114, 9, 116] 6 W)
          go_wp2_with fail
          refine (IX.out _).use ?_
          go_wp2_with fail
          refine (writeString_any (IB.out.grow ((G.refl wr).alloc _)) (GR.out.alloc _) [92, 117, 48, 48, 48, 54] (by have := HFL.out; simp only [List.length_cons, List.length_nil]; omega)).mono ?_
          rintro e w3 ⟨rfl, hb3, g3, _⟩
          have IB3 := hid (show IsB w w3 b (34 :: ((s.take (j + 1)).flatMap byteJ)) by rw [FT.out]; exact hb3)
          have G3 := hid g3
          clear hb3 g3
          go_wp2_with fail
          go_roundw
          case rel => exact ⟨j + 1, by simp, by omega, IB3.out, G3.out⟩
          case measure => simp [intOf]; omega
        · have IX : Hid (∀ W, Pure 35 #[.string ⟨#[34, 34, 92, 92, 8, 98, 12, 102, 10, 110, 13, 114, 9, 116]⟩, .int .u8 7] W (.int .i64 (-1))) := hid (fun W => indexByte_any [34, 34, 92, 92, 8, 98, 12, 102, 10, 110, 13, 114, 9, 116] 7 W)
          go_wp2_with fail
          refine (IX.out _).use ?_
          go_wp2_with fail
          refine (writeString_any (IB.out.grow ((G.refl wr).alloc _)) (GR.out.alloc _) [92, 117, 48, 48, 48, 55] (by have := HFL.out; simp only [List.length_cons, List.length_nil]; omega)).mono ?_
          rintro e w3 ⟨rfl, hb3, g3, _⟩
          have IB3 := hid (show IsB w w3 b (34 :: ((s.take (j + 1)).flatMap byteJ)) by rw [FT.out]; exact hb3)
          have G3 := hid g3
          clear hb3 g3
          go_wp2_with fail
          go_roundw
          case rel => exact ⟨j + 1, by simp, by omega, IB3.out, G3.out⟩
          case measure => simp [intOf]; omega
        · have IX : Hid (∀ W, Pure 35 #[.string ⟨#[34, 34, 92, 92, 8, 98, 12, 102, 10, 110, 13, 114, 9, 116]⟩, .int .u8 11] W (.int .i64 (-1))) := hid (fun W => indexByte_any [34, 34, 92, 92, 8, 98, 12, 102, 10, 110, 13, 114, 9, 116] 11 W)
          go_wp2_with fail
          refine (IX.out _).use ?_
          go_wp2_with fail
          refine (writeString_any (IB.out.grow ((G.refl wr).alloc _)) (GR.out.alloc _) [92, 117, 48, 48, 48, 98] (by have := HFL.out; simp only [List.length_cons, List.length_nil]; omega)).mono ?_
          rintro e w3 ⟨rfl, hb3, g3, _⟩
          have IB3 := hid (show IsB w w3 b (34 :: ((s.take (j + 1)).flatMap byteJ)) by rw [FT.out]; exact hb3)
          have G3 := hid g3
          clear hb3 g3
          go_wp2_with fail
          go_roundw
          case rel => exact ⟨j + 1, by simp, by omega, IB3.out, G3.out⟩
          case measure => simp [intOf]; omega
        · have IX : Hid (∀ W, Pure 35 #[.string ⟨#[34, 34, 92, 92, 8, 98, 12, 102, 10, 110, 13, 114, 9, 116]⟩, .int .u8 14] W (.int .i64 (-1))) := hid (fun W => indexByte_any [34, 34, 92, 92, 8, 98, 12, 102, 10, 110, 13, 114, 9, 116] 14 W)
          go_wp2_with fail
          refine (IX.out _).use ?_
          go_wp2_with fail
          refine (writeString_any (IB.out.grow ((G.refl wr).alloc _)) (GR.out.alloc _) [92, 117, 48, 48, 48, 101] (by have := HFL.out; simp only [List.length_cons, List.length_nil]; omega)).mono ?_
          rintro e w3 ⟨rfl, hb3, g3, _⟩
          have IB3 := hid (show IsB w w3 b (34 :: ((s.take (j + 1)).flatMap byteJ)) by rw [FT.out]; exact hb3)
          have G3 := hid g3
          clear hb3 g3
          go_wp2_with fail
          go_roundw
          case rel => exact ⟨j + 1, by simp, by omega, IB3.out, G3.out⟩
          case measure => simp [intOf]; omega
        · have IX : Hid (∀ W, Pure 35 #[.string ⟨#[34, 34, 92, 92, 8, 98, 12, 102, 10, 110, 13, 114, 9, 116]⟩, .int .u8 15] W (.int .i64 (-1))) := hid (fun W => indexByte_any [34, 34, 92, 92, 8, 98, 12, 102, 10, 110, 13, 114, 9, 116] 15 W)
          go_wp2_with fail
          refine (IX.out _).use ?_
          go_wp2_with fail
          refine (writeString_any (IB.out.grow ((G.refl wr).alloc _)) (GR.out.alloc _) [92, 117, 48, 48, 48, 102] (by have := HFL.out; simp only [List.length_cons, List.length_nil]; omega)).mono ?_
          rintro e w3 ⟨rfl, hb3, g3, _⟩
          have IB3 := hid (show IsB w w3 b (34 :: ((s.take (j + 1)).flatMap byteJ)) by rw [FT.out]; exact hb3)
          have G3 := hid g3
          clear hb3 g3
          go_wp2_with fail
          go_roundw
          case rel => exact ⟨j + 1, by simp, by omega, IB3.out, G3.out⟩
          case measure => simp [intOf]; omega
        · have IX : Hid (∀ W, Pure 35 #[.string ⟨#[34, 34, 92, 92, 8, 98, 12, 102, 10, 110, 13, 114, 9, 116]⟩, .int .u8 16] W (.int .i64 (-1))) := hid (fun W => indexByte_any [34, 34, 92, 92, 8, 98, 12, 102, 10, 110, 13, 114, 9, 116] 16 W)
          go_wp2_with fail
          refine (IX.out _).use ?_
          go_wp2_with fail
          refine (writeString_any (IB.out.grow ((G.refl wr).alloc _)) (GR.out.alloc _) [92, 117, 48, 48, 49, 48] (by have := HFL.out; simp only [List.length_cons, List.length_nil]; omega)).mono ?_
          rintro e w3 ⟨rfl, hb3, g3, _⟩
          have IB3 := hid (show IsB w w3 b (34 :: ((s.take (j + 1)).flatMap byteJ)) by rw [FT.out]; exact hb3)
          have G3 := hid g3
          clear hb3 g3
          go_wp2_with fail
          go_roundw
          case rel => exact ⟨j + 1, by simp, by omega, IB3.out, G3.out⟩
          case measure => simp [intOf]; omega
        · have IX : Hid (∀ W, Pure 35 #[.string ⟨#[34, 34, 92, 92, 8, 98, 12, 102, 10, 110, 13, 114, 9, 116]⟩, .int .u8 17] W (.int .i64 (-1))) := hid (fun W => indexByte_any [34, 34, 92, 92, 8, 98, 12, 102, 10, 110, 13, 114, 9, 116] 17 W)
          go_wp2_with fail
          refine (IX.out _).use ?_
          go_wp2_with fail
          refine (writeString_any (IB.out.grow ((G.refl wr).alloc _)) (GR.out.alloc _) [92, 117, 48, 48, 49, 49] (by have := HFL.out; simp only [List.length_cons, List.length_nil]; omega)).mono ?_
          rintro e w3 ⟨rfl, hb3, g3, _⟩
          have IB3 := hid (show IsB w w3 b (34 :: ((s.take (j + 1)).flatMap byteJ)) by rw [FT.out]; exact hb3)
          have G3 := hid g3
          clear hb3 g3
          go_wp2_with fail
          go_roundw
          case rel => exact ⟨j + 1, by simp, by omega, IB3.out, G3.out⟩
          case measure => simp [intOf]; omega
        · have IX : Hid (∀ W, Pure 35 #[.string ⟨#[34, 34, 92, 92, 8, 98, 12, 102, 10, 110, 13, 114, 9, 116]⟩, .int .u8 18] W (.int .i64 (-1))) := hid (fun W => indexByte_any [34, 34, 92, 92, 8, 98, 12, 102, 10, 110, 13, 114, 9, 116] 18 W)
          go_wp2_with fail
          refine (IX.out _).use ?_
          go_wp2_with fail
          refine (writeString_any (IB.out.grow ((G.refl wr).alloc _)) (GR.out.alloc _) [92, 117, 48, 48, 49, 50] (by have := HFL.out; simp only [List.length_cons, List.length_nil]; omega)).mono ?_
          rintro e w3 ⟨rfl, hb3, g3, _⟩
          have IB3 := hid (show IsB w w3 b (34 :: ((s.take (j + 1)).flatMap byteJ)) by rw [FT.out]; exact hb3)
          have G3 := hid g3
          clear hb3 g3
          go_wp2_with fail
          go_roundw
          case rel => exact ⟨j + 1, by simp, by omega, IB3.out, G3.out⟩
          case measure => simp [intOf]; omega
        · have IX : Hid (∀ W, Pure 35 #[.string ⟨#[34, 34, 92, 92, 8, 98, 12, 102, 10, 110, 13, 114, 9, 116]⟩, .int .u8 19] W (.int .i64 (-1))) := hid (fun W => indexByte_any [34, 34, 92, 92, 8, 98, 12, 102, 10, 110, 13, 114, 9, 116] 19 W)
          go_wp2_with fail
          refine (IX.out _).use ?_
          go_wp2_with fail
          refine (writeString_any (IB.out.grow ((G.refl wr).alloc _)) (GR.out.alloc _) [92, 117, 48, 48, 49, 51] (by have := HFL.out; simp only [List.length_cons, List.length_nil]; omega)).mono ?_
          rintro e w3 ⟨rfl, hb3, g3, _⟩
          have IB3 := hid (show IsB w w3 b (34 :: ((s.take (j + 1)).flatMap byteJ)) by rw [FT.out]; exact hb3)
          have G3 := hid g3
          clear hb3 g3
          go_wp2_with fail
          go_roundw
          case rel => exact ⟨j + 1, by simp, by omega, IB3.out, G3.out⟩
          case measure => simp [intOf]; omega
        · have IX : Hid (∀ W, Pure 35 #[.string ⟨#[34, 34, 92, 92, 8, 98, 12, 102, 10, 110, 13, 114, 9, 116]⟩, .int .u8 20] W (.int .i64 (-1))) := hid (fun W => indexByte_any [34, 34, 92, 92, 8, 98, 12, 102, 10, 110, 13, 114, 9, 116] 20 W)
          go_wp2_with fail
          refine (IX.out _).use ?_
          go_wp2_with fail
          refine (writeString_any (IB.out.grow ((G.refl wr).alloc _)) (GR.out.alloc _) [92, 117, 48, 48, 49, 52] (by have := HFL.out; simp only [List.length_cons, List.length_nil]; omega)).mono ?_
          rintro e w3 ⟨rfl, hb3, g3, _⟩
          have IB3 := hid (show IsB w w3 b (34 :: ((s.take (j + 1)).flatMap byteJ)) by rw [FT.out]; exact hb3)
          have G3 := hid g3
          clear hb3 g3
          go_wp2_with fail
          go_roundw
          case rel => exact ⟨j + 1, by simp, by omega, IB3.out, G3.out⟩
          case measure => simp [intOf]; omega
        · have IX : Hid (∀ W, Pure 35 #[.string ⟨#[34, 34, 92, 92, 8, 98, 12, 102, 10, 110, 13, 114, 9, 116]⟩, .int .u8 21] W (.int .i64 (-1))) := hid (fun W => indexByte_any [34, 34, 92, 92, 8, 98, 12, 102, 10, 110, 13, 114, 9, 116] 21 W)
          go_wp2_with fail
          refine (IX.out _).use ?_
          go_wp2_with fail
          refine (writeString_any (IB.out.grow ((G.refl wr).alloc _)) (GR.out.alloc _) [92, 117, 48, 48, 49, 53] (by have := HFL.out; simp only [List.length_cons, List.length_nil]; omega)).mono ?_
          rintro e w3 ⟨rfl, hb3, g3, _⟩
          have IB3 := hid (show IsB w w3 b (34 :: ((s.take (j + 1)).flatMap byteJ)) by rw [FT.out]; exact hb3)
          have G3 := hid g3
          clear hb3 g3
          go_wp2_with fail
          go_roundw
          case rel => exact ⟨j + 1, by simp, by omega, IB3.out, G3.out⟩
          case measure => simp [intOf]; omega
        · have IX : Hid (∀ W, Pure 35 #[.string ⟨#[34, 34, 92, 92, 8, 98, 12, 102, 10, 110, 13, 114, 9, 116]⟩, .int .u8 22] W (.int .i64 (-1))) := hid (fun W => indexByte_any [34, 34, 92, 92, 8, 98, 12, 102, 10, 110, 13, 114, 9, 116] 22 W)
          go_wp2_with fail
          refine (IX.out _).use ?_
          go_wp2_with fail
          refine (writeString_any (IB.out.grow ((G.refl wr).alloc _)) (GR.out.alloc _) [92, 117, 48, 48, 49, 54] (by have := HFL.out; simp only [List.length_cons, List.length_nil]; omega)).mono ?_
          rintro e w3 ⟨rfl, hb3, g3, _⟩
          have IB3 := hid (show IsB w w3 b (34 :: ((s.take (j + 1)).flatMap byteJ)) by rw [FT.out]; exact hb3)
          have G3 := hid g3
          clear hb3 g3
          go_wp2_with fail
          go_roundw
          case rel => exact ⟨j + 1, by simp, by omega, IB3.out, G3.out⟩
          case measure => simp [intOf]; omega
        · have IX : Hid (∀ W, Pure 35 #[.string ⟨#[34, 34, 92, 92, 8, 98, 12, 102, 10, 110, 13, 114, 9, 116]⟩, .int .u8 23] W (.int .i64 (-1))) := hid (fun W => indexByte_any [34, 34, 92, 92, 8, 98, 12, 102, 10, 110, 13, 114, 9, 116] 23 W)
          go_wp2_with fail
          refine (IX.out _).use ?_
          go_wp2_with fail
          refine (writeString_any (IB.out.grow ((G.refl wr).alloc _)) (GR.out.alloc _) [92, 117, 48, 48, 49, 55] (by have := HFL.out; simp only [List.length_cons, List.length_nil]; omega)).mono ?_
          rintro e w3 ⟨rfl, hb3, g3, _⟩
          have IB3 := hid (show IsB w w3 b (34 :: ((s.take (j + 1)).flatMap byteJ)) by rw [FT.out]; exact hb3)
          have G3 := hid g3
          clear hb3 g3
          go_wp2_with fail
          go_roundw
          case rel => exact ⟨j + 1, by simp, by omega, IB3.out, G3.out⟩
          case measure => simp [intOf]; omega
        · have IX : Hid (∀ W, Pure 35 #[.string ⟨#[34, 34, 92, 92, 8, 98, 12, 102, 10, 110, 13, 114, 9, 116]⟩, .int .u8 24] W (.int .i64 (-1))) := hid (fun W => indexByte_any [34, 34, 92, 92, 8, 98, 12, 102, 10, 110, 13, 114, 9, 116] 24 W)
          go_wp2_with fail
          refine (IX.out _).use ?_
          go_wp2_with fail
          refine (writeString_any (IB.out.grow ((G.refl wr).alloc _)) (GR.out.alloc _) [92, 117, 48, 48, 49, 56] (by have := HFL.out; simp only [List.length_cons, List.length_nil]; omega)).mono ?_
          rintro e w3 ⟨rfl, hb3, g3, _⟩
          have IB3 := hid (show IsB w w3 b (34 :: ((s.take (j + 1)).flatMap byteJ)) by rw [FT.out]; exact hb3)
          have G3 := hid g3
          clear hb3 g3
          go_wp2_with fail
          go_roundw
          case rel => exact ⟨j + 1, by simp, by omega, IB3.out, G3.out⟩
          case measure => simp [intOf]; omega
        · have IX : Hid (∀ W, Pure 35 #[.string ⟨#[34, 34, 92, 92, 8, 98, 12, 102, 10, 110, 13, 114, 9, 116]⟩, .int .u8 25] W (.int .i64 (-1))) := hid (fun W => indexByte_any [34, 34, 92, 92, 8, 98, 12, 102, 10, 110, 13, 114, 9, 116] 25 W)
          go_wp2_with fail
          refine (IX.out _).use ?_
          go_wp2_with fail
          refine (writeString_any (IB.out.grow ((G.refl wr).alloc _)) (GR.out.alloc _) [92, 117, 48, 48, 49, 57] (by have := HFL.out; simp only [List.length_cons, List.length_nil]; omega)).mono ?_
          rintro e w3 ⟨rfl, hb3, g3, _⟩
          have IB3 := hid (show IsB w w3 b (34 :: ((s.take (j + 1)).flatMap byteJ)) by rw [FT.out]; exact hb3)
          have G3 := hid g3
          clear hb3 g3
          go_wp2_with fail
          go_roundw
          case rel => exact ⟨j + 1, by simp, by omega, IB3.out, G3.out⟩
          case measure => simp [intOf]; omega
        · have IX : Hid (∀ W, Pure 35 #[.string ⟨#[34, 34, 92, 92, 8, 98, 12, 102, 10, 110, 13, 114, 9, 116]⟩, .int .u8 26] W (.int .i64 (-1))) := hid (fun W => indexByte_any [34, 34, 92, 92, 8, 98, 12, 102, 10, 110, 13, 114, 9, 116] 26 W)
          go_wp2_with fail
          refine (IX.out _).use ?_
          go_wp2_with fail
          refine (writeString_any (IB.out.grow ((G.refl wr).alloc _)) (GR.out.alloc _) [92, 117, 48, 48, 49, 97] (by have := HFL.out; simp only [List.length_cons, List.length_nil]; omega)).mono ?_
          rintro e w3 ⟨rfl, hb3, g3, _⟩
          have IB3 := hid (show IsB w w3 b (34 :: ((s.take (j + 1)).flatMap byteJ)) by rw [FT.out]; exact hb3)
          have G3 := hid g3
          clear hb3 g3
          go_wp2_with fail
          go_roundw
          case rel => exact ⟨j + 1, by simp, by omega, IB3.out, G3.out⟩
          case measure => simp [intOf]; omega
        · have IX : Hid (∀ W, Pure 35 #[.string ⟨#[34, 34, 92, 92, 8, 98, 12, 102, 10, 110, 13, 114, 9, 116]⟩, .int .u8 27] W (.int .i64 (-1))) := hid (fun W => indexByte_any [34, 34, 92, 92, 8, 98, 12, 102, 10, 110, 13, 114, 9, 116] 27 W)
          go_wp2_with fail
          refine (IX.out _).use ?_
          go_wp2_with fail
          refine (writeString_any (IB.out.grow ((G.refl wr).alloc _)) (GR.out.alloc _) [92, 117, 48, 48, 49, 98] (by have := HFL.out; simp only [List.length_cons, List.length_nil]; omega)).mono ?_
          rintro e w3 ⟨rfl, hb3, g3, _⟩
          have IB3 := hid (show IsB w w3 b (34 :: ((s.take (j + 1)).flatMap byteJ)) by rw [FT.out]; exact hb3)
          have G3 := hid g3
          clear hb3 g3
          go_wp2_with fail
          go_roundw
          case rel => exact ⟨j + 1, by simp, by omega, IB3.out, G3.out⟩
          case measure => simp [intOf]; omega
        · have IX : Hid (∀ W, Pure 35 #[.string ⟨#[34, 34, 92, 92, 8, 98, 12, 102, 10, 110, 13, 114, 9, 116]⟩, .int .u8 28] W (.int .i64 (-1))) := hid (fun W => indexByte_any [34, 34, 92, 92, 8, 98, 12, 102, 10, 110, 13, 114, 9, 116] 28 W)
          go_wp2_with fail
          refine (IX.out _).use ?_
          go_wp2_with fail
          refine (writeString_any (IB.out.grow ((G.refl wr).alloc _)) (GR.out.alloc _) [92, 117, 48, 48, 49, 99] (by have := HFL.out; simp only [List.length_cons, List.length_nil]; omega)).mono ?_
          rintro e w3 ⟨rfl, hb3, g3, _⟩
          have IB3 := hid (show IsB w w3 b (34 :: ((s.take (j + 1)).flatMap byteJ)) by rw [FT.out]; exact hb3)
          have G3 := hid g3
          clear hb3 g3
          go_wp2_with fail
          go_roundw
          case rel => exact ⟨j + 1, by simp, by omega, IB3.out, G3.out⟩
          case measure => simp [intOf]; omega
        · have IX : Hid (∀ W, Pure 35 #[.string ⟨#[34, 34, 92, 92, 8, 98, 12, 102, 10, 110, 13, 114, 9, 116]⟩, .int .u8 29] W (.int .i64 (-1))) := hid (fun W => indexByte_any [34, 34, 92, 92, 8, 98, 12, 102, 10, 110, 13, 114, 9, 116] 29 W)
          go_wp2_with fail
          refine (IX.out _).use ?_
          go_wp2_with fail
          refine (writeString_any (IB.out.grow ((G.refl wr).alloc _)) (GR.out.alloc _) [92, 117, 48, 48, 49, 100] (by have := HFL.out; simp only [List.length_cons, List.length_nil]; omega)).mono ?_
          rintro e w3 ⟨rfl, hb3, g3, _⟩
          have IB3 := hid (show IsB w w3 b (34 :: ((s.take (j + 1)).flatMap byteJ)) by rw [FT.out]; exact hb3)
          have G3 := hid g3
          clear hb3 g3
          go_wp2_with fail
          go_roundw
          case rel => exact ⟨j + 1, by simp, by omega, IB3.out, G3.out⟩
          case measure => simp [intOf]; omega
        · have IX : Hid (∀ W, Pure 35 #[.string ⟨#[34, 34, 92, 92, 8, 98, 12, 102, 10, 110, 13, 114, 9, 116]⟩, .int .u8 30] W (.int .i64 (-1))) := hid (fun W => indexByte_any [34, 34, 92, 92, 8, 98, 12, 102, 10, 110, 13, 114, 9, 116] 30 W)
          go_wp2_with fail
          refine (IX.out _).use ?_
          go_wp2_with fail
          refine (writeString_any (IB.out.grow ((G.refl wr).alloc _)) (GR.out.alloc _) [92, 117, 48, 48, 49, 101] (by have := HFL.out; simp only [List.length_cons, List.length_nil]; omega)).mono ?_
          rintro e w3 ⟨rfl, hb3, g3, _⟩
          have IB3 := hid (show IsB w w3 b (34 :: ((s.take (j + 1)).flatMap byteJ)) by rw [FT.out]; exact hb3)
          have G3 := hid g3
          clear hb3 g3
          go_wp2_with fail
          go_roundw
          case rel => exact ⟨j + 1, by simp, by omega, IB3.out, G3.out⟩
          case measure => simp [intOf]; omega
        · have IX : Hid (∀ W, Pure 35 #[.string ⟨#[34, 34, 92, 92, 8, 98, 12, 102, 10, 110, 13, 114, 9, 116]⟩, .int .u8 31] W (.int .i64 (-1))) := hid (fun W => indexByte_any [34, 34, 92, 92, 8, 98, 12, 102, 10, 110, 13, 114, 9, 116] 31 W)
          go_wp2_with fail
          refine (IX.out _).use ?_
          go_wp2_with fail
          refine (writeString_any (IB.out.grow ((G.refl wr).alloc _)) (GR.out.alloc _) [92, 117, 48, 48, 49, 102] (by have := HFL.out; simp only [List.length_cons, List.length_nil]; omega)).mono ?_
          rintro e w3 ⟨rfl, hb3, g3, _⟩
          have IB3 := hid (show IsB w w3 b (34 :: ((s.take (j + 1)).flatMap byteJ)) by rw [FT.out]; exact hb3)
          have G3 := hid g3
          clear hb3 g3
          go_wp2_with fail
          go_roundw
          case rel => exact ⟨j + 1, by simp, by omega, IB3.out, G3.out⟩
          case measure => simp [intOf]; omega
      · obtain ⟨hix, h32, hbj⟩ := plain_byte c hm
        have IX : Hid (∀ W, Pure 35 #[.string ⟨#[34, 34, 92, 92, 8, 98, 12, 102, 10, 110, 13, 114, 9, 116]⟩, .int .u8 (c.toNat : Int)] W (.int .i64 (-1))) := hid (fun W => by have := indexByte_any [34, 34, 92, 92, 8, 98, 12, 102, 10, 110, 13, 114, 9, 116] c W; rw [hix] at this; exact this)
        rw [hbj] at FT
        have h32i : ¬ (c.toNat : Int) < 32 := by omega
        have h32n : ¬ c.toNat < 32 := by omega
        clear hm hix hbj h32
        go_wp2_with fail
        refine (IX.out _).use ?_
        go_wp2_with fail
        refine (writeByte_any IB.out GR.out (c.toNat : Int) (by omega) (by have := c.toNat_lt; omega) (by have := HFL.out; simp only [List.length_cons]; omega)).mono ?_
        rintro e w3 ⟨rfl, hb3, g3, _⟩
        have IB3 := hid (show IsB w w3 b (34 :: ((s.take (j + 1)).flatMap byteJ)) by rw [FT.out, ← byteOf_nat c]; exact hb3)
        have G3 := hid g3
        clear hb3 g3
        go_wp2_with fail
        go_roundw
        case rel => exact ⟨j + 1, by simp, by omega, IB3.out, G3.out⟩
        case measure => simp [intOf]; omega
    · obtain rfl : j = s.length := by omega
      have hno : ¬ (s.length : Int) < (s.length : Int) := by omega
      have IB2 := hid (show IsB w wr b (34 :: s.flatMap byteJ) by have := IB.out; rwa [List.take_length] at this)
      clear hlt hj IB
      go_wp2_with fail
      refine (writeByte_any IB2.out GR.out 34 (by decide) (by decide) (by have := HFL.out; rw [List.take_length] at this; simp only [List.length_cons]; omega)).mono ?_
      rintro e w3 ⟨rfl, hb3, g3, _⟩
      have IB3 := hid (show IsB w w3 b (quoteJ s) from hb3)
      have G3 := hid g3
      clear hb3 g3
      go_wp2_with fail
      refine (string_any IB3.out G3.out).mono ?_
      rintro e w4 ⟨rfl, g4, _⟩
      have G4 := hid g4
      clear g4
      go_wp2_with fail
      go_ret
      exact ⟨rfl, G4.out⟩

end Go.Proofs.YtlejbindochiiaaDoor
