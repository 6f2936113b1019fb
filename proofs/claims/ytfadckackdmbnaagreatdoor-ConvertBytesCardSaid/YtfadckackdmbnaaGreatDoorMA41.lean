/-
  Texts merged into one: Value, B64Laws, DoorRE, SameVal.
-/
import Derived.Test.YtfadckackdmbnaaGreatDoorMA58
import Derived.Test.YtfadckackdmbnaaGreatDoorMTell
import Derived.Test.YtfadckackdmbnaaGreatDoorMA62
import Derived.Test.YtfadckackdmbnaaGreatDoorMA53
import Derived.Test.YtfadckackdmbnaaGreatDoorMA63
import Derived.Test.YtfadckackdmbnaaGreatDoorMA46
namespace Go.Proofs.YtfadckackdmbnaaGreatDoor
open Go.RowKit
set_option linter.unusedVariables false
set_option linter.unusedSimpArgs false
set_option maxRecDepth 100000 in
set_option maxHeartbeats 400000 in
theorem bare_nil (w : World) : Gives 138 #[.nilIface] w .nilIface := by
  go_enter Tryz.func138, Tryz.ntmps138
  go_wp2_with fail
  go_ret
  exact ⟨rfl, G.refl _⟩
set_option maxRecDepth 100000 in
set_option maxHeartbeats 400000 in
theorem bare_eno (c : Int) (w : World) (hE : LaidE w) : Gives 138 #[eno c] w (eno c) := by
  have h := tell_eno c w hE
  have H := hid h
  clear h
  go_enter Tryz.func138, Tryz.ntmps138
  go_wp2_with fail
  refine (H.out).use ?_
  intro w1 g1
  go_wp2_with fail
  go_ret
  exact ⟨rfl, g1⟩
set_option maxRecDepth 100000 in
set_option maxHeartbeats 400000 in
theorem bare_at (v : Value) (c p : Int) (w : World) (hE : LaidE w) (hv : IsAt w v c p) : Gives 138 #[v] w (eno c) := by
  have h := tell_at c p v w hE hv
  have H := hid h
  obtain ⟨b, rfl, _⟩ := hv
  clear h
  go_enter Tryz.func138, Tryz.ntmps138
  go_wp2_with fail
  refine (H.out).use ?_
  intro w1 g1
  go_wp2_with fail
  go_ret
  exact ⟨rfl, g1⟩
set_option maxRecDepth 100000 in
set_option maxHeartbeats 4000000 in
theorem only_any (x : Vl) (a : Option Addr) (cap : Nat) (w : World) (hk : 1 ≤ x.ty ∧ x.ty < 9) : Gives 136 #[x.v (.slice a x.ps.length cap)] w (.bool x.only) := by
  obtain ⟨ty, tx, ps, st, n⟩ := x
  obtain ⟨y, m, d, h, nn, s, zd, zn⟩ := st
  simp only at hk
  simp only [Vl.v]
  have hty : ty = 1 ∨ ty = 2 ∨ ty = 3 ∨ ty = 4 ∨ ty = 5 ∨ ty = 6 ∨ ty = 7 ∨ ty = 8 := by omega
  clear hk
  rcases hty with rfl | rfl | rfl | rfl | rfl | rfl | rfl | rfl
  all_goals
    go_enter Tryz.func136, Tryz.ntmps136
    go_wp2_with fail
    all_goals (go_ret; refine ⟨ret_bool ?_, (G.refl _).alloc _⟩; simp_all [Vl.only, isT, isL, St.isZero]; (try rfl))
end Go.Proofs.YtfadckackdmbnaaGreatDoor

namespace Go.Proofs.YtfadckackdmbnaaGreatDoor
open Go.RowKit
set_option linter.unusedVariables false
set_option linter.unusedSimpArgs false
theorem num3_range (a b c : UInt8) : 0 ≤ num3 a b c ∧ num3 a b c < 16777216 := by
  have ha := a.toNat_lt; have hb := b.toNat_lt; have hc := c.toNat_lt
  unfold num3; omega
theorem bytes3_num3 (a b c : UInt8) : bytes3 (num3 a b c) = [a, b, c] := by
  have ha := a.toNat_lt; have hb := b.toNat_lt; have hc := c.toNat_lt
  unfold bytes3
  rw [byteOf_eq (c := a) (by unfold num3; omega), byteOf_eq (c := b) (by unfold num3; omega), byteOf_eq (c := c) (by unfold num3; omega)]
theorem decQ_full {last : Bool} {c0 c1 c2 c3 : UInt8} (h0 : 0 ≤ idxB c0) (h1 : 0 ≤ idxB c1) (h2 : 0 ≤ idxB c2) (h3 : 0 ≤ idxB c3) : decQ last c0 c1 c2 c3 = .ok (bytes3 (num4 (idxB c0) (idxB c1) (idxB c2) (idxB c3))) := by
  have n2 : c3 ≠ 61 := by intro e; rw [e, idx61] at h3; omega
  unfold decQ
  rw [if_neg (by omega), if_neg (by omega), if_neg (by simp [n2]), if_neg (by omega), if_neg (by simp [n2]), if_neg (by omega)]
theorem quad_dec (a b c : UInt8) (last : Bool) : ∃ c0 c1 c2 c3, quadL (num3 a b c) = [c0, c1, c2, c3] ∧ decQ last c0 c1 c2 c3 = .ok [a, b, c] := by
  have hr := num3_range a b c
  refine ⟨_, _, _, _, rfl, ?_⟩
  have i0 := idxB_letter (num3 a b c / 262144 % 64) (by omega) (by omega)
  have i1 := idxB_letter (num3 a b c / 4096 % 64) (by omega) (by omega)
  have i2 := idxB_letter (num3 a b c / 64 % 64) (by omega) (by omega)
  have i3 := idxB_letter (num3 a b c % 64) (by omega) (by omega)
  rw [decQ_full (by rw [i0]; omega) (by rw [i1]; omega) (by rw [i2]; omega) (by rw [i3]; omega), i0, i1, i2, i3, ← bytes3_num3 a b c]
  congr 2
  unfold num4; omega
theorem b64_back : ∀ l : List UInt8, b64D (b64E l) = .ok l
  | [] => rfl
  | [a] => by
    have ha := a.toNat_lt
    have hn : num3 a 0 0 = (a.toNat : Int) * 65536 := by unfold num3; simp; omega
    have i0 := idxB_letter (num3 a 0 0 / 262144 % 64) (by omega) (by omega)
    have i1 := idxB_letter (num3 a 0 0 / 4096 % 64) (by omega) (by omega)
    have hq : num4 (num3 a 0 0 / 262144 % 64) (num3 a 0 0 / 4096 % 64) 0 0 = (a.toNat : Int) * 65536 := by unfold num4; omega
    rw [encL_1]
    show b64D [_, _, 61, 61] = _
    rw [decL_cons]
    have : decQ true (byteOf (letB (num3 a 0 0 / 262144 % 64))) (byteOf (letB (num3 a 0 0 / 4096 % 64))) 61 61 = .ok [a] := by
      unfold decQ
      rw [if_neg (by rw [i0]; omega), if_neg (by rw [i1]; omega), if_pos ⟨rfl, rfl, rfl⟩, i0, i1, hq, if_pos (by omega)]
      unfold bytes3
      rw [byteOf_eq (c := a) (by omega)]; rfl
    simp only [List.isEmpty_nil]
    rw [this]; rfl
  | [a, b] => by
    have ha := a.toNat_lt
    have hb := b.toNat_lt
    have hn : num3 a b 0 = (a.toNat : Int) * 65536 + (b.toNat : Int) * 256 := by unfold num3; simp; omega
    have i0 := idxB_letter (num3 a b 0 / 262144 % 64) (by omega) (by omega)
    have i1 := idxB_letter (num3 a b 0 / 4096 % 64) (by omega) (by omega)
    have i2 := idxB_letter (num3 a b 0 / 64 % 64) (by omega) (by omega)
    have n2 := letB_ne (num3 a b 0 / 64 % 64) (by omega) (by omega)
    have hq : num4 (num3 a b 0 / 262144 % 64) (num3 a b 0 / 4096 % 64) (num3 a b 0 / 64 % 64) 0 = (a.toNat : Int) * 65536 + (b.toNat : Int) * 256 := by unfold num4; omega
    rw [encL_2]
    show b64D [_, _, _, 61] = _
    rw [decL_cons]
    have : decQ true (byteOf (letB (num3 a b 0 / 262144 % 64))) (byteOf (letB (num3 a b 0 / 4096 % 64))) (byteOf (letB (num3 a b 0 / 64 % 64))) 61 = .ok [a, b] := by
      unfold decQ
      rw [if_neg (by rw [i0]; omega), if_neg (by rw [i1]; omega), if_neg (by simp [n2]), if_neg (by rw [i2]; omega), if_pos ⟨rfl, rfl⟩, i0, i1, i2, hq, if_pos (by omega)]
      unfold bytes3
      rw [byteOf_eq (c := a) (by omega), byteOf_eq (c := b) (by omega)]; rfl
    simp only [List.isEmpty_nil]
    rw [this]; rfl
  | a :: b :: c :: t => by
    rw [encL_3]
    obtain ⟨c0, c1, c2, c3, h, hd⟩ := quad_dec a b c (b64E t).isEmpty
    rw [h]
    show b64D (c0 :: c1 :: c2 :: c3 :: b64E t) = _
    rw [decL_cons, hd, b64_back t]; rfl
theorem idx_back {c : UInt8} {k : Int} (h : idxB c = k) (hk : 0 ≤ k) : byteOf (letB k) = c ∧ k < 64 := by
  rcases idxB_cases c with h' | ⟨_, h2, h3, _⟩
  · omega
  · rw [h] at h2 h3; exact ⟨h3, h2⟩
theorem decQ_cases {last : Bool} {c0 c1 c2 c3 : UInt8} {bs : List UInt8} (h : decQ last c0 c1 c2 c3 = .ok bs) :
    (last = true ∧ ∃ a, bs = [a] ∧ b64E [a] = [c0, c1, c2, c3]) ∨ (last = true ∧ ∃ a b, bs = [a, b] ∧ b64E [a, b] = [c0, c1, c2, c3]) ∨ ∃ a b c, bs = [a, b, c] ∧ quadL (num3 a b c) = [c0, c1, c2, c3] := by
  unfold decQ at h
  split at h
  · cases h
  rename_i h0
  split at h
  · cases h
  rename_i h1
  obtain ⟨b0, l0⟩ := idx_back (c := c0) rfl (by omega)
  obtain ⟨b1, l1⟩ := idx_back (c := c1) rfl (by omega)
  generalize hi : idxB c0 = i at *
  generalize hj : idxB c1 = j at *
  split at h
  · rename_i hp
    split at h
    · rename_i hz
      cases h
      obtain ⟨hl, rfl, rfl⟩ := hp
      refine .inl ⟨hl, byteOf (num4 i j 0 0 / 65536), rfl, ?_⟩
      have e := byteOf_toNat (n := num4 i j 0 0 / 65536) (by unfold num4; omega) (by unfold num4; omega)
      have e2 : num3 (byteOf (num4 i j 0 0 / 65536)) 0 0 = num4 i j 0 0 := by
        unfold num3; rw [e]; simp; omega
      rw [encL_1, e2]
      have q0 : num4 i j 0 0 / 262144 % 64 = i := by unfold num4; omega
      have q1 : num4 i j 0 0 / 4096 % 64 = j := by unfold num4; omega
      unfold quadL
      rw [q0, q1, b0, b1]; rfl
    · cases h
  · split at h
    · cases h
    rename_i h2
    obtain ⟨b2, l2⟩ := idx_back (c := c2) rfl (by omega)
    generalize hk : idxB c2 = k at *
    split at h
    · rename_i hp
      split at h
      · rename_i hz
        cases h
        obtain ⟨hl, rfl⟩ := hp
        refine .inr (.inl ⟨hl, byteOf (num4 i j k 0 / 65536), byteOf (num4 i j k 0 / 256 % 256), rfl, ?_⟩)
        have e := byteOf_toNat (n := num4 i j k 0 / 65536) (by unfold num4; omega) (by unfold num4; omega)
        have e' := byteOf_toNat (n := num4 i j k 0 / 256 % 256) (by omega) (by omega)
        have e2 : num3 (byteOf (num4 i j k 0 / 65536)) (byteOf (num4 i j k 0 / 256 % 256)) 0 = num4 i j k 0 := by
          unfold num3; rw [e, e']; simp; omega
        rw [encL_2, e2]
        have q0 : num4 i j k 0 / 262144 % 64 = i := by unfold num4; omega
        have q1 : num4 i j k 0 / 4096 % 64 = j := by unfold num4; omega
        have q2 : num4 i j k 0 / 64 % 64 = k := by unfold num4; omega
        unfold quadL
        rw [q0, q1, q2, b0, b1, b2]; rfl
      · cases h
    · split at h
      · cases h
      rename_i h3
      obtain ⟨b3, l3⟩ := idx_back (c := c3) rfl (by omega)
      generalize hm : idxB c3 = m at *
      cases h
      refine .inr (.inr ⟨_, _, _, rfl, ?_⟩)
      have e := byteOf_toNat (n := num4 i j k m / 65536) (by unfold num4; omega) (by unfold num4; omega)
      have e' := byteOf_toNat (n := num4 i j k m / 256 % 256) (by omega) (by omega)
      have e'' := byteOf_toNat (n := num4 i j k m % 256) (by omega) (by omega)
      have e2 : num3 (byteOf (num4 i j k m / 65536)) (byteOf (num4 i j k m / 256 % 256)) (byteOf (num4 i j k m % 256)) = num4 i j k m := by
        unfold num3; rw [e, e', e'']; omega
      rw [e2]
      have q0 : num4 i j k m / 262144 % 64 = i := by unfold num4; omega
      have q1 : num4 i j k m / 4096 % 64 = j := by unfold num4; omega
      have q2 : num4 i j k m / 64 % 64 = k := by unfold num4; omega
      have q3 : num4 i j k m % 64 = m := by unfold num4; omega
      unfold quadL
      rw [q0, q1, q2, q3, b0, b1, b2, b3]
theorem enc_dec : ∀ (r b : List UInt8), r.length % 4 = 0 → b64D r = .ok b → b64E b = r
  | c0 :: c1 :: c2 :: c3 :: t, b, hl, h => by
    rw [decL_cons] at h
    cases hq : decQ t.isEmpty c0 c1 c2 c3 with
    | error p => rw [hq] at h; cases h
    | ok bs =>
      rw [hq] at h
      cases ht : b64D t with
      | error p => rw [ht] at h; cases h
      | ok cs =>
        rw [ht] at h
        have hb : b = bs ++ cs := by cases h; rfl
        rcases decQ_cases hq with ⟨hl, a, rfl, he⟩ | ⟨hl, a, a', rfl, he⟩ | ⟨a, a', a'', rfl, he⟩
        · have : t = [] := by simpa using hl
          subst this
          cases ht
          rw [hb]; exact he
        · have : t = [] := by simpa using hl
          subst this
          cases ht
          rw [hb]; exact he
        · have ih := enc_dec t cs (by simp at hl; omega) ht
          rw [hb]
          show b64E (a :: a' :: a'' :: cs) = _
          rw [encL_3, he, ih]; rfl
  | [], b, _, h => by cases h; rfl
  | [_], _, hl, _ => by simp at hl
  | [_, _], _, hl, _ => by simp at hl
  | [_, _, _], _, hl, _ => by simp at hl
theorem decode_ok (l bs : List UInt8) (w : World) (hl : l.length ≤ 1099511627776) (hm : l.length % 4 = 0) (h : b64D l = .ok bs) : Gives 78 #[.string (S l)] w (.tuple #[.string (S bs), .nilIface]) := by
  refine Calls.mono (b64decode_any l w hl) ?_
  rintro e w' ⟨v, rfl, hq, hg⟩
  unfold DecPost at hq
  rw [if_neg (by omega), h] at hq
  exact ⟨by rw [hq], hg⟩
theorem decode_bad (l : List UInt8) (c : Int) (p : Nat) (w : World) (hl : l.length ≤ 1099511627776) (h : if l.length % 4 ≠ 0 then c = 7 ∧ p = l.length else c = 3 ∧ b64D l = .error p) : Makes 78 #[.string (S l)] w (fun v w' => ∃ b, v = .tuple #[.string (S []), .iface 78 (.pointer (some ⟨b, 0, none⟩))] ∧ w'.cell? ⟨b, 0, none⟩ = some (.int .i64 c) ∧ w'.cell? ⟨b, 1, none⟩ = some (.int .i64 p) ∧ b < w'.heap.size) := by
  refine (b64decode_any l w hl).mono ?_
  intro v w' _ hq
  unfold DecPost at hq
  split at h
  · rename_i hm
    rw [if_pos hm] at hq
    obtain ⟨rfl, rfl⟩ := h
    obtain ⟨e, rfl, b, rfl, h1, h2, h3⟩ := hq
    exact ⟨b, rfl, h1, h2, h3⟩
  · rename_i hm
    obtain ⟨rfl, h⟩ := h
    rw [if_neg hm, h] at hq
    obtain ⟨e, rfl, b, rfl, h1, h2, h3⟩ := hq
    exact ⟨b, rfl, h1, h2, h3⟩
theorem decL_err_le : ∀ (l : List UInt8) (p : Nat), b64D l = .error p → p ≤ l.length
  | c0 :: c1 :: c2 :: c3 :: t, p => by
    intro h
    rw [decL_cons] at h
    have hq : ∀ q, decQ t.isEmpty c0 c1 c2 c3 = .error q → q ≤ 3 := by
      intro q hq
      unfold decQ at hq
      split at hq
      · cases hq; omega
      · split at hq
        · cases hq; omega
        · split at hq
          · split at hq <;> cases hq <;> omega
          · split at hq
            · cases hq; omega
            · split at hq
              · split at hq <;> cases hq <;> omega
              · split at hq <;> cases hq <;> omega
    cases hd : decQ t.isEmpty c0 c1 c2 c3 with
    | error q => rw [hd] at h; cases h; have := hq _ hd; simp; omega
    | ok bs =>
      rw [hd] at h
      cases ht : b64D t with
      | ok _ => rw [ht] at h; cases h
      | error q => rw [ht] at h; cases h; have := decL_err_le t q ht; simp; omega
  | [], p => by intro h; cases h
  | [_], p => by intro h; simp [b64D] at h
  | [_, _], p => by intro h; simp [b64D] at h
  | [_, _, _], p => by intro h; simp [b64D] at h
theorem decode_err (l : List UInt8) (p : Nat) (w : World) (hl : l.length ≤ 1099511627776) (hm : l.length % 4 = 0) (h : b64D l = .error p) : Makes 78 #[.string (S l)] w (fun v w' => ∃ e, v = .tuple #[.string (S []), e] ∧ IsAt w' e 3 p) := by
  refine (b64decode_any l w hl).mono ?_
  intro v w' _ hq
  unfold DecPost at hq
  rw [if_neg (by omega), h] at hq
  exact hq
end Go.Proofs.YtfadckackdmbnaaGreatDoor

namespace Go.Proofs.YtfadckackdmbnaaGreatDoor
open Go.ChangeShapes Go.WideShapes Go.RowKit
set_option linter.unusedVariables false
set_option maxRecDepth 100000 in
set_option maxHeartbeats 1000000 in
theorem rmixed_parts {W : World} (h : laidMetH Tryz.prog [("math/bits.deBruijn32tab", Rows.laid_math_bits_deBruijn32tab), ("math/bits.deBruijn64tab", Rows.laid_math_bits_deBruijn64tab), ("internal/strconv.uint64pow10", Rows.laid_internal_strconv_uint64pow10), ("unicode/utf8.acceptRanges", Rows.laid_unicode_utf8_acceptRanges), ("errors.errorType", Rows.laid_errors_errorType), ("strconv.ErrRange", Rows.laid_strconv_ErrRange), ("strconv.ErrSyntax", Rows.laid_strconv_ErrSyntax), ("unicode.White_Space", Rows.laid_unicode_White_Space), ("strings.asciiSpace", Rows.laid_strings_asciiSpace), ("unicode/utf8.first", Rows.laid_unicode_utf8_first)] W) (hs : W.ShapedOpen Tryz.prog) : RMem W ∧ LaidE W := by
  have h' : laidMet Tryz.prog [("math/bits.deBruijn32tab", Rows.laid_math_bits_deBruijn32tab), ("math/bits.deBruijn64tab", Rows.laid_math_bits_deBruijn64tab), ("internal/strconv.uint64pow10", Rows.laid_internal_strconv_uint64pow10), ("unicode/utf8.acceptRanges", Rows.laid_unicode_utf8_acceptRanges), ("strconv.ErrRange", Rows.laid_strconv_ErrRange), ("strconv.ErrSyntax", Rows.laid_strconv_ErrSyntax), ("unicode.White_Space", Rows.laid_unicode_White_Space), ("strings.asciiSpace", Rows.laid_strings_asciiSpace), ("unicode/utf8.first", Rows.laid_unicode_utf8_first)] W ∧ handlesMet Tryz.prog [("errors.errorType", Rows.laid_errors_errorType)] W := h
  exact ⟨rmem_of h'.1 hs (by repeat (first | exact List.Mem.head _ | apply List.Mem.tail)) (by repeat (first | exact List.Mem.head _ | apply List.Mem.tail)) (by repeat (first | exact List.Mem.head _ | apply List.Mem.tail)) (by repeat (first | exact List.Mem.head _ | apply List.Mem.tail)), laidE_of_handles h'.2⟩
end Go.Proofs.YtfadckackdmbnaaGreatDoor

namespace Go.Proofs.YtfadckackdmbnaaGreatDoor
open Go.RowKit
set_option linter.unusedVariables false
set_option linter.unusedSimpArgs false
set_option maxRecDepth 100000 in
set_option maxHeartbeats 4000000 in
theorem sameValue_any (x : Vl) (a b : Option Addr) (ca cb : Nat) (w : World) (ha : IsLists w (.slice a x.ps.length ca) x.ps) (hb : IsLists w (.slice b x.ps.length cb) x.ps) (hs : sumP x.ps ≤ 1000000) : Gives 64 #[x.v (.slice a x.ps.length ca), x.v (.slice b x.ps.length cb)] w (.bool true) := by
  obtain ⟨ty, tx, ps, ⟨y, m, d, h, nn, s, zd, zn⟩, n⟩ := x
  simp only at ha hb hs
  have HA := hid ha
  have HB := hid hb
  have HS := hid hs
  clear ha hb hs
  simp only [Vl.v]
  go_enter Tryz.func64, Tryz.ntmps64
  go_wp2_with fail
  have g0 : G w ((w.alloc (.cells #[.int .i64 ty, .string (S tx), .slice a ps.length ca, .int .i64 y, .int .i64 m, .int .i64 d, .int .i64 h, .int .i64 nn, .int .i64 s, .bool zd, .int .i64 zn, .int .i64 n] 34)).alloc (.cells #[.int .i64 ty, .string (S tx), .slice b ps.length cb, .int .i64 y, .int .i64 m, .int .i64 d, .int .i64 h, .int .i64 nn, .int .i64 s, .bool zd, .int .i64 zn, .int .i64 n] 34)) := ((G.refl w).alloc _).alloc _
  have G0 := hid g0
  clear g0
  refine (sameLists_any (HA.out.grow G0.out) (HB.out.grow G0.out) HS.out HS.out).use ?_
  intro w3 g3
  rw [show decide (ps = ps) = true from decide_eq_true rfl]
  have ra : Hid (w3.heap[w.heap.size]? = some (.cells #[.int .i64 ty, .string (S tx), .slice a ps.length ca, .int .i64 y, .int .i64 m, .int .i64 d, .int .i64 h, .int .i64 nn, .int .i64 s, .bool zd, .int .i64 zn, .int .i64 n] 34 (0, 0))) := hid (by rw [g3.below.block w.heap.size (by simp; omega), Lib.alloc_old _ _ _ (by simp)]; exact heap_alloc_new w _)
  have rb : Hid (w3.heap[w.heap.size + 1]? = some (.cells #[.int .i64 ty, .string (S tx), .slice b ps.length cb, .int .i64 y, .int .i64 m, .int .i64 d, .int .i64 h, .int .i64 nn, .int .i64 s, .bool zd, .int .i64 zn, .int .i64 n] 34 (0, 0))) := hid (by rw [g3.below.block (w.heap.size + 1) (by simp)]; have := heap_alloc_new (w.alloc (.cells #[.int .i64 ty, .string (S tx), .slice a ps.length ca, .int .i64 y, .int .i64 m, .int .i64 d, .int .i64 h, .int .i64 nn, .int .i64 s, .bool zd, .int .i64 zn, .int .i64 n] 34)) (.cells #[.int .i64 ty, .string (S tx), .slice b ps.length cb, .int .i64 y, .int .i64 m, .int .i64 d, .int .i64 h, .int .i64 nn, .int .i64 s, .bool zd, .int .i64 zn, .int .i64 n] 34); simpa using this)
  have G3 : Hid (G w w3) := hid (G0.out.trans g3)
  clear g3
  have d0 : w3.cell? ⟨w.heap.size, 0, none⟩ = some (.int .i64 ty) := by rw [cell_of_row w3 w.heap.size 0 _ _ _ ra.out]; rfl
  have d1 : w3.cell? ⟨w.heap.size, 1, none⟩ = some (.string (S tx)) := by rw [cell_of_row w3 w.heap.size 1 _ _ _ ra.out]; rfl
  have d2 : w3.cell? ⟨w.heap.size, 2, none⟩ = some (.slice a ps.length ca) := by rw [cell_of_row w3 w.heap.size 2 _ _ _ ra.out]; rfl
  have d3 : w3.cell? ⟨w.heap.size, 3, none⟩ = some (.int .i64 y) := by rw [cell_of_row w3 w.heap.size 3 _ _ _ ra.out]; rfl
  have d4 : w3.cell? ⟨w.heap.size, 4, none⟩ = some (.int .i64 m) := by rw [cell_of_row w3 w.heap.size 4 _ _ _ ra.out]; rfl
  have d5 : w3.cell? ⟨w.heap.size, 5, none⟩ = some (.int .i64 d) := by rw [cell_of_row w3 w.heap.size 5 _ _ _ ra.out]; rfl
  have d6 : w3.cell? ⟨w.heap.size, 6, none⟩ = some (.int .i64 h) := by rw [cell_of_row w3 w.heap.size 6 _ _ _ ra.out]; rfl
  have d7 : w3.cell? ⟨w.heap.size, 7, none⟩ = some (.int .i64 nn) := by rw [cell_of_row w3 w.heap.size 7 _ _ _ ra.out]; rfl
  have d8 : w3.cell? ⟨w.heap.size, 8, none⟩ = some (.int .i64 s) := by rw [cell_of_row w3 w.heap.size 8 _ _ _ ra.out]; rfl
  have d9 : w3.cell? ⟨w.heap.size, 9, none⟩ = some (.bool zd) := by rw [cell_of_row w3 w.heap.size 9 _ _ _ ra.out]; rfl
  have d10 : w3.cell? ⟨w.heap.size, 10, none⟩ = some (.int .i64 zn) := by rw [cell_of_row w3 w.heap.size 10 _ _ _ ra.out]; rfl
  have d11 : w3.cell? ⟨w.heap.size, 11, none⟩ = some (.int .i64 n) := by rw [cell_of_row w3 w.heap.size 11 _ _ _ ra.out]; rfl
  have e0 : w3.cell? ⟨w.heap.size + 1, 0, none⟩ = some (.int .i64 ty) := by rw [cell_of_row w3 (w.heap.size + 1) 0 _ _ _ rb.out]; rfl
  have e1 : w3.cell? ⟨w.heap.size + 1, 1, none⟩ = some (.string (S tx)) := by rw [cell_of_row w3 (w.heap.size + 1) 1 _ _ _ rb.out]; rfl
  have e2 : w3.cell? ⟨w.heap.size + 1, 2, none⟩ = some (.slice b ps.length cb) := by rw [cell_of_row w3 (w.heap.size + 1) 2 _ _ _ rb.out]; rfl
  have e3 : w3.cell? ⟨w.heap.size + 1, 3, none⟩ = some (.int .i64 y) := by rw [cell_of_row w3 (w.heap.size + 1) 3 _ _ _ rb.out]; rfl
  have e4 : w3.cell? ⟨w.heap.size + 1, 4, none⟩ = some (.int .i64 m) := by rw [cell_of_row w3 (w.heap.size + 1) 4 _ _ _ rb.out]; rfl
  have e5 : w3.cell? ⟨w.heap.size + 1, 5, none⟩ = some (.int .i64 d) := by rw [cell_of_row w3 (w.heap.size + 1) 5 _ _ _ rb.out]; rfl
  have e6 : w3.cell? ⟨w.heap.size + 1, 6, none⟩ = some (.int .i64 h) := by rw [cell_of_row w3 (w.heap.size + 1) 6 _ _ _ rb.out]; rfl
  have e7 : w3.cell? ⟨w.heap.size + 1, 7, none⟩ = some (.int .i64 nn) := by rw [cell_of_row w3 (w.heap.size + 1) 7 _ _ _ rb.out]; rfl
  have e8 : w3.cell? ⟨w.heap.size + 1, 8, none⟩ = some (.int .i64 s) := by rw [cell_of_row w3 (w.heap.size + 1) 8 _ _ _ rb.out]; rfl
  have e9 : w3.cell? ⟨w.heap.size + 1, 9, none⟩ = some (.bool zd) := by rw [cell_of_row w3 (w.heap.size + 1) 9 _ _ _ rb.out]; rfl
  have e10 : w3.cell? ⟨w.heap.size + 1, 10, none⟩ = some (.int .i64 zn) := by rw [cell_of_row w3 (w.heap.size + 1) 10 _ _ _ rb.out]; rfl
  have e11 : w3.cell? ⟨w.heap.size + 1, 11, none⟩ = some (.int .i64 n) := by rw [cell_of_row w3 (w.heap.size + 1) 11 _ _ _ rb.out]; rfl
  go_wp2_with fail
  go_ret
  exact ⟨ret_bool (by simp), by repeat (first | exact G3.out | apply G.drew)⟩
end Go.Proofs.YtfadckackdmbnaaGreatDoor
