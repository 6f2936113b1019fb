/-
  The walks of the laws B64Back, B64Joins and B64Cut: for all texts and numbers they return true, in every world that holds errors.errorType.
-/
import Derived.Test.YtaiehmahgejhdaaDoorB64Laws
import Derived.Test.YtaiehmahgejhdaaDoorStrs
import Derived.Test.YtaiehmahgejhdaaDoorPick
import Derived.Test.YtaiehmahgejhdaaDoorTell
namespace Go.Proofs.YtaiehmahgejhdaaDoor
open Go.RowKit
set_option linter.unusedVariables false
set_option linter.unusedSimpArgs false

theorem dec_TWF : decL [84, 87, 70, 61] = .error 2 := by
  have i0 : idxB 84 = 19 := by decide +kernel
  have i1 : idxB 87 = 22 := by decide +kernel
  have i2 : idxB 70 = 5 := by decide +kernel
  rw [decL_cons]
  have : decQ true 84 87 70 61 = .error 2 := by
    unfold decQ
    rw [i0, i1, i2, if_neg (by decide), if_neg (by decide), if_neg (by decide), if_neg (by decide), if_pos ⟨rfl, rfl⟩, if_neg (by decide)]
  simp only [List.isEmpty_nil]
  rw [this]
theorem encode_to (l t : List UInt8) (w : World) (hl : l.length ≤ 1099511627776) (h : encL l = t) : Gives 21 #[.string (S l)] w (.string (S t)) := by
  subst h; exact encode_any l w hl
set_option maxRecDepth 100000 in
set_option maxHeartbeats 1000000 in
theorem based_any (w : World) (hE : LaidE w) : Gives 20 #[] w (.bool true) := by
  go_enter Tryd.func20, Tryd.ntmps20
  go_wp2_with fail
  refine (decode_ok [84, 87, 69, 61] [77, 97] _ (by simp) rfl (by have := dec_enc [77, 97]; rwa [show encL [77, 97] = [84, 87, 69, 61] by decide +kernel] at this)).use ?_; intro w1 g1
  go_wp2_with fail
  refine (decode_err [84, 87, 70, 61] 2 _ (by simp) rfl dec_TWF).use ?_
  rintro v w2 ⟨e, rfl, he⟩ g2
  have HE := hid he
  clear he
  go_wp2_with fail
  refine (tell_at 3 _ e _ (hE.grow (by repeat (first | exact G.refl _ | assumption | apply G.drew | apply G.alloc | refine G.trans ?_ (by assumption)))) HE.out).use ?_; intro w3 g3
  go_wp2_with fail
  refine (encode_to [77, 97, 110] [84, 87, 70, 117] _ (by simp) (by decide +kernel)).use ?_; intro w4 g4
  go_wp2_with fail
  go_ret
  exact ⟨rfl, (by repeat (first | exact G.refl _ | assumption | apply G.drew | apply G.alloc | refine G.trans ?_ (by assumption)))⟩

set_option maxRecDepth 100000 in
set_option maxHeartbeats 1000000 in
theorem b64Back_walk (s t : List UInt8) (w : World) (zs : s.length ≤ 140737488351232) (zt : t.length ≤ 140737488351232) (hE : LaidE w) : Gives 5 #[.string (S s), .string (S t)] w (.bool true) := by
  by_cases hl : s.length + t.length ≤ 500
  case neg =>
    go_enter Tryd.func5, Tryd.ntmps5
    go_wp2_with fail
    refine (based_any _ hE).use ?_; intro w1 g1
    go_wp2_with fail
    go_ret
    exact ⟨rfl, (by repeat (first | exact G.refl _ | assumption | apply G.drew | apply G.alloc | refine G.trans ?_ (by assumption)))⟩
  obtain ⟨x, hx⟩ : ∃ x, encL s = x := ⟨_, rfl⟩
  have hlen := encL_length s
  have hd := dec_enc s
  rw [hx] at hlen hd
  have HX := hid hx
  have HD := hid hd
  have HL : Hid (x.length % 4 = 0) := hid (by omega)
  have hlen2 : (x.length : Int) = ((s.length : Int) + 2) / 3 * 4 := by omega
  clear hx hd
  go_enter Tryd.func5, Tryd.ntmps5
  go_wp2_with fail
  refine (based_any _ hE).use ?_; intro w1 g1
  go_wp2_with fail
  refine (encode_to s x _ (by omega) HX.out).use ?_; intro w2 g2
  go_wp2_with fail
  refine (decode_ok x s _ (by omega) HL.out HD.out).use ?_; intro w3 g3
  go_wp2_with fail
  refine (decode_any2 t _ (by omega)).use ?_
  rintro v w4 hv g4
  rcases hv with ⟨b, hb, rfl⟩ | ⟨a, rfl⟩
  · have hbl := encL_length b
    rw [hb] at hbl
    have HB := hid hb
    clear hb
    go_wp2_with fail
    refine (encode_to b t _ (by omega) HB.out).use ?_; intro w5 g5
    go_wp2_with fail
    go_ret
    exact ⟨ret_bool (by simp), (by repeat (first | exact G.refl _ | assumption | apply G.drew | apply G.alloc | refine G.trans ?_ (by assumption)))⟩
  · go_wp2_with fail
    go_ret
    exact ⟨rfl, (by repeat (first | exact G.refl _ | assumption | apply G.drew | apply G.alloc | refine G.trans ?_ (by assumption)))⟩

set_option maxRecDepth 100000 in
set_option maxHeartbeats 1000000 in
theorem b64Joins_walk (a b : List UInt8) (w : World) (za : a.length ≤ 140737488351232) (zb : b.length ≤ 140737488351232) (hE : LaidE w) : Gives 6 #[.string (S a), .string (S b)] w (.bool true) := by
  by_cases hl : a.length + b.length ≤ 400
  case neg =>
    go_enter Tryd.func6, Tryd.ntmps6
    go_wp2_with fail
    refine (based_any _ hE).use ?_; intro w1 g1
    go_wp2_with fail
    go_ret
    exact ⟨rfl, (by repeat (first | exact G.refl _ | assumption | apply G.drew | apply G.alloc | refine G.trans ?_ (by assumption)))⟩
  have hk : ((a.length : Int) / 3 * 3) = ((a.length / 3 * 3 : Nat) : Int) := by omega
  have hk2 : a.length / 3 * 3 ≤ a.length := by omega
  have hcl : (a.take (a.length / 3 * 3)).length = a.length / 3 * 3 := by simp; omega
  have hj := enc_append (a.take (a.length / 3 * 3)) b (by rw [hcl]; omega)
  obtain ⟨c, hc⟩ : ∃ c, a.take (a.length / 3 * 3) = c := ⟨_, rfl⟩
  rw [hc] at hj hcl
  obtain ⟨x, hx⟩ : ∃ x, encL c = x := ⟨_, rfl⟩
  obtain ⟨y, hy⟩ : ∃ y, encL b = y := ⟨_, rfl⟩
  have hla := encL_length c
  have hlb := encL_length b
  rw [hx] at hla
  rw [hy] at hlb
  rw [hx, hy] at hj
  have HJ := hid hj
  have HX := hid hx
  have HY := hid hy
  clear hj hx hy
  have hxl : x.length ≤ 1000 := by omega
  have hyl : y.length ≤ 1000 := by omega
  clear hla hlb
  generalize a.length / 3 * 3 = k at *
  go_enter Tryd.func6, Tryd.ntmps6
  go_wp2_with fail
  refine (based_any _ hE).use ?_; intro w1 g1
  go_wp2_with fail
  refine (encode_to (c ++ b) (x ++ y) _ (by simp; omega) HJ.out).use ?_; intro w2 g2
  go_wp2_with fail
  refine (encode_to c x _ (by omega) HX.out).use ?_; intro w3 g3
  go_wp2_with fail
  refine (encode_to b y _ (by omega) HY.out).use ?_; intro w4 g4
  go_wp2_with fail
  go_ret
  exact ⟨ret_bool (by simp), (by repeat (first | exact G.refl _ | assumption | apply G.drew | apply G.alloc | refine G.trans ?_ (by assumption)))⟩

set_option maxRecDepth 100000 in
set_option maxHeartbeats 1000000 in
theorem b64Cut_walk (s : List UInt8) (n : Int) (w : World) (zs : s.length ≤ 140737488351232) (zn : -9223372036854775808 ≤ n ∧ n ≤ 9223372036854775807) (hE : LaidE w) : Gives 7 #[.string (S s), .int .i64 n] w (.bool true) := by
  by_cases hl : s.length ≤ 300
  case neg =>
    go_enter Tryd.func7, Tryd.ntmps7
    go_wp2_with fail
    refine (based_any _ hE).use ?_; intro w1 g1
    go_wp2_with fail
    go_ret
    exact ⟨rfl, (by repeat (first | exact G.refl _ | assumption | apply G.drew | apply G.alloc | refine G.trans ?_ (by assumption)))⟩
  obtain ⟨t, ht⟩ : ∃ t, encL s = t := ⟨_, rfl⟩
  have hlen := encL_length s
  have hdc := dec_cut s
  rw [ht] at hlen hdc
  have HT := hid ht
  clear ht
  have hq : ((t.length : Int) / 4 + 1) = ((t.length / 4 + 1 : Nat) : Int) := by omega
  have hk : (pickV n ((t.length : Int) / 4 + 1) : Int) < (t.length : Int) / 4 + 1 := pickV_lt n (by omega)
  have HP : Hid (∀ w, Pure 13 #[.int .i64 n, .int .i64 ((t.length : Int) / 4 + 1)] w (.int .i64 (pickV n ((t.length : Int) / 4 + 1)))) := hid fun w => pick_any n _ w (by omega) (by omega)
  generalize pickV n ((t.length : Int) / 4 + 1) = k at *
  have h4 : 4 * k ≤ t.length := by omega
  have hd := hdc k h4
  have h4i : (4 * (k : Int)) = ((4 * k : Nat) : Int) := by omega
  obtain ⟨x, hx⟩ : ∃ x, s.take (3 * k) = x := ⟨_, rfl⟩
  have hxl : x.length = min (3 * k) s.length := by rw [← hx]; simp
  have hpre : hasP s x = true := by unfold hasP; rw [← hx]; simp
  rw [hx] at hd
  have HD := hid hd
  have HPR := hid hpre
  have hcl : (t.take (4 * k)).length = 4 * k := by simp; omega
  obtain ⟨c, hc⟩ : ∃ c, t.take (4 * k) = c := ⟨_, rfl⟩
  have hd2 := HD.out
  rw [hc] at hd2 hcl
  have HD2 := hid hd2
  have HL : Hid (c.length % 4 = 0) := hid (by omega)
  clear hd hdc hpre hd2 HD hx
  have hcl2 : c.length ≤ 1000 := by omega
  clear hcl
  have HLEN := hid hlen
  have HXL := hid hxl
  have htl : t.length ≤ 404 := by omega
  have hxb : x.length ≤ 300 := by omega
  have hkb : k ≤ 101 := by omega
  have hx3 : (x.length : Int) ≤ 3 * (k : Int) := by omega
  have hq1 : ((4 * (k : Int)) == (t.length : Int)) = ((x.length : Int) == (s.length : Int)) := by
    rw [Bool.eq_iff_iff, beq_iff_eq, beq_iff_eq]; omega
  have HQ1 := hid hq1
  clear hq1
  clear hlen hxl h4i hq
  go_enter Tryd.func7, Tryd.ntmps7
  go_wp2_with fail
  refine (based_any _ hE).use ?_; intro w1 g1
  go_wp2_with fail
  refine (encode_to s t _ (by omega) HT.out).use ?_; intro w2 g2
  go_wp2_with fail
  refine (HP.out _).use ?_
  go_wp2_with fail
  refine (decode_ok c x _ (by omega) HL.out HD2.out).use ?_; intro w3 g3
  go_wp2_with fail
  refine (hasPrefix_any s x _).use ?_
  rw [HPR.out]
  go_wp2_with fail
  go_ret
  exact ⟨ret_bool (by rw [HQ1.out]; simp), (by repeat (first | exact G.refl _ | assumption | apply G.drew | apply G.alloc | refine G.trans ?_ (by assumption)))⟩

end Go.Proofs.YtaiehmahgejhdaaDoor
