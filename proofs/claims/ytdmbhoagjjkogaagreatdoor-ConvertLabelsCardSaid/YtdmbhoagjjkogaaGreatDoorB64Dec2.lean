/-
  CONTRACT of b64.Decode, for all texts of at most 2 to the 40 bytes.
-/
import Derived.Test.YtdmbhoagjjkogaaGreatDoorMA40
namespace Go.Proofs.YtdmbhoagjjkogaaGreatDoor
open Go.RowKit
set_option linter.unusedVariables false
set_option linter.unusedSimpArgs false
def DecPost (l : List UInt8) (v : Value) (w' : World) : Prop :=
  if l.length % 4 ≠ 0 then ∃ e, v = .tuple #[.string (S []), e] ∧ IsAt w' e 7 l.length
  else match b64D l with
    | .ok bs => v = .tuple #[.string (S bs), .nilIface]
    | .error p => ∃ e, v = .tuple #[.string (S []), e] ∧ IsAt w' e 3 p
theorem DecPost.odd {l : List UInt8} (h : l.length % 4 ≠ 0) {w' : World} {e : Value} (he : IsAt w' e 7 l.length) : DecPost l (.tuple #[.string (S []), e]) w' := by
  unfold DecPost; rw [if_pos h]; exact ⟨e, rfl, he⟩
theorem DecPost.good {l bs : List UInt8} (h : l.length % 4 = 0) (hd : b64D l = .ok bs) {w' : World} : DecPost l (.tuple #[.string (S bs), .nilIface]) w' := by
  unfold DecPost; rw [if_neg (by omega), hd]
theorem DecPost.bad {l : List UInt8} {p : Nat} (h : l.length % 4 = 0) (hd : b64D l = .error p) {w' : World} {e : Value} (he : IsAt w' e 3 p) : DecPost l (.tuple #[.string (S []), e]) w' := by
  unfold DecPost; rw [if_neg (by omega), hd]; exact ⟨e, rfl, he⟩
def joinD (pre : List UInt8) (k : Nat) : Except Nat (List UInt8) → Except Nat (List UInt8)
  | .ok bs => .ok (pre ++ bs)
  | .error p => .error (p + k)
theorem decL_cons (c0 c1 c2 c3 : UInt8) (t : List UInt8) : b64D (c0 :: c1 :: c2 :: c3 :: t) = match decQ t.isEmpty c0 c1 c2 c3 with
    | .error p => .error p
    | .ok bs => joinD bs 4 (b64D t) := by
  rw [b64D]
  cases decQ t.isEmpty c0 c1 c2 c3 with
  | error p => rfl
  | ok bs => cases b64D t <;> rfl
theorem dec_err {l outp rest : List UInt8} {k p : Nat} {c0 c1 c2 c3 : UInt8} {t : List UInt8} (h : b64D l = joinD outp k (b64D (c0 :: c1 :: c2 :: c3 :: t))) (hq : decQ t.isEmpty c0 c1 c2 c3 = .error p) : b64D l = .error (p + k) := by
  rw [h, decL_cons, hq]; rfl
theorem dec_ok {l outp : List UInt8} {k : Nat} {c0 c1 c2 c3 : UInt8} {t bs : List UInt8} (h : b64D l = joinD outp k (b64D (c0 :: c1 :: c2 :: c3 :: t))) (hq : decQ t.isEmpty c0 c1 c2 c3 = .ok bs) : b64D l = joinD (outp ++ bs) (k + 4) (b64D t) := by
  rw [h, decL_cons, hq]
  show joinD outp k (joinD bs 4 (b64D t)) = _
  cases b64D t with
  | error p => show Except.error _ = Except.error _; congr 1; omega
  | ok cs => show Except.ok _ = Except.ok _; rw [List.append_assoc]
theorem idx_to (c : UInt8) (k : Int) (h : idxB c = k) (w : World) : Pure 146 #[.string (S lettersL), .int .u8 (c.toNat : Int)] w (.int .i64 k) := by
  subst h; exact indexByte_any lettersL c w
theorem ne61 {c : UInt8} (h : c ≠ 61) : ((c.toNat : Int) == 61) = false := beq_eq_false_iff_ne.2 fun e => h (UInt8.toNat_inj.1 (by show c.toNat = 61; omega))
theorem eq61 {c : UInt8} (h : c = 61) : ((c.toNat : Int) == 61) = true := by subst h; rfl
theorem or0 {k : Int} (h0 : 0 ≤ k) (h1 : k < 64) : bits .or .i64 0 k = k := by
  have := i64_join 6 0 k (by omega) (by decide) (by omega) h0 (by omega) (by omega); omega
theorem or64 {n k : Int} (n0 : 0 ≤ n) (n1 : n < 16777216) (h0 : 0 ≤ k) (h1 : k < 64) : bits .or .i64 (n * 64) k = n * 64 + k :=
  i64_join 6 _ _ (by omega) (by simp) (by omega) h0 (by omega) (by omega)
structure At4 (l : List UInt8) (k : Nat) (c0 c1 c2 c3 : UInt8) (t : List UInt8) : Prop where
  len : l.length = k + 4 + t.length
  x0 : l[k]? = some c0
  x1 : l[k + 1]? = some c1
  x2 : l[k + 2]? = some c2
  x3 : l[k + 3]? = some c3
theorem At4.of {l : List UInt8} {k : Nat} {c0 c1 c2 c3 : UInt8} {t : List UInt8} (h : l.drop k = c0 :: c1 :: c2 :: c3 :: t) : At4 l k c0 c1 c2 c3 t := by
  have hl := congrArg List.length h
  simp only [List.length_drop, List.length_cons] at hl
  have g : ∀ j, (l.drop k)[j]? = l[k + j]? := fun j => List.getElem?_drop
  refine ⟨by omega, ?_, ?_, ?_, ?_⟩
  · have := g 0; rw [h] at this; simpa using this.symm
  · have := g 1; rw [h] at this; simpa using this.symm
  · have := g 2; rw [h] at this; simpa using this.symm
  · have := g 3; rw [h] at this; simpa using this.symm
theorem get_of {l : List UInt8} {j : Nat} {c : UInt8} (h : l[j]? = some c) (hj : j < l.length) : l[j] = c := by
  rw [List.getElem?_eq_getElem hj] at h; exact Option.some.inj h
set_option maxRecDepth 100000 in
set_option maxHeartbeats 4000000 in
theorem b64decode_any (l : List UInt8) (w : World) (hl : l.length ≤ 1099511627776) : Makes 112 #[.string (S l)] w (DecPost l) := by
  obtain ⟨i0, hi, hz0, hz1, hz2⟩ := info_parts infoByte
  by_cases hm : l.length % 4 = 0
  case neg =>
    have h1 : ((l.length : Int) % 4 != 0) = true := bne_iff_ne.2 (by omega)
    have HM := hid hm
    clear hm
    go_enter Tryz.func112, Tryz.ntmps112
    go_wp2
    go_ret2
    exact ⟨_, rfl, DecPost.odd HM.out (IsAt.new _ _ _ _), (G.refl w).alloc _⟩
  have h1 : ((l.length : Int) % 4 != 0) = false := by rw [bne_eq_false_iff_eq]; omega
  have HM := hid hm
  clear hm
  go_enter Tryz.func112, Tryz.ntmps112
  go_wp2
  go_loopw [4, 5] (fun v i wr => ∃ k : Nat, ∃ outp : List UInt8, k ≤ l.length ∧ i = .int .i64 k ∧ k % 4 = 0 ∧ b64D l = joinD outp k (b64D (l.drop k)) ∧ outp.length ≤ k ∧ wr.ownsRow w.heap.size 5 1 v outp.length (outp.map fun c => Value.int .u8 (c.toNat : Int)) ∧ G w wr) (fun _ i _ => l.length - (intOf i).toNat)
  case atStart => exact ⟨0, [], Nat.zero_le _, rfl, rfl, by simp; cases b64D l <;> rfl, by simp, World.ownsRow_nil _ _ _ _, G.refl _⟩
  case round =>
    obtain ⟨k, outp, hk, rfl, hk4, hd, hol, hown, hg⟩ := hrel
    have HD := hid hd
    clear hd
    by_cases hlt : k < l.length
    case neg =>
      have hc := conv_own hown
      go_wp2
      go_ret2
      refine ⟨_, rfl, DecPost.good HM.out ?_, hg⟩
      rw [HD.out, List.drop_eq_nil_of_le (by omega)]
      show joinD outp k (.ok []) = _
      simp [joinD]
    obtain ⟨c0, c1, c2, c3, t, hdr⟩ : ∃ c0 c1 c2 c3 t, l.drop k = c0 :: c1 :: c2 :: c3 :: t := by
      have hll := HM.out
      have hlen : (l.drop k).length = l.length - k := List.length_drop
      match hdr : l.drop k with
      | [] => rw [hdr] at hlen; simp at hlen; omega
      | [_] => rw [hdr] at hlen; simp at hlen; omega
      | [_, _] => rw [hdr] at hlen; simp at hlen; omega
      | [_, _, _] => rw [hdr] at hlen; simp at hlen; omega
      | c0 :: c1 :: c2 :: c3 :: t => exact ⟨c0, c1, c2, c3, t, rfl⟩
    have h4 := At4.of hdr
    have hd := HD.out
    rw [hdr] at hd
    have HD2 := hid hd
    have hlen := h4.len
    have hll : k + 4 + t.length = l.length := hlen.symm
    have lk1 : k + 1 < l.length := by omega
    have lk2 : k + 2 < l.length := by omega
    have lk3 : k + 3 < l.length := by omega
    have x0 := get_of h4.x0 hlt
    have x1 := get_of h4.x1 lk1
    have x2 := get_of h4.x2 lk2
    have x3 := get_of h4.x3 lk3
    have hdt : l.drop (k + 4) = t := by rw [← List.drop_drop, hdr]; rfl
    have HDT := hid hdt
    have b0 : c0.toNat < 256 := c0.toNat_lt
    have b1 : c1.toNat < 256 := c1.toNat_lt
    have b2 : c2.toNat < 256 := c2.toNat_lt
    have b3 : c3.toNat < 256 := c3.toNat_lt
    have hlast : ((k : Int) + 4 == (l.length : Int)) = t.isEmpty := by
      cases t with
      | nil => simp at hll ⊢; omega
      | cons a t => simp at hll ⊢; omega
    clear hd hlen h4 HD hdr hdt
    have llb : k + 4 ≤ l.length := by omega
    clear hll
    rcases idxB_cases c0 with i0c | ⟨p0, q0, -, r0⟩
    · have I0 := hid i0c
      have HQ : Hid (decQ t.isEmpty c0 c1 c2 c3 = .error 0) := hid (by unfold decQ; rw [if_pos (by omega)])
      cases h61 : ((c0.toNat : Int) == 61)
      all_goals cases hls : t.isEmpty
      all_goals rw [hls] at hlast
      all_goals clear i0c
      all_goals
        go_wp2_with fail
        refine wp_loop_rounds 5 ?_
        rw [rounds_succ]
        go_wp2_with fail
        refine (idx_to c0 (-1) I0.out _).use ?_
        go_wp2_with fail
        go_ret2
        exact ⟨_, rfl, DecPost.bad HM.out (dec_err (rest := []) HD2.out HQ.out) (by have := IsAt.new wr 72 3 (k); simpa [Int.add_comm] using this), hg.alloc _⟩
    have z0 := ne61 r0
    obtain ⟨K0, hK0⟩ : ∃ K0, K0 = idxB c0 := ⟨_, rfl⟩
    rw [← hK0] at p0 q0
    have I0 : Hid (idxB c0 = K0) := hid hK0.symm
    have e0 := or0 p0 q0
    clear hK0
    rcases idxB_cases c1 with i1c | ⟨p1, q1, -, r1⟩
    · have I1 := hid i1c
      have HQ : Hid (decQ t.isEmpty c0 c1 c2 c3 = .error 1) := hid (by unfold decQ; rw [if_neg (by rw [I0.out]; omega), if_pos (by omega)])
      cases h61 : ((c1.toNat : Int) == 61)
      all_goals cases hls : t.isEmpty
      all_goals rw [hls] at hlast
      all_goals clear i1c
      all_goals
        go_wp2_with fail
        refine wp_loop_rounds 5 ?_
        rw [rounds_succ]
        go_wp2_with fail
        refine (idx_to c0 K0 I0.out _).use ?_
        go_wp2_with fail
        rw [rounds_succ]
        go_wp2_with fail
        refine (idx_to c1 (-1) I1.out _).use ?_
        go_wp2_with fail
        go_ret2
        exact ⟨_, rfl, DecPost.bad HM.out (dec_err (rest := []) HD2.out HQ.out) (by have := IsAt.new wr 72 3 ((k : Int) + 1); simpa [Int.add_comm] using this), hg.alloc _⟩
    have z1 := ne61 r1
    obtain ⟨K1, hK1⟩ : ∃ K1, K1 = idxB c1 := ⟨_, rfl⟩
    rw [← hK1] at p1 q1
    have I1 : Hid (idxB c1 = K1) := hid hK1.symm
    have e1 := or64 (n := K0) p0 (by omega) p1 q1
    have n1a : 0 ≤ K0 * 64 + K1 := by omega
    have n1b : K0 * 64 + K1 < 4096 := by omega
    obtain ⟨N1, hN1⟩ : ∃ N1, N1 = K0 * 64 + K1 := ⟨_, rfl⟩
    rw [← hN1] at e1 n1a n1b
    have HN1 := hid hN1
    clear hK1 hN1
    by_cases hp2 : t.isEmpty = true ∧ c3 = 61 ∧ c2 = 61
    · obtain ⟨hls, hc3, hc2⟩ := hp2
      have z2 := eq61 hc2
      have z3 := eq61 hc3
      have I2 : Hid (idxB c2 = -1) := hid (by rw [hc2]; exact idx61)
      have I3 : Hid (idxB c3 = -1) := hid (by rw [hc3]; exact idx61)
      have hnum : num4 K0 K1 0 0 = N1 * 4096 := by unfold num4; rw [HN1.out]; omega
      have e2 := or64 (n := N1) (k := 0) n1a (by omega) (by omega) (by omega)
      have e3 := or64 (n := N1 * 64) (k := 0) (by omega) (by omega) (by omega) (by omega)
      rw [Int.add_zero] at e2 e3
      obtain ⟨N3, hN3⟩ : ∃ N3, N3 = N1 * 64 * 64 := ⟨_, rfl⟩
      have n3a : 0 ≤ N3 := by omega
      have n3b : N3 < 16777216 := by omega
      replace e3 : bits .or .i64 (N1 * 64 * 64) 0 = N3 := e3.trans hN3.symm
      have mm : (min 4 (min 2 3) : Int) = 2 := by decide
      have m3 : bits .and .i64 N3 65535 = N3 % 65536 := i64_mask 16 (by omega) _ 65535 (by omega) (by omega) rfl
      have hnum2 : num4 K0 K1 0 0 = N3 := by rw [hnum, hN3]; omega
      have HNU := hid hnum2
      rw [hls] at hlast
      have HLS := hid hls
      have HC3 := hid hc3
      have HC2 := hid hc2
      clear hnum hnum2 hls hc2 hc3 hN3
      by_cases hz : N3 % 65536 = 0
      · have HQ : Hid (decQ t.isEmpty c0 c1 c2 c3 = .ok ((bytes3 N3).take 1)) := hid (by unfold decQ; rw [if_neg (by rw [I0.out]; omega), if_neg (by rw [I1.out]; omega), if_pos ⟨HLS.out, HC3.out, HC2.out⟩, I0.out, I1.out, HNU.out, if_pos hz])
        have tz : (N3 % 65536 != 0) = false := by rw [bne_eq_false_iff_eq]; exact hz
        clear hz
        go_wp2_with fail
        refine wp_loop_rounds 5 ?_
        rw [rounds_succ]
        go_wp2_with fail
        refine (idx_to c0 K0 I0.out _).use ?_
        go_wp2_with fail
        rw [rounds_succ]
        go_wp2_with fail
        refine (idx_to c1 K1 I1.out _).use ?_
        go_wp2_with fail
        rw [rounds_succ]
        go_wp2_with fail
        refine (idx_to c2 (-1) I2.out _).use ?_
        go_wp2_with fail
        rw [rounds_succ]
        go_wp2_with fail
        refine (idx_to c3 (-1) I3.out _).use ?_
        go_wp2_with fail
        rw [rounds_succ]
        go_wp2_with (at_builtin; refine wpList_pushM (w := w) rfl _ _ 125 rfl 5 i0 _ 1 Tryz.underlying125 hi hz0 hz1 hz2 rfl _ _ _ rfl hown hg [.int .u8 (N3 / 65536), .int .u8 (N3 / 256 % 256), .int .u8 (N3 % 256)] 1 3 (by simp) rfl (by intro u hu; simp at hu; rcases hu with rfl | rfl | rfl <;> rfl) (by omega) (by omega) ?_; intro v' w' hown' hg')
        go_roundw
        case rel =>
          refine ⟨k + 4, outp ++ (bytes3 N3).take 1, by omega, by go_num, by omega, ?_, by simp [bytes3]; omega, ?_, hg'⟩
          · rw [HDT.out]; exact dec_ok HD2.out HQ.out
          · have e1 := byteOf_toNat (n := N3 / 65536) (by omega) (by omega)
            have e2 := byteOf_toNat (n := N3 / 256 % 256) (by omega) (by omega)
            have e3 := byteOf_toNat (n := N3 % 256) (by omega) (by omega)
            simpa [bytes3, e1, e2, e3] using hown'
        case measure => simp [intOf]; omega
      · have HQ : Hid (decQ t.isEmpty c0 c1 c2 c3 = .error 1) := hid (by unfold decQ; rw [if_neg (by rw [I0.out]; omega), if_neg (by rw [I1.out]; omega), if_pos ⟨HLS.out, HC3.out, HC2.out⟩, I0.out, I1.out, HNU.out, if_neg hz])
        have tz : (N3 % 65536 != 0) = true := bne_iff_ne.2 hz
        clear hz
        go_wp2_with fail
        refine wp_loop_rounds 5 ?_
        rw [rounds_succ]
        go_wp2_with fail
        refine (idx_to c0 K0 I0.out _).use ?_
        go_wp2_with fail
        rw [rounds_succ]
        go_wp2_with fail
        refine (idx_to c1 K1 I1.out _).use ?_
        go_wp2_with fail
        rw [rounds_succ]
        go_wp2_with fail
        refine (idx_to c2 (-1) I2.out _).use ?_
        go_wp2_with fail
        rw [rounds_succ]
        go_wp2_with fail
        refine (idx_to c3 (-1) I3.out _).use ?_
        go_wp2_with fail
        rw [rounds_succ]
        go_wp2_with fail
        go_ret2
        exact ⟨_, rfl, DecPost.bad HM.out (dec_err (rest := []) HD2.out HQ.out) (by have h : ((1 + k : Nat) : Int) = (k : Int) + 2 - 1 := (by omega); rw [h]; exact IsAt.new _ _ _ _), hg.alloc _⟩
    have NP2 := hid hp2
    clear hp2
    rcases idxB_cases c2 with i2c | ⟨p2, q2, -, r2⟩
    · have I2 := hid i2c
      have HQ : Hid (decQ t.isEmpty c0 c1 c2 c3 = .error 2) := hid (by unfold decQ; rw [if_neg (by rw [I0.out]; omega), if_neg (by rw [I1.out]; omega), if_neg NP2.out, if_pos (by omega)])
      by_cases h61 : c2 = 61
      · have z2 := eq61 h61
        by_cases h613 : c3 = 61
        · have z3 := eq61 h613
          have hls : t.isEmpty = false := by
            cases hls : t.isEmpty
            · rfl
            · exact absurd ⟨hls, h613, h61⟩ NP2.out
          rw [hls] at hlast
          clear i2c h61 h613
          go_wp2_with fail
          refine wp_loop_rounds 5 ?_
          rw [rounds_succ]
          go_wp2_with fail
          refine (idx_to c0 K0 I0.out _).use ?_
          go_wp2_with fail
          rw [rounds_succ]
          go_wp2_with fail
          refine (idx_to c1 K1 I1.out _).use ?_
          go_wp2_with fail
          rw [rounds_succ]
          go_wp2_with fail
          refine (idx_to c2 (-1) I2.out _).use ?_
          go_wp2_with fail
          go_ret2
          exact ⟨_, rfl, DecPost.bad HM.out (dec_err (rest := []) HD2.out HQ.out) (by have := IsAt.new wr 72 3 ((k : Int) + 2); simpa [Int.add_comm] using this), hg.alloc _⟩
        · have z3 := ne61 h613
          cases hls : t.isEmpty
          all_goals rw [hls] at hlast
          all_goals clear i2c h61 h613
          all_goals
            go_wp2_with fail
            refine wp_loop_rounds 5 ?_
            rw [rounds_succ]
            go_wp2_with fail
            refine (idx_to c0 K0 I0.out _).use ?_
            go_wp2_with fail
            rw [rounds_succ]
            go_wp2_with fail
            refine (idx_to c1 K1 I1.out _).use ?_
            go_wp2_with fail
            rw [rounds_succ]
            go_wp2_with fail
            refine (idx_to c2 (-1) I2.out _).use ?_
            go_wp2_with fail
            go_ret2
            exact ⟨_, rfl, DecPost.bad HM.out (dec_err (rest := []) HD2.out HQ.out) (by have := IsAt.new wr 72 3 ((k : Int) + 2); simpa [Int.add_comm] using this), hg.alloc _⟩
      · have z2 := ne61 h61
        cases hls : t.isEmpty
        all_goals rw [hls] at hlast
        all_goals clear i2c h61
        all_goals
          go_wp2_with fail
          refine wp_loop_rounds 5 ?_
          rw [rounds_succ]
          go_wp2_with fail
          refine (idx_to c0 K0 I0.out _).use ?_
          go_wp2_with fail
          rw [rounds_succ]
          go_wp2_with fail
          refine (idx_to c1 K1 I1.out _).use ?_
          go_wp2_with fail
          rw [rounds_succ]
          go_wp2_with fail
          refine (idx_to c2 (-1) I2.out _).use ?_
          go_wp2_with fail
          go_ret2
          exact ⟨_, rfl, DecPost.bad HM.out (dec_err (rest := []) HD2.out HQ.out) (by have := IsAt.new wr 72 3 ((k : Int) + 2); simpa [Int.add_comm] using this), hg.alloc _⟩
    have z2 := ne61 r2
    obtain ⟨K2, hK2⟩ : ∃ K2, K2 = idxB c2 := ⟨_, rfl⟩
    rw [← hK2] at p2 q2
    have I2 : Hid (idxB c2 = K2) := hid hK2.symm
    have e2 := or64 (n := N1) n1a (by omega) p2 q2
    have n2a : 0 ≤ N1 * 64 + K2 := by omega
    have n2b : N1 * 64 + K2 < 262144 := by omega
    obtain ⟨N2, hN2⟩ : ∃ N2, N2 = N1 * 64 + K2 := ⟨_, rfl⟩
    rw [← hN2] at e2 n2a n2b
    have HN2 := hid hN2
    clear hK2 hN2
    by_cases hp3 : t.isEmpty = true ∧ c3 = 61
    · obtain ⟨hls, hc3⟩ := hp3
      have z3 := eq61 hc3
      have I3 : Hid (idxB c3 = -1) := hid (by rw [hc3]; exact idx61)
      have e3 := or64 (n := N2) (k := 0) n2a (by omega) (by omega) (by omega)
      rw [Int.add_zero] at e3
      obtain ⟨N3, hN3⟩ : ∃ N3, N3 = N2 * 64 := ⟨_, rfl⟩
      have n3a : 0 ≤ N3 := by omega
      have n3b : N3 < 16777216 := by omega
      replace e3 : bits .or .i64 (N2 * 64) 0 = N3 := e3.trans hN3.symm
      have mm : (min 4 3 : Int) = 3 := by decide
      have m3 : bits .and .i64 N3 255 = N3 % 256 := i64_mask 8 (by omega) _ 255 (by omega) (by omega) rfl
      have HNU : Hid (num4 K0 K1 K2 0 = N3) := hid (by unfold num4; rw [hN3, HN2.out, HN1.out]; omega)
      rw [hls] at hlast
      have HLS := hid hls
      have HC3 := hid hc3
      clear hls hc3 hN3
      by_cases hz : N3 % 256 = 0
      · have HQ : Hid (decQ t.isEmpty c0 c1 c2 c3 = .ok ((bytes3 N3).take 2)) := hid (by unfold decQ; rw [if_neg (by rw [I0.out]; omega), if_neg (by rw [I1.out]; omega), if_neg NP2.out, if_neg (by rw [I2.out]; omega), if_pos ⟨HLS.out, HC3.out⟩, I0.out, I1.out, I2.out, HNU.out, if_pos hz])
        have tz : (N3 % 256 != 0) = false := by rw [bne_eq_false_iff_eq]; exact hz
        clear hz
        go_wp2_with fail
        refine wp_loop_rounds 5 ?_
        rw [rounds_succ]
        go_wp2_with fail
        refine (idx_to c0 K0 I0.out _).use ?_
        go_wp2_with fail
        rw [rounds_succ]
        go_wp2_with fail
        refine (idx_to c1 K1 I1.out _).use ?_
        go_wp2_with fail
        rw [rounds_succ]
        go_wp2_with fail
        refine (idx_to c2 K2 I2.out _).use ?_
        go_wp2_with fail
        rw [rounds_succ]
        go_wp2_with fail
        refine (idx_to c3 (-1) I3.out _).use ?_
        go_wp2_with fail
        rw [rounds_succ]
        go_wp2_with (at_builtin; refine wpList_pushM (w := w) rfl _ _ 125 rfl 5 i0 _ 1 Tryz.underlying125 hi hz0 hz1 hz2 rfl _ _ _ rfl hown hg [.int .u8 (N3 / 65536), .int .u8 (N3 / 256 % 256), .int .u8 (N3 % 256)] 2 3 (by simp) rfl (by intro u hu; simp at hu; rcases hu with rfl | rfl | rfl <;> rfl) (by omega) (by omega) ?_; intro v' w' hown' hg')
        go_roundw
        case rel =>
          refine ⟨k + 4, outp ++ (bytes3 N3).take 2, by omega, by go_num, by omega, ?_, by simp [bytes3]; omega, ?_, hg'⟩
          · rw [HDT.out]; exact dec_ok HD2.out HQ.out
          · have e1 := byteOf_toNat (n := N3 / 65536) (by omega) (by omega)
            have e2 := byteOf_toNat (n := N3 / 256 % 256) (by omega) (by omega)
            have e3 := byteOf_toNat (n := N3 % 256) (by omega) (by omega)
            simpa [bytes3, e1, e2, e3] using hown'
        case measure => simp [intOf]; omega
      · have HQ : Hid (decQ t.isEmpty c0 c1 c2 c3 = .error 2) := hid (by unfold decQ; rw [if_neg (by rw [I0.out]; omega), if_neg (by rw [I1.out]; omega), if_neg NP2.out, if_neg (by rw [I2.out]; omega), if_pos ⟨HLS.out, HC3.out⟩, I0.out, I1.out, I2.out, HNU.out, if_neg hz])
        have tz : (N3 % 256 != 0) = true := bne_iff_ne.2 hz
        clear hz
        go_wp2_with fail
        refine wp_loop_rounds 5 ?_
        rw [rounds_succ]
        go_wp2_with fail
        refine (idx_to c0 K0 I0.out _).use ?_
        go_wp2_with fail
        rw [rounds_succ]
        go_wp2_with fail
        refine (idx_to c1 K1 I1.out _).use ?_
        go_wp2_with fail
        rw [rounds_succ]
        go_wp2_with fail
        refine (idx_to c2 K2 I2.out _).use ?_
        go_wp2_with fail
        rw [rounds_succ]
        go_wp2_with fail
        refine (idx_to c3 (-1) I3.out _).use ?_
        go_wp2_with fail
        rw [rounds_succ]
        go_wp2_with fail
        go_ret2
        exact ⟨_, rfl, DecPost.bad HM.out (dec_err (rest := []) HD2.out HQ.out) (by have h : ((2 + k : Nat) : Int) = (k : Int) + 3 - 1 := (by omega); rw [h]; exact IsAt.new _ _ _ _), hg.alloc _⟩
    have NP3 := hid hp3
    clear hp3
    rcases idxB_cases c3 with i3c | ⟨p3, q3, -, r3⟩
    · have I3 := hid i3c
      have HQ : Hid (decQ t.isEmpty c0 c1 c2 c3 = .error 3) := hid (by unfold decQ; rw [if_neg (by rw [I0.out]; omega), if_neg (by rw [I1.out]; omega), if_neg NP2.out, if_neg (by rw [I2.out]; omega), if_neg NP3.out, if_pos (by omega)])
      by_cases h61 : c3 = 61
      · have z3 := eq61 h61
        have hls : t.isEmpty = false := by
          cases hls : t.isEmpty
          · rfl
          · exact absurd ⟨hls, h61⟩ NP3.out
        rw [hls] at hlast
        clear i3c h61
        go_wp2_with fail
        refine wp_loop_rounds 5 ?_
        rw [rounds_succ]
        go_wp2_with fail
        refine (idx_to c0 K0 I0.out _).use ?_
        go_wp2_with fail
        rw [rounds_succ]
        go_wp2_with fail
        refine (idx_to c1 K1 I1.out _).use ?_
        go_wp2_with fail
        rw [rounds_succ]
        go_wp2_with fail
        refine (idx_to c2 K2 I2.out _).use ?_
        go_wp2_with fail
        rw [rounds_succ]
        go_wp2_with fail
        refine (idx_to c3 (-1) I3.out _).use ?_
        go_wp2_with fail
        go_ret2
        exact ⟨_, rfl, DecPost.bad HM.out (dec_err (rest := []) HD2.out HQ.out) (by have := IsAt.new wr 72 3 ((k : Int) + 3); simpa [Int.add_comm] using this), hg.alloc _⟩
      · have z3 := ne61 h61
        cases hls : t.isEmpty
        all_goals rw [hls] at hlast
        all_goals clear i3c h61
        all_goals
          go_wp2_with fail
          refine wp_loop_rounds 5 ?_
          rw [rounds_succ]
          go_wp2_with fail
          refine (idx_to c0 K0 I0.out _).use ?_
          go_wp2_with fail
          rw [rounds_succ]
          go_wp2_with fail
          refine (idx_to c1 K1 I1.out _).use ?_
          go_wp2_with fail
          rw [rounds_succ]
          go_wp2_with fail
          refine (idx_to c2 K2 I2.out _).use ?_
          go_wp2_with fail
          rw [rounds_succ]
          go_wp2_with fail
          refine (idx_to c3 (-1) I3.out _).use ?_
          go_wp2_with fail
          go_ret2
          exact ⟨_, rfl, DecPost.bad HM.out (dec_err (rest := []) HD2.out HQ.out) (by have := IsAt.new wr 72 3 ((k : Int) + 3); simpa [Int.add_comm] using this), hg.alloc _⟩
    have z3 := ne61 r3
    obtain ⟨K3, hK3⟩ : ∃ K3, K3 = idxB c3 := ⟨_, rfl⟩
    rw [← hK3] at p3 q3
    have I3 : Hid (idxB c3 = K3) := hid hK3.symm
    have e3 := or64 (n := N2) n2a (by omega) p3 q3
    have n3a : 0 ≤ N2 * 64 + K3 := by omega
    have n3b : N2 * 64 + K3 < 16777216 := by omega
    obtain ⟨N3, hN3⟩ : ∃ N3, N3 = N2 * 64 + K3 := ⟨_, rfl⟩
    rw [← hN3] at e3 n3a n3b
    have HN3 := hid hN3
    clear hK3 hN3
    have HQ : Hid (decQ t.isEmpty c0 c1 c2 c3 = .ok ((bytes3 N3).take 3)) := hid (by
      have hnum : num4 K0 K1 K2 K3 = N3 := by unfold num4; rw [HN3.out, HN2.out, HN1.out]
      unfold decQ
      rw [if_neg (by rw [I0.out]; omega), if_neg (by rw [I1.out]; omega), if_neg NP2.out, if_neg (by rw [I2.out]; omega), if_neg NP3.out, if_neg (by rw [I3.out]; omega), I0.out, I1.out, I2.out, I3.out, hnum]; rfl)
    cases hls : t.isEmpty
    all_goals rw [hls] at hlast
    all_goals
      go_wp2_with fail
      refine wp_loop_rounds 5 ?_
      rw [rounds_succ]
      go_wp2_with fail
      refine (idx_to c0 K0 I0.out _).use ?_
      go_wp2_with fail
      rw [rounds_succ]
      go_wp2_with fail
      refine (idx_to c1 K1 I1.out _).use ?_
      go_wp2_with fail
      rw [rounds_succ]
      go_wp2_with fail
      refine (idx_to c2 K2 I2.out _).use ?_
      go_wp2_with fail
      rw [rounds_succ]
      go_wp2_with fail
      refine (idx_to c3 K3 I3.out _).use ?_
      go_wp2_with fail
      rw [rounds_succ]
      go_wp2_with (at_builtin; refine wpList_pushM (w := w) rfl _ _ 125 rfl 5 i0 _ 1 Tryz.underlying125 hi hz0 hz1 hz2 rfl _ _ _ rfl hown hg [.int .u8 (N3 / 65536), .int .u8 (N3 / 256 % 256), .int .u8 (N3 % 256)] 3 3 (by simp) rfl (by intro u hu; simp at hu; rcases hu with rfl | rfl | rfl <;> rfl) (by omega) (by omega) ?_; intro v' w' hown' hg')
      go_roundw
      case rel =>
        refine ⟨k + 4, outp ++ (bytes3 N3).take 3, by omega, by go_num, by omega, ?_, by simp [bytes3]; omega, ?_, hg'⟩
        · rw [HDT.out]; exact dec_ok HD2.out HQ.out
        · have e1 := byteOf_toNat (n := N3 / 65536) (by omega) (by omega)
          have e2 := byteOf_toNat (n := N3 / 256 % 256) (by omega) (by omega)
          have e3 := byteOf_toNat (n := N3 % 256) (by omega) (by omega)
          simpa [bytes3, e1, e2, e3] using hown'
      case measure => simp [intOf]; omega
end Go.Proofs.YtdmbhoagjjkogaaGreatDoor
