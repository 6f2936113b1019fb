/-
  Texts merged into one: Utf, Utf2, Utf3, UtfPlain.
-/
import Derived.Test.YtdmbhoagjjkogaaGreatDoorMA44
namespace Go.Proofs.YtdmbhoagjjkogaaGreatDoor
open Go.RowKit
set_option linter.unusedVariables false
set_option linter.unusedSimpArgs false
def mayB (r : Int) : Bool := decide (0 ≤ r ∧ r ≤ 1114111 ∧ (r < 55296 ∨ 57343 < r))
set_option maxRecDepth 100000 in
set_option maxHeartbeats 400000 in
theorem may_any (r : Int) (w : World) : Pure 188 #[.int .i64 r] w (.bool (mayB r)) := by
  go_enter Tryz.func188, Tryz.ntmps188
  go_wp2
  all_goals go_ret
  all_goals exact ⟨ret_bool (by unfold mayB; rw [Bool.eq_iff_iff]; simp; omega), rfl⟩
def isC (c : UInt8) : Bool := (c.toNat : Int) / 64 == 2
def finU (low r : Int) (n : Int) : Int × Int := if r < low ∨ mayB r = false then (0, 0) else (r, n)
def acc (r : Int) (c : UInt8) : Int := r * 64 + (c.toNat : Int) % 64
def nextL : List UInt8 → Int × Int
  | [] => (0, 0)
  | b :: t =>
    if b.toNat < 128 then ((b.toNat : Int), 1)
    else if b.toNat < 192 then (0, 0)
    else if b.toNat < 224 then (match t with
      | c1 :: _ => if isC c1 = true then finU 128 (acc ((b.toNat : Int) - 192) c1) 2 else (0, 0)
      | _ => (0, 0))
    else if b.toNat < 240 then (match t with
      | c1 :: c2 :: _ => if isC c1 = true ∧ isC c2 = true then finU 2048 (acc (acc ((b.toNat : Int) - 224) c1) c2) 3 else (0, 0)
      | _ => (0, 0))
    else if b.toNat < 248 then (match t with
      | c1 :: c2 :: c3 :: _ => if isC c1 = true ∧ isC c2 = true ∧ isC c3 = true then finU 65536 (acc (acc (acc ((b.toNat : Int) - 240) c1) c2) c3) 4 else (0, 0)
      | _ => (0, 0))
    else (0, 0)
theorem acc_bounds {r : Int} {c : UInt8} {m : Int} (h0 : 0 ≤ r) (h1 : r < m) : 0 ≤ acc r c ∧ acc r c < m * 64 := by
  unfold acc; omega
theorem or_acc {r : Int} {c : UInt8} (h0 : 0 ≤ r) (h1 : r < 16777216) : bits .or .i64 (r * 64) ((c.toNat : Int) % 64) = acc r c :=
  i64_join 6 _ _ (by omega) (by simp) (by omega) (by omega) (by omega) (by omega)
theorem ret_n2 {a b : Value} {p : Int × Int} {x y : Int} (h : p = (x, y)) (ha : a = .int .i64 x) (hb : b = .int .i64 y) :
    Ending.returned (.tuple #[a, b]) = .returned (.tuple #[.int .i64 p.1, .int .i64 p.2]) := by rw [h, ha, hb]
def NextIs (l : List UInt8) (w : World) : Prop := Pure 161 #[.string (S l)] w (.tuple #[.int .i64 (nextL l).1, .int .i64 (nextL l).2])
set_option maxRecDepth 100000 in
set_option maxHeartbeats 400000 in
theorem next_nil (w : World) : NextIs [] w := by
  unfold NextIs
  go_enter Tryz.func161, Tryz.ntmps161
  go_wp2
  go_ret2
  exact ⟨rfl, rfl⟩
set_option maxRecDepth 100000 in
set_option maxHeartbeats 400000 in
theorem next_ascii (b : UInt8) (t : List UInt8) (w : World) (ht : t.length ≤ 140737488355328) (hb : b.toNat < 128) : NextIs (b :: t) w := by
  unfold NextIs
  have hp : Hid (nextL (b :: t) = ((b.toNat : Int), 1)) := hid (by show (if b.toNat < 128 then _ else _) = _; rw [if_pos hb])
  go_enter Tryz.func161, Tryz.ntmps161
  go_wp2
  go_ret2
  exact ⟨ret_n2 hp.out rfl rfl, rfl⟩
set_option maxRecDepth 100000 in
set_option maxHeartbeats 400000 in
theorem next_bad (b : UInt8) (t : List UInt8) (w : World) (ht : t.length ≤ 140737488355328) (hb : 128 ≤ b.toNat ∧ b.toNat < 192 ∨ 248 ≤ b.toNat) : NextIs (b :: t) w := by
  unfold NextIs
  have hp : Hid (nextL (b :: t) = (0, 0)) := hid (by
    show (if b.toNat < 128 then _ else _) = _
    rcases hb with hb | hb
    · rw [if_neg (by omega), if_pos (by omega)]
    · rw [if_neg (by omega), if_neg (by omega), if_neg (by omega), if_neg (by omega), if_neg (by omega)])
  have hlt : b.toNat < 256 := b.toNat_lt
  have h1 : ((b.toNat : Int) / 32 == 6) = false := beq_eq_false_iff_ne.2 (by omega)
  have h2 : ((b.toNat : Int) / 16 == 14) = false := beq_eq_false_iff_ne.2 (by omega)
  have h3 : ((b.toNat : Int) / 8 == 30) = false := beq_eq_false_iff_ne.2 (by omega)
  have h4 : 128 ≤ (b.toNat : Int) := by omega
  clear hb
  go_enter Tryz.func161, Tryz.ntmps161
  go_wp2
  go_ret2
  exact ⟨ret_n2 hp.out rfl rfl, rfl⟩
theorem lead2 {b : UInt8} (h : 192 ≤ b.toNat) (h' : b.toNat < 224) : bits .and .i64 (b.toNat : Int) 31 = (b.toNat : Int) - 192 := by
  have := i64_mask 5 (by omega) (b.toNat : Int) 31 (by omega) (by omega) rfl
  omega
theorem lead3 {b : UInt8} (h : 224 ≤ b.toNat) (h' : b.toNat < 240) : bits .and .i64 (b.toNat : Int) 15 = (b.toNat : Int) - 224 := by
  have := i64_mask 4 (by omega) (b.toNat : Int) 15 (by omega) (by omega) rfl
  omega
theorem lead4 {b : UInt8} (h : 240 ≤ b.toNat) (h' : b.toNat < 248) : bits .and .i64 (b.toNat : Int) 7 = (b.toNat : Int) - 240 := by
  have := i64_mask 3 (by omega) (b.toNat : Int) 7 (by omega) (by omega) rfl
  omega
theorem isC_no {c : UInt8} (h : isC c = false) : ((c.toNat : Int) / 64 != 2) = true := by unfold isC at h; simp only [bne, h]; rfl
theorem isC_yes {c : UInt8} (h : isC c = true) : ((c.toNat : Int) / 64 != 2) = false := by unfold isC at h; simp only [bne, h]; rfl
theorem nextL_2 {b c1 : UInt8} {t : List UInt8} (h : 192 ≤ b.toNat) (h' : b.toNat < 224) : nextL (b :: c1 :: t) = if isC c1 = true then finU 128 (acc ((b.toNat : Int) - 192) c1) 2 else (0, 0) := by
  show (if b.toNat < 128 then _ else _) = _
  rw [if_neg (by omega), if_neg (by omega), if_pos (by omega)]
theorem nextL_3 {b c1 c2 : UInt8} {t : List UInt8} (h : 224 ≤ b.toNat) (h' : b.toNat < 240) : nextL (b :: c1 :: c2 :: t) = if isC c1 = true ∧ isC c2 = true then finU 2048 (acc (acc ((b.toNat : Int) - 224) c1) c2) 3 else (0, 0) := by
  show (if b.toNat < 128 then _ else _) = _
  rw [if_neg (by omega), if_neg (by omega), if_neg (by omega), if_pos (by omega)]
theorem nextL_4 {b c1 c2 c3 : UInt8} {t : List UInt8} (h : 240 ≤ b.toNat) (h' : b.toNat < 248) : nextL (b :: c1 :: c2 :: c3 :: t) = if isC c1 = true ∧ isC c2 = true ∧ isC c3 = true then finU 65536 (acc (acc (acc ((b.toNat : Int) - 240) c1) c2) c3) 4 else (0, 0) := by
  show (if b.toNat < 128 then _ else _) = _
  rw [if_neg (by omega), if_neg (by omega), if_neg (by omega), if_neg (by omega), if_pos (by omega)]
set_option maxRecDepth 100000 in
set_option maxHeartbeats 1000000 in
theorem next_2 (b c1 : UInt8) (t : List UInt8) (w : World) (ht : t.length ≤ 140737488355328) (hb : 192 ≤ b.toNat) (hb2 : b.toNat < 224) : NextIs (b :: c1 :: t) w := by
  unfold NextIs
  have hp := nextL_2 (c1 := c1) (t := t) hb hb2
  have hlt : b.toNat < 256 := b.toNat_lt
  have hc1 : c1.toNat < 256 := c1.toNat_lt
  have t0 : ((b.toNat : Int) / 32 == 6) = true := beq_iff_eq.2 (by omega)
  have h4 : 128 ≤ (b.toNat : Int) := by omega
  have e0 := lead2 hb hb2
  cases hk0 : isC c1
  · rw [if_neg (by simp [hk0])] at hp
    have Hp := hid hp
    have k0 := isC_no hk0
    clear hp hk0
    go_enter Tryz.func161, Tryz.ntmps161
    go_wp2
    refine wp_loop_rounds 2 ?_
    rw [rounds_succ]
    go_wp2
    go_ret2
    exact ⟨ret_n2 Hp.out rfl rfl, rfl⟩
  · have k0 := isC_yes hk0
    have e1 := or_acc (r := ((b.toNat : Int) - 192)) (c := c1) (by omega) (by omega)
    have bd1 := acc_bounds (r := ((b.toNat : Int) - 192)) (c := c1) (m := 32) (by omega) (by omega)
    generalize acc ((b.toNat : Int) - 192) c1 = r1 at *
    obtain ⟨bl1, bh1⟩ := bd1
    rw [if_pos (by simp [hk0])] at hp
    unfold finU at hp
    by_cases hlow : r1 < 128
    · rw [if_pos (Or.inl hlow)] at hp
      have Hp := hid hp
      clear hp hk0
      go_enter Tryz.func161, Tryz.ntmps161
      go_wp2
      refine wp_loop_rounds 2 ?_
      rw [rounds_succ]
      go_wp2
      rw [rounds_succ]
      go_wp2
      go_ret2
      exact ⟨ret_n2 Hp.out rfl rfl, rfl⟩
    · cases hm : mayB r1
      · rw [if_pos (Or.inr hm)] at hp
        have Hp := hid hp
        clear hp hk0
        go_enter Tryz.func161, Tryz.ntmps161
        go_wp2
        refine wp_loop_rounds 2 ?_
        rw [rounds_succ]
        go_wp2
        rw [rounds_succ]
        go_wp2_with (go_at_call 188; refine (may_any r1 _).use ?_; rw [hm])
        go_ret2
        exact ⟨ret_n2 Hp.out rfl rfl, rfl⟩
      · rw [if_neg (by rw [hm]; simp [hlow])] at hp
        have Hp := hid hp
        clear hp hk0
        go_enter Tryz.func161, Tryz.ntmps161
        go_wp2
        refine wp_loop_rounds 2 ?_
        rw [rounds_succ]
        go_wp2
        rw [rounds_succ]
        go_wp2_with (go_at_call 188; refine (may_any r1 _).use ?_; rw [hm])
        go_ret2
        exact ⟨ret_n2 Hp.out rfl rfl, rfl⟩
set_option maxRecDepth 100000 in
set_option maxHeartbeats 400000 in
theorem next_2_0 (b : UInt8) (w : World) (hb : 192 ≤ b.toNat) (hb2 : b.toNat < 224) : NextIs [b] w := by
  unfold NextIs
  have Hp : Hid (nextL [b] = (0, 0)) := hid (by
    show (if b.toNat < 128 then _ else _) = _
    rw [if_neg (by omega), if_neg (by omega), if_pos (by omega)])
  have hlt : b.toNat < 256 := b.toNat_lt
  have t0 : ((b.toNat : Int) / 32 == 6) = true := beq_iff_eq.2 (by omega)
  have h4 : 128 ≤ (b.toNat : Int) := by omega
  have e0 := lead2 hb hb2
  go_enter Tryz.func161, Tryz.ntmps161
  go_wp2
  go_ret2
  exact ⟨ret_n2 Hp.out rfl rfl, rfl⟩
set_option maxRecDepth 100000 in
set_option maxHeartbeats 1000000 in
theorem next_3 (b c1 c2 : UInt8) (t : List UInt8) (w : World) (ht : t.length ≤ 140737488355328) (hb : 224 ≤ b.toNat) (hb2 : b.toNat < 240) : NextIs (b :: c1 :: c2 :: t) w := by
  unfold NextIs
  have hp := nextL_3 (c1 := c1) (c2 := c2) (t := t) hb hb2
  have hlt : b.toNat < 256 := b.toNat_lt
  have hc1 : c1.toNat < 256 := c1.toNat_lt
  have hc2 : c2.toNat < 256 := c2.toNat_lt
  have t0 : ((b.toNat : Int) / 32 == 6) = false := beq_eq_false_iff_ne.2 (by omega)
  have t1 : ((b.toNat : Int) / 16 == 14) = true := beq_iff_eq.2 (by omega)
  have h4 : 128 ≤ (b.toNat : Int) := by omega
  have e0 := lead3 hb hb2
  cases hk0 : isC c1
  · rw [if_neg (by simp [hk0])] at hp
    have Hp := hid hp
    have k0 := isC_no hk0
    clear hp hk0
    go_enter Tryz.func161, Tryz.ntmps161
    go_wp2
    refine wp_loop_rounds 3 ?_
    rw [rounds_succ]
    go_wp2
    go_ret2
    exact ⟨ret_n2 Hp.out rfl rfl, rfl⟩
  · have k0 := isC_yes hk0
    have e1 := or_acc (r := ((b.toNat : Int) - 224)) (c := c1) (by omega) (by omega)
    have bd1 := acc_bounds (r := ((b.toNat : Int) - 224)) (c := c1) (m := 16) (by omega) (by omega)
    generalize acc ((b.toNat : Int) - 224) c1 = r1 at *
    obtain ⟨bl1, bh1⟩ := bd1
    cases hk1 : isC c2
    · rw [if_neg (by simp [hk1])] at hp
      have Hp := hid hp
      have k1 := isC_no hk1
      clear hp hk0 hk1
      go_enter Tryz.func161, Tryz.ntmps161
      go_wp2
      refine wp_loop_rounds 3 ?_
      rw [rounds_succ]
      go_wp2
      rw [rounds_succ]
      go_wp2
      go_ret2
      exact ⟨ret_n2 Hp.out rfl rfl, rfl⟩
    · have k1 := isC_yes hk1
      have e2 := or_acc (r := r1) (c := c2) (by omega) (by omega)
      have bd2 := acc_bounds (r := r1) (c := c2) (m := 1024) (by omega) (by omega)
      generalize acc r1 c2 = r2 at *
      obtain ⟨bl2, bh2⟩ := bd2
      rw [if_pos (by simp [hk0, hk1])] at hp
      unfold finU at hp
      by_cases hlow : r2 < 2048
      · rw [if_pos (Or.inl hlow)] at hp
        have Hp := hid hp
        clear hp hk0 hk1
        go_enter Tryz.func161, Tryz.ntmps161
        go_wp2
        refine wp_loop_rounds 3 ?_
        rw [rounds_succ]
        go_wp2
        rw [rounds_succ]
        go_wp2
        rw [rounds_succ]
        go_wp2
        go_ret2
        exact ⟨ret_n2 Hp.out rfl rfl, rfl⟩
      · cases hm : mayB r2
        · rw [if_pos (Or.inr hm)] at hp
          have Hp := hid hp
          clear hp hk0 hk1
          go_enter Tryz.func161, Tryz.ntmps161
          go_wp2
          refine wp_loop_rounds 3 ?_
          rw [rounds_succ]
          go_wp2
          rw [rounds_succ]
          go_wp2
          rw [rounds_succ]
          go_wp2_with (go_at_call 188; refine (may_any r2 _).use ?_; rw [hm])
          go_ret2
          exact ⟨ret_n2 Hp.out rfl rfl, rfl⟩
        · rw [if_neg (by rw [hm]; simp [hlow])] at hp
          have Hp := hid hp
          clear hp hk0 hk1
          go_enter Tryz.func161, Tryz.ntmps161
          go_wp2
          refine wp_loop_rounds 3 ?_
          rw [rounds_succ]
          go_wp2
          rw [rounds_succ]
          go_wp2
          rw [rounds_succ]
          go_wp2_with (go_at_call 188; refine (may_any r2 _).use ?_; rw [hm])
          go_ret2
          exact ⟨ret_n2 Hp.out rfl rfl, rfl⟩
set_option maxRecDepth 100000 in
set_option maxHeartbeats 400000 in
theorem next_3_0 (b : UInt8) (w : World) (hb : 224 ≤ b.toNat) (hb2 : b.toNat < 240) : NextIs [b] w := by
  unfold NextIs
  have Hp : Hid (nextL [b] = (0, 0)) := hid (by
    show (if b.toNat < 128 then _ else _) = _
    rw [if_neg (by omega), if_neg (by omega), if_neg (by omega), if_pos (by omega)])
  have hlt : b.toNat < 256 := b.toNat_lt
  have t0 : ((b.toNat : Int) / 32 == 6) = false := beq_eq_false_iff_ne.2 (by omega)
  have t1 : ((b.toNat : Int) / 16 == 14) = true := beq_iff_eq.2 (by omega)
  have h4 : 128 ≤ (b.toNat : Int) := by omega
  have e0 := lead3 hb hb2
  go_enter Tryz.func161, Tryz.ntmps161
  go_wp2
  go_ret2
  exact ⟨ret_n2 Hp.out rfl rfl, rfl⟩
set_option maxRecDepth 100000 in
set_option maxHeartbeats 400000 in
theorem next_3_1 (b c1 : UInt8) (w : World) (hb : 224 ≤ b.toNat) (hb2 : b.toNat < 240) : NextIs [b, c1] w := by
  unfold NextIs
  have Hp : Hid (nextL [b, c1] = (0, 0)) := hid (by
    show (if b.toNat < 128 then _ else _) = _
    rw [if_neg (by omega), if_neg (by omega), if_neg (by omega), if_pos (by omega)])
  have hlt : b.toNat < 256 := b.toNat_lt
  have t0 : ((b.toNat : Int) / 32 == 6) = false := beq_eq_false_iff_ne.2 (by omega)
  have t1 : ((b.toNat : Int) / 16 == 14) = true := beq_iff_eq.2 (by omega)
  have h4 : 128 ≤ (b.toNat : Int) := by omega
  have e0 := lead3 hb hb2
  go_enter Tryz.func161, Tryz.ntmps161
  go_wp2
  go_ret2
  exact ⟨ret_n2 Hp.out rfl rfl, rfl⟩
set_option maxRecDepth 100000 in
set_option maxHeartbeats 1000000 in
theorem next_4 (b c1 c2 c3 : UInt8) (t : List UInt8) (w : World) (ht : t.length ≤ 140737488355328) (hb : 240 ≤ b.toNat) (hb2 : b.toNat < 248) : NextIs (b :: c1 :: c2 :: c3 :: t) w := by
  unfold NextIs
  have hp := nextL_4 (c1 := c1) (c2 := c2) (c3 := c3) (t := t) hb hb2
  have hlt : b.toNat < 256 := b.toNat_lt
  have hc1 : c1.toNat < 256 := c1.toNat_lt
  have hc2 : c2.toNat < 256 := c2.toNat_lt
  have hc3 : c3.toNat < 256 := c3.toNat_lt
  have t0 : ((b.toNat : Int) / 32 == 6) = false := beq_eq_false_iff_ne.2 (by omega)
  have t1 : ((b.toNat : Int) / 16 == 14) = false := beq_eq_false_iff_ne.2 (by omega)
  have t2 : ((b.toNat : Int) / 8 == 30) = true := beq_iff_eq.2 (by omega)
  have h4 : 128 ≤ (b.toNat : Int) := by omega
  have e0 := lead4 hb hb2
  cases hk0 : isC c1
  · rw [if_neg (by simp [hk0])] at hp
    have Hp := hid hp
    have k0 := isC_no hk0
    clear hp hk0
    go_enter Tryz.func161, Tryz.ntmps161
    go_wp2
    refine wp_loop_rounds 4 ?_
    rw [rounds_succ]
    go_wp2
    go_ret2
    exact ⟨ret_n2 Hp.out rfl rfl, rfl⟩
  · have k0 := isC_yes hk0
    have e1 := or_acc (r := ((b.toNat : Int) - 240)) (c := c1) (by omega) (by omega)
    have bd1 := acc_bounds (r := ((b.toNat : Int) - 240)) (c := c1) (m := 8) (by omega) (by omega)
    generalize acc ((b.toNat : Int) - 240) c1 = r1 at *
    obtain ⟨bl1, bh1⟩ := bd1
    cases hk1 : isC c2
    · rw [if_neg (by simp [hk1])] at hp
      have Hp := hid hp
      have k1 := isC_no hk1
      clear hp hk0 hk1
      go_enter Tryz.func161, Tryz.ntmps161
      go_wp2
      refine wp_loop_rounds 4 ?_
      rw [rounds_succ]
      go_wp2
      rw [rounds_succ]
      go_wp2
      go_ret2
      exact ⟨ret_n2 Hp.out rfl rfl, rfl⟩
    · have k1 := isC_yes hk1
      have e2 := or_acc (r := r1) (c := c2) (by omega) (by omega)
      have bd2 := acc_bounds (r := r1) (c := c2) (m := 512) (by omega) (by omega)
      generalize acc r1 c2 = r2 at *
      obtain ⟨bl2, bh2⟩ := bd2
      cases hk2 : isC c3
      · rw [if_neg (by simp [hk2])] at hp
        have Hp := hid hp
        have k2 := isC_no hk2
        clear hp hk0 hk1 hk2
        go_enter Tryz.func161, Tryz.ntmps161
        go_wp2
        refine wp_loop_rounds 4 ?_
        rw [rounds_succ]
        go_wp2
        rw [rounds_succ]
        go_wp2
        rw [rounds_succ]
        go_wp2
        go_ret2
        exact ⟨ret_n2 Hp.out rfl rfl, rfl⟩
      · have k2 := isC_yes hk2
        have e3 := or_acc (r := r2) (c := c3) (by omega) (by omega)
        have bd3 := acc_bounds (r := r2) (c := c3) (m := 32768) (by omega) (by omega)
        generalize acc r2 c3 = r3 at *
        obtain ⟨bl3, bh3⟩ := bd3
        rw [if_pos (by simp [hk0, hk1, hk2])] at hp
        unfold finU at hp
        by_cases hlow : r3 < 65536
        · rw [if_pos (Or.inl hlow)] at hp
          have Hp := hid hp
          clear hp hk0 hk1 hk2
          go_enter Tryz.func161, Tryz.ntmps161
          go_wp2
          refine wp_loop_rounds 4 ?_
          rw [rounds_succ]
          go_wp2
          rw [rounds_succ]
          go_wp2
          rw [rounds_succ]
          go_wp2
          rw [rounds_succ]
          go_wp2
          go_ret2
          exact ⟨ret_n2 Hp.out rfl rfl, rfl⟩
        · cases hm : mayB r3
          · rw [if_pos (Or.inr hm)] at hp
            have Hp := hid hp
            clear hp hk0 hk1 hk2
            go_enter Tryz.func161, Tryz.ntmps161
            go_wp2
            refine wp_loop_rounds 4 ?_
            rw [rounds_succ]
            go_wp2
            rw [rounds_succ]
            go_wp2
            rw [rounds_succ]
            go_wp2
            rw [rounds_succ]
            go_wp2_with (go_at_call 188; refine (may_any r3 _).use ?_; rw [hm])
            go_ret2
            exact ⟨ret_n2 Hp.out rfl rfl, rfl⟩
          · rw [if_neg (by rw [hm]; simp [hlow])] at hp
            have Hp := hid hp
            clear hp hk0 hk1 hk2
            go_enter Tryz.func161, Tryz.ntmps161
            go_wp2
            refine wp_loop_rounds 4 ?_
            rw [rounds_succ]
            go_wp2
            rw [rounds_succ]
            go_wp2
            rw [rounds_succ]
            go_wp2
            rw [rounds_succ]
            go_wp2_with (go_at_call 188; refine (may_any r3 _).use ?_; rw [hm])
            go_ret2
            exact ⟨ret_n2 Hp.out rfl rfl, rfl⟩
set_option maxRecDepth 100000 in
set_option maxHeartbeats 400000 in
theorem next_4_0 (b : UInt8) (w : World) (hb : 240 ≤ b.toNat) (hb2 : b.toNat < 248) : NextIs [b] w := by
  unfold NextIs
  have Hp : Hid (nextL [b] = (0, 0)) := hid (by
    show (if b.toNat < 128 then _ else _) = _
    rw [if_neg (by omega), if_neg (by omega), if_neg (by omega), if_neg (by omega), if_pos (by omega)])
  have hlt : b.toNat < 256 := b.toNat_lt
  have t0 : ((b.toNat : Int) / 32 == 6) = false := beq_eq_false_iff_ne.2 (by omega)
  have t1 : ((b.toNat : Int) / 16 == 14) = false := beq_eq_false_iff_ne.2 (by omega)
  have t2 : ((b.toNat : Int) / 8 == 30) = true := beq_iff_eq.2 (by omega)
  have h4 : 128 ≤ (b.toNat : Int) := by omega
  have e0 := lead4 hb hb2
  go_enter Tryz.func161, Tryz.ntmps161
  go_wp2
  go_ret2
  exact ⟨ret_n2 Hp.out rfl rfl, rfl⟩
set_option maxRecDepth 100000 in
set_option maxHeartbeats 400000 in
theorem next_4_1 (b c1 : UInt8) (w : World) (hb : 240 ≤ b.toNat) (hb2 : b.toNat < 248) : NextIs [b, c1] w := by
  unfold NextIs
  have Hp : Hid (nextL [b, c1] = (0, 0)) := hid (by
    show (if b.toNat < 128 then _ else _) = _
    rw [if_neg (by omega), if_neg (by omega), if_neg (by omega), if_neg (by omega), if_pos (by omega)])
  have hlt : b.toNat < 256 := b.toNat_lt
  have t0 : ((b.toNat : Int) / 32 == 6) = false := beq_eq_false_iff_ne.2 (by omega)
  have t1 : ((b.toNat : Int) / 16 == 14) = false := beq_eq_false_iff_ne.2 (by omega)
  have t2 : ((b.toNat : Int) / 8 == 30) = true := beq_iff_eq.2 (by omega)
  have h4 : 128 ≤ (b.toNat : Int) := by omega
  have e0 := lead4 hb hb2
  go_enter Tryz.func161, Tryz.ntmps161
  go_wp2
  go_ret2
  exact ⟨ret_n2 Hp.out rfl rfl, rfl⟩
set_option maxRecDepth 100000 in
set_option maxHeartbeats 400000 in
theorem next_4_2 (b c1 c2 : UInt8) (w : World) (hb : 240 ≤ b.toNat) (hb2 : b.toNat < 248) : NextIs [b, c1, c2] w := by
  unfold NextIs
  have Hp : Hid (nextL [b, c1, c2] = (0, 0)) := hid (by
    show (if b.toNat < 128 then _ else _) = _
    rw [if_neg (by omega), if_neg (by omega), if_neg (by omega), if_neg (by omega), if_pos (by omega)])
  have hlt : b.toNat < 256 := b.toNat_lt
  have t0 : ((b.toNat : Int) / 32 == 6) = false := beq_eq_false_iff_ne.2 (by omega)
  have t1 : ((b.toNat : Int) / 16 == 14) = false := beq_eq_false_iff_ne.2 (by omega)
  have t2 : ((b.toNat : Int) / 8 == 30) = true := beq_iff_eq.2 (by omega)
  have h4 : 128 ≤ (b.toNat : Int) := by omega
  have e0 := lead4 hb hb2
  go_enter Tryz.func161, Tryz.ntmps161
  go_wp2
  go_ret2
  exact ⟨ret_n2 Hp.out rfl rfl, rfl⟩
theorem next_any (l : List UInt8) (w : World) (hl : l.length ≤ 140737488355328) : NextIs l w := by
  match l, hl with
  | [], _ => exact next_nil w
  | b :: t, hl =>
    simp only [List.length_cons] at hl
    by_cases h1 : b.toNat < 128
    · exact next_ascii b t w (by omega) h1
    by_cases h2 : b.toNat < 192
    · exact next_bad b t w (by omega) (by omega)
    by_cases h3 : b.toNat < 224
    · match t, hl with
      | [], _ => exact next_2_0 b w (by omega) h3
      | c1 :: t, hl => simp only [List.length_cons] at hl; exact next_2 b c1 t w (by omega) (by omega) h3
    by_cases h4 : b.toNat < 240
    · match t, hl with
      | [], _ => exact next_3_0 b w (by omega) h4
      | [c1], _ => exact next_3_1 b c1 w (by omega) h4
      | c1 :: c2 :: t, hl => simp only [List.length_cons] at hl; exact next_3 b c1 c2 t w (by omega) (by omega) h4
    by_cases h5 : b.toNat < 248
    · match t, hl with
      | [], _ => exact next_4_0 b w (by omega) h5
      | [c1], _ => exact next_4_1 b c1 w (by omega) h5
      | [c1, c2], _ => exact next_4_2 b c1 c2 w (by omega) h5
      | c1 :: c2 :: c3 :: t, hl => simp only [List.length_cons] at hl; exact next_4 b c1 c2 c3 t w (by omega) (by omega) h5
    · exact next_bad b t w (by omega) (by omega)
end Go.Proofs.YtdmbhoagjjkogaaGreatDoor

namespace Go.Proofs.YtdmbhoagjjkogaaGreatDoor
open Go.RowKit
set_option linter.unusedVariables false
set_option linter.unusedSimpArgs false
def pointL (r : Int) : List UInt8 :=
  if r < 128 then [byteOf r]
  else if r < 2048 then [byteOf (192 + r / 64), byteOf (128 + r % 64)]
  else if r < 65536 then [byteOf (224 + r / 4096), byteOf (128 + r / 64 % 64), byteOf (128 + r % 64)]
  else [byteOf (240 + r / 262144), byteOf (128 + r / 4096 % 64), byteOf (128 + r / 64 % 64), byteOf (128 + r % 64)]
theorem may_range {r : Int} (h : mayB r = true) : 0 ≤ r ∧ r ≤ 1114111 := by
  have := of_decide_eq_true h; omega
theorem finU_bounds (low r n : Int) : finU low r n = (0, 0) ∨ finU low r n = (r, n) ∧ mayB r = true ∧ low ≤ r := by
  unfold finU
  split
  · exact Or.inl rfl
  · rename_i h
    right
    refine ⟨rfl, ?_, by omega⟩
    cases hm : mayB r
    · exact absurd (Or.inr hm) h
    · rfl
theorem nextL_bounds (l : List UInt8) : nextL l = (0, 0) ∨ ∃ r : Int, ∃ n : Nat, nextL l = (r, (n : Int)) ∧ mayB r = true ∧ 1 ≤ n ∧ n ≤ 4 ∧ n ≤ l.length := by
  match l with
  | [] => left; rfl
  | b :: t =>
    by_cases h1 : b.toNat < 128
    · right
      refine ⟨b.toNat, 1, ?_, ?_, by omega, by omega, by simp⟩
      · show (if b.toNat < 128 then _ else _) = _
        rw [if_pos h1]; rfl
      · unfold mayB; simp; omega
    by_cases h2 : b.toNat < 192
    · left
      show (if b.toNat < 128 then _ else _) = _
      rw [if_neg h1, if_pos h2]
    by_cases h3 : b.toNat < 224
    · match t with
      | [] => left; show (if b.toNat < 128 then _ else _) = _; rw [if_neg h1, if_neg h2, if_pos h3]
      | c1 :: t =>
        rw [nextL_2 (by omega) h3]
        split
        · rcases finU_bounds 128 (acc ((b.toNat : Int) - 192) c1) 2 with h | ⟨h, h', _⟩
          · exact Or.inl h
          · right; exact ⟨_, 2, h, h', by omega, by omega, by simp⟩
        · left; rfl
    by_cases h4 : b.toNat < 240
    · match t with
      | [] => left; show (if b.toNat < 128 then _ else _) = _; rw [if_neg h1, if_neg h2, if_neg h3, if_pos h4]
      | [c1] => left; show (if b.toNat < 128 then _ else _) = _; rw [if_neg h1, if_neg h2, if_neg h3, if_pos h4]
      | c1 :: c2 :: t =>
        rw [nextL_3 (by omega) h4]
        split
        · rcases finU_bounds 2048 (acc (acc ((b.toNat : Int) - 224) c1) c2) 3 with h | ⟨h, h', _⟩
          · exact Or.inl h
          · right; exact ⟨_, 3, h, h', by omega, by omega, by simp⟩
        · left; rfl
    by_cases h5 : b.toNat < 248
    · match t with
      | [] => left; show (if b.toNat < 128 then _ else _) = _; rw [if_neg h1, if_neg h2, if_neg h3, if_neg h4, if_pos h5]
      | [c1] => left; show (if b.toNat < 128 then _ else _) = _; rw [if_neg h1, if_neg h2, if_neg h3, if_neg h4, if_pos h5]
      | [c1, c2] => left; show (if b.toNat < 128 then _ else _) = _; rw [if_neg h1, if_neg h2, if_neg h3, if_neg h4, if_pos h5]
      | c1 :: c2 :: c3 :: t =>
        rw [nextL_4 (by omega) h5]
        split
        · rcases finU_bounds 65536 (acc (acc (acc ((b.toNat : Int) - 240) c1) c2) c3) 4 with h | ⟨h, h', _⟩
          · exact Or.inl h
          · right; exact ⟨_, 4, h, h', by omega, by omega, by simp⟩
        · left; rfl
    · left
      show (if b.toNat < 128 then _ else _) = _
      rw [if_neg h1, if_neg h2, if_neg h3, if_neg h4, if_neg h5]
def stepL (l : List UInt8) : Nat := (nextL l).2.toNat
def badL (l : List UInt8) : Option Nat :=
  match l with
  | [] => none
  | b :: t => if h : stepL (b :: t) = 0 then some 0 else (badL ((b :: t).drop (stepL (b :: t)))).map (· + stepL (b :: t))
termination_by l.length
decreasing_by simp; omega
def ptsL (l : List UInt8) : List Int :=
  match l with
  | [] => []
  | b :: t => if h : stepL (b :: t) = 0 then [] else (nextL (b :: t)).1 :: ptsL ((b :: t).drop (stepL (b :: t)))
termination_by l.length
decreasing_by simp; omega
theorem badL_nil : badL [] = none := by rw [badL]
theorem badL_zero {l : List UInt8} (h0 : l ≠ []) (h : stepL l = 0) : badL l = some 0 := by
  cases l with
  | nil => exact absurd rfl h0
  | cons b t => rw [badL, dif_pos h]
theorem badL_step {l : List UInt8} (h : stepL l ≠ 0) : badL l = (badL (l.drop (stepL l))).map (· + stepL l) := by
  cases l with
  | nil => exact absurd rfl h
  | cons b t => rw [badL, dif_neg h]
end Go.Proofs.YtdmbhoagjjkogaaGreatDoor

namespace Go.Proofs.YtdmbhoagjjkogaaGreatDoor
open Go.RowKit
set_option linter.unusedVariables false
set_option linter.unusedSimpArgs false
theorem stepL_of {l : List UInt8} {r : Int} {n : Nat} (h : nextL l = (r, (n : Int))) : stepL l = n := by unfold stepL; rw [h]; simp
theorem next_of {l : List UInt8} {r n : Int} (h : nextL l = (r, n)) (w : World) (hl : l.length ≤ 140737488355328) : Pure 161 #[.string (S l)] w (.tuple #[.int .i64 r, .int .i64 n]) := by
  have := next_any l w hl; unfold NextIs at this; rw [h] at this; exact this
def badV (o : Option Nat) : Int := match o with | none => -1 | some k => (k : Int)
theorem bad_step {l : List UInt8} {k n : Nat} {r : Int} (hn : nextL (l.drop k) = (r, (n : Int))) (h1 : 1 ≤ n) (h : badL l = (badL (l.drop k)).map (· + k)) : badL l = (badL (l.drop (k + n))).map (· + (k + n)) := by
  rw [h, badL_step (by rw [stepL_of hn]; omega), stepL_of hn, List.drop_drop, Option.map_map]
  congr 1
  funext x
  simp only [Function.comp]
  omega
theorem bad_here {l : List UInt8} {k : Nat} (hk : k < l.length) (hn : nextL (l.drop k) = (0, 0)) (h : badL l = (badL (l.drop k)).map (· + k)) : badL l = some k := by
  rw [h, badL_zero (by intro h; have := congrArg List.length h; simp at this; omega) (by unfold stepL; rw [hn]; rfl)]
  simp
theorem bad_end {l : List UInt8} {k : Nat} (hk : l.length ≤ k) (h : badL l = (badL (l.drop k)).map (· + k)) : badL l = none := by
  rw [h, List.drop_eq_nil_of_le hk, badL_nil]; rfl
set_option maxRecDepth 100000 in
set_option maxHeartbeats 1000000 in
theorem bad_any (l : List UInt8) (w : World) (hl : l.length ≤ 140737488351232) : Pure 130 #[.string (S l)] w (.int .i64 (badV (badL l))) := by
  go_enter Tryz.func130, Tryz.ntmps130
  go_wp2
  go_loop [3] (fun i => ∃ k : Nat, k ≤ l.length ∧ i = .int .i64 k ∧ badL l = (badL (l.drop k)).map (· + k)) (fun i => l.length - (intOf i).toNat)
  case atStart => exact ⟨0, Nat.zero_le _, rfl, by simp⟩
  case round =>
    obtain ⟨k, hk, rfl, hb⟩ := hrel
    have Hb := hid hb; clear hb
    by_cases hlt : k < l.length
    · rcases nextL_bounds (l.drop k) with hn | ⟨r, n, hn, hm, n1, n4, nl⟩
      · have Hn := hid hn
        have c := next_of hn
        have C := hid c
        clear hn c
        go_wp2_with (go_at_call 161; refine (C.out _ (by simp; omega)).use ?_)
        go_ret
        exact ⟨ret_int (by rw [bad_here hlt Hn.out Hb.out]; rfl), rfl⟩
      · have Hn := hid hn
        have c := next_of hn
        have C := hid c
        rw [List.length_drop] at nl
        have z : ((n : Int) == 0) = false := beq_eq_false_iff_ne.2 (by omega)
        clear hn c hm
        go_wp2_with (go_at_call 161; refine (C.out _ (by simp; omega)).use ?_)
        go_round
        case rel => exact ⟨k + n, by omega, by go_num, bad_step Hn.out n1 Hb.out⟩
        case measure => simp [intOf]; omega
    · go_wp2
      go_ret
      exact ⟨ret_int (by rw [bad_end (by omega) Hb.out]; rfl), rfl⟩
def IsInts (w : World) (v : Value) (xs : List Int) : Prop :=
  (v = .slice none 0 0 ∧ xs = []) ∨ ∃ b cap, v = .slice (some ⟨b, 0, none⟩) xs.length cap ∧ b < w.heap.size ∧ xs ≠ [] ∧ ∀ j (h : j < xs.length), w.cell? ⟨b, j, none⟩ = some (.int .i64 xs[j])
theorem IsInts.grow {w w' : World} {v : Value} {xs : List Int} (h : IsInts w v xs) (g : G w w') : IsInts w' v xs := by
  rcases h with h | ⟨b, cap, h1, h2, h4, h3⟩
  · exact Or.inl h
  · exact Or.inr ⟨b, cap, h1, Nat.lt_of_lt_of_le h2 g.size, h4, fun j hj => by rw [g.cell h2]; exact h3 j hj⟩
theorem IsInts.own {w wr : World} {v : Value} {xs : List Int} (h : wr.ownsRow w.heap.size 3 1 v xs.length (xs.map (Value.int .i64))) (h0 : xs = [] → v = .slice none 0 0) : IsInts wr v xs := by
  by_cases hx : xs = []
  · exact Or.inl ⟨h0 hx, hx⟩
  · right
    obtain ⟨h1, h2⟩ := h
    rcases h2 with ⟨h3, h4⟩ | ⟨g, cap, cur, hv, hb, hh, hn, hm, hcs, ht⟩
    · exact absurd (List.eq_nil_of_length_eq_zero h4) hx
    · have hlt : g < wr.heap.size := by
        rcases Nat.lt_or_ge g wr.heap.size with h | h
        · exact h
        · rw [Array.getElem?_eq_none h] at hh; cases hh
      refine ⟨g, cap, hv, hlt, hx, fun j hj => ?_⟩
      subst hv
      have := World.ownsRow.cellAt (w := wr) (base := w.heap.size) (e := 3) (size := 1) (g := g) (n := xs.length) (cap := cap) (xs := xs.map (Value.int .i64)) ⟨h1, Or.inr ⟨g, cap, cur, rfl, hb, hh, hn, hm, hcs, ht⟩⟩ j (by omega)
      rw [this]
      simp [List.getElem?_eq_getElem hj]
def PtsPost (l : List UInt8) (v : Value) (w' : World) : Prop :=
  match badL l with
  | none => ∃ s, v = .tuple #[s, .nilIface] ∧ IsInts w' s (ptsL l)
  | some k => ∃ e, v = .tuple #[.slice none 0 0, e] ∧ IsAt w' e 3 k
theorem PtsPost.good {l : List UInt8} {s : Value} {w' : World} (h : badL l = none) (hs : IsInts w' s (ptsL l)) : PtsPost l (.tuple #[s, .nilIface]) w' := by
  unfold PtsPost; rw [h]; exact ⟨s, rfl, hs⟩
theorem PtsPost.bad {l : List UInt8} {k : Nat} {e : Value} {w' : World} (h : badL l = some k) (hs : IsAt w' e 3 k) : PtsPost l (.tuple #[.slice none 0 0, e]) w' := by
  unfold PtsPost; rw [h]; exact ⟨e, rfl, hs⟩
end Go.Proofs.YtdmbhoagjjkogaaGreatDoor

namespace Go.Proofs.YtdmbhoagjjkogaaGreatDoor
open Go.RowKit
set_option linter.unusedVariables false
set_option linter.unusedSimpArgs false
theorem isC_iff {c : UInt8} : isC c = true ↔ 128 ≤ c.toNat ∧ c.toNat < 192 := by
  unfold isC; rw [beq_iff_eq]; omega
theorem finU_some {low r n : Int} {x : Int} {m : Nat} (h : finU low r n = (x, (m : Int))) (hm : 1 ≤ m) : x = r ∧ (m : Int) = n ∧ low ≤ r ∧ mayB r = true := by
  rcases finU_bounds low r n with h' | ⟨h', h2, h3⟩
  · rw [h'] at h; have := congrArg Prod.snd h; simp at this; omega
  · rw [h'] at h
    have e1 := congrArg Prod.fst h
    have e2 := congrArg Prod.snd h
    exact ⟨e1.symm, e2.symm, h3, h2⟩
theorem pointL_1 {r : Int} (h : r < 128) : pointL r = [byteOf r] := by unfold pointL; rw [if_pos h]
theorem pointL_2 {r : Int} (h1 : ¬ r < 128) (h2 : r < 2048) : pointL r = [byteOf (192 + r / 64), byteOf (128 + r % 64)] := by unfold pointL; rw [if_neg h1, if_pos h2]
theorem pointL_3 {r : Int} (h1 : ¬ r < 128) (h2 : ¬ r < 2048) (h3 : r < 65536) : pointL r = [byteOf (224 + r / 4096), byteOf (128 + r / 64 % 64), byteOf (128 + r % 64)] := by unfold pointL; rw [if_neg h1, if_neg h2, if_pos h3]
theorem pointL_4 {r : Int} (h1 : ¬ r < 128) (h2 : ¬ r < 2048) (h3 : ¬ r < 65536) : pointL r = [byteOf (240 + r / 262144), byteOf (128 + r / 4096 % 64), byteOf (128 + r / 64 % 64), byteOf (128 + r % 64)] := by unfold pointL; rw [if_neg h1, if_neg h2, if_neg h3]
theorem encode_next {l : List UInt8} {r : Int} {n : Nat} (h : nextL l = (r, (n : Int))) (hn : 1 ≤ n) : pointL r = l.take n := by
  have hz : ∀ {p : Int × Int}, p = (0, 0) → p = (r, (n : Int)) → pointL r = l.take n := by
    intro p h1 h2; rw [h1] at h2; have := congrArg Prod.snd h2; simp at this; omega
  match l with
  | [] => exact hz rfl h
  | b :: t =>
    by_cases h1 : b.toNat < 128
    · have e : nextL (b :: t) = ((b.toNat : Int), 1) := by show (if b.toNat < 128 then _ else _) = _; rw [if_pos h1]
      rw [e] at h
      have e1 := congrArg Prod.fst h
      have e2 := congrArg Prod.snd h
      simp only at e1 e2
      have : n = 1 := by omega
      subst this
      rw [pointL_1 (by omega), ← e1, byteOf_eq rfl]; rfl
    by_cases h2 : b.toNat < 192
    · exact hz (by show (if b.toNat < 128 then _ else _) = _; rw [if_neg h1, if_pos h2]) h
    by_cases h3 : b.toNat < 224
    · match t, h with
      | [], h => exact hz (by show (if b.toNat < 128 then _ else _) = _; rw [if_neg h1, if_neg h2, if_pos h3]) h
      | c1 :: t, h =>
        rw [nextL_2 (by omega) h3] at h
        split at h
        · rename_i hc
          obtain ⟨rfl, hk, hlow, _⟩ := finU_some h hn
          have : n = 2 := by omega
          subst this
          have k1 := isC_iff.1 hc
          unfold acc at *
          rw [pointL_2 (by omega) (by omega), byteOf_eq (c := b) (by omega), byteOf_eq (c := c1) (by omega)]; rfl
        · exact hz rfl h
    by_cases h4 : b.toNat < 240
    · match t, h with
      | [], h => exact hz (by show (if b.toNat < 128 then _ else _) = _; rw [if_neg h1, if_neg h2, if_neg h3, if_pos h4]) h
      | [c1], h => exact hz (by show (if b.toNat < 128 then _ else _) = _; rw [if_neg h1, if_neg h2, if_neg h3, if_pos h4]) h
      | c1 :: c2 :: t, h =>
        rw [nextL_3 (by omega) h4] at h
        split at h
        · rename_i hc
          obtain ⟨rfl, hk, hlow, _⟩ := finU_some h hn
          have : n = 3 := by omega
          subst this
          have k1 := isC_iff.1 hc.1
          have k2 := isC_iff.1 hc.2
          unfold acc at *
          rw [pointL_3 (by omega) (by omega) (by omega), byteOf_eq (c := b) (by omega), byteOf_eq (c := c1) (by omega), byteOf_eq (c := c2) (by omega)]; rfl
        · exact hz rfl h
    by_cases h5 : b.toNat < 248
    · match t, h with
      | [], h => exact hz (by show (if b.toNat < 128 then _ else _) = _; rw [if_neg h1, if_neg h2, if_neg h3, if_neg h4, if_pos h5]) h
      | [c1], h => exact hz (by show (if b.toNat < 128 then _ else _) = _; rw [if_neg h1, if_neg h2, if_neg h3, if_neg h4, if_pos h5]) h
      | [c1, c2], h => exact hz (by show (if b.toNat < 128 then _ else _) = _; rw [if_neg h1, if_neg h2, if_neg h3, if_neg h4, if_pos h5]) h
      | c1 :: c2 :: c3 :: t, h =>
        rw [nextL_4 (by omega) h5] at h
        split at h
        · rename_i hc
          obtain ⟨rfl, hk, hlow, _⟩ := finU_some h hn
          have : n = 4 := by omega
          subst this
          have k1 := isC_iff.1 hc.1
          have k2 := isC_iff.1 hc.2.1
          have k3 := isC_iff.1 hc.2.2
          unfold acc at *
          rw [pointL_4 (by omega) (by omega) (by omega), byteOf_eq (c := b) (by omega), byteOf_eq (c := c1) (by omega), byteOf_eq (c := c2) (by omega), byteOf_eq (c := c3) (by omega)]; rfl
        · exact hz rfl h
    · exact hz (by show (if b.toNat < 128 then _ else _) = _; rw [if_neg h1, if_neg h2, if_neg h3, if_neg h4, if_neg h5]) h
theorem finU_ok {low r n : Int} (h : low ≤ r) (hm : mayB r = true) : finU low r n = (r, n) := by
  unfold finU; rw [if_neg (by rw [hm]; simp; omega)]
theorem next_point {r : Int} (hm : mayB r = true) (more : List UInt8) : nextL (pointL r ++ more) = (r, ((pointL r).length : Int)) := by
  obtain ⟨h0, h9⟩ := may_range hm
  by_cases h1 : r < 128
  · rw [pointL_1 h1]
    have := byteOf_toNat h0 (by omega)
    show (if (byteOf r).toNat < 128 then (((byteOf r).toNat : Int), (1 : Int)) else _) = _
    rw [if_pos (by omega), this]; rfl
  by_cases h2 : r < 2048
  · rw [pointL_2 h1 h2]
    have a := byteOf_toNat (n := 192 + r / 64) (by omega) (by omega)
    have b := byteOf_toNat (n := 128 + r % 64) (by omega) (by omega)
    show nextL (_ :: _ :: more) = _
    rw [nextL_2 (by omega) (by omega), if_pos (isC_iff.2 (by omega))]
    unfold acc
    rw [a, b]
    have e : (192 + r / 64 - 192) * 64 + (128 + r % 64) % 64 = r := by omega
    rw [e, finU_ok (by omega) hm]; rfl
  by_cases h3 : r < 65536
  · rw [pointL_3 h1 h2 h3]
    have a := byteOf_toNat (n := 224 + r / 4096) (by omega) (by omega)
    have b := byteOf_toNat (n := 128 + r / 64 % 64) (by omega) (by omega)
    have c := byteOf_toNat (n := 128 + r % 64) (by omega) (by omega)
    show nextL (_ :: _ :: _ :: more) = _
    rw [nextL_3 (by omega) (by omega), if_pos ⟨isC_iff.2 (by omega), isC_iff.2 (by omega)⟩]
    unfold acc
    rw [a, b, c]
    have e : ((224 + r / 4096 - 224) * 64 + (128 + r / 64 % 64) % 64) * 64 + (128 + r % 64) % 64 = r := by omega
    rw [e, finU_ok (by omega) hm]; rfl
  · rw [pointL_4 h1 h2 h3]
    have a := byteOf_toNat (n := 240 + r / 262144) (by omega) (by omega)
    have b := byteOf_toNat (n := 128 + r / 4096 % 64) (by omega) (by omega)
    have c := byteOf_toNat (n := 128 + r / 64 % 64) (by omega) (by omega)
    have d := byteOf_toNat (n := 128 + r % 64) (by omega) (by omega)
    show nextL (_ :: _ :: _ :: _ :: more) = _
    rw [nextL_4 (by omega) (by omega), if_pos ⟨isC_iff.2 (by omega), isC_iff.2 (by omega), isC_iff.2 (by omega)⟩]
    unfold acc
    rw [a, b, c, d]
    have e : (((240 + r / 262144 - 240) * 64 + (128 + r / 4096 % 64) % 64) * 64 + (128 + r / 64 % 64) % 64) * 64 + (128 + r % 64) % 64 = r := by omega
    rw [e, finU_ok (by omega) hm]; rfl
theorem next_append {l : List UInt8} (h : stepL l ≠ 0) (m : List UInt8) : nextL (l ++ m) = nextL l := by
  rcases nextL_bounds l with hn | ⟨r, n, hn, hm, n1, n4, nl⟩
  · exact absurd (by unfold stepL; rw [hn]; rfl) h
  · have e := encode_next hn n1
    have hl : l = l.take n ++ l.drop n := (List.take_append_drop n l).symm
    rw [hn]
    have e2 : l ++ m = pointL r ++ (l.drop n ++ m) := by rw [e, ← List.append_assoc, List.take_append_drop]
    rw [e2, next_point hm]
    rw [e, List.length_take, Nat.min_eq_left nl]
theorem step_append {l : List UInt8} (h : stepL l ≠ 0) (m : List UInt8) : stepL (l ++ m) = stepL l := by
  unfold stepL; rw [next_append h m]
theorem step_le (l : List UInt8) : stepL l ≤ l.length := by
  rcases nextL_bounds l with hn | ⟨r, n, hn, _, _, _, nl⟩
  · unfold stepL; rw [hn]; simp
  · rw [stepL_of hn]; exact nl
theorem text_ind {p : List UInt8 → Prop} (nil : p []) (step : ∀ l, stepL l ≠ 0 → p (l.drop (stepL l)) → p l) : ∀ l, badL l = none → p l := by
  have key : ∀ n, ∀ l : List UInt8, l.length ≤ n → badL l = none → p l := by
    intro n
    induction n with
    | zero => intro l hl _; cases l with | nil => exact nil | cons _ _ => simp at hl
    | succ n ih =>
      intro l hl hb
      by_cases h0 : l = []
      · subst h0; exact nil
      · by_cases hs : stepL l = 0
        · rw [badL_zero h0 hs] at hb; cases hb
        · refine step l hs (ih _ ?_ ?_)
          · simp; omega
          · rw [badL_step hs] at hb
            cases hd : badL (l.drop (stepL l)) with
            | none => rfl
            | some x => rw [hd] at hb; cases hb
  exact fun l hb => key l.length l (Nat.le_refl _) hb
theorem bad_append {a b : List UInt8} (ha : badL a = none) : badL (a ++ b) = (badL b).map (· + a.length) := by
  refine text_ind (p := fun a => badL (a ++ b) = (badL b).map (· + a.length)) (by simp) ?_ a ha
  intro l hs ih
  rw [badL_step (by rw [step_append hs]; exact hs), step_append hs, List.drop_append_of_le_length (step_le l), ih, Option.map_map]
  congr 1
  funext x
  have := step_le l
  simp; omega
theorem bad_append_none {a b : List UInt8} (ha : badL a = none) (hb : badL b = none) : badL (a ++ b) = none := by rw [bad_append ha, hb]; rfl
end Go.Proofs.YtdmbhoagjjkogaaGreatDoor
