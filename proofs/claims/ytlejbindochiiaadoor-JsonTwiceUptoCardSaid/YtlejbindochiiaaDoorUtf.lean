/-
  CONTRACTS of package utf: May, Next, Point, Bad, Points, Cut, for all texts of at most 2 to the 47 bytes, and the plain functions that they compute.
-/
import Derived.Test.YtlejbindochiiaaDoorErr
namespace Go.Proofs.YtlejbindochiiaaDoor
open Go.RowKit
set_option linter.unusedVariables false
set_option linter.unusedSimpArgs false

def mayB (r : Int) : Bool := decide (0 ≤ r ∧ r ≤ 1114111 ∧ (r < 55296 ∨ 57343 < r))
set_option maxRecDepth 100000 in
set_option maxHeartbeats 400000 in
theorem may_any (r : Int) (w : World) : Pure 36 #[.int .i64 r] w (.bool (mayB r)) := by
  go_enter Tryd.func36, Tryd.ntmps36
  go_wp2
  all_goals go_ret
  all_goals exact ⟨ret_bool (by unfold mayB; rw [Bool.eq_iff_iff]; simp; omega), rfl⟩

def isC (c : UInt8) : Bool := (c.toNat : Int) / 64 == 2
def finU (low r : Int) (n : Int) : Int × Int := if r < low ∨ mayB r = false then (0, 0) else (r, n)
def acc (r : Int) (c : UInt8) : Int := r * 64 + (c.toNat : Int) % 64
/-- the code point that a text begins with, and how many bytes it has -/
def nextL : List UInt8 → Int × Int
  | [] => (0, 0)
  | b :: t =>
    if b.toNat < 128 then ((b.toNat : Int), 1)
    else if b.toNat < 192 then (0, 0)
    else if b.toNat < 224 then (match t with
      | c1 :: _ => if isC c1 = true then finU 128 (acc ((b.toNat : Int) - 192) c1) 2 else (0, 0)
      | _ => (0, 0))
    else if b.toNat < 240 then (match t with
      | c1 :: c2 :: _ => if isC c1 = true ∧ isC c2 = true then finU 2048 (acc (acc ((b.toNat : Int) - 224) c1) c2) 3 else (0, 0)
      | _ => (0, 0))
    else if b.toNat < 248 then (match t with
      | c1 :: c2 :: c3 :: _ => if isC c1 = true ∧ isC c2 = true ∧ isC c3 = true then finU 65536 (acc (acc (acc ((b.toNat : Int) - 240) c1) c2) c3) 4 else (0, 0)
      | _ => (0, 0))
    else (0, 0)

theorem acc_bounds {r : Int} {c : UInt8} {m : Int} (h0 : 0 ≤ r) (h1 : r < m) : 0 ≤ acc r c ∧ acc r c < m * 64 := by
  unfold acc; omega
theorem or_acc {r : Int} {c : UInt8} (h0 : 0 ≤ r) (h1 : r < 16777216) : bits .or .i64 (r * 64) ((c.toNat : Int) % 64) = acc r c :=
  i64_join 6 _ _ (by omega) (by simp) (by omega) (by omega) (by omega) (by omega)
theorem ret_n2 {a b : Value} {p : Int × Int} {x y : Int} (h : p = (x, y)) (ha : a = .int .i64 x) (hb : b = .int .i64 y) :
    Ending.returned (.tuple #[a, b]) = .returned (.tuple #[.int .i64 p.1, .int .i64 p.2]) := by rw [h, ha, hb]

def NextIs (l : List UInt8) (w : World) : Prop := Pure 22 #[.string (S l)] w (.tuple #[.int .i64 (nextL l).1, .int .i64 (nextL l).2])

set_option maxRecDepth 100000 in
set_option maxHeartbeats 400000 in
theorem next_nil (w : World) : NextIs [] w := by
  unfold NextIs
  go_enter Tryd.func22, Tryd.ntmps22
  go_wp2
  go_ret2
  exact ⟨rfl, rfl⟩
set_option maxRecDepth 100000 in
set_option maxHeartbeats 400000 in
theorem next_ascii (b : UInt8) (t : List UInt8) (w : World) (ht : t.length ≤ 140737488355328) (hb : b.toNat < 128) : NextIs (b :: t) w := by
  unfold NextIs
  have hp : Hid (nextL (b :: t) = ((b.toNat : Int), 1)) := hid (by show (if b.toNat < 128 then _ else _) = _; rw [if_pos hb])
  go_enter Tryd.func22, Tryd.ntmps22
  go_wp2
  go_ret2
  exact ⟨ret_n2 hp.out rfl rfl, rfl⟩
set_option maxRecDepth 100000 in
set_option maxHeartbeats 400000 in
theorem next_bad (b : UInt8) (t : List UInt8) (w : World) (ht : t.length ≤ 140737488355328) (hb : 128 ≤ b.toNat ∧ b.toNat < 192 ∨ 248 ≤ b.toNat) : NextIs (b :: t) w := by
  unfold NextIs
  have hp : Hid (nextL (b :: t) = (0, 0)) := hid (by
    show (if b.toNat < 128 then _ else _) = _
    rcases hb with hb | hb
    · rw [if_neg (by omega), if_pos (by omega)]
    · rw [if_neg (by omega), if_neg (by omega), if_neg (by omega), if_neg (by omega), if_neg (by omega)])
  have hlt : b.toNat < 256 := b.toNat_lt
  have h1 : ((b.toNat : Int) / 32 == 6) = false := beq_eq_false_iff_ne.2 (by omega)
  have h2 : ((b.toNat : Int) / 16 == 14) = false := beq_eq_false_iff_ne.2 (by omega)
  have h3 : ((b.toNat : Int) / 8 == 30) = false := beq_eq_false_iff_ne.2 (by omega)
  have h4 : 128 ≤ (b.toNat : Int) := by omega
  clear hb
  go_enter Tryd.func22, Tryd.ntmps22
  go_wp2
  go_ret2
  exact ⟨ret_n2 hp.out rfl rfl, rfl⟩

/-- a lead byte of two, three, four -/
theorem lead2 {b : UInt8} (h : 192 ≤ b.toNat) (h' : b.toNat < 224) : bits .and .i64 (b.toNat : Int) 31 = (b.toNat : Int) - 192 := by
  have := i64_mask 5 (by omega) (b.toNat : Int) 31 (by omega) (by omega) rfl
  omega
theorem lead3 {b : UInt8} (h : 224 ≤ b.toNat) (h' : b.toNat < 240) : bits .and .i64 (b.toNat : Int) 15 = (b.toNat : Int) - 224 := by
  have := i64_mask 4 (by omega) (b.toNat : Int) 15 (by omega) (by omega) rfl
  omega
theorem lead4 {b : UInt8} (h : 240 ≤ b.toNat) (h' : b.toNat < 248) : bits .and .i64 (b.toNat : Int) 7 = (b.toNat : Int) - 240 := by
  have := i64_mask 3 (by omega) (b.toNat : Int) 7 (by omega) (by omega) rfl
  omega
theorem isC_no {c : UInt8} (h : isC c = false) : ((c.toNat : Int) / 64 != 2) = true := by unfold isC at h; simp only [bne, h]; rfl
theorem isC_yes {c : UInt8} (h : isC c = true) : ((c.toNat : Int) / 64 != 2) = false := by unfold isC at h; simp only [bne, h]; rfl

theorem nextL_2 {b c1 : UInt8} {t : List UInt8} (h : 192 ≤ b.toNat) (h' : b.toNat < 224) : nextL (b :: c1 :: t) = if isC c1 = true then finU 128 (acc ((b.toNat : Int) - 192) c1) 2 else (0, 0) := by
  show (if b.toNat < 128 then _ else _) = _
  rw [if_neg (by omega), if_neg (by omega), if_pos (by omega)]
theorem nextL_3 {b c1 c2 : UInt8} {t : List UInt8} (h : 224 ≤ b.toNat) (h' : b.toNat < 240) : nextL (b :: c1 :: c2 :: t) = if isC c1 = true ∧ isC c2 = true then finU 2048 (acc (acc ((b.toNat : Int) - 224) c1) c2) 3 else (0, 0) := by
  show (if b.toNat < 128 then _ else _) = _
  rw [if_neg (by omega), if_neg (by omega), if_neg (by omega), if_pos (by omega)]
theorem nextL_4 {b c1 c2 c3 : UInt8} {t : List UInt8} (h : 240 ≤ b.toNat) (h' : b.toNat < 248) : nextL (b :: c1 :: c2 :: c3 :: t) = if isC c1 = true ∧ isC c2 = true ∧ isC c3 = true then finU 65536 (acc (acc (acc ((b.toNat : Int) - 240) c1) c2) c3) 4 else (0, 0) := by
  show (if b.toNat < 128 then _ else _) = _
  rw [if_neg (by omega), if_neg (by omega), if_neg (by omega), if_neg (by omega), if_pos (by omega)]

set_option maxRecDepth 100000 in
set_option maxHeartbeats 1000000 in
theorem next_2 (b c1 : UInt8) (t : List UInt8) (w : World) (ht : t.length ≤ 140737488355328) (hb : 192 ≤ b.toNat) (hb2 : b.toNat < 224) : NextIs (b :: c1 :: t) w := by
  unfold NextIs
  have hp := nextL_2 (c1 := c1) (t := t) hb hb2
  have hlt : b.toNat < 256 := b.toNat_lt
  have hc1 : c1.toNat < 256 := c1.toNat_lt
  have t0 : ((b.toNat : Int) / 32 == 6) = true := beq_iff_eq.2 (by omega)
  have h4 : 128 ≤ (b.toNat : Int) := by omega
  have e0 := lead2 hb hb2
  cases hk0 : isC c1
  · rw [if_neg (by simp [hk0])] at hp
    have Hp := hid hp
    have k0 := isC_no hk0
    clear hp hk0
    go_enter Tryd.func22, Tryd.ntmps22
    go_wp2
    refine wp_loop_rounds 2 ?_
    rw [rounds_succ]
    go_wp2
    go_ret2
    exact ⟨ret_n2 Hp.out rfl rfl, rfl⟩
  · have k0 := isC_yes hk0
    have e1 := or_acc (r := ((b.toNat : Int) - 192)) (c := c1) (by omega) (by omega)
    have bd1 := acc_bounds (r := ((b.toNat : Int) - 192)) (c := c1) (m := 32) (by omega) (by omega)
    generalize acc ((b.toNat : Int) - 192) c1 = r1 at *
    obtain ⟨bl1, bh1⟩ := bd1
    rw [if_pos (by simp [hk0])] at hp
    unfold finU at hp
    by_cases hlow : r1 < 128
    · rw [if_pos (Or.inl hlow)] at hp
      have Hp := hid hp
      clear hp hk0
      go_enter Tryd.func22, Tryd.ntmps22
      go_wp2
      refine wp_loop_rounds 2 ?_
      rw [rounds_succ]
      go_wp2
      rw [rounds_succ]
      go_wp2
      go_ret2
      exact ⟨ret_n2 Hp.out rfl rfl, rfl⟩
    · cases hm : mayB r1
      · rw [if_pos (Or.inr hm)] at hp
        have Hp := hid hp
        clear hp hk0
        go_enter Tryd.func22, Tryd.ntmps22
        go_wp2
        refine wp_loop_rounds 2 ?_
        rw [rounds_succ]
        go_wp2
        rw [rounds_succ]
        go_wp2_with (go_at_call 36; refine (may_any r1 _).use ?_; rw [hm])
        go_ret2
        exact ⟨ret_n2 Hp.out rfl rfl, rfl⟩
      · rw [if_neg (by rw [hm]; simp [hlow])] at hp
        have Hp := hid hp
        clear hp hk0
        go_enter Tryd.func22, Tryd.ntmps22
        go_wp2
        refine wp_loop_rounds 2 ?_
        rw [rounds_succ]
        go_wp2
        rw [rounds_succ]
        go_wp2_with (go_at_call 36; refine (may_any r1 _).use ?_; rw [hm])
        go_ret2
        exact ⟨ret_n2 Hp.out rfl rfl, rfl⟩
set_option maxRecDepth 100000 in
set_option maxHeartbeats 400000 in
theorem next_2_0 (b : UInt8) (w : World) (hb : 192 ≤ b.toNat) (hb2 : b.toNat < 224) : NextIs [b] w := by
  unfold NextIs
  have Hp : Hid (nextL [b] = (0, 0)) := hid (by
    show (if b.toNat < 128 then _ else _) = _
    rw [if_neg (by omega), if_neg (by omega), if_pos (by omega)])
  have hlt : b.toNat < 256 := b.toNat_lt
  have t0 : ((b.toNat : Int) / 32 == 6) = true := beq_iff_eq.2 (by omega)
  have h4 : 128 ≤ (b.toNat : Int) := by omega
  have e0 := lead2 hb hb2
  go_enter Tryd.func22, Tryd.ntmps22
  go_wp2
  go_ret2
  exact ⟨ret_n2 Hp.out rfl rfl, rfl⟩
set_option maxRecDepth 100000 in
set_option maxHeartbeats 1000000 in
theorem next_3 (b c1 c2 : UInt8) (t : List UInt8) (w : World) (ht : t.length ≤ 140737488355328) (hb : 224 ≤ b.toNat) (hb2 : b.toNat < 240) : NextIs (b :: c1 :: c2 :: t) w := by
  unfold NextIs
  have hp := nextL_3 (c1 := c1) (c2 := c2) (t := t) hb hb2
  have hlt : b.toNat < 256 := b.toNat_lt
  have hc1 : c1.toNat < 256 := c1.toNat_lt
  have hc2 : c2.toNat < 256 := c2.toNat_lt
  have t0 : ((b.toNat : Int) / 32 == 6) = false := beq_eq_false_iff_ne.2 (by omega)
  have t1 : ((b.toNat : Int) / 16 == 14) = true := beq_iff_eq.2 (by omega)
  have h4 : 128 ≤ (b.toNat : Int) := by omega
  have e0 := lead3 hb hb2
  cases hk0 : isC c1
  · rw [if_neg (by simp [hk0])] at hp
    have Hp := hid hp
    have k0 := isC_no hk0
    clear hp hk0
    go_enter Tryd.func22, Tryd.ntmps22
    go_wp2
    refine wp_loop_rounds 3 ?_
    rw [rounds_succ]
    go_wp2
    go_ret2
    exact ⟨ret_n2 Hp.out rfl rfl, rfl⟩
  · have k0 := isC_yes hk0
    have e1 := or_acc (r := ((b.toNat : Int) - 224)) (c := c1) (by omega) (by omega)
    have bd1 := acc_bounds (r := ((b.toNat : Int) - 224)) (c := c1) (m := 16) (by omega) (by omega)
    generalize acc ((b.toNat : Int) - 224) c1 = r1 at *
    obtain ⟨bl1, bh1⟩ := bd1
    cases hk1 : isC c2
    · rw [if_neg (by simp [hk1])] at hp
      have Hp := hid hp
      have k1 := isC_no hk1
      clear hp hk0 hk1
      go_enter Tryd.func22, Tryd.ntmps22
      go_wp2
      refine wp_loop_rounds 3 ?_
      rw [rounds_succ]
      go_wp2
      rw [rounds_succ]
      go_wp2
      go_ret2
      exact ⟨ret_n2 Hp.out rfl rfl, rfl⟩
    · have k1 := isC_yes hk1
      have e2 := or_acc (r := r1) (c := c2) (by omega) (by omega)
      have bd2 := acc_bounds (r := r1) (c := c2) (m := 1024) (by omega) (by omega)
      generalize acc r1 c2 = r2 at *
      obtain ⟨bl2, bh2⟩ := bd2
      rw [if_pos (by simp [hk0, hk1])] at hp
      unfold finU at hp
      by_cases hlow : r2 < 2048
      · rw [if_pos (Or.inl hlow)] at hp
        have Hp := hid hp
        clear hp hk0 hk1
        go_enter Tryd.func22, Tryd.ntmps22
        go_wp2
        refine wp_loop_rounds 3 ?_
        rw [rounds_succ]
        go_wp2
        rw [rounds_succ]
        go_wp2
        rw [rounds_succ]
        go_wp2
        go_ret2
        exact ⟨ret_n2 Hp.out rfl rfl, rfl⟩
      · cases hm : mayB r2
        · rw [if_pos (Or.inr hm)] at hp
          have Hp := hid hp
          clear hp hk0 hk1
          go_enter Tryd.func22, Tryd.ntmps22
          go_wp2
          refine wp_loop_rounds 3 ?_
          rw [rounds_succ]
          go_wp2
          rw [rounds_succ]
          go_wp2
          rw [rounds_succ]
          go_wp2_with (go_at_call 36; refine (may_any r2 _).use ?_; rw [hm])
          go_ret2
          exact ⟨ret_n2 Hp.out rfl rfl, rfl⟩
        · rw [if_neg (by rw [hm]; simp [hlow])] at hp
          have Hp := hid hp
          clear hp hk0 hk1
          go_enter Tryd.func22, Tryd.ntmps22
          go_wp2
          refine wp_loop_rounds 3 ?_
          rw [rounds_succ]
          go_wp2
          rw [rounds_succ]
          go_wp2
          rw [rounds_succ]
          go_wp2_with (go_at_call 36; refine (may_any r2 _).use ?_; rw [hm])
          go_ret2
          exact ⟨ret_n2 Hp.out rfl rfl, rfl⟩
set_option maxRecDepth 100000 in
set_option maxHeartbeats 400000 in
theorem next_3_0 (b : UInt8) (w : World) (hb : 224 ≤ b.toNat) (hb2 : b.toNat < 240) : NextIs [b] w := by
  unfold NextIs
  have Hp : Hid (nextL [b] = (0, 0)) := hid (by
    show (if b.toNat < 128 then _ else _) = _
    rw [if_neg (by omega), if_neg (by omega), if_neg (by omega), if_pos (by omega)])
  have hlt : b.toNat < 256 := b.toNat_lt
  have t0 : ((b.toNat : Int) / 32 == 6) = false := beq_eq_false_iff_ne.2 (by omega)
  have t1 : ((b.toNat : Int) / 16 == 14) = true := beq_iff_eq.2 (by omega)
  have h4 : 128 ≤ (b.toNat : Int) := by omega
  have e0 := lead3 hb hb2
  go_enter Tryd.func22, Tryd.ntmps22
  go_wp2
  go_ret2
  exact ⟨ret_n2 Hp.out rfl rfl, rfl⟩
set_option maxRecDepth 100000 in
set_option maxHeartbeats 400000 in
theorem next_3_1 (b c1 : UInt8) (w : World) (hb : 224 ≤ b.toNat) (hb2 : b.toNat < 240) : NextIs [b, c1] w := by
  unfold NextIs
  have Hp : Hid (nextL [b, c1] = (0, 0)) := hid (by
    show (if b.toNat < 128 then _ else _) = _
    rw [if_neg (by omega), if_neg (by omega), if_neg (by omega), if_pos (by omega)])
  have hlt : b.toNat < 256 := b.toNat_lt
  have t0 : ((b.toNat : Int) / 32 == 6) = false := beq_eq_false_iff_ne.2 (by omega)
  have t1 : ((b.toNat : Int) / 16 == 14) = true := beq_iff_eq.2 (by omega)
  have h4 : 128 ≤ (b.toNat : Int) := by omega
  have e0 := lead3 hb hb2
  go_enter Tryd.func22, Tryd.ntmps22
  go_wp2
  go_ret2
  exact ⟨ret_n2 Hp.out rfl rfl, rfl⟩
set_option maxRecDepth 100000 in
set_option maxHeartbeats 1000000 in
theorem next_4 (b c1 c2 c3 : UInt8) (t : List UInt8) (w : World) (ht : t.length ≤ 140737488355328) (hb : 240 ≤ b.toNat) (hb2 : b.toNat < 248) : NextIs (b :: c1 :: c2 :: c3 :: t) w := by
  unfold NextIs
  have hp := nextL_4 (c1 := c1) (c2 := c2) (c3 := c3) (t := t) hb hb2
  have hlt : b.toNat < 256 := b.toNat_lt
  have hc1 : c1.toNat < 256 := c1.toNat_lt
  have hc2 : c2.toNat < 256 := c2.toNat_lt
  have hc3 : c3.toNat < 256 := c3.toNat_lt
  have t0 : ((b.toNat : Int) / 32 == 6) = false := beq_eq_false_iff_ne.2 (by omega)
  have t1 : ((b.toNat : Int) / 16 == 14) = false := beq_eq_false_iff_ne.2 (by omega)
  have t2 : ((b.toNat : Int) / 8 == 30) = true := beq_iff_eq.2 (by omega)
  have h4 : 128 ≤ (b.toNat : Int) := by omega
  have e0 := lead4 hb hb2
  cases hk0 : isC c1
  · rw [if_neg (by simp [hk0])] at hp
    have Hp := hid hp
    have k0 := isC_no hk0
    clear hp hk0
    go_enter Tryd.func22, Tryd.ntmps22
    go_wp2
    refine wp_loop_rounds 4 ?_
    rw [rounds_succ]
    go_wp2
    go_ret2
    exact ⟨ret_n2 Hp.out rfl rfl, rfl⟩
  · have k0 := isC_yes hk0
    have e1 := or_acc (r := ((b.toNat : Int) - 240)) (c := c1) (by omega) (by omega)
    have bd1 := acc_bounds (r := ((b.toNat : Int) - 240)) (c := c1) (m := 8) (by omega) (by omega)
    generalize acc ((b.toNat : Int) - 240) c1 = r1 at *
    obtain ⟨bl1, bh1⟩ := bd1
    cases hk1 : isC c2
    · rw [if_neg (by simp [hk1])] at hp
      have Hp := hid hp
      have k1 := isC_no hk1
      clear hp hk0 hk1
      go_enter Tryd.func22, Tryd.ntmps22
      go_wp2
      refine wp_loop_rounds 4 ?_
      rw [rounds_succ]
      go_wp2
      rw [rounds_succ]
      go_wp2
      go_ret2
      exact ⟨ret_n2 Hp.out rfl rfl, rfl⟩
    · have k1 := isC_yes hk1
      have e2 := or_acc (r := r1) (c := c2) (by omega) (by omega)
      have bd2 := acc_bounds (r := r1) (c := c2) (m := 512) (by omega) (by omega)
      generalize acc r1 c2 = r2 at *
      obtain ⟨bl2, bh2⟩ := bd2
      cases hk2 : isC c3
      · rw [if_neg (by simp [hk2])] at hp
        have Hp := hid hp
        have k2 := isC_no hk2
        clear hp hk0 hk1 hk2
        go_enter Tryd.func22, Tryd.ntmps22
        go_wp2
        refine wp_loop_rounds 4 ?_
        rw [rounds_succ]
        go_wp2
        rw [rounds_succ]
        go_wp2
        rw [rounds_succ]
        go_wp2
        go_ret2
        exact ⟨ret_n2 Hp.out rfl rfl, rfl⟩
      · have k2 := isC_yes hk2
        have e3 := or_acc (r := r2) (c := c3) (by omega) (by omega)
        have bd3 := acc_bounds (r := r2) (c := c3) (m := 32768) (by omega) (by omega)
        generalize acc r2 c3 = r3 at *
        obtain ⟨bl3, bh3⟩ := bd3
        rw [if_pos (by simp [hk0, hk1, hk2])] at hp
        unfold finU at hp
        by_cases hlow : r3 < 65536
        · rw [if_pos (Or.inl hlow)] at hp
          have Hp := hid hp
          clear hp hk0 hk1 hk2
          go_enter Tryd.func22, Tryd.ntmps22
          go_wp2
          refine wp_loop_rounds 4 ?_
          rw [rounds_succ]
          go_wp2
          rw [rounds_succ]
          go_wp2
          rw [rounds_succ]
          go_wp2
          rw [rounds_succ]
          go_wp2
          go_ret2
          exact ⟨ret_n2 Hp.out rfl rfl, rfl⟩
        · cases hm : mayB r3
          · rw [if_pos (Or.inr hm)] at hp
            have Hp := hid hp
            clear hp hk0 hk1 hk2
            go_enter Tryd.func22, Tryd.ntmps22
            go_wp2
            refine wp_loop_rounds 4 ?_
            rw [rounds_succ]
            go_wp2
            rw [rounds_succ]
            go_wp2
            rw [rounds_succ]
            go_wp2
            rw [rounds_succ]
            go_wp2_with (go_at_call 36; refine (may_any r3 _).use ?_; rw [hm])
            go_ret2
            exact ⟨ret_n2 Hp.out rfl rfl, rfl⟩
          · rw [if_neg (by rw [hm]; simp [hlow])] at hp
            have Hp := hid hp
            clear hp hk0 hk1 hk2
            go_enter Tryd.func22, Tryd.ntmps22
            go_wp2
            refine wp_loop_rounds 4 ?_
            rw [rounds_succ]
            go_wp2
            rw [rounds_succ]
            go_wp2
            rw [rounds_succ]
            go_wp2
            rw [rounds_succ]
            go_wp2_with (go_at_call 36; refine (may_any r3 _).use ?_; rw [hm])
            go_ret2
            exact ⟨ret_n2 Hp.out rfl rfl, rfl⟩
set_option maxRecDepth 100000 in
set_option maxHeartbeats 400000 in
theorem next_4_0 (b : UInt8) (w : World) (hb : 240 ≤ b.toNat) (hb2 : b.toNat < 248) : NextIs [b] w := by
  unfold NextIs
  have Hp : Hid (nextL [b] = (0, 0)) := hid (by
    show (if b.toNat < 128 then _ else _) = _
    rw [if_neg (by omega), if_neg (by omega), if_neg (by omega), if_neg (by omega), if_pos (by omega)])
  have hlt : b.toNat < 256 := b.toNat_lt
  have t0 : ((b.toNat : Int) / 32 == 6) = false := beq_eq_false_iff_ne.2 (by omega)
  have t1 : ((b.toNat : Int) / 16 == 14) = false := beq_eq_false_iff_ne.2 (by omega)
  have t2 : ((b.toNat : Int) / 8 == 30) = true := beq_iff_eq.2 (by omega)
  have h4 : 128 ≤ (b.toNat : Int) := by omega
  have e0 := lead4 hb hb2
  go_enter Tryd.func22, Tryd.ntmps22
  go_wp2
  go_ret2
  exact ⟨ret_n2 Hp.out rfl rfl, rfl⟩
set_option maxRecDepth 100000 in
set_option maxHeartbeats 400000 in
theorem next_4_1 (b c1 : UInt8) (w : World) (hb : 240 ≤ b.toNat) (hb2 : b.toNat < 248) : NextIs [b, c1] w := by
  unfold NextIs
  have Hp : Hid (nextL [b, c1] = (0, 0)) := hid (by
    show (if b.toNat < 128 then _ else _) = _
    rw [if_neg (by omega), if_neg (by omega), if_neg (by omega), if_neg (by omega), if_pos (by omega)])
  have hlt : b.toNat < 256 := b.toNat_lt
  have t0 : ((b.toNat : Int) / 32 == 6) = false := beq_eq_false_iff_ne.2 (by omega)
  have t1 : ((b.toNat : Int) / 16 == 14) = false := beq_eq_false_iff_ne.2 (by omega)
  have t2 : ((b.toNat : Int) / 8 == 30) = true := beq_iff_eq.2 (by omega)
  have h4 : 128 ≤ (b.toNat : Int) := by omega
  have e0 := lead4 hb hb2
  go_enter Tryd.func22, Tryd.ntmps22
  go_wp2
  go_ret2
  exact ⟨ret_n2 Hp.out rfl rfl, rfl⟩
set_option maxRecDepth 100000 in
set_option maxHeartbeats 400000 in
theorem next_4_2 (b c1 c2 : UInt8) (w : World) (hb : 240 ≤ b.toNat) (hb2 : b.toNat < 248) : NextIs [b, c1, c2] w := by
  unfold NextIs
  have Hp : Hid (nextL [b, c1, c2] = (0, 0)) := hid (by
    show (if b.toNat < 128 then _ else _) = _
    rw [if_neg (by omega), if_neg (by omega), if_neg (by omega), if_neg (by omega), if_pos (by omega)])
  have hlt : b.toNat < 256 := b.toNat_lt
  have t0 : ((b.toNat : Int) / 32 == 6) = false := beq_eq_false_iff_ne.2 (by omega)
  have t1 : ((b.toNat : Int) / 16 == 14) = false := beq_eq_false_iff_ne.2 (by omega)
  have t2 : ((b.toNat : Int) / 8 == 30) = true := beq_iff_eq.2 (by omega)
  have h4 : 128 ≤ (b.toNat : Int) := by omega
  have e0 := lead4 hb hb2
  go_enter Tryd.func22, Tryd.ntmps22
  go_wp2
  go_ret2
  exact ⟨ret_n2 Hp.out rfl rfl, rfl⟩

theorem next_any (l : List UInt8) (w : World) (hl : l.length ≤ 140737488355328) : NextIs l w := by
  match l, hl with
  | [], _ => exact next_nil w
  | b :: t, hl =>
    simp only [List.length_cons] at hl
    by_cases h1 : b.toNat < 128
    · exact next_ascii b t w (by omega) h1
    by_cases h2 : b.toNat < 192
    · exact next_bad b t w (by omega) (by omega)
    by_cases h3 : b.toNat < 224
    · match t, hl with
      | [], _ => exact next_2_0 b w (by omega) h3
      | c1 :: t, hl => simp only [List.length_cons] at hl; exact next_2 b c1 t w (by omega) (by omega) h3
    by_cases h4 : b.toNat < 240
    · match t, hl with
      | [], _ => exact next_3_0 b w (by omega) h4
      | [c1], _ => exact next_3_1 b c1 w (by omega) h4
      | c1 :: c2 :: t, hl => simp only [List.length_cons] at hl; exact next_3 b c1 c2 t w (by omega) (by omega) h4
    by_cases h5 : b.toNat < 248
    · match t, hl with
      | [], _ => exact next_4_0 b w (by omega) h5
      | [c1], _ => exact next_4_1 b c1 w (by omega) h5
      | [c1, c2], _ => exact next_4_2 b c1 c2 w (by omega) h5
      | c1 :: c2 :: c3 :: t, hl => simp only [List.length_cons] at hl; exact next_4 b c1 c2 c3 t w (by omega) (by omega) h5
    · exact next_bad b t w (by omega) (by omega)

end Go.Proofs.YtlejbindochiiaaDoor
