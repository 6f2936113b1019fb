/-
  CONTRACT of value.Right. (written by gen_valright.py)
-/
import Derived.Test.YtdmbhoagjjkogaaGreatDoorMA39
namespace Go.Proofs.YtdmbhoagjjkogaaGreatDoor
open Go.RowKit
set_option linter.unusedVariables false
set_option linter.unusedSimpArgs false
def ErrIf (b : Bool) (r : Value) : Prop := if b = true then r = .nilIface else ∃ c, r = eno c ∧ c ≠ 0
theorem ErrIf.yes {b : Bool} (h : b = true) : ErrIf b .nilIface := by unfold ErrIf; rw [if_pos h]
theorem ErrIf.no {b : Bool} (c : Int) (h : b = false) (hc : c ≠ 0 := by decide) : ErrIf b (eno c) := by unfold ErrIf; rw [if_neg (by simp [h])]; exact ⟨c, rfl, hc⟩
theorem ok_of {x : Vl} (hk : 1 ≤ x.ty ∧ x.ty < 9) (ho : x.only = true) : x.ok = x.body := by unfold Vl.ok; rw [ho]; simp [hk]
theorem ok_no {x : Vl} (ho : x.only = false) : x.ok = false := by unfold Vl.ok; rw [ho]; simp
theorem ok_far {x : Vl} (hk : ¬ (1 ≤ x.ty ∧ x.ty < 9)) : x.ok = false := by unfold Vl.ok; simp [hk]
theorem body_lists {x : Vl} (hk : x.ty = 2 ∨ x.ty = 3) (h0 : x.ps ≠ []) (h1 : ¬ (x.ty = 2 ∧ x.ps.length ≠ 1)) : x.body = true ↔ (∀ l ∈ x.ps, l ≠ []) ∧ ∀ l ∈ x.ps, ∀ s ∈ l, holdsB s true = true := by
  unfold Vl.body
  rw [if_pos hk, Bool.and_eq_true, Bool.and_eq_true, listsB_iff]
  have e1 : (!(decide (x.ps = []) || decide (x.ty = 2 ∧ x.ps.length ≠ 1))) = true := by rw [decide_eq_false h0, decide_eq_false h1]; rfl
  have e2 : (!(x.ps.any fun l => l.isEmpty)) = true ↔ ∀ l ∈ x.ps, l ≠ [] := by
    rw [Bool.not_eq_true', List.any_eq_false]
    constructor
    · intro h l hl e; exact h l hl (by rw [e]; rfl)
    · intro h l hl e; exact h l hl (List.isEmpty_iff.1 e)
  rw [e1, e2]; simp
theorem body_lists_no {x : Vl} (hk : x.ty = 2 ∨ x.ty = 3) (h : x.ps = [] ∨ (x.ty = 2 ∧ x.ps.length ≠ 1)) : x.body = false := by
  unfold Vl.body
  rw [if_pos hk]
  have e1 : (!(decide (x.ps = []) || decide (x.ty = 2 ∧ x.ps.length ≠ 1))) = false := by
    rcases h with h | h
    · rw [decide_eq_true h]; rfl
    · rw [decide_eq_true h]; simp
  rw [e1]; rfl
set_option maxRecDepth 100000 in
set_option maxHeartbeats 1000000 in
theorem vright_far (ty : Int) (tx : List UInt8) (a : Option Addr) (cap : Nat) (ps : List (List (List UInt8))) (y m d h nn s : Int) (zd : Bool) (zn n : Int) (w : World) (hk : ¬ (1 ≤ ty ∧ ty < 9)) : Makes 64 #[(⟨ty, tx, ps, ⟨y, m, d, h, nn, s, zd, zn⟩, n⟩ : Vl).v (.slice a ps.length cap)] w (fun r _ => ErrIf (⟨ty, tx, ps, ⟨y, m, d, h, nn, s, zd, zn⟩, n⟩ : Vl).ok r) := by
  have HO := hid (ok_far (x := (⟨ty, tx, ps, ⟨y, m, d, h, nn, s, zd, zn⟩, n⟩ : Vl)) hk)
  simp only [Vl.v]
  by_cases h1 : ty < 1
  · clear hk
    go_enter Tryz.func64, Tryz.ntmps64
    go_wp2_with fail
    go_ret
    exact ⟨_, rfl, ErrIf.no 1 HO.out, (G.refl _).alloc _⟩
  · have h2 : 9 ≤ ty := by omega
    clear hk
    go_enter Tryz.func64, Tryz.ntmps64
    go_wp2_with fail
    go_ret
    exact ⟨_, rfl, ErrIf.no 1 HO.out, (G.refl _).alloc _⟩
set_option maxRecDepth 100000 in
set_option maxHeartbeats 4000000 in
theorem vright_more (ty : Int) (tx : List UInt8) (a : Option Addr) (cap : Nat) (ps : List (List (List UInt8))) (y m d h nn s : Int) (zd : Bool) (zn n : Int) (w : World) (hk : 1 ≤ ty ∧ ty < 9) (hon : (⟨ty, tx, ps, ⟨y, m, d, h, nn, s, zd, zn⟩, n⟩ : Vl).only = false) : Makes 64 #[(⟨ty, tx, ps, ⟨y, m, d, h, nn, s, zd, zn⟩, n⟩ : Vl).v (.slice a ps.length cap)] w (fun r _ => ErrIf (⟨ty, tx, ps, ⟨y, m, d, h, nn, s, zd, zn⟩, n⟩ : Vl).ok r) := by
  have h1 : ¬ ty < 1 := by omega
  have h2 : ¬ 9 ≤ ty := by omega
  have HK := hid hk
  clear hk
  have HON := hid hon
  clear hon
  have g0 : G w (w.alloc (.cells #[.int .i64 ty, .string (S tx), .slice a ps.length cap, .int .i64 y, .int .i64 m, .int .i64 d, .int .i64 h, .int .i64 nn, .int .i64 s, .bool zd, .int .i64 zn, .int .i64 n] 28)) := (G.refl w).alloc _
  have G0 := hid g0
  clear g0
  simp only [Vl.v]
  go_enter Tryz.func64, Tryz.ntmps64
  go_wp2_with fail
  refine (only_any (⟨ty, tx, ps, ⟨y, m, d, h, nn, s, zd, zn⟩, n⟩ : Vl) a cap _ HK.out).use ?_
  intro w2 g2
  rw [HON.out]
  have r2 : Hid (w2.heap[w.heap.size]? = some (.cells #[.int .i64 ty, .string (S tx), .slice a ps.length cap, .int .i64 y, .int .i64 m, .int .i64 d, .int .i64 h, .int .i64 nn, .int .i64 s, .bool zd, .int .i64 zn, .int .i64 n] 28 (0, 0))) := hid (by rw [g2.below.block w.heap.size (by simp)]; exact heap_alloc_new w _)
  have G2 : Hid (G w w2) := hid (G0.out.trans g2)
  clear g2
  have e0 : w2.cell? ⟨w.heap.size, 0, none⟩ = some (.int .i64 ty) := by rw [cell_of_row w2 w.heap.size 0 _ _ _ r2.out]; rfl
  have e1 : w2.cell? ⟨w.heap.size, 1, none⟩ = some (.string (S tx)) := by rw [cell_of_row w2 w.heap.size 1 _ _ _ r2.out]; rfl
  have e2 : w2.cell? ⟨w.heap.size, 2, none⟩ = some (.slice a ps.length cap) := by rw [cell_of_row w2 w.heap.size 2 _ _ _ r2.out]; rfl
  have e3 : w2.cell? ⟨w.heap.size, 3, none⟩ = some (.int .i64 y) := by rw [cell_of_row w2 w.heap.size 3 _ _ _ r2.out]; rfl
  have e4 : w2.cell? ⟨w.heap.size, 4, none⟩ = some (.int .i64 m) := by rw [cell_of_row w2 w.heap.size 4 _ _ _ r2.out]; rfl
  have e5 : w2.cell? ⟨w.heap.size, 5, none⟩ = some (.int .i64 d) := by rw [cell_of_row w2 w.heap.size 5 _ _ _ r2.out]; rfl
  have e6 : w2.cell? ⟨w.heap.size, 6, none⟩ = some (.int .i64 h) := by rw [cell_of_row w2 w.heap.size 6 _ _ _ r2.out]; rfl
  have e7 : w2.cell? ⟨w.heap.size, 7, none⟩ = some (.int .i64 nn) := by rw [cell_of_row w2 w.heap.size 7 _ _ _ r2.out]; rfl
  have e8 : w2.cell? ⟨w.heap.size, 8, none⟩ = some (.int .i64 s) := by rw [cell_of_row w2 w.heap.size 8 _ _ _ r2.out]; rfl
  have e9 : w2.cell? ⟨w.heap.size, 9, none⟩ = some (.bool zd) := by rw [cell_of_row w2 w.heap.size 9 _ _ _ r2.out]; rfl
  have e10 : w2.cell? ⟨w.heap.size, 10, none⟩ = some (.int .i64 zn) := by rw [cell_of_row w2 w.heap.size 10 _ _ _ r2.out]; rfl
  have e11 : w2.cell? ⟨w.heap.size, 11, none⟩ = some (.int .i64 n) := by rw [cell_of_row w2 w.heap.size 11 _ _ _ r2.out]; rfl
  go_wp2_with fail
  go_ret
  exact ⟨_, rfl, ErrIf.no 1 (ok_no HON.out), G2.out⟩
set_option maxRecDepth 100000 in
set_option maxHeartbeats 4000000 in
theorem vright_text1  (tx : List UInt8) (a : Option Addr) (cap : Nat) (ps : List (List (List UInt8))) (y m d h nn s : Int) (zd : Bool) (zn n : Int) (w : World) (ht : tx.length ≤ 100000) (hon : (⟨1, tx, ps, ⟨y, m, d, h, nn, s, zd, zn⟩, n⟩ : Vl).only = true) : Makes 64 #[(⟨1, tx, ps, ⟨y, m, d, h, nn, s, zd, zn⟩, n⟩ : Vl).v (.slice a ps.length cap)] w (fun r _ => ErrIf (⟨1, tx, ps, ⟨y, m, d, h, nn, s, zd, zn⟩, n⟩ : Vl).ok r) := by
  have HON := hid hon
  clear hon
  have g0 : G w (w.alloc (.cells #[.int .i64 1, .string (S tx), .slice a ps.length cap, .int .i64 y, .int .i64 m, .int .i64 d, .int .i64 h, .int .i64 nn, .int .i64 s, .bool zd, .int .i64 zn, .int .i64 n] 28)) := (G.refl w).alloc _
  have G0 := hid g0
  clear g0
  simp only [Vl.v]
  go_enter Tryz.func64, Tryz.ntmps64
  go_wp2_with fail
  refine (only_any (⟨1, tx, ps, ⟨y, m, d, h, nn, s, zd, zn⟩, n⟩ : Vl) a cap _ ⟨by simp, by simp⟩).use ?_
  intro w2 g2
  rw [HON.out]
  have r2 : Hid (w2.heap[w.heap.size]? = some (.cells #[.int .i64 1, .string (S tx), .slice a ps.length cap, .int .i64 y, .int .i64 m, .int .i64 d, .int .i64 h, .int .i64 nn, .int .i64 s, .bool zd, .int .i64 zn, .int .i64 n] 28 (0, 0))) := hid (by rw [g2.below.block w.heap.size (by simp)]; exact heap_alloc_new w _)
  have G2 : Hid (G w w2) := hid (G0.out.trans g2)
  clear g2
  have e0 : w2.cell? ⟨w.heap.size, 0, none⟩ = some (.int .i64 1) := by rw [cell_of_row w2 w.heap.size 0 _ _ _ r2.out]; rfl
  have e1 : w2.cell? ⟨w.heap.size, 1, none⟩ = some (.string (S tx)) := by rw [cell_of_row w2 w.heap.size 1 _ _ _ r2.out]; rfl
  have e2 : w2.cell? ⟨w.heap.size, 2, none⟩ = some (.slice a ps.length cap) := by rw [cell_of_row w2 w.heap.size 2 _ _ _ r2.out]; rfl
  have e3 : w2.cell? ⟨w.heap.size, 3, none⟩ = some (.int .i64 y) := by rw [cell_of_row w2 w.heap.size 3 _ _ _ r2.out]; rfl
  have e4 : w2.cell? ⟨w.heap.size, 4, none⟩ = some (.int .i64 m) := by rw [cell_of_row w2 w.heap.size 4 _ _ _ r2.out]; rfl
  have e5 : w2.cell? ⟨w.heap.size, 5, none⟩ = some (.int .i64 d) := by rw [cell_of_row w2 w.heap.size 5 _ _ _ r2.out]; rfl
  have e6 : w2.cell? ⟨w.heap.size, 6, none⟩ = some (.int .i64 h) := by rw [cell_of_row w2 w.heap.size 6 _ _ _ r2.out]; rfl
  have e7 : w2.cell? ⟨w.heap.size, 7, none⟩ = some (.int .i64 nn) := by rw [cell_of_row w2 w.heap.size 7 _ _ _ r2.out]; rfl
  have e8 : w2.cell? ⟨w.heap.size, 8, none⟩ = some (.int .i64 s) := by rw [cell_of_row w2 w.heap.size 8 _ _ _ r2.out]; rfl
  have e9 : w2.cell? ⟨w.heap.size, 9, none⟩ = some (.bool zd) := by rw [cell_of_row w2 w.heap.size 9 _ _ _ r2.out]; rfl
  have e10 : w2.cell? ⟨w.heap.size, 10, none⟩ = some (.int .i64 zn) := by rw [cell_of_row w2 w.heap.size 10 _ _ _ r2.out]; rfl
  have e11 : w2.cell? ⟨w.heap.size, 11, none⟩ = some (.int .i64 n) := by rw [cell_of_row w2 w.heap.size 11 _ _ _ r2.out]; rfl
  have HO : Hid ((⟨1, tx, ps, ⟨y, m, d, h, nn, s, zd, zn⟩, n⟩ : Vl).ok = holdsB tx true) := hid (ok_of (x := (⟨1, tx, ps, ⟨y, m, d, h, nn, s, zd, zn⟩, n⟩ : Vl)) ⟨by simp, by simp⟩ HON.out)
  go_wp2_with fail
  refine (holds_any tx true _ (by omega)).use ?_
  cases hh : holdsB tx true with
  | true =>
    go_wp2_with fail
    go_ret
    exact ⟨_, rfl, ErrIf.yes (HO.out.trans hh), G2.out⟩
  | false =>
    go_wp2_with fail
    go_ret
    exact ⟨_, rfl, ErrIf.no 3 (HO.out.trans hh), G2.out⟩
set_option maxRecDepth 100000 in
set_option maxHeartbeats 4000000 in
theorem vright_text8  (tx : List UInt8) (a : Option Addr) (cap : Nat) (ps : List (List (List UInt8))) (y m d h nn s : Int) (zd : Bool) (zn n : Int) (w : World) (ht : tx.length ≤ 100000) (hon : (⟨8, tx, ps, ⟨y, m, d, h, nn, s, zd, zn⟩, n⟩ : Vl).only = true) : Makes 64 #[(⟨8, tx, ps, ⟨y, m, d, h, nn, s, zd, zn⟩, n⟩ : Vl).v (.slice a ps.length cap)] w (fun r _ => ErrIf (⟨8, tx, ps, ⟨y, m, d, h, nn, s, zd, zn⟩, n⟩ : Vl).ok r) := by
  have HON := hid hon
  clear hon
  have g0 : G w (w.alloc (.cells #[.int .i64 8, .string (S tx), .slice a ps.length cap, .int .i64 y, .int .i64 m, .int .i64 d, .int .i64 h, .int .i64 nn, .int .i64 s, .bool zd, .int .i64 zn, .int .i64 n] 28)) := (G.refl w).alloc _
  have G0 := hid g0
  clear g0
  simp only [Vl.v]
  go_enter Tryz.func64, Tryz.ntmps64
  go_wp2_with fail
  refine (only_any (⟨8, tx, ps, ⟨y, m, d, h, nn, s, zd, zn⟩, n⟩ : Vl) a cap _ ⟨by simp, by simp⟩).use ?_
  intro w2 g2
  rw [HON.out]
  have r2 : Hid (w2.heap[w.heap.size]? = some (.cells #[.int .i64 8, .string (S tx), .slice a ps.length cap, .int .i64 y, .int .i64 m, .int .i64 d, .int .i64 h, .int .i64 nn, .int .i64 s, .bool zd, .int .i64 zn, .int .i64 n] 28 (0, 0))) := hid (by rw [g2.below.block w.heap.size (by simp)]; exact heap_alloc_new w _)
  have G2 : Hid (G w w2) := hid (G0.out.trans g2)
  clear g2
  have e0 : w2.cell? ⟨w.heap.size, 0, none⟩ = some (.int .i64 8) := by rw [cell_of_row w2 w.heap.size 0 _ _ _ r2.out]; rfl
  have e1 : w2.cell? ⟨w.heap.size, 1, none⟩ = some (.string (S tx)) := by rw [cell_of_row w2 w.heap.size 1 _ _ _ r2.out]; rfl
  have e2 : w2.cell? ⟨w.heap.size, 2, none⟩ = some (.slice a ps.length cap) := by rw [cell_of_row w2 w.heap.size 2 _ _ _ r2.out]; rfl
  have e3 : w2.cell? ⟨w.heap.size, 3, none⟩ = some (.int .i64 y) := by rw [cell_of_row w2 w.heap.size 3 _ _ _ r2.out]; rfl
  have e4 : w2.cell? ⟨w.heap.size, 4, none⟩ = some (.int .i64 m) := by rw [cell_of_row w2 w.heap.size 4 _ _ _ r2.out]; rfl
  have e5 : w2.cell? ⟨w.heap.size, 5, none⟩ = some (.int .i64 d) := by rw [cell_of_row w2 w.heap.size 5 _ _ _ r2.out]; rfl
  have e6 : w2.cell? ⟨w.heap.size, 6, none⟩ = some (.int .i64 h) := by rw [cell_of_row w2 w.heap.size 6 _ _ _ r2.out]; rfl
  have e7 : w2.cell? ⟨w.heap.size, 7, none⟩ = some (.int .i64 nn) := by rw [cell_of_row w2 w.heap.size 7 _ _ _ r2.out]; rfl
  have e8 : w2.cell? ⟨w.heap.size, 8, none⟩ = some (.int .i64 s) := by rw [cell_of_row w2 w.heap.size 8 _ _ _ r2.out]; rfl
  have e9 : w2.cell? ⟨w.heap.size, 9, none⟩ = some (.bool zd) := by rw [cell_of_row w2 w.heap.size 9 _ _ _ r2.out]; rfl
  have e10 : w2.cell? ⟨w.heap.size, 10, none⟩ = some (.int .i64 zn) := by rw [cell_of_row w2 w.heap.size 10 _ _ _ r2.out]; rfl
  have e11 : w2.cell? ⟨w.heap.size, 11, none⟩ = some (.int .i64 n) := by rw [cell_of_row w2 w.heap.size 11 _ _ _ r2.out]; rfl
  have HO : Hid ((⟨8, tx, ps, ⟨y, m, d, h, nn, s, zd, zn⟩, n⟩ : Vl).ok = holdsB tx false) := hid (ok_of (x := (⟨8, tx, ps, ⟨y, m, d, h, nn, s, zd, zn⟩, n⟩ : Vl)) ⟨by simp, by simp⟩ HON.out)
  go_wp2_with fail
  refine (holds_any tx false _ (by omega)).use ?_
  cases hh : holdsB tx false with
  | true =>
    go_wp2_with fail
    go_ret
    exact ⟨_, rfl, ErrIf.yes (HO.out.trans hh), G2.out⟩
  | false =>
    go_wp2_with fail
    go_ret
    exact ⟨_, rfl, ErrIf.no 3 (HO.out.trans hh), G2.out⟩
set_option maxRecDepth 100000 in
set_option maxHeartbeats 4000000 in
theorem vright_uri  (tx : List UInt8) (a : Option Addr) (cap : Nat) (ps : List (List (List UInt8))) (y m d h nn s : Int) (zd : Bool) (zn n : Int) (w : World) (ht : tx.length ≤ 100000) (hE : LaidE w) (hon : (⟨4, tx, ps, ⟨y, m, d, h, nn, s, zd, zn⟩, n⟩ : Vl).only = true) : Makes 64 #[(⟨4, tx, ps, ⟨y, m, d, h, nn, s, zd, zn⟩, n⟩ : Vl).v (.slice a ps.length cap)] w (fun r _ => ErrIf (⟨4, tx, ps, ⟨y, m, d, h, nn, s, zd, zn⟩, n⟩ : Vl).ok r) := by
  have HE := hid hE
  clear hE
  have HON := hid hon
  clear hon
  have g0 : G w (w.alloc (.cells #[.int .i64 4, .string (S tx), .slice a ps.length cap, .int .i64 y, .int .i64 m, .int .i64 d, .int .i64 h, .int .i64 nn, .int .i64 s, .bool zd, .int .i64 zn, .int .i64 n] 28)) := (G.refl w).alloc _
  have G0 := hid g0
  clear g0
  simp only [Vl.v]
  go_enter Tryz.func64, Tryz.ntmps64
  go_wp2_with fail
  refine (only_any (⟨4, tx, ps, ⟨y, m, d, h, nn, s, zd, zn⟩, n⟩ : Vl) a cap _ ⟨by simp, by simp⟩).use ?_
  intro w2 g2
  rw [HON.out]
  have r2 : Hid (w2.heap[w.heap.size]? = some (.cells #[.int .i64 4, .string (S tx), .slice a ps.length cap, .int .i64 y, .int .i64 m, .int .i64 d, .int .i64 h, .int .i64 nn, .int .i64 s, .bool zd, .int .i64 zn, .int .i64 n] 28 (0, 0))) := hid (by rw [g2.below.block w.heap.size (by simp)]; exact heap_alloc_new w _)
  have G2 : Hid (G w w2) := hid (G0.out.trans g2)
  clear g2
  have e0 : w2.cell? ⟨w.heap.size, 0, none⟩ = some (.int .i64 4) := by rw [cell_of_row w2 w.heap.size 0 _ _ _ r2.out]; rfl
  have e1 : w2.cell? ⟨w.heap.size, 1, none⟩ = some (.string (S tx)) := by rw [cell_of_row w2 w.heap.size 1 _ _ _ r2.out]; rfl
  have e2 : w2.cell? ⟨w.heap.size, 2, none⟩ = some (.slice a ps.length cap) := by rw [cell_of_row w2 w.heap.size 2 _ _ _ r2.out]; rfl
  have e3 : w2.cell? ⟨w.heap.size, 3, none⟩ = some (.int .i64 y) := by rw [cell_of_row w2 w.heap.size 3 _ _ _ r2.out]; rfl
  have e4 : w2.cell? ⟨w.heap.size, 4, none⟩ = some (.int .i64 m) := by rw [cell_of_row w2 w.heap.size 4 _ _ _ r2.out]; rfl
  have e5 : w2.cell? ⟨w.heap.size, 5, none⟩ = some (.int .i64 d) := by rw [cell_of_row w2 w.heap.size 5 _ _ _ r2.out]; rfl
  have e6 : w2.cell? ⟨w.heap.size, 6, none⟩ = some (.int .i64 h) := by rw [cell_of_row w2 w.heap.size 6 _ _ _ r2.out]; rfl
  have e7 : w2.cell? ⟨w.heap.size, 7, none⟩ = some (.int .i64 nn) := by rw [cell_of_row w2 w.heap.size 7 _ _ _ r2.out]; rfl
  have e8 : w2.cell? ⟨w.heap.size, 8, none⟩ = some (.int .i64 s) := by rw [cell_of_row w2 w.heap.size 8 _ _ _ r2.out]; rfl
  have e9 : w2.cell? ⟨w.heap.size, 9, none⟩ = some (.bool zd) := by rw [cell_of_row w2 w.heap.size 9 _ _ _ r2.out]; rfl
  have e10 : w2.cell? ⟨w.heap.size, 10, none⟩ = some (.int .i64 zn) := by rw [cell_of_row w2 w.heap.size 10 _ _ _ r2.out]; rfl
  have e11 : w2.cell? ⟨w.heap.size, 11, none⟩ = some (.int .i64 n) := by rw [cell_of_row w2 w.heap.size 11 _ _ _ r2.out]; rfl
  have HO : Hid ((⟨4, tx, ps, ⟨y, m, d, h, nn, s, zd, zn⟩, n⟩ : Vl).ok = uriB tx) := hid (ok_of (x := (⟨4, tx, ps, ⟨y, m, d, h, nn, s, zd, zn⟩, n⟩ : Vl)) ⟨by simp, by simp⟩ HON.out)
  go_wp2_with fail
  refine (uriRight_any tx _ (by omega)).use ?_
  intro v w3 hv g3
  have G3 : Hid (G w w3) := hid (G2.out.trans g3)
  unfold RightPost at hv
  clear g3 e0 e1 e2 e3 e4 e5 e6 e7 e8 e9 e10 e11
  by_cases hb : begL tx = 0
  · rw [if_pos hb] at hv
    subst hv
    have HU : Hid (uriB tx = false) := hid (by unfold uriB; simp [hb])
    go_wp2_with fail
    refine (bare_eno 8 _ (HE.out.grow G3.out)).use ?_
    intro w4 g4
    go_wp2_with fail
    go_ret
    exact ⟨_, rfl, ErrIf.no 8 (HO.out.trans HU.out), G3.out.trans g4⟩
  · rw [if_neg hb] at hv
    cases hs : badAt seenP tx with
    | some i =>
      rw [hs] at hv
      have HU : Hid (uriB tx = false) := hid (by unfold uriB; simp [hs])
      have HV := hid hv
      obtain ⟨bb, hbv, _⟩ := hv
      have h4 := bare_at v 3 i w3 (HE.out.grow G3.out) HV.out
      have H4 := hid h4
      clear h4
      subst hbv
      go_wp2_with fail
      refine (H4.out).use ?_
      intro w4 g4
      go_wp2_with fail
      go_ret
      exact ⟨_, rfl, ErrIf.no 3 (HO.out.trans HU.out), G3.out.trans g4⟩
    | none =>
      rw [hs] at hv
      dsimp only at hv
      by_cases hl : begL tx + 1 = tx.length
      · rw [if_pos hl] at hv
        have HU : Hid (uriB tx = false) := hid (by unfold uriB; simp [hl])
        have HV := hid hv
        obtain ⟨bb, hbv, _⟩ := hv
        have h4 := bare_at v 7 tx.length w3 (HE.out.grow G3.out) HV.out
        have H4 := hid h4
        clear h4 hl
        subst hbv
        go_wp2_with fail
        refine (H4.out).use ?_
        intro w4 g4
        go_wp2_with fail
        go_ret
        exact ⟨_, rfl, ErrIf.no 7 (HO.out.trans HU.out), G3.out.trans g4⟩
      · rw [if_neg hl] at hv
        subst hv
        have HU : Hid (uriB tx = true) := hid (by unfold uriB; simp [hb, hs, hl])
        clear hl
        go_wp2_with fail
        refine (bare_nil _).use ?_
        intro w4 g4
        go_wp2_with fail
        go_ret
        exact ⟨_, rfl, ErrIf.yes (HO.out.trans HU.out), G3.out.trans g4⟩
set_option maxRecDepth 100000 in
set_option maxHeartbeats 4000000 in
theorem vright_lang  (tx : List UInt8) (a : Option Addr) (cap : Nat) (ps : List (List (List UInt8))) (y m d h nn s : Int) (zd : Bool) (zn n : Int) (w : World) (ht : tx.length ≤ 100000) (hE : LaidE w) (hon : (⟨7, tx, ps, ⟨y, m, d, h, nn, s, zd, zn⟩, n⟩ : Vl).only = true) : Makes 64 #[(⟨7, tx, ps, ⟨y, m, d, h, nn, s, zd, zn⟩, n⟩ : Vl).v (.slice a ps.length cap)] w (fun r _ => ErrIf (⟨7, tx, ps, ⟨y, m, d, h, nn, s, zd, zn⟩, n⟩ : Vl).ok r) := by
  have HE := hid hE
  clear hE
  have HON := hid hon
  clear hon
  have g0 : G w (w.alloc (.cells #[.int .i64 7, .string (S tx), .slice a ps.length cap, .int .i64 y, .int .i64 m, .int .i64 d, .int .i64 h, .int .i64 nn, .int .i64 s, .bool zd, .int .i64 zn, .int .i64 n] 28)) := (G.refl w).alloc _
  have G0 := hid g0
  clear g0
  simp only [Vl.v]
  go_enter Tryz.func64, Tryz.ntmps64
  go_wp2_with fail
  refine (only_any (⟨7, tx, ps, ⟨y, m, d, h, nn, s, zd, zn⟩, n⟩ : Vl) a cap _ ⟨by simp, by simp⟩).use ?_
  intro w2 g2
  rw [HON.out]
  have r2 : Hid (w2.heap[w.heap.size]? = some (.cells #[.int .i64 7, .string (S tx), .slice a ps.length cap, .int .i64 y, .int .i64 m, .int .i64 d, .int .i64 h, .int .i64 nn, .int .i64 s, .bool zd, .int .i64 zn, .int .i64 n] 28 (0, 0))) := hid (by rw [g2.below.block w.heap.size (by simp)]; exact heap_alloc_new w _)
  have G2 : Hid (G w w2) := hid (G0.out.trans g2)
  clear g2
  have e0 : w2.cell? ⟨w.heap.size, 0, none⟩ = some (.int .i64 7) := by rw [cell_of_row w2 w.heap.size 0 _ _ _ r2.out]; rfl
  have e1 : w2.cell? ⟨w.heap.size, 1, none⟩ = some (.string (S tx)) := by rw [cell_of_row w2 w.heap.size 1 _ _ _ r2.out]; rfl
  have e2 : w2.cell? ⟨w.heap.size, 2, none⟩ = some (.slice a ps.length cap) := by rw [cell_of_row w2 w.heap.size 2 _ _ _ r2.out]; rfl
  have e3 : w2.cell? ⟨w.heap.size, 3, none⟩ = some (.int .i64 y) := by rw [cell_of_row w2 w.heap.size 3 _ _ _ r2.out]; rfl
  have e4 : w2.cell? ⟨w.heap.size, 4, none⟩ = some (.int .i64 m) := by rw [cell_of_row w2 w.heap.size 4 _ _ _ r2.out]; rfl
  have e5 : w2.cell? ⟨w.heap.size, 5, none⟩ = some (.int .i64 d) := by rw [cell_of_row w2 w.heap.size 5 _ _ _ r2.out]; rfl
  have e6 : w2.cell? ⟨w.heap.size, 6, none⟩ = some (.int .i64 h) := by rw [cell_of_row w2 w.heap.size 6 _ _ _ r2.out]; rfl
  have e7 : w2.cell? ⟨w.heap.size, 7, none⟩ = some (.int .i64 nn) := by rw [cell_of_row w2 w.heap.size 7 _ _ _ r2.out]; rfl
  have e8 : w2.cell? ⟨w.heap.size, 8, none⟩ = some (.int .i64 s) := by rw [cell_of_row w2 w.heap.size 8 _ _ _ r2.out]; rfl
  have e9 : w2.cell? ⟨w.heap.size, 9, none⟩ = some (.bool zd) := by rw [cell_of_row w2 w.heap.size 9 _ _ _ r2.out]; rfl
  have e10 : w2.cell? ⟨w.heap.size, 10, none⟩ = some (.int .i64 zn) := by rw [cell_of_row w2 w.heap.size 10 _ _ _ r2.out]; rfl
  have e11 : w2.cell? ⟨w.heap.size, 11, none⟩ = some (.int .i64 n) := by rw [cell_of_row w2 w.heap.size 11 _ _ _ r2.out]; rfl
  have HO : Hid ((⟨7, tx, ps, ⟨y, m, d, h, nn, s, zd, zn⟩, n⟩ : Vl).ok = langB tx) := hid (ok_of (x := (⟨7, tx, ps, ⟨y, m, d, h, nn, s, zd, zn⟩, n⟩ : Vl)) ⟨by simp, by simp⟩ HON.out)
  go_wp2_with fail
  refine (langRight_any tx _ (by omega)).use ?_
  intro v w3 hv g3
  have G3 : Hid (G w w3) := hid (G2.out.trans g3)
  unfold LangPost at hv
  clear g3 e0 e1 e2 e3 e4 e5 e6 e7 e8 e9 e10 e11
  by_cases hb : langB tx = true
  · rw [if_pos hb] at hv
    subst hv
    have HU := hid hb
    clear hb
    go_wp2_with fail
    refine (bare_nil _).use ?_
    intro w4 g4
    go_wp2_with fail
    go_ret
    exact ⟨_, rfl, ErrIf.yes (HO.out.trans HU.out), G3.out.trans g4⟩
  · rw [if_neg hb] at hv
    obtain ⟨ec, ep, hv, hnz, _⟩ := hv
    have HNZ := hid hnz
    clear hnz
    have HU : Hid (langB tx = false) := hid (by simpa using hb)
    have HV := hid hv
    obtain ⟨bb, hbv, _⟩ := hv
    have h4 := bare_at v ec ep w3 (HE.out.grow G3.out) HV.out
    have H4 := hid h4
    clear h4 hb
    subst hbv
    go_wp2_with fail
    refine (H4.out).use ?_
    intro w4 g4
    go_wp2_with fail
    go_ret
    exact ⟨_, rfl, ErrIf.no ec (HO.out.trans HU.out) HNZ.out, G3.out.trans g4⟩
set_option maxRecDepth 100000 in
set_option maxHeartbeats 4000000 in
theorem vright_when  (tx : List UInt8) (a : Option Addr) (cap : Nat) (ps : List (List (List UInt8))) (y m d h nn s : Int) (zd : Bool) (zn n : Int) (w : World) (hM : HasM w) (hy : -9223372036854775808 ≤ y ∧ y ≤ 9223372036854775807) (hon : (⟨5, tx, ps, ⟨y, m, d, h, nn, s, zd, zn⟩, n⟩ : Vl).only = true) : Makes 64 #[(⟨5, tx, ps, ⟨y, m, d, h, nn, s, zd, zn⟩, n⟩ : Vl).v (.slice a ps.length cap)] w (fun r _ => ErrIf (⟨5, tx, ps, ⟨y, m, d, h, nn, s, zd, zn⟩, n⟩ : Vl).ok r) := by
  have HM := hid hM
  clear hM
  have hr := fun W hm => whenRight_any ⟨y, m, d, h, nn, s, zd, zn⟩ W hm hy.1 hy.2
  obtain ⟨c, hc⟩ : ∃ c, (⟨y, m, d, h, nn, s, zd, zn⟩ : St).right = c := ⟨_, rfl⟩
  rw [hc] at hr
  have HR := hid hr
  have HC := hid hc
  clear hr hc
  have HON := hid hon
  clear hon
  have g0 : G w (w.alloc (.cells #[.int .i64 5, .string (S tx), .slice a ps.length cap, .int .i64 y, .int .i64 m, .int .i64 d, .int .i64 h, .int .i64 nn, .int .i64 s, .bool zd, .int .i64 zn, .int .i64 n] 28)) := (G.refl w).alloc _
  have G0 := hid g0
  clear g0
  simp only [Vl.v]
  go_enter Tryz.func64, Tryz.ntmps64
  go_wp2_with fail
  refine (only_any (⟨5, tx, ps, ⟨y, m, d, h, nn, s, zd, zn⟩, n⟩ : Vl) a cap _ ⟨by simp, by simp⟩).use ?_
  intro w2 g2
  rw [HON.out]
  have r2 : Hid (w2.heap[w.heap.size]? = some (.cells #[.int .i64 5, .string (S tx), .slice a ps.length cap, .int .i64 y, .int .i64 m, .int .i64 d, .int .i64 h, .int .i64 nn, .int .i64 s, .bool zd, .int .i64 zn, .int .i64 n] 28 (0, 0))) := hid (by rw [g2.below.block w.heap.size (by simp)]; exact heap_alloc_new w _)
  have G2 : Hid (G w w2) := hid (G0.out.trans g2)
  clear g2
  have e0 : w2.cell? ⟨w.heap.size, 0, none⟩ = some (.int .i64 5) := by rw [cell_of_row w2 w.heap.size 0 _ _ _ r2.out]; rfl
  have e1 : w2.cell? ⟨w.heap.size, 1, none⟩ = some (.string (S tx)) := by rw [cell_of_row w2 w.heap.size 1 _ _ _ r2.out]; rfl
  have e2 : w2.cell? ⟨w.heap.size, 2, none⟩ = some (.slice a ps.length cap) := by rw [cell_of_row w2 w.heap.size 2 _ _ _ r2.out]; rfl
  have e3 : w2.cell? ⟨w.heap.size, 3, none⟩ = some (.int .i64 y) := by rw [cell_of_row w2 w.heap.size 3 _ _ _ r2.out]; rfl
  have e4 : w2.cell? ⟨w.heap.size, 4, none⟩ = some (.int .i64 m) := by rw [cell_of_row w2 w.heap.size 4 _ _ _ r2.out]; rfl
  have e5 : w2.cell? ⟨w.heap.size, 5, none⟩ = some (.int .i64 d) := by rw [cell_of_row w2 w.heap.size 5 _ _ _ r2.out]; rfl
  have e6 : w2.cell? ⟨w.heap.size, 6, none⟩ = some (.int .i64 h) := by rw [cell_of_row w2 w.heap.size 6 _ _ _ r2.out]; rfl
  have e7 : w2.cell? ⟨w.heap.size, 7, none⟩ = some (.int .i64 nn) := by rw [cell_of_row w2 w.heap.size 7 _ _ _ r2.out]; rfl
  have e8 : w2.cell? ⟨w.heap.size, 8, none⟩ = some (.int .i64 s) := by rw [cell_of_row w2 w.heap.size 8 _ _ _ r2.out]; rfl
  have e9 : w2.cell? ⟨w.heap.size, 9, none⟩ = some (.bool zd) := by rw [cell_of_row w2 w.heap.size 9 _ _ _ r2.out]; rfl
  have e10 : w2.cell? ⟨w.heap.size, 10, none⟩ = some (.int .i64 zn) := by rw [cell_of_row w2 w.heap.size 10 _ _ _ r2.out]; rfl
  have e11 : w2.cell? ⟨w.heap.size, 11, none⟩ = some (.int .i64 n) := by rw [cell_of_row w2 w.heap.size 11 _ _ _ r2.out]; rfl
  have HO : Hid ((⟨5, tx, ps, ⟨y, m, d, h, nn, s, zd, zn⟩, n⟩ : Vl).ok = decide (c = 0)) := hid ((ok_of (x := (⟨5, tx, ps, ⟨y, m, d, h, nn, s, zd, zn⟩, n⟩ : Vl)) ⟨by simp, by simp⟩ HON.out).trans (by show decide ((⟨y, m, d, h, nn, s, zd, zn⟩ : St).right = 0) = _; rw [HC.out]))
  go_wp2_with fail
  refine (HR.out _ (HM.out.grow G2.out)).use ?_
  intro w3 g3
  have G3 : Hid (G w w3) := hid (G2.out.trans g3)
  clear g3
  by_cases hz : c = 0
  · subst hz
    rw [show errV 0 = .nilIface from rfl]
    go_wp2_with fail
    go_ret
    exact ⟨_, rfl, ErrIf.yes (HO.out.trans rfl), G3.out⟩
  · have he : errV c = eno c := by unfold errV; rw [if_neg hz]
    rw [he]
    have HZ := hid hz
    clear hz he
    go_wp2_with fail
    go_ret
    exact ⟨_, rfl, ErrIf.no c (HO.out.trans (decide_eq_false HZ.out)) HZ.out, G3.out⟩
def ZoneE (n : Int) (r : Value) : Prop := r = if rightZ n = true then .nilIface else eno 2
set_option maxRecDepth 100000 in
set_option maxHeartbeats 4000000 in
theorem vright_offset2  (tx : List UInt8) (a : Option Addr) (cap : Nat) (ps : List (List (List UInt8))) (y m d h nn s : Int) (zd : Bool) (zn n : Int) (w : World) (hon : (⟨6, tx, ps, ⟨y, m, d, h, nn, s, zd, zn⟩, n⟩ : Vl).only = true) : Makes 64 #[(⟨6, tx, ps, ⟨y, m, d, h, nn, s, zd, zn⟩, n⟩ : Vl).v (.slice a ps.length cap)] w (fun r _ => ZoneE n r) := by
  have HON := hid hon
  clear hon
  have g0 : G w (w.alloc (.cells #[.int .i64 6, .string (S tx), .slice a ps.length cap, .int .i64 y, .int .i64 m, .int .i64 d, .int .i64 h, .int .i64 nn, .int .i64 s, .bool zd, .int .i64 zn, .int .i64 n] 28)) := (G.refl w).alloc _
  have G0 := hid g0
  clear g0
  simp only [Vl.v]
  go_enter Tryz.func64, Tryz.ntmps64
  go_wp2_with fail
  refine (only_any (⟨6, tx, ps, ⟨y, m, d, h, nn, s, zd, zn⟩, n⟩ : Vl) a cap _ ⟨by simp, by simp⟩).use ?_
  intro w2 g2
  rw [HON.out]
  have r2 : Hid (w2.heap[w.heap.size]? = some (.cells #[.int .i64 6, .string (S tx), .slice a ps.length cap, .int .i64 y, .int .i64 m, .int .i64 d, .int .i64 h, .int .i64 nn, .int .i64 s, .bool zd, .int .i64 zn, .int .i64 n] 28 (0, 0))) := hid (by rw [g2.below.block w.heap.size (by simp)]; exact heap_alloc_new w _)
  have G2 : Hid (G w w2) := hid (G0.out.trans g2)
  clear g2
  have e0 : w2.cell? ⟨w.heap.size, 0, none⟩ = some (.int .i64 6) := by rw [cell_of_row w2 w.heap.size 0 _ _ _ r2.out]; rfl
  have e1 : w2.cell? ⟨w.heap.size, 1, none⟩ = some (.string (S tx)) := by rw [cell_of_row w2 w.heap.size 1 _ _ _ r2.out]; rfl
  have e2 : w2.cell? ⟨w.heap.size, 2, none⟩ = some (.slice a ps.length cap) := by rw [cell_of_row w2 w.heap.size 2 _ _ _ r2.out]; rfl
  have e3 : w2.cell? ⟨w.heap.size, 3, none⟩ = some (.int .i64 y) := by rw [cell_of_row w2 w.heap.size 3 _ _ _ r2.out]; rfl
  have e4 : w2.cell? ⟨w.heap.size, 4, none⟩ = some (.int .i64 m) := by rw [cell_of_row w2 w.heap.size 4 _ _ _ r2.out]; rfl
  have e5 : w2.cell? ⟨w.heap.size, 5, none⟩ = some (.int .i64 d) := by rw [cell_of_row w2 w.heap.size 5 _ _ _ r2.out]; rfl
  have e6 : w2.cell? ⟨w.heap.size, 6, none⟩ = some (.int .i64 h) := by rw [cell_of_row w2 w.heap.size 6 _ _ _ r2.out]; rfl
  have e7 : w2.cell? ⟨w.heap.size, 7, none⟩ = some (.int .i64 nn) := by rw [cell_of_row w2 w.heap.size 7 _ _ _ r2.out]; rfl
  have e8 : w2.cell? ⟨w.heap.size, 8, none⟩ = some (.int .i64 s) := by rw [cell_of_row w2 w.heap.size 8 _ _ _ r2.out]; rfl
  have e9 : w2.cell? ⟨w.heap.size, 9, none⟩ = some (.bool zd) := by rw [cell_of_row w2 w.heap.size 9 _ _ _ r2.out]; rfl
  have e10 : w2.cell? ⟨w.heap.size, 10, none⟩ = some (.int .i64 zn) := by rw [cell_of_row w2 w.heap.size 10 _ _ _ r2.out]; rfl
  have e11 : w2.cell? ⟨w.heap.size, 11, none⟩ = some (.int .i64 n) := by rw [cell_of_row w2 w.heap.size 11 _ _ _ r2.out]; rfl
  go_wp2_with fail
  refine (zoneRight_any n _).use ?_
  cases hh : rightZ n with
  | true =>
    go_wp2_with fail
    go_ret
    exact ⟨_, rfl, by unfold ZoneE; rw [hh]; rfl, G2.out⟩
  | false =>
    go_wp2_with fail
    go_ret
    exact ⟨_, rfl, by unfold ZoneE; rw [hh]; rfl, G2.out⟩
theorem vright_offset  (tx : List UInt8) (a : Option Addr) (cap : Nat) (ps : List (List (List UInt8))) (y m d h nn s : Int) (zd : Bool) (zn n : Int) (w : World) (hon : (⟨6, tx, ps, ⟨y, m, d, h, nn, s, zd, zn⟩, n⟩ : Vl).only = true) : Makes 64 #[(⟨6, tx, ps, ⟨y, m, d, h, nn, s, zd, zn⟩, n⟩ : Vl).v (.slice a ps.length cap)] w (fun r _ => ErrIf (⟨6, tx, ps, ⟨y, m, d, h, nn, s, zd, zn⟩, n⟩ : Vl).ok r) := by
  have HO := ok_of (x := (⟨6, tx, ps, ⟨y, m, d, h, nn, s, zd, zn⟩, n⟩ : Vl)) ⟨by simp, by simp⟩ hon
  refine Calls.mono (vright_offset2 tx a cap ps y m d h nn s zd zn n w hon) ?_
  rintro e w' ⟨v, rfl, hv, g⟩
  refine ⟨_, rfl, ?_, g⟩
  unfold ZoneE at hv
  subst hv
  cases hh : rightZ n with
  | true => exact ErrIf.yes (HO.trans hh)
  | false => exact ErrIf.no 2 (HO.trans hh)
set_option maxRecDepth 100000 in
set_option maxHeartbeats 4000000 in
theorem vright_lists2  (tx : List UInt8) (a : Option Addr) (cap : Nat) (ps : List (List (List UInt8))) (y m d h nn s : Int) (zd : Bool) (zn n : Int) (w : World) (hL : IsLists w (.slice a ps.length cap) ps) (h2 : sumP ps ≤ 100000) (hon : (⟨2, tx, ps, ⟨y, m, d, h, nn, s, zd, zn⟩, n⟩ : Vl).only = true) : Makes 64 #[(⟨2, tx, ps, ⟨y, m, d, h, nn, s, zd, zn⟩, n⟩ : Vl).v (.slice a ps.length cap)] w (fun r _ => ErrIf (⟨2, tx, ps, ⟨y, m, d, h, nn, s, zd, zn⟩, n⟩ : Vl).ok r) := by
  have HL := hid hL
  have hpl := sumP_len ps
  have hpb : ps.length ≤ 100000 := by omega
  have HSZ := hid h2
  clear hL h2 hpl
  by_cases hbad : ps = [] ∨ ((2 : Int) = 2 ∧ ps.length ≠ 1)
  · have HO : Hid ((⟨2, tx, ps, ⟨y, m, d, h, nn, s, zd, zn⟩, n⟩ : Vl).ok = false) := hid ((ok_of (x := (⟨2, tx, ps, ⟨y, m, d, h, nn, s, zd, zn⟩, n⟩ : Vl)) ⟨by simp, by simp⟩ hon).trans (body_lists_no (.inl rfl) hbad))
    have hcase : ps = [] ∨ ps ≠ [] ∧ (2 : Int) = 2 ∧ ps.length ≠ 1 := by
      by_cases h0 : ps = []
      · exact .inl h0
      · rcases hbad with h | h
        · exact absurd h h0
        · exact .inr ⟨h0, h⟩
    clear hbad
    have HON := hid hon
    clear hon
    have g0 : G w (w.alloc (.cells #[.int .i64 2, .string (S tx), .slice a ps.length cap, .int .i64 y, .int .i64 m, .int .i64 d, .int .i64 h, .int .i64 nn, .int .i64 s, .bool zd, .int .i64 zn, .int .i64 n] 28)) := (G.refl w).alloc _
    have G0 := hid g0
    clear g0
    simp only [Vl.v]
    go_enter Tryz.func64, Tryz.ntmps64
    go_wp2_with fail
    refine (only_any (⟨2, tx, ps, ⟨y, m, d, h, nn, s, zd, zn⟩, n⟩ : Vl) a cap _ ⟨by simp, by simp⟩).use ?_
    intro w2 g2
    rw [HON.out]
    have r2 : Hid (w2.heap[w.heap.size]? = some (.cells #[.int .i64 2, .string (S tx), .slice a ps.length cap, .int .i64 y, .int .i64 m, .int .i64 d, .int .i64 h, .int .i64 nn, .int .i64 s, .bool zd, .int .i64 zn, .int .i64 n] 28 (0, 0))) := hid (by rw [g2.below.block w.heap.size (by simp)]; exact heap_alloc_new w _)
    have G2 : Hid (G w w2) := hid (G0.out.trans g2)
    clear g2
    have e0 : w2.cell? ⟨w.heap.size, 0, none⟩ = some (.int .i64 2) := by rw [cell_of_row w2 w.heap.size 0 _ _ _ r2.out]; rfl
    have e1 : w2.cell? ⟨w.heap.size, 1, none⟩ = some (.string (S tx)) := by rw [cell_of_row w2 w.heap.size 1 _ _ _ r2.out]; rfl
    have e2 : w2.cell? ⟨w.heap.size, 2, none⟩ = some (.slice a ps.length cap) := by rw [cell_of_row w2 w.heap.size 2 _ _ _ r2.out]; rfl
    have e3 : w2.cell? ⟨w.heap.size, 3, none⟩ = some (.int .i64 y) := by rw [cell_of_row w2 w.heap.size 3 _ _ _ r2.out]; rfl
    have e4 : w2.cell? ⟨w.heap.size, 4, none⟩ = some (.int .i64 m) := by rw [cell_of_row w2 w.heap.size 4 _ _ _ r2.out]; rfl
    have e5 : w2.cell? ⟨w.heap.size, 5, none⟩ = some (.int .i64 d) := by rw [cell_of_row w2 w.heap.size 5 _ _ _ r2.out]; rfl
    have e6 : w2.cell? ⟨w.heap.size, 6, none⟩ = some (.int .i64 h) := by rw [cell_of_row w2 w.heap.size 6 _ _ _ r2.out]; rfl
    have e7 : w2.cell? ⟨w.heap.size, 7, none⟩ = some (.int .i64 nn) := by rw [cell_of_row w2 w.heap.size 7 _ _ _ r2.out]; rfl
    have e8 : w2.cell? ⟨w.heap.size, 8, none⟩ = some (.int .i64 s) := by rw [cell_of_row w2 w.heap.size 8 _ _ _ r2.out]; rfl
    have e9 : w2.cell? ⟨w.heap.size, 9, none⟩ = some (.bool zd) := by rw [cell_of_row w2 w.heap.size 9 _ _ _ r2.out]; rfl
    have e10 : w2.cell? ⟨w.heap.size, 10, none⟩ = some (.int .i64 zn) := by rw [cell_of_row w2 w.heap.size 10 _ _ _ r2.out]; rfl
    have e11 : w2.cell? ⟨w.heap.size, 11, none⟩ = some (.int .i64 n) := by rw [cell_of_row w2 w.heap.size 11 _ _ _ r2.out]; rfl
    rcases hcase with rfl | ⟨h0, h1, h2⟩
    · go_wp2_with fail
      go_ret
      exact ⟨_, rfl, ErrIf.no 8 HO.out, G2.out⟩
    · have hl0 : ((ps.length : Int) == 0) = false := beq_eq_false_iff_ne.2 (by have := List.length_pos_iff.2 h0; omega)
      have hl1 : ((ps.length : Int) != 1) = true := by simp; omega
      clear h0 h1 h2
      go_wp2_with fail
      go_ret
      exact ⟨_, rfl, ErrIf.no 8 HO.out, G2.out⟩
  · have h0 : ps ≠ [] := fun e => hbad (.inl e)
    have hl0 : ((ps.length : Int) == 0) = false := beq_eq_false_iff_ne.2 (by have := List.length_pos_iff.2 h0; omega)
    have hl1 : ps.length = 1 := by
      rcases Nat.decEq ps.length 1 with e | e
      · exact absurd (.inr ⟨rfl, e⟩) hbad
      · exact e
    have hl2 : ((ps.length : Int) != 1) = false := by rw [hl1]; rfl
    clear hl1
    have HO : Hid ((⟨2, tx, ps, ⟨y, m, d, h, nn, s, zd, zn⟩, n⟩ : Vl).ok = true ↔ (∀ l ∈ ps, l ≠ []) ∧ ∀ l ∈ ps, ∀ s ∈ l, holdsB s true = true) := hid (by rw [ok_of (x := (⟨2, tx, ps, ⟨y, m, d, h, nn, s, zd, zn⟩, n⟩ : Vl)) ⟨by simp, by simp⟩ hon]; exact body_lists (x := (⟨2, tx, ps, ⟨y, m, d, h, nn, s, zd, zn⟩, n⟩ : Vl)) (.inl rfl) h0 (fun hx => hbad (.inr hx)))
    clear h0 hbad
    have HON := hid hon
    clear hon
    have g0 : G w (w.alloc (.cells #[.int .i64 2, .string (S tx), .slice a ps.length cap, .int .i64 y, .int .i64 m, .int .i64 d, .int .i64 h, .int .i64 nn, .int .i64 s, .bool zd, .int .i64 zn, .int .i64 n] 28)) := (G.refl w).alloc _
    have G0 := hid g0
    clear g0
    simp only [Vl.v]
    go_enter Tryz.func64, Tryz.ntmps64
    go_wp2_with fail
    refine (only_any (⟨2, tx, ps, ⟨y, m, d, h, nn, s, zd, zn⟩, n⟩ : Vl) a cap _ ⟨by simp, by simp⟩).use ?_
    intro w2 g2
    rw [HON.out]
    have r2 : Hid (w2.heap[w.heap.size]? = some (.cells #[.int .i64 2, .string (S tx), .slice a ps.length cap, .int .i64 y, .int .i64 m, .int .i64 d, .int .i64 h, .int .i64 nn, .int .i64 s, .bool zd, .int .i64 zn, .int .i64 n] 28 (0, 0))) := hid (by rw [g2.below.block w.heap.size (by simp)]; exact heap_alloc_new w _)
    have G2 : Hid (G w w2) := hid (G0.out.trans g2)
    clear g2
    have e0 : w2.cell? ⟨w.heap.size, 0, none⟩ = some (.int .i64 2) := by rw [cell_of_row w2 w.heap.size 0 _ _ _ r2.out]; rfl
    have e1 : w2.cell? ⟨w.heap.size, 1, none⟩ = some (.string (S tx)) := by rw [cell_of_row w2 w.heap.size 1 _ _ _ r2.out]; rfl
    have e2 : w2.cell? ⟨w.heap.size, 2, none⟩ = some (.slice a ps.length cap) := by rw [cell_of_row w2 w.heap.size 2 _ _ _ r2.out]; rfl
    have e3 : w2.cell? ⟨w.heap.size, 3, none⟩ = some (.int .i64 y) := by rw [cell_of_row w2 w.heap.size 3 _ _ _ r2.out]; rfl
    have e4 : w2.cell? ⟨w.heap.size, 4, none⟩ = some (.int .i64 m) := by rw [cell_of_row w2 w.heap.size 4 _ _ _ r2.out]; rfl
    have e5 : w2.cell? ⟨w.heap.size, 5, none⟩ = some (.int .i64 d) := by rw [cell_of_row w2 w.heap.size 5 _ _ _ r2.out]; rfl
    have e6 : w2.cell? ⟨w.heap.size, 6, none⟩ = some (.int .i64 h) := by rw [cell_of_row w2 w.heap.size 6 _ _ _ r2.out]; rfl
    have e7 : w2.cell? ⟨w.heap.size, 7, none⟩ = some (.int .i64 nn) := by rw [cell_of_row w2 w.heap.size 7 _ _ _ r2.out]; rfl
    have e8 : w2.cell? ⟨w.heap.size, 8, none⟩ = some (.int .i64 s) := by rw [cell_of_row w2 w.heap.size 8 _ _ _ r2.out]; rfl
    have e9 : w2.cell? ⟨w.heap.size, 9, none⟩ = some (.bool zd) := by rw [cell_of_row w2 w.heap.size 9 _ _ _ r2.out]; rfl
    have e10 : w2.cell? ⟨w.heap.size, 10, none⟩ = some (.int .i64 zn) := by rw [cell_of_row w2 w.heap.size 10 _ _ _ r2.out]; rfl
    have e11 : w2.cell? ⟨w.heap.size, 11, none⟩ = some (.int .i64 n) := by rw [cell_of_row w2 w.heap.size 11 _ _ _ r2.out]; rfl
    have HNO : Hid (¬ ((∀ l ∈ ps, l ≠ []) ∧ ∀ l ∈ ps, ∀ s ∈ l, holdsB s true = true) → (⟨2, tx, ps, ⟨y, m, d, h, nn, s, zd, zn⟩, n⟩ : Vl).ok = false) := hid (fun hx => by
      cases e : (⟨2, tx, ps, ⟨y, m, d, h, nn, s, zd, zn⟩, n⟩ : Vl).ok with
      | false => rfl
      | true => exact absurd (HO.out.1 e) hx)
    have HL2 := hid (HL.out.grow G2.out)
    go_wp2_with fail
    go_loop [47] (fun i => ∃ k : Nat, k ≤ ps.length ∧ i = .int .i64 k ∧ ∀ l ∈ ps.take k, l ≠ []) (fun i => ps.length - (intOf i).toNat)
    case atStart => exact ⟨0, Nat.zero_le _, rfl, by simp⟩
    case round =>
      obtain ⟨k, hk, rfl, hr⟩ := hrel
      have HR := hid hr; clear hr
      by_cases hlt : k < ps.length
      · obtain ⟨b, off, c, e1', _, hb', hc⟩ := HL2.out.at_ (by rintro rfl; simp at hlt)
        simp only [Value.slice.injEq, true_and] at e1'
        obtain ⟨rfl, rfl⟩ := e1'
        obtain ⟨sv, d1, i1⟩ := hc k _ (List.getElem?_eq_getElem hlt)
        obtain ⟨x, hx⟩ : ∃ x, ps[k] = x := ⟨_, rfl⟩
        have HX := hid hx
        rw [hx] at i1
        obtain ⟨xa, xc, hxv, _⟩ := i1.len
        subst hxv
        clear hc i1 hx
        by_cases hxe : x = []
        · subst hxe
          go_wp2_with fail
          go_ret
          exact ⟨_, rfl, ErrIf.no 8 (HNO.out fun h => h.1 _ (List.getElem_mem hlt) HX.out), G2.out⟩
        · have hxl : ((x.length : Int) == 0) = false := beq_eq_false_iff_ne.2 (by have := List.length_pos_iff.2 hxe; omega)
          have HXE := hid hxe
          clear hxe
          go_wp2_with fail
          go_round
          case rel => exact ⟨k + 1, by omega, by go_num, by
            intro l hl
            rw [List.take_succ_eq_append_getElem hlt] at hl
            rcases List.mem_append.1 hl with hl | hl
            · exact HR.out l hl
            · rw [List.mem_singleton.1 hl, HX.out]; exact HXE.out⟩
          case measure => simp [intOf]; omega
      · obtain rfl : k = ps.length := by omega
        have HA : Hid (∀ l ∈ ps, l ≠ []) := hid (by have := HR.out; rwa [List.take_length] at this)
        go_wp2_with fail
        go_loop [59] (fun i => ∃ k : Nat, k ≤ ps.length ∧ i = .int .i64 k ∧ ∀ l ∈ ps.take k, ∀ s ∈ l, holdsB s true = true) (fun i => ps.length - (intOf i).toNat)
        case atStart => exact ⟨0, Nat.zero_le _, rfl, by simp⟩
        case round =>
          obtain ⟨k, hk, rfl, hr⟩ := hrel
          have HR2 := hid hr; clear hr
          by_cases hlt : k < ps.length
          · obtain ⟨b, off, c, e1', _, hb', hc⟩ := HL2.out.at_ (by rintro rfl; simp at hlt)
            simp only [Value.slice.injEq, true_and] at e1'
            obtain ⟨rfl, rfl⟩ := e1'
            obtain ⟨sv, d1, i1⟩ := hc k _ (List.getElem?_eq_getElem hlt)
            obtain ⟨x, hx⟩ : ∃ x, ps[k] = x := ⟨_, rfl⟩
            have HX := hid hx
            rw [hx] at i1
            obtain ⟨xa, xc, hxv, _⟩ := i1.len
            subst hxv
            have I1 := hid i1
            have hxs : sumL x + 1 ≤ sumP ps := by have := sumP_mem (ls := ps) (List.getElem_mem hlt); rwa [hx] at this
            have hxl := sumL_len x
            have HXS : Hid (sumL x + 1 ≤ sumP ps) := hid hxs
            have hszx := HSZ.out
            have hxb : x.length ≤ 100000 := by omega
            clear hc i1 hx hxs hxl hszx
            go_wp2_with fail
            go_loop [65] (fun i => ∃ j : Nat, j ≤ x.length ∧ i = .int .i64 j ∧ ∀ s ∈ x.take j, holdsB s true = true) (fun i => x.length - (intOf i).toNat)
            case atStart => exact ⟨0, Nat.zero_le _, rfl, by simp⟩
            case round =>
              obtain ⟨j, hj, rfl, hr⟩ := hrel
              have HR3 := hid hr; clear hr
              by_cases hjt : j < x.length
              · obtain ⟨b2, o2, c2, e2', _, hb2', hc2⟩ := I1.out.at_ (by rintro rfl; simp at hjt)
                simp only [Value.slice.injEq, true_and] at e2'
                obtain ⟨rfl, rfl⟩ := e2'
                have d2 := hc2 j _ (List.getElem?_eq_getElem hjt)
                obtain ⟨t, ht⟩ : ∃ t, x[j] = t := ⟨_, rfl⟩
                have HT := hid ht
                rw [ht] at d2
                have HTL : Hid (t.length ≤ 1000000) := hid (by
                  have h1 := sumL_mem (ls := x) (List.getElem_mem hjt)
                  have h2 := HXS.out
                  have h3 := HSZ.out
                  rw [ht] at h1; omega)
                clear hc2 ht
                go_wp2_with fail
                refine (holds_any t true _ HTL.out).use ?_
                cases hh : holdsB t true with
                | true =>
                  have HH := hid hh
                  clear hh
                  go_wp2_with fail
                  go_round
                  case rel => exact ⟨j + 1, by omega, by go_num, by
                    intro s hs
                    rw [List.take_succ_eq_append_getElem hjt] at hs
                    rcases List.mem_append.1 hs with hs | hs
                    · exact HR3.out s hs
                    · rw [List.mem_singleton.1 hs, HT.out]; exact HH.out⟩
                  case measure => simp [intOf]; omega
                | false =>
                  have HH := hid hh
                  clear hh
                  go_wp2_with fail
                  go_ret
                  exact ⟨_, rfl, ErrIf.no 3 (HNO.out fun h => by
                    have := h.2 _ (List.getElem_mem hlt) t (by rw [HX.out, ← HT.out]; exact List.getElem_mem hjt)
                    rw [HH.out] at this; cases this), G2.out⟩
              · obtain rfl : j = x.length := by omega
                go_wp2_with fail
                go_round
                case rel => exact ⟨k + 1, by omega, by go_num, by
                  intro l hl
                  rw [List.take_succ_eq_append_getElem hlt] at hl
                  rcases List.mem_append.1 hl with hl | hl
                  · exact HR2.out l hl
                  · rw [List.mem_singleton.1 hl, HX.out]
                    have := HR3.out
                    rwa [List.take_length] at this⟩
                case measure => simp [intOf]; omega
          · obtain rfl : k = ps.length := by omega
            have HB2 : Hid (∀ l ∈ ps, ∀ s ∈ l, holdsB s true = true) := hid (by have := HR2.out; rwa [List.take_length] at this)
            go_wp2_with fail
            go_ret
            exact ⟨_, rfl, ErrIf.yes (HO.out.2 ⟨HA.out, HB2.out⟩), G2.out⟩
set_option maxRecDepth 100000 in
set_option maxHeartbeats 4000000 in
theorem vright_lists3  (tx : List UInt8) (a : Option Addr) (cap : Nat) (ps : List (List (List UInt8))) (y m d h nn s : Int) (zd : Bool) (zn n : Int) (w : World) (hL : IsLists w (.slice a ps.length cap) ps) (h2 : sumP ps ≤ 100000) (hon : (⟨3, tx, ps, ⟨y, m, d, h, nn, s, zd, zn⟩, n⟩ : Vl).only = true) : Makes 64 #[(⟨3, tx, ps, ⟨y, m, d, h, nn, s, zd, zn⟩, n⟩ : Vl).v (.slice a ps.length cap)] w (fun r _ => ErrIf (⟨3, tx, ps, ⟨y, m, d, h, nn, s, zd, zn⟩, n⟩ : Vl).ok r) := by
  have HL := hid hL
  have hpl := sumP_len ps
  have hpb : ps.length ≤ 100000 := by omega
  have HSZ := hid h2
  clear hL h2 hpl
  by_cases hbad : ps = [] ∨ ((3 : Int) = 2 ∧ ps.length ≠ 1)
  · have HO : Hid ((⟨3, tx, ps, ⟨y, m, d, h, nn, s, zd, zn⟩, n⟩ : Vl).ok = false) := hid ((ok_of (x := (⟨3, tx, ps, ⟨y, m, d, h, nn, s, zd, zn⟩, n⟩ : Vl)) ⟨by simp, by simp⟩ hon).trans (body_lists_no (.inr rfl) hbad))
    have hcase : ps = [] ∨ ps ≠ [] ∧ (3 : Int) = 2 ∧ ps.length ≠ 1 := by
      by_cases h0 : ps = []
      · exact .inl h0
      · rcases hbad with h | h
        · exact absurd h h0
        · exact .inr ⟨h0, h⟩
    clear hbad
    have HON := hid hon
    clear hon
    have g0 : G w (w.alloc (.cells #[.int .i64 3, .string (S tx), .slice a ps.length cap, .int .i64 y, .int .i64 m, .int .i64 d, .int .i64 h, .int .i64 nn, .int .i64 s, .bool zd, .int .i64 zn, .int .i64 n] 28)) := (G.refl w).alloc _
    have G0 := hid g0
    clear g0
    simp only [Vl.v]
    go_enter Tryz.func64, Tryz.ntmps64
    go_wp2_with fail
    refine (only_any (⟨3, tx, ps, ⟨y, m, d, h, nn, s, zd, zn⟩, n⟩ : Vl) a cap _ ⟨by simp, by simp⟩).use ?_
    intro w2 g2
    rw [HON.out]
    have r2 : Hid (w2.heap[w.heap.size]? = some (.cells #[.int .i64 3, .string (S tx), .slice a ps.length cap, .int .i64 y, .int .i64 m, .int .i64 d, .int .i64 h, .int .i64 nn, .int .i64 s, .bool zd, .int .i64 zn, .int .i64 n] 28 (0, 0))) := hid (by rw [g2.below.block w.heap.size (by simp)]; exact heap_alloc_new w _)
    have G2 : Hid (G w w2) := hid (G0.out.trans g2)
    clear g2
    have e0 : w2.cell? ⟨w.heap.size, 0, none⟩ = some (.int .i64 3) := by rw [cell_of_row w2 w.heap.size 0 _ _ _ r2.out]; rfl
    have e1 : w2.cell? ⟨w.heap.size, 1, none⟩ = some (.string (S tx)) := by rw [cell_of_row w2 w.heap.size 1 _ _ _ r2.out]; rfl
    have e2 : w2.cell? ⟨w.heap.size, 2, none⟩ = some (.slice a ps.length cap) := by rw [cell_of_row w2 w.heap.size 2 _ _ _ r2.out]; rfl
    have e3 : w2.cell? ⟨w.heap.size, 3, none⟩ = some (.int .i64 y) := by rw [cell_of_row w2 w.heap.size 3 _ _ _ r2.out]; rfl
    have e4 : w2.cell? ⟨w.heap.size, 4, none⟩ = some (.int .i64 m) := by rw [cell_of_row w2 w.heap.size 4 _ _ _ r2.out]; rfl
    have e5 : w2.cell? ⟨w.heap.size, 5, none⟩ = some (.int .i64 d) := by rw [cell_of_row w2 w.heap.size 5 _ _ _ r2.out]; rfl
    have e6 : w2.cell? ⟨w.heap.size, 6, none⟩ = some (.int .i64 h) := by rw [cell_of_row w2 w.heap.size 6 _ _ _ r2.out]; rfl
    have e7 : w2.cell? ⟨w.heap.size, 7, none⟩ = some (.int .i64 nn) := by rw [cell_of_row w2 w.heap.size 7 _ _ _ r2.out]; rfl
    have e8 : w2.cell? ⟨w.heap.size, 8, none⟩ = some (.int .i64 s) := by rw [cell_of_row w2 w.heap.size 8 _ _ _ r2.out]; rfl
    have e9 : w2.cell? ⟨w.heap.size, 9, none⟩ = some (.bool zd) := by rw [cell_of_row w2 w.heap.size 9 _ _ _ r2.out]; rfl
    have e10 : w2.cell? ⟨w.heap.size, 10, none⟩ = some (.int .i64 zn) := by rw [cell_of_row w2 w.heap.size 10 _ _ _ r2.out]; rfl
    have e11 : w2.cell? ⟨w.heap.size, 11, none⟩ = some (.int .i64 n) := by rw [cell_of_row w2 w.heap.size 11 _ _ _ r2.out]; rfl
    rcases hcase with rfl | ⟨h0, h1, h2⟩
    · go_wp2_with fail
      go_ret
      exact ⟨_, rfl, ErrIf.no 8 HO.out, G2.out⟩
    · exact absurd h1 (by decide)
  · have h0 : ps ≠ [] := fun e => hbad (.inl e)
    have hl0 : ((ps.length : Int) == 0) = false := beq_eq_false_iff_ne.2 (by have := List.length_pos_iff.2 h0; omega)
    have HO : Hid ((⟨3, tx, ps, ⟨y, m, d, h, nn, s, zd, zn⟩, n⟩ : Vl).ok = true ↔ (∀ l ∈ ps, l ≠ []) ∧ ∀ l ∈ ps, ∀ s ∈ l, holdsB s true = true) := hid (by rw [ok_of (x := (⟨3, tx, ps, ⟨y, m, d, h, nn, s, zd, zn⟩, n⟩ : Vl)) ⟨by simp, by simp⟩ hon]; exact body_lists (x := (⟨3, tx, ps, ⟨y, m, d, h, nn, s, zd, zn⟩, n⟩ : Vl)) (.inr rfl) h0 (fun hx => hbad (.inr hx)))
    clear h0 hbad
    have HON := hid hon
    clear hon
    have g0 : G w (w.alloc (.cells #[.int .i64 3, .string (S tx), .slice a ps.length cap, .int .i64 y, .int .i64 m, .int .i64 d, .int .i64 h, .int .i64 nn, .int .i64 s, .bool zd, .int .i64 zn, .int .i64 n] 28)) := (G.refl w).alloc _
    have G0 := hid g0
    clear g0
    simp only [Vl.v]
    go_enter Tryz.func64, Tryz.ntmps64
    go_wp2_with fail
    refine (only_any (⟨3, tx, ps, ⟨y, m, d, h, nn, s, zd, zn⟩, n⟩ : Vl) a cap _ ⟨by simp, by simp⟩).use ?_
    intro w2 g2
    rw [HON.out]
    have r2 : Hid (w2.heap[w.heap.size]? = some (.cells #[.int .i64 3, .string (S tx), .slice a ps.length cap, .int .i64 y, .int .i64 m, .int .i64 d, .int .i64 h, .int .i64 nn, .int .i64 s, .bool zd, .int .i64 zn, .int .i64 n] 28 (0, 0))) := hid (by rw [g2.below.block w.heap.size (by simp)]; exact heap_alloc_new w _)
    have G2 : Hid (G w w2) := hid (G0.out.trans g2)
    clear g2
    have e0 : w2.cell? ⟨w.heap.size, 0, none⟩ = some (.int .i64 3) := by rw [cell_of_row w2 w.heap.size 0 _ _ _ r2.out]; rfl
    have e1 : w2.cell? ⟨w.heap.size, 1, none⟩ = some (.string (S tx)) := by rw [cell_of_row w2 w.heap.size 1 _ _ _ r2.out]; rfl
    have e2 : w2.cell? ⟨w.heap.size, 2, none⟩ = some (.slice a ps.length cap) := by rw [cell_of_row w2 w.heap.size 2 _ _ _ r2.out]; rfl
    have e3 : w2.cell? ⟨w.heap.size, 3, none⟩ = some (.int .i64 y) := by rw [cell_of_row w2 w.heap.size 3 _ _ _ r2.out]; rfl
    have e4 : w2.cell? ⟨w.heap.size, 4, none⟩ = some (.int .i64 m) := by rw [cell_of_row w2 w.heap.size 4 _ _ _ r2.out]; rfl
    have e5 : w2.cell? ⟨w.heap.size, 5, none⟩ = some (.int .i64 d) := by rw [cell_of_row w2 w.heap.size 5 _ _ _ r2.out]; rfl
    have e6 : w2.cell? ⟨w.heap.size, 6, none⟩ = some (.int .i64 h) := by rw [cell_of_row w2 w.heap.size 6 _ _ _ r2.out]; rfl
    have e7 : w2.cell? ⟨w.heap.size, 7, none⟩ = some (.int .i64 nn) := by rw [cell_of_row w2 w.heap.size 7 _ _ _ r2.out]; rfl
    have e8 : w2.cell? ⟨w.heap.size, 8, none⟩ = some (.int .i64 s) := by rw [cell_of_row w2 w.heap.size 8 _ _ _ r2.out]; rfl
    have e9 : w2.cell? ⟨w.heap.size, 9, none⟩ = some (.bool zd) := by rw [cell_of_row w2 w.heap.size 9 _ _ _ r2.out]; rfl
    have e10 : w2.cell? ⟨w.heap.size, 10, none⟩ = some (.int .i64 zn) := by rw [cell_of_row w2 w.heap.size 10 _ _ _ r2.out]; rfl
    have e11 : w2.cell? ⟨w.heap.size, 11, none⟩ = some (.int .i64 n) := by rw [cell_of_row w2 w.heap.size 11 _ _ _ r2.out]; rfl
    have HNO : Hid (¬ ((∀ l ∈ ps, l ≠ []) ∧ ∀ l ∈ ps, ∀ s ∈ l, holdsB s true = true) → (⟨3, tx, ps, ⟨y, m, d, h, nn, s, zd, zn⟩, n⟩ : Vl).ok = false) := hid (fun hx => by
      cases e : (⟨3, tx, ps, ⟨y, m, d, h, nn, s, zd, zn⟩, n⟩ : Vl).ok with
      | false => rfl
      | true => exact absurd (HO.out.1 e) hx)
    have HL2 := hid (HL.out.grow G2.out)
    go_wp2_with fail
    go_loop [47] (fun i => ∃ k : Nat, k ≤ ps.length ∧ i = .int .i64 k ∧ ∀ l ∈ ps.take k, l ≠ []) (fun i => ps.length - (intOf i).toNat)
    case atStart => exact ⟨0, Nat.zero_le _, rfl, by simp⟩
    case round =>
      obtain ⟨k, hk, rfl, hr⟩ := hrel
      have HR := hid hr; clear hr
      by_cases hlt : k < ps.length
      · obtain ⟨b, off, c, e1', _, hb', hc⟩ := HL2.out.at_ (by rintro rfl; simp at hlt)
        simp only [Value.slice.injEq, true_and] at e1'
        obtain ⟨rfl, rfl⟩ := e1'
        obtain ⟨sv, d1, i1⟩ := hc k _ (List.getElem?_eq_getElem hlt)
        obtain ⟨x, hx⟩ : ∃ x, ps[k] = x := ⟨_, rfl⟩
        have HX := hid hx
        rw [hx] at i1
        obtain ⟨xa, xc, hxv, _⟩ := i1.len
        subst hxv
        clear hc i1 hx
        by_cases hxe : x = []
        · subst hxe
          go_wp2_with fail
          go_ret
          exact ⟨_, rfl, ErrIf.no 8 (HNO.out fun h => h.1 _ (List.getElem_mem hlt) HX.out), G2.out⟩
        · have hxl : ((x.length : Int) == 0) = false := beq_eq_false_iff_ne.2 (by have := List.length_pos_iff.2 hxe; omega)
          have HXE := hid hxe
          clear hxe
          go_wp2_with fail
          go_round
          case rel => exact ⟨k + 1, by omega, by go_num, by
            intro l hl
            rw [List.take_succ_eq_append_getElem hlt] at hl
            rcases List.mem_append.1 hl with hl | hl
            · exact HR.out l hl
            · rw [List.mem_singleton.1 hl, HX.out]; exact HXE.out⟩
          case measure => simp [intOf]; omega
      · obtain rfl : k = ps.length := by omega
        have HA : Hid (∀ l ∈ ps, l ≠ []) := hid (by have := HR.out; rwa [List.take_length] at this)
        go_wp2_with fail
        go_loop [59] (fun i => ∃ k : Nat, k ≤ ps.length ∧ i = .int .i64 k ∧ ∀ l ∈ ps.take k, ∀ s ∈ l, holdsB s true = true) (fun i => ps.length - (intOf i).toNat)
        case atStart => exact ⟨0, Nat.zero_le _, rfl, by simp⟩
        case round =>
          obtain ⟨k, hk, rfl, hr⟩ := hrel
          have HR2 := hid hr; clear hr
          by_cases hlt : k < ps.length
          · obtain ⟨b, off, c, e1', _, hb', hc⟩ := HL2.out.at_ (by rintro rfl; simp at hlt)
            simp only [Value.slice.injEq, true_and] at e1'
            obtain ⟨rfl, rfl⟩ := e1'
            obtain ⟨sv, d1, i1⟩ := hc k _ (List.getElem?_eq_getElem hlt)
            obtain ⟨x, hx⟩ : ∃ x, ps[k] = x := ⟨_, rfl⟩
            have HX := hid hx
            rw [hx] at i1
            obtain ⟨xa, xc, hxv, _⟩ := i1.len
            subst hxv
            have I1 := hid i1
            have hxs : sumL x + 1 ≤ sumP ps := by have := sumP_mem (ls := ps) (List.getElem_mem hlt); rwa [hx] at this
            have hxl := sumL_len x
            have HXS : Hid (sumL x + 1 ≤ sumP ps) := hid hxs
            have hszx := HSZ.out
            have hxb : x.length ≤ 100000 := by omega
            clear hc i1 hx hxs hxl hszx
            go_wp2_with fail
            go_loop [65] (fun i => ∃ j : Nat, j ≤ x.length ∧ i = .int .i64 j ∧ ∀ s ∈ x.take j, holdsB s true = true) (fun i => x.length - (intOf i).toNat)
            case atStart => exact ⟨0, Nat.zero_le _, rfl, by simp⟩
            case round =>
              obtain ⟨j, hj, rfl, hr⟩ := hrel
              have HR3 := hid hr; clear hr
              by_cases hjt : j < x.length
              · obtain ⟨b2, o2, c2, e2', _, hb2', hc2⟩ := I1.out.at_ (by rintro rfl; simp at hjt)
                simp only [Value.slice.injEq, true_and] at e2'
                obtain ⟨rfl, rfl⟩ := e2'
                have d2 := hc2 j _ (List.getElem?_eq_getElem hjt)
                obtain ⟨t, ht⟩ : ∃ t, x[j] = t := ⟨_, rfl⟩
                have HT := hid ht
                rw [ht] at d2
                have HTL : Hid (t.length ≤ 1000000) := hid (by
                  have h1 := sumL_mem (ls := x) (List.getElem_mem hjt)
                  have h2 := HXS.out
                  have h3 := HSZ.out
                  rw [ht] at h1; omega)
                clear hc2 ht
                go_wp2_with fail
                refine (holds_any t true _ HTL.out).use ?_
                cases hh : holdsB t true with
                | true =>
                  have HH := hid hh
                  clear hh
                  go_wp2_with fail
                  go_round
                  case rel => exact ⟨j + 1, by omega, by go_num, by
                    intro s hs
                    rw [List.take_succ_eq_append_getElem hjt] at hs
                    rcases List.mem_append.1 hs with hs | hs
                    · exact HR3.out s hs
                    · rw [List.mem_singleton.1 hs, HT.out]; exact HH.out⟩
                  case measure => simp [intOf]; omega
                | false =>
                  have HH := hid hh
                  clear hh
                  go_wp2_with fail
                  go_ret
                  exact ⟨_, rfl, ErrIf.no 3 (HNO.out fun h => by
                    have := h.2 _ (List.getElem_mem hlt) t (by rw [HX.out, ← HT.out]; exact List.getElem_mem hjt)
                    rw [HH.out] at this; cases this), G2.out⟩
              · obtain rfl : j = x.length := by omega
                go_wp2_with fail
                go_round
                case rel => exact ⟨k + 1, by omega, by go_num, by
                  intro l hl
                  rw [List.take_succ_eq_append_getElem hlt] at hl
                  rcases List.mem_append.1 hl with hl | hl
                  · exact HR2.out l hl
                  · rw [List.mem_singleton.1 hl, HX.out]
                    have := HR3.out
                    rwa [List.take_length] at this⟩
                case measure => simp [intOf]; omega
          · obtain rfl : k = ps.length := by omega
            have HB2 : Hid (∀ l ∈ ps, ∀ s ∈ l, holdsB s true = true) := hid (by have := HR2.out; rwa [List.take_length] at this)
            go_wp2_with fail
            go_ret
            exact ⟨_, rfl, ErrIf.yes (HO.out.2 ⟨HA.out, HB2.out⟩), G2.out⟩
theorem vright_any (x : Vl) (pv : Value) (w : World) (hL : IsLists w pv x.ps) (h1 : x.tx.length ≤ 100000) (h2 : sumP x.ps ≤ 100000) (hy : -9223372036854775808 ≤ x.st.y ∧ x.st.y ≤ 9223372036854775807) (hM : HasM w) (hE : LaidE w) : Makes 64 #[x.v pv] w (fun r _ => ErrIf x.ok r) := by
  obtain ⟨a, cap, rfl, _⟩ := hL.len
  obtain ⟨ty, tx, ps, ⟨y, m, d, h, nn, s, zd, zn⟩, n⟩ := x
  simp only at hL h1 h2 hy
  by_cases hk : 1 ≤ ty ∧ ty < 9
  · cases ho : (⟨ty, tx, ps, ⟨y, m, d, h, nn, s, zd, zn⟩, n⟩ : Vl).only with
    | false => exact vright_more ty tx a cap ps y m d h nn s zd zn n w hk ho
    | true =>
      have hty : ty = 1 ∨ ty = 2 ∨ ty = 3 ∨ ty = 4 ∨ ty = 5 ∨ ty = 6 ∨ ty = 7 ∨ ty = 8 := by omega
      rcases hty with rfl | rfl | rfl | rfl | rfl | rfl | rfl | rfl
      · exact vright_text1 tx a cap ps y m d h nn s zd zn n w h1 ho
      · exact vright_lists2 tx a cap ps y m d h nn s zd zn n w hL h2 ho
      · exact vright_lists3 tx a cap ps y m d h nn s zd zn n w hL h2 ho
      · exact vright_uri tx a cap ps y m d h nn s zd zn n w h1 hE ho
      · exact vright_when tx a cap ps y m d h nn s zd zn n w hM hy ho
      · exact vright_offset tx a cap ps y m d h nn s zd zn n w ho
      · exact vright_lang tx a cap ps y m d h nn s zd zn n w h1 hE ho
      · exact vright_text8 tx a cap ps y m d h nn s zd zn n w h1 ho
  · exact vright_far ty tx a cap ps y m d h nn s zd zn n w hk
end Go.Proofs.YtdmbhoagjjkogaaGreatDoor
