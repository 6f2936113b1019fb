/-
  CONTRACT of value.Write. (written by gen_valwrite.py)
-/
import Derived.Test.YtdmbhoagjjkogaaGreatDoorValRight
namespace Go.Proofs.YtdmbhoagjjkogaaGreatDoor
open Go.RowKit
set_option linter.unusedVariables false
set_option linter.unusedSimpArgs false
def WriteP (x : Vl) (r : Value) : Prop := if x.ok = true then r = .tuple #[.string (S x.text), .nilIface] else ∃ c, r = .tuple #[.string (S []), eno c]
theorem WriteP.yes {x : Vl} {t : List UInt8} (h : x.ok = true) (ht : x.text = t) : WriteP x (.tuple #[.string (S t), .nilIface]) := by unfold WriteP; rw [if_pos h, ht]
theorem WriteP.no {x : Vl} (c : Int) (h : x.ok = false) : WriteP x (.tuple #[.string (S []), eno c]) := by unfold WriteP; rw [if_neg (by simp [h])]; exact ⟨c, rfl⟩
theorem ok_parts {x : Vl} (h : x.ok = true) : (1 ≤ x.ty ∧ x.ty < 9) ∧ x.only = true ∧ x.body = true := by
  unfold Vl.ok at h
  simp only [Bool.and_eq_true, decide_eq_true_eq] at h
  exact ⟨h.1.1, h.1.2, h.2⟩
set_option maxRecDepth 100000 in
set_option maxHeartbeats 4000000 in
theorem vwrite_no (ty : Int) (tx : List UInt8) (a : Option Addr) (cap : Nat) (ps : List (List (List UInt8))) (y m d h nn s : Int) (zd : Bool) (zn n : Int) (w : World) (hL : IsLists w (.slice a ps.length cap) ps) (h1 : tx.length ≤ 100000) (h2 : sumP ps ≤ 100000) (hy : -9223372036854775808 ≤ y ∧ y ≤ 9223372036854775807) (hM : HasM w) (hE : LaidE w) (hok : (⟨ty, tx, ps, ⟨y, m, d, h, nn, s, zd, zn⟩, n⟩ : Vl).ok = false) : Makes 94 #[(⟨ty, tx, ps, ⟨y, m, d, h, nn, s, zd, zn⟩, n⟩ : Vl).v (.slice a ps.length cap)] w (fun r _ => WriteP (⟨ty, tx, ps, ⟨y, m, d, h, nn, s, zd, zn⟩, n⟩ : Vl) r) := by
  have HOK := hid hok
  have HL := hid hL
  have HM := hid hM
  have HE := hid hE
  have HY := hid hy
  have H1 := hid h1
  have H2 := hid h2
  clear hok hL hM hE hy h1 h2
  have g0 : G w (w.alloc (.cells #[.int .i64 ty, .string (S tx), .slice a ps.length cap, .int .i64 y, .int .i64 m, .int .i64 d, .int .i64 h, .int .i64 nn, .int .i64 s, .bool zd, .int .i64 zn, .int .i64 n] 28)) := (G.refl w).alloc _
  have G0 := hid g0
  clear g0
  have hr := vright_any (⟨ty, tx, ps, ⟨y, m, d, h, nn, s, zd, zn⟩, n⟩ : Vl) (.slice a ps.length cap) (w.alloc (.cells #[.int .i64 ty, .string (S tx), .slice a ps.length cap, .int .i64 y, .int .i64 m, .int .i64 d, .int .i64 h, .int .i64 nn, .int .i64 s, .bool zd, .int .i64 zn, .int .i64 n] 28)) (HL.out.grow G0.out) H1.out H2.out HY.out (HM.out.grow G0.out) (HE.out.grow G0.out)
  have HR := hid hr
  clear hr
  simp only [Vl.v] at HR ⊢
  go_enter Tryz.func94, Tryz.ntmps94
  go_wp2_with fail
  refine (HR.out).use ?_
  intro r w2 hr g2
  unfold ErrIf at hr
  rw [HOK.out] at hr
  have r2 : Hid (w2.heap[w.heap.size]? = some (.cells #[.int .i64 ty, .string (S tx), .slice a ps.length cap, .int .i64 y, .int .i64 m, .int .i64 d, .int .i64 h, .int .i64 nn, .int .i64 s, .bool zd, .int .i64 zn, .int .i64 n] 28 (0, 0))) := hid (by rw [g2.below.block w.heap.size (by simp)]; exact heap_alloc_new w _)
  have G2 : Hid (G w w2) := hid (G0.out.trans g2)
  clear g2
  have e0 : w2.cell? ⟨w.heap.size, 0, none⟩ = some (.int .i64 ty) := by rw [cell_of_row w2 w.heap.size 0 _ _ _ r2.out]; rfl
  have e1 : w2.cell? ⟨w.heap.size, 1, none⟩ = some (.string (S tx)) := by rw [cell_of_row w2 w.heap.size 1 _ _ _ r2.out]; rfl
  have e2 : w2.cell? ⟨w.heap.size, 2, none⟩ = some (.slice a ps.length cap) := by rw [cell_of_row w2 w.heap.size 2 _ _ _ r2.out]; rfl
  have e3 : w2.cell? ⟨w.heap.size, 3, none⟩ = some (.int .i64 y) := by rw [cell_of_row w2 w.heap.size 3 _ _ _ r2.out]; rfl
  have e4 : w2.cell? ⟨w.heap.size, 4, none⟩ = some (.int .i64 m) := by rw [cell_of_row w2 w.heap.size 4 _ _ _ r2.out]; rfl
  have e5 : w2.cell? ⟨w.heap.size, 5, none⟩ = some (.int .i64 d) := by rw [cell_of_row w2 w.heap.size 5 _ _ _ r2.out]; rfl
  have e6 : w2.cell? ⟨w.heap.size, 6, none⟩ = some (.int .i64 h) := by rw [cell_of_row w2 w.heap.size 6 _ _ _ r2.out]; rfl
  have e7 : w2.cell? ⟨w.heap.size, 7, none⟩ = some (.int .i64 nn) := by rw [cell_of_row w2 w.heap.size 7 _ _ _ r2.out]; rfl
  have e8 : w2.cell? ⟨w.heap.size, 8, none⟩ = some (.int .i64 s) := by rw [cell_of_row w2 w.heap.size 8 _ _ _ r2.out]; rfl
  have e9 : w2.cell? ⟨w.heap.size, 9, none⟩ = some (.bool zd) := by rw [cell_of_row w2 w.heap.size 9 _ _ _ r2.out]; rfl
  have e10 : w2.cell? ⟨w.heap.size, 10, none⟩ = some (.int .i64 zn) := by rw [cell_of_row w2 w.heap.size 10 _ _ _ r2.out]; rfl
  have e11 : w2.cell? ⟨w.heap.size, 11, none⟩ = some (.int .i64 n) := by rw [cell_of_row w2 w.heap.size 11 _ _ _ r2.out]; rfl
  rw [if_neg (by decide)] at hr
  obtain ⟨c, rfl, _⟩ := hr
  go_wp2_with fail
  go_ret2
  exact ⟨_, rfl, WriteP.no c HOK.out, G2.out⟩
set_option maxRecDepth 100000 in
set_option maxHeartbeats 4000000 in
theorem vwrite1 (tx : List UInt8) (a : Option Addr) (cap : Nat) (ps : List (List (List UInt8))) (y m d h nn s : Int) (zd : Bool) (zn n : Int) (w : World) (hL : IsLists w (.slice a ps.length cap) ps) (h1 : tx.length ≤ 100000) (h2 : sumP ps ≤ 100000) (hy : -9223372036854775808 ≤ y ∧ y ≤ 9223372036854775807) (hM : HasM w) (hE : LaidE w) (hok : (⟨1, tx, ps, ⟨y, m, d, h, nn, s, zd, zn⟩, n⟩ : Vl).ok = true) : Makes 94 #[(⟨1, tx, ps, ⟨y, m, d, h, nn, s, zd, zn⟩, n⟩ : Vl).v (.slice a ps.length cap)] w (fun r _ => WriteP (⟨1, tx, ps, ⟨y, m, d, h, nn, s, zd, zn⟩, n⟩ : Vl) r) := by
  have HOK := hid hok
  have HL := hid hL
  have HM := hid hM
  have HE := hid hE
  have HY := hid hy
  have H1 := hid h1
  have H2 := hid h2
  clear hok hL hM hE hy h1 h2
  have g0 : G w (w.alloc (.cells #[.int .i64 1, .string (S tx), .slice a ps.length cap, .int .i64 y, .int .i64 m, .int .i64 d, .int .i64 h, .int .i64 nn, .int .i64 s, .bool zd, .int .i64 zn, .int .i64 n] 28)) := (G.refl w).alloc _
  have G0 := hid g0
  clear g0
  have hr := vright_any (⟨1, tx, ps, ⟨y, m, d, h, nn, s, zd, zn⟩, n⟩ : Vl) (.slice a ps.length cap) (w.alloc (.cells #[.int .i64 1, .string (S tx), .slice a ps.length cap, .int .i64 y, .int .i64 m, .int .i64 d, .int .i64 h, .int .i64 nn, .int .i64 s, .bool zd, .int .i64 zn, .int .i64 n] 28)) (HL.out.grow G0.out) H1.out H2.out HY.out (HM.out.grow G0.out) (HE.out.grow G0.out)
  have HR := hid hr
  clear hr
  simp only [Vl.v] at HR ⊢
  go_enter Tryz.func94, Tryz.ntmps94
  go_wp2_with fail
  refine (HR.out).use ?_
  intro r w2 hr g2
  unfold ErrIf at hr
  rw [HOK.out] at hr
  have r2 : Hid (w2.heap[w.heap.size]? = some (.cells #[.int .i64 1, .string (S tx), .slice a ps.length cap, .int .i64 y, .int .i64 m, .int .i64 d, .int .i64 h, .int .i64 nn, .int .i64 s, .bool zd, .int .i64 zn, .int .i64 n] 28 (0, 0))) := hid (by rw [g2.below.block w.heap.size (by simp)]; exact heap_alloc_new w _)
  have G2 : Hid (G w w2) := hid (G0.out.trans g2)
  clear g2
  have e0 : w2.cell? ⟨w.heap.size, 0, none⟩ = some (.int .i64 1) := by rw [cell_of_row w2 w.heap.size 0 _ _ _ r2.out]; rfl
  have e1 : w2.cell? ⟨w.heap.size, 1, none⟩ = some (.string (S tx)) := by rw [cell_of_row w2 w.heap.size 1 _ _ _ r2.out]; rfl
  have e2 : w2.cell? ⟨w.heap.size, 2, none⟩ = some (.slice a ps.length cap) := by rw [cell_of_row w2 w.heap.size 2 _ _ _ r2.out]; rfl
  have e3 : w2.cell? ⟨w.heap.size, 3, none⟩ = some (.int .i64 y) := by rw [cell_of_row w2 w.heap.size 3 _ _ _ r2.out]; rfl
  have e4 : w2.cell? ⟨w.heap.size, 4, none⟩ = some (.int .i64 m) := by rw [cell_of_row w2 w.heap.size 4 _ _ _ r2.out]; rfl
  have e5 : w2.cell? ⟨w.heap.size, 5, none⟩ = some (.int .i64 d) := by rw [cell_of_row w2 w.heap.size 5 _ _ _ r2.out]; rfl
  have e6 : w2.cell? ⟨w.heap.size, 6, none⟩ = some (.int .i64 h) := by rw [cell_of_row w2 w.heap.size 6 _ _ _ r2.out]; rfl
  have e7 : w2.cell? ⟨w.heap.size, 7, none⟩ = some (.int .i64 nn) := by rw [cell_of_row w2 w.heap.size 7 _ _ _ r2.out]; rfl
  have e8 : w2.cell? ⟨w.heap.size, 8, none⟩ = some (.int .i64 s) := by rw [cell_of_row w2 w.heap.size 8 _ _ _ r2.out]; rfl
  have e9 : w2.cell? ⟨w.heap.size, 9, none⟩ = some (.bool zd) := by rw [cell_of_row w2 w.heap.size 9 _ _ _ r2.out]; rfl
  have e10 : w2.cell? ⟨w.heap.size, 10, none⟩ = some (.int .i64 zn) := by rw [cell_of_row w2 w.heap.size 10 _ _ _ r2.out]; rfl
  have e11 : w2.cell? ⟨w.heap.size, 11, none⟩ = some (.int .i64 n) := by rw [cell_of_row w2 w.heap.size 11 _ _ _ r2.out]; rfl
  rw [if_pos rfl] at hr
  subst hr
  go_wp2_with fail
  refine (escape_any tx _ H1.out).use ?_
  intro w3 g3
  go_wp2_with fail
  go_ret2
  exact ⟨_, rfl, WriteP.yes HOK.out rfl, G2.out.trans g3⟩
set_option maxRecDepth 100000 in
set_option maxHeartbeats 4000000 in
theorem vwrite2 (tx : List UInt8) (a : Option Addr) (cap : Nat) (ps : List (List (List UInt8))) (y m d h nn s : Int) (zd : Bool) (zn n : Int) (w : World) (hL : IsLists w (.slice a ps.length cap) ps) (h1 : tx.length ≤ 100000) (h2 : sumP ps ≤ 100000) (hy : -9223372036854775808 ≤ y ∧ y ≤ 9223372036854775807) (hM : HasM w) (hE : LaidE w) (hok : (⟨2, tx, ps, ⟨y, m, d, h, nn, s, zd, zn⟩, n⟩ : Vl).ok = true) : Makes 94 #[(⟨2, tx, ps, ⟨y, m, d, h, nn, s, zd, zn⟩, n⟩ : Vl).v (.slice a ps.length cap)] w (fun r _ => WriteP (⟨2, tx, ps, ⟨y, m, d, h, nn, s, zd, zn⟩, n⟩ : Vl) r) := by
  have HOK := hid hok
  have HL := hid hL
  have HM := hid hM
  have HE := hid hE
  have HY := hid hy
  have H1 := hid h1
  have H2 := hid h2
  clear hok hL hM hE hy h1 h2
  have g0 : G w (w.alloc (.cells #[.int .i64 2, .string (S tx), .slice a ps.length cap, .int .i64 y, .int .i64 m, .int .i64 d, .int .i64 h, .int .i64 nn, .int .i64 s, .bool zd, .int .i64 zn, .int .i64 n] 28)) := (G.refl w).alloc _
  have G0 := hid g0
  clear g0
  have hr := vright_any (⟨2, tx, ps, ⟨y, m, d, h, nn, s, zd, zn⟩, n⟩ : Vl) (.slice a ps.length cap) (w.alloc (.cells #[.int .i64 2, .string (S tx), .slice a ps.length cap, .int .i64 y, .int .i64 m, .int .i64 d, .int .i64 h, .int .i64 nn, .int .i64 s, .bool zd, .int .i64 zn, .int .i64 n] 28)) (HL.out.grow G0.out) H1.out H2.out HY.out (HM.out.grow G0.out) (HE.out.grow G0.out)
  have HR := hid hr
  clear hr
  simp only [Vl.v] at HR ⊢
  go_enter Tryz.func94, Tryz.ntmps94
  go_wp2_with fail
  refine (HR.out).use ?_
  intro r w2 hr g2
  unfold ErrIf at hr
  rw [HOK.out] at hr
  have r2 : Hid (w2.heap[w.heap.size]? = some (.cells #[.int .i64 2, .string (S tx), .slice a ps.length cap, .int .i64 y, .int .i64 m, .int .i64 d, .int .i64 h, .int .i64 nn, .int .i64 s, .bool zd, .int .i64 zn, .int .i64 n] 28 (0, 0))) := hid (by rw [g2.below.block w.heap.size (by simp)]; exact heap_alloc_new w _)
  have G2 : Hid (G w w2) := hid (G0.out.trans g2)
  clear g2
  have e0 : w2.cell? ⟨w.heap.size, 0, none⟩ = some (.int .i64 2) := by rw [cell_of_row w2 w.heap.size 0 _ _ _ r2.out]; rfl
  have e1 : w2.cell? ⟨w.heap.size, 1, none⟩ = some (.string (S tx)) := by rw [cell_of_row w2 w.heap.size 1 _ _ _ r2.out]; rfl
  have e2 : w2.cell? ⟨w.heap.size, 2, none⟩ = some (.slice a ps.length cap) := by rw [cell_of_row w2 w.heap.size 2 _ _ _ r2.out]; rfl
  have e3 : w2.cell? ⟨w.heap.size, 3, none⟩ = some (.int .i64 y) := by rw [cell_of_row w2 w.heap.size 3 _ _ _ r2.out]; rfl
  have e4 : w2.cell? ⟨w.heap.size, 4, none⟩ = some (.int .i64 m) := by rw [cell_of_row w2 w.heap.size 4 _ _ _ r2.out]; rfl
  have e5 : w2.cell? ⟨w.heap.size, 5, none⟩ = some (.int .i64 d) := by rw [cell_of_row w2 w.heap.size 5 _ _ _ r2.out]; rfl
  have e6 : w2.cell? ⟨w.heap.size, 6, none⟩ = some (.int .i64 h) := by rw [cell_of_row w2 w.heap.size 6 _ _ _ r2.out]; rfl
  have e7 : w2.cell? ⟨w.heap.size, 7, none⟩ = some (.int .i64 nn) := by rw [cell_of_row w2 w.heap.size 7 _ _ _ r2.out]; rfl
  have e8 : w2.cell? ⟨w.heap.size, 8, none⟩ = some (.int .i64 s) := by rw [cell_of_row w2 w.heap.size 8 _ _ _ r2.out]; rfl
  have e9 : w2.cell? ⟨w.heap.size, 9, none⟩ = some (.bool zd) := by rw [cell_of_row w2 w.heap.size 9 _ _ _ r2.out]; rfl
  have e10 : w2.cell? ⟨w.heap.size, 10, none⟩ = some (.int .i64 zn) := by rw [cell_of_row w2 w.heap.size 10 _ _ _ r2.out]; rfl
  have e11 : w2.cell? ⟨w.heap.size, 11, none⟩ = some (.int .i64 n) := by rw [cell_of_row w2 w.heap.size 11 _ _ _ r2.out]; rfl
  rw [if_pos rfl] at hr
  subst hr
  have hbody := (ok_parts HOK.out).2.2
  have hne : ps ≠ [] ∧ ∀ l ∈ ps, l ≠ [] := by
    have h0 : ps ≠ [] := by
      intro e
      rw [body_lists_no (x := (⟨2, tx, ps, ⟨y, m, d, h, nn, s, zd, zn⟩, n⟩ : Vl)) (.inl rfl) (.inl e)] at hbody
      cases hbody
    refine ⟨h0, ?_⟩
    by_cases hb : ((2 : Int) = 2 ∧ ps.length ≠ 1)
    · rw [body_lists_no (x := (⟨2, tx, ps, ⟨y, m, d, h, nn, s, zd, zn⟩, n⟩ : Vl)) (.inl rfl) (.inr hb)] at hbody
      cases hbody
    · exact ((body_lists (x := (⟨2, tx, ps, ⟨y, m, d, h, nn, s, zd, zn⟩, n⟩ : Vl)) (.inl rfl) h0 hb).1 hbody).1
  have HNE := hid hne
  clear hbody hne
  go_wp2_with fail
  refine (joinParts_any (.slice a ps.length cap) ps _ (HL.out.grow G2.out) H2.out).use ?_
  intro v w3 hv g3
  obtain rfl := joinPR_ne hv HNE.out.1 HNE.out.2
  go_wp2_with fail
  go_ret2
  exact ⟨_, rfl, WriteP.yes HOK.out rfl, G2.out.trans g3⟩
set_option maxRecDepth 100000 in
set_option maxHeartbeats 4000000 in
theorem vwrite3 (tx : List UInt8) (a : Option Addr) (cap : Nat) (ps : List (List (List UInt8))) (y m d h nn s : Int) (zd : Bool) (zn n : Int) (w : World) (hL : IsLists w (.slice a ps.length cap) ps) (h1 : tx.length ≤ 100000) (h2 : sumP ps ≤ 100000) (hy : -9223372036854775808 ≤ y ∧ y ≤ 9223372036854775807) (hM : HasM w) (hE : LaidE w) (hok : (⟨3, tx, ps, ⟨y, m, d, h, nn, s, zd, zn⟩, n⟩ : Vl).ok = true) : Makes 94 #[(⟨3, tx, ps, ⟨y, m, d, h, nn, s, zd, zn⟩, n⟩ : Vl).v (.slice a ps.length cap)] w (fun r _ => WriteP (⟨3, tx, ps, ⟨y, m, d, h, nn, s, zd, zn⟩, n⟩ : Vl) r) := by
  have HOK := hid hok
  have HL := hid hL
  have HM := hid hM
  have HE := hid hE
  have HY := hid hy
  have H1 := hid h1
  have H2 := hid h2
  clear hok hL hM hE hy h1 h2
  have g0 : G w (w.alloc (.cells #[.int .i64 3, .string (S tx), .slice a ps.length cap, .int .i64 y, .int .i64 m, .int .i64 d, .int .i64 h, .int .i64 nn, .int .i64 s, .bool zd, .int .i64 zn, .int .i64 n] 28)) := (G.refl w).alloc _
  have G0 := hid g0
  clear g0
  have hr := vright_any (⟨3, tx, ps, ⟨y, m, d, h, nn, s, zd, zn⟩, n⟩ : Vl) (.slice a ps.length cap) (w.alloc (.cells #[.int .i64 3, .string (S tx), .slice a ps.length cap, .int .i64 y, .int .i64 m, .int .i64 d, .int .i64 h, .int .i64 nn, .int .i64 s, .bool zd, .int .i64 zn, .int .i64 n] 28)) (HL.out.grow G0.out) H1.out H2.out HY.out (HM.out.grow G0.out) (HE.out.grow G0.out)
  have HR := hid hr
  clear hr
  simp only [Vl.v] at HR ⊢
  go_enter Tryz.func94, Tryz.ntmps94
  go_wp2_with fail
  refine (HR.out).use ?_
  intro r w2 hr g2
  unfold ErrIf at hr
  rw [HOK.out] at hr
  have r2 : Hid (w2.heap[w.heap.size]? = some (.cells #[.int .i64 3, .string (S tx), .slice a ps.length cap, .int .i64 y, .int .i64 m, .int .i64 d, .int .i64 h, .int .i64 nn, .int .i64 s, .bool zd, .int .i64 zn, .int .i64 n] 28 (0, 0))) := hid (by rw [g2.below.block w.heap.size (by simp)]; exact heap_alloc_new w _)
  have G2 : Hid (G w w2) := hid (G0.out.trans g2)
  clear g2
  have e0 : w2.cell? ⟨w.heap.size, 0, none⟩ = some (.int .i64 3) := by rw [cell_of_row w2 w.heap.size 0 _ _ _ r2.out]; rfl
  have e1 : w2.cell? ⟨w.heap.size, 1, none⟩ = some (.string (S tx)) := by rw [cell_of_row w2 w.heap.size 1 _ _ _ r2.out]; rfl
  have e2 : w2.cell? ⟨w.heap.size, 2, none⟩ = some (.slice a ps.length cap) := by rw [cell_of_row w2 w.heap.size 2 _ _ _ r2.out]; rfl
  have e3 : w2.cell? ⟨w.heap.size, 3, none⟩ = some (.int .i64 y) := by rw [cell_of_row w2 w.heap.size 3 _ _ _ r2.out]; rfl
  have e4 : w2.cell? ⟨w.heap.size, 4, none⟩ = some (.int .i64 m) := by rw [cell_of_row w2 w.heap.size 4 _ _ _ r2.out]; rfl
  have e5 : w2.cell? ⟨w.heap.size, 5, none⟩ = some (.int .i64 d) := by rw [cell_of_row w2 w.heap.size 5 _ _ _ r2.out]; rfl
  have e6 : w2.cell? ⟨w.heap.size, 6, none⟩ = some (.int .i64 h) := by rw [cell_of_row w2 w.heap.size 6 _ _ _ r2.out]; rfl
  have e7 : w2.cell? ⟨w.heap.size, 7, none⟩ = some (.int .i64 nn) := by rw [cell_of_row w2 w.heap.size 7 _ _ _ r2.out]; rfl
  have e8 : w2.cell? ⟨w.heap.size, 8, none⟩ = some (.int .i64 s) := by rw [cell_of_row w2 w.heap.size 8 _ _ _ r2.out]; rfl
  have e9 : w2.cell? ⟨w.heap.size, 9, none⟩ = some (.bool zd) := by rw [cell_of_row w2 w.heap.size 9 _ _ _ r2.out]; rfl
  have e10 : w2.cell? ⟨w.heap.size, 10, none⟩ = some (.int .i64 zn) := by rw [cell_of_row w2 w.heap.size 10 _ _ _ r2.out]; rfl
  have e11 : w2.cell? ⟨w.heap.size, 11, none⟩ = some (.int .i64 n) := by rw [cell_of_row w2 w.heap.size 11 _ _ _ r2.out]; rfl
  rw [if_pos rfl] at hr
  subst hr
  have hbody := (ok_parts HOK.out).2.2
  have hne : ps ≠ [] ∧ ∀ l ∈ ps, l ≠ [] := by
    have h0 : ps ≠ [] := by
      intro e
      rw [body_lists_no (x := (⟨3, tx, ps, ⟨y, m, d, h, nn, s, zd, zn⟩, n⟩ : Vl)) (.inr rfl) (.inl e)] at hbody
      cases hbody
    refine ⟨h0, ?_⟩
    by_cases hb : ((3 : Int) = 2 ∧ ps.length ≠ 1)
    · rw [body_lists_no (x := (⟨3, tx, ps, ⟨y, m, d, h, nn, s, zd, zn⟩, n⟩ : Vl)) (.inr rfl) (.inr hb)] at hbody
      cases hbody
    · exact ((body_lists (x := (⟨3, tx, ps, ⟨y, m, d, h, nn, s, zd, zn⟩, n⟩ : Vl)) (.inr rfl) h0 hb).1 hbody).1
  have HNE := hid hne
  clear hbody hne
  go_wp2_with fail
  refine (joinParts_any (.slice a ps.length cap) ps _ (HL.out.grow G2.out) H2.out).use ?_
  intro v w3 hv g3
  obtain rfl := joinPR_ne hv HNE.out.1 HNE.out.2
  go_wp2_with fail
  go_ret2
  exact ⟨_, rfl, WriteP.yes HOK.out rfl, G2.out.trans g3⟩
set_option maxRecDepth 100000 in
set_option maxHeartbeats 4000000 in
theorem vwrite4 (tx : List UInt8) (a : Option Addr) (cap : Nat) (ps : List (List (List UInt8))) (y m d h nn s : Int) (zd : Bool) (zn n : Int) (w : World) (hL : IsLists w (.slice a ps.length cap) ps) (h1 : tx.length ≤ 100000) (h2 : sumP ps ≤ 100000) (hy : -9223372036854775808 ≤ y ∧ y ≤ 9223372036854775807) (hM : HasM w) (hE : LaidE w) (hok : (⟨4, tx, ps, ⟨y, m, d, h, nn, s, zd, zn⟩, n⟩ : Vl).ok = true) : Makes 94 #[(⟨4, tx, ps, ⟨y, m, d, h, nn, s, zd, zn⟩, n⟩ : Vl).v (.slice a ps.length cap)] w (fun r _ => WriteP (⟨4, tx, ps, ⟨y, m, d, h, nn, s, zd, zn⟩, n⟩ : Vl) r) := by
  have HOK := hid hok
  have HL := hid hL
  have HM := hid hM
  have HE := hid hE
  have HY := hid hy
  have H1 := hid h1
  have H2 := hid h2
  clear hok hL hM hE hy h1 h2
  have g0 : G w (w.alloc (.cells #[.int .i64 4, .string (S tx), .slice a ps.length cap, .int .i64 y, .int .i64 m, .int .i64 d, .int .i64 h, .int .i64 nn, .int .i64 s, .bool zd, .int .i64 zn, .int .i64 n] 28)) := (G.refl w).alloc _
  have G0 := hid g0
  clear g0
  have hr := vright_any (⟨4, tx, ps, ⟨y, m, d, h, nn, s, zd, zn⟩, n⟩ : Vl) (.slice a ps.length cap) (w.alloc (.cells #[.int .i64 4, .string (S tx), .slice a ps.length cap, .int .i64 y, .int .i64 m, .int .i64 d, .int .i64 h, .int .i64 nn, .int .i64 s, .bool zd, .int .i64 zn, .int .i64 n] 28)) (HL.out.grow G0.out) H1.out H2.out HY.out (HM.out.grow G0.out) (HE.out.grow G0.out)
  have HR := hid hr
  clear hr
  simp only [Vl.v] at HR ⊢
  go_enter Tryz.func94, Tryz.ntmps94
  go_wp2_with fail
  refine (HR.out).use ?_
  intro r w2 hr g2
  unfold ErrIf at hr
  rw [HOK.out] at hr
  have r2 : Hid (w2.heap[w.heap.size]? = some (.cells #[.int .i64 4, .string (S tx), .slice a ps.length cap, .int .i64 y, .int .i64 m, .int .i64 d, .int .i64 h, .int .i64 nn, .int .i64 s, .bool zd, .int .i64 zn, .int .i64 n] 28 (0, 0))) := hid (by rw [g2.below.block w.heap.size (by simp)]; exact heap_alloc_new w _)
  have G2 : Hid (G w w2) := hid (G0.out.trans g2)
  clear g2
  have e0 : w2.cell? ⟨w.heap.size, 0, none⟩ = some (.int .i64 4) := by rw [cell_of_row w2 w.heap.size 0 _ _ _ r2.out]; rfl
  have e1 : w2.cell? ⟨w.heap.size, 1, none⟩ = some (.string (S tx)) := by rw [cell_of_row w2 w.heap.size 1 _ _ _ r2.out]; rfl
  have e2 : w2.cell? ⟨w.heap.size, 2, none⟩ = some (.slice a ps.length cap) := by rw [cell_of_row w2 w.heap.size 2 _ _ _ r2.out]; rfl
  have e3 : w2.cell? ⟨w.heap.size, 3, none⟩ = some (.int .i64 y) := by rw [cell_of_row w2 w.heap.size 3 _ _ _ r2.out]; rfl
  have e4 : w2.cell? ⟨w.heap.size, 4, none⟩ = some (.int .i64 m) := by rw [cell_of_row w2 w.heap.size 4 _ _ _ r2.out]; rfl
  have e5 : w2.cell? ⟨w.heap.size, 5, none⟩ = some (.int .i64 d) := by rw [cell_of_row w2 w.heap.size 5 _ _ _ r2.out]; rfl
  have e6 : w2.cell? ⟨w.heap.size, 6, none⟩ = some (.int .i64 h) := by rw [cell_of_row w2 w.heap.size 6 _ _ _ r2.out]; rfl
  have e7 : w2.cell? ⟨w.heap.size, 7, none⟩ = some (.int .i64 nn) := by rw [cell_of_row w2 w.heap.size 7 _ _ _ r2.out]; rfl
  have e8 : w2.cell? ⟨w.heap.size, 8, none⟩ = some (.int .i64 s) := by rw [cell_of_row w2 w.heap.size 8 _ _ _ r2.out]; rfl
  have e9 : w2.cell? ⟨w.heap.size, 9, none⟩ = some (.bool zd) := by rw [cell_of_row w2 w.heap.size 9 _ _ _ r2.out]; rfl
  have e10 : w2.cell? ⟨w.heap.size, 10, none⟩ = some (.int .i64 zn) := by rw [cell_of_row w2 w.heap.size 10 _ _ _ r2.out]; rfl
  have e11 : w2.cell? ⟨w.heap.size, 11, none⟩ = some (.int .i64 n) := by rw [cell_of_row w2 w.heap.size 11 _ _ _ r2.out]; rfl
  rw [if_pos rfl] at hr
  subst hr
  go_wp2_with fail
  go_ret2
  exact ⟨_, rfl, WriteP.yes HOK.out rfl, G2.out⟩
set_option maxRecDepth 100000 in
set_option maxHeartbeats 4000000 in
theorem vwrite5 (tx : List UInt8) (a : Option Addr) (cap : Nat) (ps : List (List (List UInt8))) (y m d h nn s : Int) (zd : Bool) (zn n : Int) (w : World) (hL : IsLists w (.slice a ps.length cap) ps) (h1 : tx.length ≤ 100000) (h2 : sumP ps ≤ 100000) (hy : -9223372036854775808 ≤ y ∧ y ≤ 9223372036854775807) (hM : HasM w) (hE : LaidE w) (hok : (⟨5, tx, ps, ⟨y, m, d, h, nn, s, zd, zn⟩, n⟩ : Vl).ok = true) : Makes 94 #[(⟨5, tx, ps, ⟨y, m, d, h, nn, s, zd, zn⟩, n⟩ : Vl).v (.slice a ps.length cap)] w (fun r _ => WriteP (⟨5, tx, ps, ⟨y, m, d, h, nn, s, zd, zn⟩, n⟩ : Vl) r) := by
  have HOK := hid hok
  have HL := hid hL
  have HM := hid hM
  have HE := hid hE
  have HY := hid hy
  have H1 := hid h1
  have H2 := hid h2
  clear hok hL hM hE hy h1 h2
  have g0 : G w (w.alloc (.cells #[.int .i64 5, .string (S tx), .slice a ps.length cap, .int .i64 y, .int .i64 m, .int .i64 d, .int .i64 h, .int .i64 nn, .int .i64 s, .bool zd, .int .i64 zn, .int .i64 n] 28)) := (G.refl w).alloc _
  have G0 := hid g0
  clear g0
  have hr := vright_any (⟨5, tx, ps, ⟨y, m, d, h, nn, s, zd, zn⟩, n⟩ : Vl) (.slice a ps.length cap) (w.alloc (.cells #[.int .i64 5, .string (S tx), .slice a ps.length cap, .int .i64 y, .int .i64 m, .int .i64 d, .int .i64 h, .int .i64 nn, .int .i64 s, .bool zd, .int .i64 zn, .int .i64 n] 28)) (HL.out.grow G0.out) H1.out H2.out HY.out (HM.out.grow G0.out) (HE.out.grow G0.out)
  have HR := hid hr
  clear hr
  simp only [Vl.v] at HR ⊢
  go_enter Tryz.func94, Tryz.ntmps94
  go_wp2_with fail
  refine (HR.out).use ?_
  intro r w2 hr g2
  unfold ErrIf at hr
  rw [HOK.out] at hr
  have r2 : Hid (w2.heap[w.heap.size]? = some (.cells #[.int .i64 5, .string (S tx), .slice a ps.length cap, .int .i64 y, .int .i64 m, .int .i64 d, .int .i64 h, .int .i64 nn, .int .i64 s, .bool zd, .int .i64 zn, .int .i64 n] 28 (0, 0))) := hid (by rw [g2.below.block w.heap.size (by simp)]; exact heap_alloc_new w _)
  have G2 : Hid (G w w2) := hid (G0.out.trans g2)
  clear g2
  have e0 : w2.cell? ⟨w.heap.size, 0, none⟩ = some (.int .i64 5) := by rw [cell_of_row w2 w.heap.size 0 _ _ _ r2.out]; rfl
  have e1 : w2.cell? ⟨w.heap.size, 1, none⟩ = some (.string (S tx)) := by rw [cell_of_row w2 w.heap.size 1 _ _ _ r2.out]; rfl
  have e2 : w2.cell? ⟨w.heap.size, 2, none⟩ = some (.slice a ps.length cap) := by rw [cell_of_row w2 w.heap.size 2 _ _ _ r2.out]; rfl
  have e3 : w2.cell? ⟨w.heap.size, 3, none⟩ = some (.int .i64 y) := by rw [cell_of_row w2 w.heap.size 3 _ _ _ r2.out]; rfl
  have e4 : w2.cell? ⟨w.heap.size, 4, none⟩ = some (.int .i64 m) := by rw [cell_of_row w2 w.heap.size 4 _ _ _ r2.out]; rfl
  have e5 : w2.cell? ⟨w.heap.size, 5, none⟩ = some (.int .i64 d) := by rw [cell_of_row w2 w.heap.size 5 _ _ _ r2.out]; rfl
  have e6 : w2.cell? ⟨w.heap.size, 6, none⟩ = some (.int .i64 h) := by rw [cell_of_row w2 w.heap.size 6 _ _ _ r2.out]; rfl
  have e7 : w2.cell? ⟨w.heap.size, 7, none⟩ = some (.int .i64 nn) := by rw [cell_of_row w2 w.heap.size 7 _ _ _ r2.out]; rfl
  have e8 : w2.cell? ⟨w.heap.size, 8, none⟩ = some (.int .i64 s) := by rw [cell_of_row w2 w.heap.size 8 _ _ _ r2.out]; rfl
  have e9 : w2.cell? ⟨w.heap.size, 9, none⟩ = some (.bool zd) := by rw [cell_of_row w2 w.heap.size 9 _ _ _ r2.out]; rfl
  have e10 : w2.cell? ⟨w.heap.size, 10, none⟩ = some (.int .i64 zn) := by rw [cell_of_row w2 w.heap.size 10 _ _ _ r2.out]; rfl
  have e11 : w2.cell? ⟨w.heap.size, 11, none⟩ = some (.int .i64 n) := by rw [cell_of_row w2 w.heap.size 11 _ _ _ r2.out]; rfl
  rw [if_pos rfl] at hr
  subst hr
  have hb : (⟨y, m, d, h, nn, s, zd, zn⟩ : St).right = 0 := by
    have : decide ((⟨y, m, d, h, nn, s, zd, zn⟩ : St).right = 0) = true := (ok_parts HOK.out).2.2
    simpa using this
  have hp := print_any ⟨y, m, d, h, nn, s, zd, zn⟩ w2 (HM.out.grow G2.out) hb
  obtain ⟨t, ht⟩ : ∃ t, (⟨y, m, d, h, nn, s, zd, zn⟩ : St).text = t := ⟨_, rfl⟩
  rw [ht] at hp
  have HP := hid hp
  have HT : Hid ((⟨5, tx, ps, ⟨y, m, d, h, nn, s, zd, zn⟩, n⟩ : Vl).text = t) := hid ht
  simp only [St.v] at HP
  clear hb hp ht
  go_wp2_with fail
  refine (HP.out).use ?_
  intro w3 g3
  go_wp2_with fail
  go_ret2
  exact ⟨_, rfl, WriteP.yes HOK.out HT.out, G2.out.trans g3⟩
set_option maxRecDepth 100000 in
set_option maxHeartbeats 4000000 in
theorem vwrite6 (tx : List UInt8) (a : Option Addr) (cap : Nat) (ps : List (List (List UInt8))) (y m d h nn s : Int) (zd : Bool) (zn n : Int) (w : World) (hL : IsLists w (.slice a ps.length cap) ps) (h1 : tx.length ≤ 100000) (h2 : sumP ps ≤ 100000) (hy : -9223372036854775808 ≤ y ∧ y ≤ 9223372036854775807) (hM : HasM w) (hE : LaidE w) (hok : (⟨6, tx, ps, ⟨y, m, d, h, nn, s, zd, zn⟩, n⟩ : Vl).ok = true) : Makes 94 #[(⟨6, tx, ps, ⟨y, m, d, h, nn, s, zd, zn⟩, n⟩ : Vl).v (.slice a ps.length cap)] w (fun r _ => WriteP (⟨6, tx, ps, ⟨y, m, d, h, nn, s, zd, zn⟩, n⟩ : Vl) r) := by
  have HOK := hid hok
  have HL := hid hL
  have HM := hid hM
  have HE := hid hE
  have HY := hid hy
  have H1 := hid h1
  have H2 := hid h2
  clear hok hL hM hE hy h1 h2
  have g0 : G w (w.alloc (.cells #[.int .i64 6, .string (S tx), .slice a ps.length cap, .int .i64 y, .int .i64 m, .int .i64 d, .int .i64 h, .int .i64 nn, .int .i64 s, .bool zd, .int .i64 zn, .int .i64 n] 28)) := (G.refl w).alloc _
  have G0 := hid g0
  clear g0
  have hr := vright_any (⟨6, tx, ps, ⟨y, m, d, h, nn, s, zd, zn⟩, n⟩ : Vl) (.slice a ps.length cap) (w.alloc (.cells #[.int .i64 6, .string (S tx), .slice a ps.length cap, .int .i64 y, .int .i64 m, .int .i64 d, .int .i64 h, .int .i64 nn, .int .i64 s, .bool zd, .int .i64 zn, .int .i64 n] 28)) (HL.out.grow G0.out) H1.out H2.out HY.out (HM.out.grow G0.out) (HE.out.grow G0.out)
  have HR := hid hr
  clear hr
  simp only [Vl.v] at HR ⊢
  go_enter Tryz.func94, Tryz.ntmps94
  go_wp2_with fail
  refine (HR.out).use ?_
  intro r w2 hr g2
  unfold ErrIf at hr
  rw [HOK.out] at hr
  have r2 : Hid (w2.heap[w.heap.size]? = some (.cells #[.int .i64 6, .string (S tx), .slice a ps.length cap, .int .i64 y, .int .i64 m, .int .i64 d, .int .i64 h, .int .i64 nn, .int .i64 s, .bool zd, .int .i64 zn, .int .i64 n] 28 (0, 0))) := hid (by rw [g2.below.block w.heap.size (by simp)]; exact heap_alloc_new w _)
  have G2 : Hid (G w w2) := hid (G0.out.trans g2)
  clear g2
  have e0 : w2.cell? ⟨w.heap.size, 0, none⟩ = some (.int .i64 6) := by rw [cell_of_row w2 w.heap.size 0 _ _ _ r2.out]; rfl
  have e1 : w2.cell? ⟨w.heap.size, 1, none⟩ = some (.string (S tx)) := by rw [cell_of_row w2 w.heap.size 1 _ _ _ r2.out]; rfl
  have e2 : w2.cell? ⟨w.heap.size, 2, none⟩ = some (.slice a ps.length cap) := by rw [cell_of_row w2 w.heap.size 2 _ _ _ r2.out]; rfl
  have e3 : w2.cell? ⟨w.heap.size, 3, none⟩ = some (.int .i64 y) := by rw [cell_of_row w2 w.heap.size 3 _ _ _ r2.out]; rfl
  have e4 : w2.cell? ⟨w.heap.size, 4, none⟩ = some (.int .i64 m) := by rw [cell_of_row w2 w.heap.size 4 _ _ _ r2.out]; rfl
  have e5 : w2.cell? ⟨w.heap.size, 5, none⟩ = some (.int .i64 d) := by rw [cell_of_row w2 w.heap.size 5 _ _ _ r2.out]; rfl
  have e6 : w2.cell? ⟨w.heap.size, 6, none⟩ = some (.int .i64 h) := by rw [cell_of_row w2 w.heap.size 6 _ _ _ r2.out]; rfl
  have e7 : w2.cell? ⟨w.heap.size, 7, none⟩ = some (.int .i64 nn) := by rw [cell_of_row w2 w.heap.size 7 _ _ _ r2.out]; rfl
  have e8 : w2.cell? ⟨w.heap.size, 8, none⟩ = some (.int .i64 s) := by rw [cell_of_row w2 w.heap.size 8 _ _ _ r2.out]; rfl
  have e9 : w2.cell? ⟨w.heap.size, 9, none⟩ = some (.bool zd) := by rw [cell_of_row w2 w.heap.size 9 _ _ _ r2.out]; rfl
  have e10 : w2.cell? ⟨w.heap.size, 10, none⟩ = some (.int .i64 zn) := by rw [cell_of_row w2 w.heap.size 10 _ _ _ r2.out]; rfl
  have e11 : w2.cell? ⟨w.heap.size, 11, none⟩ = some (.int .i64 n) := by rw [cell_of_row w2 w.heap.size 11 _ _ _ r2.out]; rfl
  rw [if_pos rfl] at hr
  subst hr
  have hb : rightZ n = true := (ok_parts HOK.out).2.2
  have HB := hid hb
  clear hb
  go_wp2_with fail
  refine (zonePrint_any n _ HB.out).use ?_
  intro w3 g3
  go_wp2_with fail
  go_ret2
  exact ⟨_, rfl, WriteP.yes HOK.out rfl, G2.out.trans g3⟩
set_option maxRecDepth 100000 in
set_option maxHeartbeats 4000000 in
theorem vwrite7 (tx : List UInt8) (a : Option Addr) (cap : Nat) (ps : List (List (List UInt8))) (y m d h nn s : Int) (zd : Bool) (zn n : Int) (w : World) (hL : IsLists w (.slice a ps.length cap) ps) (h1 : tx.length ≤ 100000) (h2 : sumP ps ≤ 100000) (hy : -9223372036854775808 ≤ y ∧ y ≤ 9223372036854775807) (hM : HasM w) (hE : LaidE w) (hok : (⟨7, tx, ps, ⟨y, m, d, h, nn, s, zd, zn⟩, n⟩ : Vl).ok = true) : Makes 94 #[(⟨7, tx, ps, ⟨y, m, d, h, nn, s, zd, zn⟩, n⟩ : Vl).v (.slice a ps.length cap)] w (fun r _ => WriteP (⟨7, tx, ps, ⟨y, m, d, h, nn, s, zd, zn⟩, n⟩ : Vl) r) := by
  have HOK := hid hok
  have HL := hid hL
  have HM := hid hM
  have HE := hid hE
  have HY := hid hy
  have H1 := hid h1
  have H2 := hid h2
  clear hok hL hM hE hy h1 h2
  have g0 : G w (w.alloc (.cells #[.int .i64 7, .string (S tx), .slice a ps.length cap, .int .i64 y, .int .i64 m, .int .i64 d, .int .i64 h, .int .i64 nn, .int .i64 s, .bool zd, .int .i64 zn, .int .i64 n] 28)) := (G.refl w).alloc _
  have G0 := hid g0
  clear g0
  have hr := vright_any (⟨7, tx, ps, ⟨y, m, d, h, nn, s, zd, zn⟩, n⟩ : Vl) (.slice a ps.length cap) (w.alloc (.cells #[.int .i64 7, .string (S tx), .slice a ps.length cap, .int .i64 y, .int .i64 m, .int .i64 d, .int .i64 h, .int .i64 nn, .int .i64 s, .bool zd, .int .i64 zn, .int .i64 n] 28)) (HL.out.grow G0.out) H1.out H2.out HY.out (HM.out.grow G0.out) (HE.out.grow G0.out)
  have HR := hid hr
  clear hr
  simp only [Vl.v] at HR ⊢
  go_enter Tryz.func94, Tryz.ntmps94
  go_wp2_with fail
  refine (HR.out).use ?_
  intro r w2 hr g2
  unfold ErrIf at hr
  rw [HOK.out] at hr
  have r2 : Hid (w2.heap[w.heap.size]? = some (.cells #[.int .i64 7, .string (S tx), .slice a ps.length cap, .int .i64 y, .int .i64 m, .int .i64 d, .int .i64 h, .int .i64 nn, .int .i64 s, .bool zd, .int .i64 zn, .int .i64 n] 28 (0, 0))) := hid (by rw [g2.below.block w.heap.size (by simp)]; exact heap_alloc_new w _)
  have G2 : Hid (G w w2) := hid (G0.out.trans g2)
  clear g2
  have e0 : w2.cell? ⟨w.heap.size, 0, none⟩ = some (.int .i64 7) := by rw [cell_of_row w2 w.heap.size 0 _ _ _ r2.out]; rfl
  have e1 : w2.cell? ⟨w.heap.size, 1, none⟩ = some (.string (S tx)) := by rw [cell_of_row w2 w.heap.size 1 _ _ _ r2.out]; rfl
  have e2 : w2.cell? ⟨w.heap.size, 2, none⟩ = some (.slice a ps.length cap) := by rw [cell_of_row w2 w.heap.size 2 _ _ _ r2.out]; rfl
  have e3 : w2.cell? ⟨w.heap.size, 3, none⟩ = some (.int .i64 y) := by rw [cell_of_row w2 w.heap.size 3 _ _ _ r2.out]; rfl
  have e4 : w2.cell? ⟨w.heap.size, 4, none⟩ = some (.int .i64 m) := by rw [cell_of_row w2 w.heap.size 4 _ _ _ r2.out]; rfl
  have e5 : w2.cell? ⟨w.heap.size, 5, none⟩ = some (.int .i64 d) := by rw [cell_of_row w2 w.heap.size 5 _ _ _ r2.out]; rfl
  have e6 : w2.cell? ⟨w.heap.size, 6, none⟩ = some (.int .i64 h) := by rw [cell_of_row w2 w.heap.size 6 _ _ _ r2.out]; rfl
  have e7 : w2.cell? ⟨w.heap.size, 7, none⟩ = some (.int .i64 nn) := by rw [cell_of_row w2 w.heap.size 7 _ _ _ r2.out]; rfl
  have e8 : w2.cell? ⟨w.heap.size, 8, none⟩ = some (.int .i64 s) := by rw [cell_of_row w2 w.heap.size 8 _ _ _ r2.out]; rfl
  have e9 : w2.cell? ⟨w.heap.size, 9, none⟩ = some (.bool zd) := by rw [cell_of_row w2 w.heap.size 9 _ _ _ r2.out]; rfl
  have e10 : w2.cell? ⟨w.heap.size, 10, none⟩ = some (.int .i64 zn) := by rw [cell_of_row w2 w.heap.size 10 _ _ _ r2.out]; rfl
  have e11 : w2.cell? ⟨w.heap.size, 11, none⟩ = some (.int .i64 n) := by rw [cell_of_row w2 w.heap.size 11 _ _ _ r2.out]; rfl
  rw [if_pos rfl] at hr
  subst hr
  go_wp2_with fail
  go_ret2
  exact ⟨_, rfl, WriteP.yes HOK.out rfl, G2.out⟩
set_option maxRecDepth 100000 in
set_option maxHeartbeats 4000000 in
theorem vwrite8 (tx : List UInt8) (a : Option Addr) (cap : Nat) (ps : List (List (List UInt8))) (y m d h nn s : Int) (zd : Bool) (zn n : Int) (w : World) (hL : IsLists w (.slice a ps.length cap) ps) (h1 : tx.length ≤ 100000) (h2 : sumP ps ≤ 100000) (hy : -9223372036854775808 ≤ y ∧ y ≤ 9223372036854775807) (hM : HasM w) (hE : LaidE w) (hok : (⟨8, tx, ps, ⟨y, m, d, h, nn, s, zd, zn⟩, n⟩ : Vl).ok = true) : Makes 94 #[(⟨8, tx, ps, ⟨y, m, d, h, nn, s, zd, zn⟩, n⟩ : Vl).v (.slice a ps.length cap)] w (fun r _ => WriteP (⟨8, tx, ps, ⟨y, m, d, h, nn, s, zd, zn⟩, n⟩ : Vl) r) := by
  have HOK := hid hok
  have HL := hid hL
  have HM := hid hM
  have HE := hid hE
  have HY := hid hy
  have H1 := hid h1
  have H2 := hid h2
  clear hok hL hM hE hy h1 h2
  have g0 : G w (w.alloc (.cells #[.int .i64 8, .string (S tx), .slice a ps.length cap, .int .i64 y, .int .i64 m, .int .i64 d, .int .i64 h, .int .i64 nn, .int .i64 s, .bool zd, .int .i64 zn, .int .i64 n] 28)) := (G.refl w).alloc _
  have G0 := hid g0
  clear g0
  have hr := vright_any (⟨8, tx, ps, ⟨y, m, d, h, nn, s, zd, zn⟩, n⟩ : Vl) (.slice a ps.length cap) (w.alloc (.cells #[.int .i64 8, .string (S tx), .slice a ps.length cap, .int .i64 y, .int .i64 m, .int .i64 d, .int .i64 h, .int .i64 nn, .int .i64 s, .bool zd, .int .i64 zn, .int .i64 n] 28)) (HL.out.grow G0.out) H1.out H2.out HY.out (HM.out.grow G0.out) (HE.out.grow G0.out)
  have HR := hid hr
  clear hr
  simp only [Vl.v] at HR ⊢
  go_enter Tryz.func94, Tryz.ntmps94
  go_wp2_with fail
  refine (HR.out).use ?_
  intro r w2 hr g2
  unfold ErrIf at hr
  rw [HOK.out] at hr
  have r2 : Hid (w2.heap[w.heap.size]? = some (.cells #[.int .i64 8, .string (S tx), .slice a ps.length cap, .int .i64 y, .int .i64 m, .int .i64 d, .int .i64 h, .int .i64 nn, .int .i64 s, .bool zd, .int .i64 zn, .int .i64 n] 28 (0, 0))) := hid (by rw [g2.below.block w.heap.size (by simp)]; exact heap_alloc_new w _)
  have G2 : Hid (G w w2) := hid (G0.out.trans g2)
  clear g2
  have e0 : w2.cell? ⟨w.heap.size, 0, none⟩ = some (.int .i64 8) := by rw [cell_of_row w2 w.heap.size 0 _ _ _ r2.out]; rfl
  have e1 : w2.cell? ⟨w.heap.size, 1, none⟩ = some (.string (S tx)) := by rw [cell_of_row w2 w.heap.size 1 _ _ _ r2.out]; rfl
  have e2 : w2.cell? ⟨w.heap.size, 2, none⟩ = some (.slice a ps.length cap) := by rw [cell_of_row w2 w.heap.size 2 _ _ _ r2.out]; rfl
  have e3 : w2.cell? ⟨w.heap.size, 3, none⟩ = some (.int .i64 y) := by rw [cell_of_row w2 w.heap.size 3 _ _ _ r2.out]; rfl
  have e4 : w2.cell? ⟨w.heap.size, 4, none⟩ = some (.int .i64 m) := by rw [cell_of_row w2 w.heap.size 4 _ _ _ r2.out]; rfl
  have e5 : w2.cell? ⟨w.heap.size, 5, none⟩ = some (.int .i64 d) := by rw [cell_of_row w2 w.heap.size 5 _ _ _ r2.out]; rfl
  have e6 : w2.cell? ⟨w.heap.size, 6, none⟩ = some (.int .i64 h) := by rw [cell_of_row w2 w.heap.size 6 _ _ _ r2.out]; rfl
  have e7 : w2.cell? ⟨w.heap.size, 7, none⟩ = some (.int .i64 nn) := by rw [cell_of_row w2 w.heap.size 7 _ _ _ r2.out]; rfl
  have e8 : w2.cell? ⟨w.heap.size, 8, none⟩ = some (.int .i64 s) := by rw [cell_of_row w2 w.heap.size 8 _ _ _ r2.out]; rfl
  have e9 : w2.cell? ⟨w.heap.size, 9, none⟩ = some (.bool zd) := by rw [cell_of_row w2 w.heap.size 9 _ _ _ r2.out]; rfl
  have e10 : w2.cell? ⟨w.heap.size, 10, none⟩ = some (.int .i64 zn) := by rw [cell_of_row w2 w.heap.size 10 _ _ _ r2.out]; rfl
  have e11 : w2.cell? ⟨w.heap.size, 11, none⟩ = some (.int .i64 n) := by rw [cell_of_row w2 w.heap.size 11 _ _ _ r2.out]; rfl
  rw [if_pos rfl] at hr
  subst hr
  go_wp2_with fail
  go_ret2
  exact ⟨_, rfl, WriteP.yes HOK.out rfl, G2.out⟩
theorem vwrite_any (x : Vl) (pv : Value) (w : World) (hL : IsLists w pv x.ps) (h1 : x.tx.length ≤ 100000) (h2 : sumP x.ps ≤ 100000) (hy : -9223372036854775808 ≤ x.st.y ∧ x.st.y ≤ 9223372036854775807) (hM : HasM w) (hE : LaidE w) : Makes 94 #[x.v pv] w (fun r _ => WriteP x r) := by
  obtain ⟨a, cap, rfl, _⟩ := hL.len
  obtain ⟨ty, tx, ps, ⟨y, m, d, h, nn, s, zd, zn⟩, n⟩ := x
  simp only at hL h1 h2 hy
  cases ho : (⟨ty, tx, ps, ⟨y, m, d, h, nn, s, zd, zn⟩, n⟩ : Vl).ok with
  | false => exact vwrite_no ty tx a cap ps y m d h nn s zd zn n w hL h1 h2 hy hM hE ho
  | true =>
    have hk := (ok_parts ho).1
    simp only at hk
    have hty : ty = 1 ∨ ty = 2 ∨ ty = 3 ∨ ty = 4 ∨ ty = 5 ∨ ty = 6 ∨ ty = 7 ∨ ty = 8 := by omega
    rcases hty with rfl | rfl | rfl | rfl | rfl | rfl | rfl | rfl
    · exact vwrite1 tx a cap ps y m d h nn s zd zn n w hL h1 h2 hy hM hE ho
    · exact vwrite2 tx a cap ps y m d h nn s zd zn n w hL h1 h2 hy hM hE ho
    · exact vwrite3 tx a cap ps y m d h nn s zd zn n w hL h1 h2 hy hM hE ho
    · exact vwrite4 tx a cap ps y m d h nn s zd zn n w hL h1 h2 hy hM hE ho
    · exact vwrite5 tx a cap ps y m d h nn s zd zn n w hL h1 h2 hy hM hE ho
    · exact vwrite6 tx a cap ps y m d h nn s zd zn n w hL h1 h2 hy hM hE ho
    · exact vwrite7 tx a cap ps y m d h nn s zd zn n w hL h1 h2 hy hM hE ho
    · exact vwrite8 tx a cap ps y m d h nn s zd zn n w hL h1 h2 hy hM hE ho
end Go.Proofs.YtdmbhoagjjkogaaGreatDoor
