/-
  Texts merged into one: PiecesSum, ValBound, Valued.
-/
import Derived.Test.YtedlgpccmlcijaaGreatDoorMText
import Derived.Test.YtedlgpccmlcijaaGreatDoorValRead3
namespace Go.Proofs.YtedlgpccmlcijaaGreatDoor
open Go.RowKit
set_option linter.unusedVariables false
set_option linter.unusedSimpArgs false

theorem pieces_sumV (a : List UInt8) : ∀ (n : Nat) (s : List UInt8), s.length ≤ n → ∀ (k : Nat) (cur : List UInt8) (ts : List (List UInt8)) (cs : List UInt8) (T : List (List UInt8)) (C : List UInt8), piecesGo a s k cur ts cs = .good T C → sumL T ≤ sumL ts + cur.length + 1 + s.length := by
  intro n
  induction n with
  | zero =>
    intro s hs k cur ts cs T C h
    have : s = [] := List.eq_nil_of_length_eq_zero (by omega)
    subst this
    rw [pieces_nil] at h
    injection h with h1 h2
    subst h1
    rw [sumL_append]; simp [sumL]; omega
  | succ n ih =>
    intro s hs k cur ts cs T C h
    match s, hs, h with
    | [], _, h =>
      rw [pieces_nil] at h
      injection h with h1 h2
      subst h1
      rw [sumL_append]; simp [sumL]; omega
    | c :: t, hs, h =>
      by_cases h92 : c = 92
      · subst h92
        match t, hs, h with
        | [], _, h => rw [pieces_end] at h; cases h
        | d :: t, hs, h =>
          cases hu : unescB d with
          | none => rw [pieces_none hu] at h; cases h
          | some x =>
            rw [pieces_esc hu] at h
            have := ih t (by simp at hs; omega) _ _ _ _ _ _ h
            simp at this ⊢; omega
      · cases hc : a.contains c with
        | true =>
          rw [pieces_cut h92 hc] at h
          have := ih t (by simp at hs; omega) _ _ _ _ _ _ h
          rw [sumL_append] at this
          simp [sumL] at this ⊢; omega
        | false =>
          rw [pieces_one h92 hc] at h
          have := ih t (by simp at hs; omega) _ _ _ _ _ _ h
          simp at this ⊢; omega
theorem parts_sumV : ∀ (cs : List UInt8) (ts : List (List UInt8)) (cur : List (List UInt8)), sumP (partsOf cur cs ts) ≤ sumL cur + 1 + 2 * sumL ts := by
  intro cs
  induction cs with
  | nil => intro ts cur; simp [partsOf, sumP]
  | cons c cs ih =>
    intro ts cur
    cases ts with
    | nil => simp [partsOf, sumP]; try omega
    | cons t ts =>
      rw [partsOf_cons]
      have hc := sumL_cons t ts
      split
      · rw [sumP_cons]
        have := ih ts [t]
        have h1 : sumL [t] = t.length + 1 := by simp [sumL]
        omega
      · have := ih ts (cur ++ [t])
        rw [sumL_append] at this
        have h1 : sumL [t] = t.length + 1 := by simp [sumL]
        omega
theorem parts_goodV {s : List UInt8} {T : List (List UInt8)} {C : List UInt8} (h : piecesGo [44, 59] s 0 [] [] [] = .good T C) : sumP (partsOf [T.headD []] C T.tail) ≤ 2 * s.length + 5 := by
  have h1 := pieces_sumV [44, 59] s.length s (Nat.le_refl _) _ _ _ _ _ _ h
  have h2 := pieces_ne h
  have h3 := parts_sumV C T.tail [T.headD []]
  cases T with
  | nil => simp at h2
  | cons t T =>
    rw [sumL_cons] at h1
    simp only [List.headD_cons, List.tail_cons] at h3 ⊢
    have h4 : sumL [t] = t.length + 1 := by simp [sumL]
    simp [sumL] at h1 h3 h4 ⊢
    omega

end Go.Proofs.YtedlgpccmlcijaaGreatDoor

namespace Go.Proofs.YtedlgpccmlcijaaGreatDoor
open Go.RowKit
set_option linter.unusedVariables false
set_option linter.unusedSimpArgs false

theorem pieces_len {a s : List UInt8} {T : List (List UInt8)} {C : List UInt8} (h : piecesGo a s 0 [] [] [] = .good T C) : sumL T ≤ s.length + 1 := by
  have := pieces_sumV a s.length s (Nat.le_refl _) _ _ _ _ _ _ h
  simp [sumL] at this ⊢; omega
/-- the bounds of what is read -/
structure Vl.Small (x : Vl) (n : Nat) : Prop where
  tx : x.tx.length ≤ n + 1
  ps : sumP x.ps ≤ 2 * n + 5
  y : -9223372036854775808 ≤ x.st.y ∧ x.st.y ≤ 9223372036854775807
theorem read_small {s : List UInt8} {k : Int} {v : Vl} (h : readV s k = some v) : v.Small s.length := by
  have y0 : -9223372036854775808 ≤ St0.y ∧ St0.y ≤ 9223372036854775807 := by decide
  have p0 : sumP [] ≤ 2 * s.length + 5 := by simp [sumP]
  unfold readV at h
  split at h
  · cases h
  split at h
  · cases h
  split at h
  · split at h
    · rename_i t q _ hp
      cases h
      have h1 := pieces_len hp
      have h2 := sumL_mem (ls := t :: q) (l := t) List.mem_cons_self
      exact ⟨by show t.length ≤ _; omega, p0, y0⟩
    · cases h
  split at h
  · split at h
    · rename_i T _ hp
      cases h
      have h1 := pieces_len hp
      exact ⟨by simp, by show sumP [T] ≤ _; simp [sumP]; omega, y0⟩
    · cases h
  split at h
  · split at h
    · rename_i t ts cs hp
      cases h
      have h1 := parts_goodV hp
      exact ⟨by simp, h1, y0⟩
    · cases h
  split at h
  · split at h
    · cases h; exact ⟨by show s.length ≤ _; omega, p0, y0⟩
    · cases h
  split at h
  · split at h
    · rename_i hz
      cases h
      refine ⟨by simp, p0, ?_⟩
      have hr : (parseW s).1.right = 0 := by
        rcases parseW_cases s with ⟨_, h⟩ | ⟨h, _⟩
        · exact h
        · exact absurd hz h
      have := (St.good hr).y
      show -9223372036854775808 ≤ (parseW s).1.y ∧ (parseW s).1.y ≤ 9223372036854775807
      omega
    · cases h
  split at h
  · split at h
    · cases h; exact ⟨by simp, p0, y0⟩
    · cases h
  split at h
  · split at h
    · cases h; exact ⟨by show s.length ≤ _; omega, p0, y0⟩
    · cases h
  · cases h; exact ⟨by show s.length ≤ _; omega, p0, y0⟩
theorem text_small {x : Vl} {n : Nat} (h : x.Small n) (ho : x.ok = true) (hn : n ≤ 10000) : x.text.length ≤ 100000 ∧ (x.ty = 5 → x.text.length ≤ 1000) := by
  have h1 := h.tx
  have h2 := h.ps
  have hl : (joinP x.ps).length ≤ 100000 := by have := joinP_le x.ps; omega
  have he : (escL x.tx).length ≤ 100000 := by have := escL_le x.tx; omega
  refine ⟨?_, ?_⟩
  · unfold Vl.text
    split
    · exact he
    split
    · exact hl
    split
    · rename_i h5
      have hb := (ok_parts ho).2.2
      unfold Vl.body at hb
      rw [if_neg (by omega), if_neg (by omega), if_pos h5] at hb
      have := text_len x.st (by simpa using hb)
      omega
    split
    · have := printZ_le x.n; omega
    · omega
  · intro h5
    have hb := (ok_parts ho).2.2
    unfold Vl.body at hb
    rw [if_neg (by omega), if_neg (by omega), if_pos h5] at hb
    have := text_len x.st (by simpa using hb)
    unfold Vl.text
    rw [if_neg (by omega), if_neg (by omega), if_pos h5]
    omega

set_option maxRecDepth 100000 in
set_option maxHeartbeats 4000000 in
theorem sameValue_any (x : Vl) (a b : Option Addr) (ca cb : Nat) (w : World) (ha : IsLists w (.slice a x.ps.length ca) x.ps) (hb : IsLists w (.slice b x.ps.length cb) x.ps) (hs : sumP x.ps ≤ 1000000) : Gives 13 #[x.v (.slice a x.ps.length ca), x.v (.slice b x.ps.length cb)] w (.bool true) := by
  obtain ⟨ty, tx, ps, ⟨y, m, d, h, nn, s, zd, zn⟩, n⟩ := x
  simp only at ha hb hs
  have HA := hid ha
  have HB := hid hb
  have HS := hid hs
  clear ha hb hs
  simp only [Vl.v]
  go_enter Tryz.func13, Tryz.ntmps13
  go_wp2_with fail
  have g0 : G w ((w.alloc (.cells #[.int .i64 ty, .string (S tx), .slice a ps.length ca, .int .i64 y, .int .i64 m, .int .i64 d, .int .i64 h, .int .i64 nn, .int .i64 s, .bool zd, .int .i64 zn, .int .i64 n] 26)).alloc (.cells #[.int .i64 ty, .string (S tx), .slice b ps.length cb, .int .i64 y, .int .i64 m, .int .i64 d, .int .i64 h, .int .i64 nn, .int .i64 s, .bool zd, .int .i64 zn, .int .i64 n] 26)) := ((G.refl w).alloc _).alloc _
  have G0 := hid g0
  clear g0
  refine (sameLists_any (HA.out.grow G0.out) (HB.out.grow G0.out) HS.out HS.out).use ?_
  intro w3 g3
  rw [show decide (ps = ps) = true from decide_eq_true rfl]
  have ra : Hid (w3.heap[w.heap.size]? = some (.cells #[.int .i64 ty, .string (S tx), .slice a ps.length ca, .int .i64 y, .int .i64 m, .int .i64 d, .int .i64 h, .int .i64 nn, .int .i64 s, .bool zd, .int .i64 zn, .int .i64 n] 26 (0, 0))) := hid (by rw [g3.below.block w.heap.size (by simp; omega), Lib.alloc_old _ _ _ (by simp)]; exact heap_alloc_new w _)
  have rb : Hid (w3.heap[w.heap.size + 1]? = some (.cells #[.int .i64 ty, .string (S tx), .slice b ps.length cb, .int .i64 y, .int .i64 m, .int .i64 d, .int .i64 h, .int .i64 nn, .int .i64 s, .bool zd, .int .i64 zn, .int .i64 n] 26 (0, 0))) := hid (by rw [g3.below.block (w.heap.size + 1) (by simp)]; have := heap_alloc_new (w.alloc (.cells #[.int .i64 ty, .string (S tx), .slice a ps.length ca, .int .i64 y, .int .i64 m, .int .i64 d, .int .i64 h, .int .i64 nn, .int .i64 s, .bool zd, .int .i64 zn, .int .i64 n] 26)) (.cells #[.int .i64 ty, .string (S tx), .slice b ps.length cb, .int .i64 y, .int .i64 m, .int .i64 d, .int .i64 h, .int .i64 nn, .int .i64 s, .bool zd, .int .i64 zn, .int .i64 n] 26); simpa using this)
  have G3 : Hid (G w w3) := hid (G0.out.trans g3)
  clear g3
  have d0 : w3.cell? ⟨w.heap.size, 0, none⟩ = some (.int .i64 ty) := by rw [cell_of_row w3 w.heap.size 0 _ _ _ ra.out]; rfl
  have d1 : w3.cell? ⟨w.heap.size, 1, none⟩ = some (.string (S tx)) := by rw [cell_of_row w3 w.heap.size 1 _ _ _ ra.out]; rfl
  have d2 : w3.cell? ⟨w.heap.size, 2, none⟩ = some (.slice a ps.length ca) := by rw [cell_of_row w3 w.heap.size 2 _ _ _ ra.out]; rfl
  have d3 : w3.cell? ⟨w.heap.size, 3, none⟩ = some (.int .i64 y) := by rw [cell_of_row w3 w.heap.size 3 _ _ _ ra.out]; rfl
  have d4 : w3.cell? ⟨w.heap.size, 4, none⟩ = some (.int .i64 m) := by rw [cell_of_row w3 w.heap.size 4 _ _ _ ra.out]; rfl
  have d5 : w3.cell? ⟨w.heap.size, 5, none⟩ = some (.int .i64 d) := by rw [cell_of_row w3 w.heap.size 5 _ _ _ ra.out]; rfl
  have d6 : w3.cell? ⟨w.heap.size, 6, none⟩ = some (.int .i64 h) := by rw [cell_of_row w3 w.heap.size 6 _ _ _ ra.out]; rfl
  have d7 : w3.cell? ⟨w.heap.size, 7, none⟩ = some (.int .i64 nn) := by rw [cell_of_row w3 w.heap.size 7 _ _ _ ra.out]; rfl
  have d8 : w3.cell? ⟨w.heap.size, 8, none⟩ = some (.int .i64 s) := by rw [cell_of_row w3 w.heap.size 8 _ _ _ ra.out]; rfl
  have d9 : w3.cell? ⟨w.heap.size, 9, none⟩ = some (.bool zd) := by rw [cell_of_row w3 w.heap.size 9 _ _ _ ra.out]; rfl
  have d10 : w3.cell? ⟨w.heap.size, 10, none⟩ = some (.int .i64 zn) := by rw [cell_of_row w3 w.heap.size 10 _ _ _ ra.out]; rfl
  have d11 : w3.cell? ⟨w.heap.size, 11, none⟩ = some (.int .i64 n) := by rw [cell_of_row w3 w.heap.size 11 _ _ _ ra.out]; rfl
  have e0 : w3.cell? ⟨w.heap.size + 1, 0, none⟩ = some (.int .i64 ty) := by rw [cell_of_row w3 (w.heap.size + 1) 0 _ _ _ rb.out]; rfl
  have e1 : w3.cell? ⟨w.heap.size + 1, 1, none⟩ = some (.string (S tx)) := by rw [cell_of_row w3 (w.heap.size + 1) 1 _ _ _ rb.out]; rfl
  have e2 : w3.cell? ⟨w.heap.size + 1, 2, none⟩ = some (.slice b ps.length cb) := by rw [cell_of_row w3 (w.heap.size + 1) 2 _ _ _ rb.out]; rfl
  have e3 : w3.cell? ⟨w.heap.size + 1, 3, none⟩ = some (.int .i64 y) := by rw [cell_of_row w3 (w.heap.size + 1) 3 _ _ _ rb.out]; rfl
  have e4 : w3.cell? ⟨w.heap.size + 1, 4, none⟩ = some (.int .i64 m) := by rw [cell_of_row w3 (w.heap.size + 1) 4 _ _ _ rb.out]; rfl
  have e5 : w3.cell? ⟨w.heap.size + 1, 5, none⟩ = some (.int .i64 d) := by rw [cell_of_row w3 (w.heap.size + 1) 5 _ _ _ rb.out]; rfl
  have e6 : w3.cell? ⟨w.heap.size + 1, 6, none⟩ = some (.int .i64 h) := by rw [cell_of_row w3 (w.heap.size + 1) 6 _ _ _ rb.out]; rfl
  have e7 : w3.cell? ⟨w.heap.size + 1, 7, none⟩ = some (.int .i64 nn) := by rw [cell_of_row w3 (w.heap.size + 1) 7 _ _ _ rb.out]; rfl
  have e8 : w3.cell? ⟨w.heap.size + 1, 8, none⟩ = some (.int .i64 s) := by rw [cell_of_row w3 (w.heap.size + 1) 8 _ _ _ rb.out]; rfl
  have e9 : w3.cell? ⟨w.heap.size + 1, 9, none⟩ = some (.bool zd) := by rw [cell_of_row w3 (w.heap.size + 1) 9 _ _ _ rb.out]; rfl
  have e10 : w3.cell? ⟨w.heap.size + 1, 10, none⟩ = some (.int .i64 zn) := by rw [cell_of_row w3 (w.heap.size + 1) 10 _ _ _ rb.out]; rfl
  have e11 : w3.cell? ⟨w.heap.size + 1, 11, none⟩ = some (.int .i64 n) := by rw [cell_of_row w3 (w.heap.size + 1) 11 _ _ _ rb.out]; rfl
  go_wp2_with fail
  go_ret
  exact ⟨ret_bool (by simp), by repeat (first | exact G3.out | apply G.drew)⟩

end Go.Proofs.YtedlgpccmlcijaaGreatDoor

namespace Go.Proofs.YtedlgpccmlcijaaGreatDoor
open Go.RowKit
set_option linter.unusedVariables false
set_option linter.unusedSimpArgs false

def valX : List UInt8 := [97, 92, 44, 98, 44, 99]
def valLs : List (List (List UInt8)) := [[[97, 44, 98], [99]]]
theorem valX_read : readV valX 2 = some ⟨2, [], valLs, St0, 0⟩ := by
  have hh : holdsB valX false = true := holds_ascii (by decide)
  have hp : piecesGo [44] valX 0 [] [] [] = .good [[97, 44, 98], [99]] [44] := by kernel_rfl
  unfold readV
  rw [if_neg (by decide), if_neg (by rw [hh]; decide), if_neg (by decide), if_pos rfl, hp]; rfl
def valV : Vl := ⟨6, [], [], St0, 60⟩
theorem valV_ok : valV.ok = true := by decide +kernel
theorem valV_text : valV.text = [43, 48, 49, 48, 48] := by decide +kernel
set_option maxRecDepth 100000 in
set_option maxHeartbeats 4000000 in
theorem valued_any (w : World) (hM : HasM w) (hU : HasU w) (hE : LaidE w) : Gives 8 #[] w (.bool true) := by
  have HM := hid hM
  have HU := hid hU
  have HE := hid hE
  have r1 := fun W hm hu => vread_any valX 2 W (by decide) (by decide) hm hu
  have r2 := fun W hm he => vwrite_any valV (.slice none 0 0) W (lists_nil W) (by decide) (by decide) (by decide) hm he
  rw [valX_read] at r1
  have R1 := hid r1
  have R2 := hid r2
  clear r1 r2 hM hU hE
  go_enter Tryz.func8, Tryz.ntmps8
  go_wp2_with fail
  refine (R1.out _ HM.out HU.out).use ?_
  rintro v w1 hv g1
  obtain ⟨pv, rfl, hpl⟩ := hv
  have HPL := hid hpl
  obtain ⟨pa, pc, rfl, _⟩ := hpl.len
  have G1 := hid g1
  clear hpl g1
  simp only [Vl.v, St0, valLs, List.length_cons, List.length_nil]
  go_wp2_with fail
  have hpa : Hid (IsLists w1 (.slice pa 1 pc) valLs) := HPL
  have gA : G w (w1.alloc (.cells #[.int .i64 2, .string (S []), .slice pa 1 pc, .int .i64 0, .int .i64 0, .int .i64 0, .int .i64 0, .int .i64 0, .int .i64 0, .bool false, .int .i64 0, .int .i64 0] 26)) := G1.out.alloc _
  have GA := hid gA
  clear gA
  refine (R2.out _ (HM.out.grow GA.out) (HE.out.grow GA.out)).use ?_
  rintro r w2 hr g2
  unfold WriteP at hr
  rw [if_pos valV_ok, valV_text] at hr
  subst hr
  have rv : Hid (w2.heap[w1.heap.size]? = some (.cells #[.int .i64 2, .string (S []), .slice pa 1 pc, .int .i64 0, .int .i64 0, .int .i64 0, .int .i64 0, .int .i64 0, .int .i64 0, .bool false, .int .i64 0, .int .i64 0] 26 (0, 0))) := hid (by rw [g2.below.block _ (by simp)]; exact heap_alloc_new w1 _)
  have G2 : Hid (G w w2) := hid (GA.out.trans g2)
  have HP2 : Hid (IsLists w2 (.slice pa 1 pc) valLs) := hid (hpa.out.grow (((G.refl w1).alloc _).trans g2))
  clear g2
  have e0 : w2.cell? ⟨w1.heap.size, 0, none⟩ = some (.int .i64 2) := by rw [cell_of_row w2 w1.heap.size 0 _ _ _ rv.out]; rfl
  have e2 : w2.cell? ⟨w1.heap.size, 2, none⟩ = some (.slice pa 1 pc) := by rw [cell_of_row w2 w1.heap.size 2 _ _ _ rv.out]; rfl
  have hq : w1.heap.size < w2.heap.size := lt_of_row rv.out
  go_wp2_with fail
  have hl1 : IsStrs (w2.alloc (.cells #[.string ⟨#[97, 44, 98]⟩, .string ⟨#[99]⟩] 9)) (.slice (some ⟨w2.heap.size, 0, none⟩) 2 2) [[97, 44, 98], [99]] := IsStrs.lit w2 [[97, 44, 98], [99]] 2 rfl (by simp)
  have hl2 : IsLists ((w2.alloc (.cells #[.string ⟨#[97, 44, 98]⟩, .string ⟨#[99]⟩] 9)).alloc (.cells #[.slice (some ⟨w2.heap.size, 0, none⟩) 2 2] 42)) (.slice (some ⟨w2.heap.size + 1, 0, none⟩) 1 1) valLs := by
    have := lists_one hl1
    simpa [valLs] using this
  have gB : G w2 ((w2.alloc (.cells #[.string ⟨#[97, 44, 98]⟩, .string ⟨#[99]⟩] 9)).alloc (.cells #[.slice (some ⟨w2.heap.size, 0, none⟩) 2 2] 42)) := ((G.refl w2).alloc _).alloc _
  have hs := sameLists_any (HP2.out.grow gB) hl2 (by decide) (by decide)
  rw [show decide (valLs = valLs) = true from decide_eq_true rfl] at hs
  have HS := hid hs
  have GB := hid gB
  clear hs hl1 hl2 gB
  refine (HS.out).use ?_
  intro w3 g3
  have G3 : Hid (G w2 w3) := hid (GB.out.trans g3)
  have rv3 : Hid (w3.heap[w1.heap.size]? = some (.cells #[.int .i64 2, .string (S []), .slice pa 1 pc, .int .i64 0, .int .i64 0, .int .i64 0, .int .i64 0, .int .i64 0, .int .i64 0, .bool false, .int .i64 0, .int .i64 0] 26 (0, 0))) := hid (by rw [G3.out.below.block _ hq]; exact rv.out)
  have d0 : w3.cell? ⟨w1.heap.size, 0, none⟩ = some (.int .i64 2) := by rw [cell_of_row w3 w1.heap.size 0 _ _ _ rv3.out]; rfl
  clear g3 e0 e2
  go_wp2_with fail
  go_ret
  exact ⟨ret_bool (by simp), by repeat (first | exact G2.out.trans G3.out | apply G.drew)⟩

end Go.Proofs.YtedlgpccmlcijaaGreatDoor
