/-
  Texts merged into one: IsLists, EqStrs, SeqSplit, RulesTab, B64Dec.
-/
import Derived.Test.YtdmbhoagjjkogaaGreatDoorMA56
import Derived.Test.YtdmbhoagjjkogaaGreatDoorShelf
import Derived.Shelf.Abstract
import Derived.OwnWalkIn
import Derived.TacticsInMore
import Derived.LoopNIn
import Derived.LoopIn
import Derived.Test.YtdmbhoagjjkogaaGreatDoorMA50
import Derived.Test.YtdmbhoagjjkogaaGreatDoorMA44
namespace Go.Proofs.YtdmbhoagjjkogaaGreatDoor
open Go.RowKit
set_option linter.unusedVariables false
set_option linter.unusedSimpArgs false
def sumL (ls : List (List UInt8)) : Nat := (ls.map fun l => l.length + 1).sum
theorem sumL_cons (l : List UInt8) (ls : List (List UInt8)) : sumL (l :: ls) = l.length + 1 + sumL ls := by simp [sumL]
theorem sumL_len (ls : List (List UInt8)) : ls.length ≤ sumL ls := by
  induction ls with
  | nil => simp
  | cons a ls ih => rw [sumL_cons]; simp; omega
theorem sumL_mem {ls : List (List UInt8)} {l : List UInt8} (h : l ∈ ls) : l.length + 1 ≤ sumL ls := by
  induction ls with
  | nil => cases h
  | cons a ls ih =>
    rw [sumL_cons]
    rcases List.mem_cons.1 h with rfl | h
    · omega
    · have := ih h; omega
/-! ## lists of lists -/
def IsLists (w : World) (v : Value) (ls : List (List (List UInt8))) : Prop :=
  ∃ cells, IsRow 1 w v ls.length cells ∧ capOk v ∧ ∀ (i : Nat) (l : List (List UInt8)), ls[i]? = some l → ∃ sv, cells[i]? = some sv ∧ IsStrs w sv l
theorem IsLists.grow {w w' : World} {v : Value} {ls : List (List (List UInt8))} (h : IsLists w v ls) (g : G w w') : IsLists w' v ls := by
  obtain ⟨cells, h1, h2, h3⟩ := h
  refine ⟨cells, h1.grow g, h2, fun i l hl => ?_⟩
  obtain ⟨sv, h4, h5⟩ := h3 i l hl
  exact ⟨sv, h4, h5.grow g⟩
theorem IsLists.len {w : World} {v : Value} {ls : List (List (List UInt8))} (h : IsLists w v ls) : ∃ a c, v = .slice a ls.length c ∧ ls.length ≤ c := by
  obtain ⟨cells, h1, h2, h3⟩ := h
  obtain ⟨a, c, e⟩ := IsRow.len h1
  exact ⟨a, c, e, by rw [e] at h2; exact h2⟩
theorem IsLists.at_ {w : World} {v : Value} {ls : List (List (List UInt8))} (h : IsLists w v ls) (h0 : ls ≠ []) : ∃ b off cap, v = .slice (some ⟨b, off, none⟩) ls.length cap ∧ ls.length ≤ cap ∧ b < w.heap.size ∧ ∀ (i : Nat) (l : List (List UInt8)), ls[i]? = some l → ∃ sv, w.cell? ⟨b, off + i, none⟩ = some sv ∧ IsStrs w sv l := by
  obtain ⟨cells, ⟨h1, h2, h3⟩, hk, hc⟩ := h
  rcases h3 with ⟨h3, _⟩ | ⟨b, off, cap, e, hb, hn, hcell⟩
  · exact absurd (List.eq_nil_of_length_eq_zero h3) h0
  · refine ⟨b, off, cap, e, by rw [e] at hk; exact hk, hb, fun i l hl => ?_⟩
    obtain ⟨sv, h4, h5⟩ := hc i l hl
    have hi : i < cells.length := by
      rcases Nat.lt_or_ge i cells.length with h | h
      · exact h
      · rw [List.getElem?_eq_none h] at h4; cases h4
    refine ⟨sv, ?_, h5⟩
    rw [hcell i hi]
    rw [List.getElem?_eq_getElem hi] at h4
    exact h4
def sumP (ls : List (List (List UInt8))) : Nat := (ls.map fun l => sumL l + 1).sum
theorem sumP_cons (l : List (List UInt8)) (ls : List (List (List UInt8))) : sumP (l :: ls) = sumL l + 1 + sumP ls := by simp [sumP]
theorem sumP_len (ls : List (List (List UInt8))) : ls.length ≤ sumP ls := by
  induction ls with
  | nil => simp
  | cons a ls ih => rw [sumP_cons]; simp; omega
theorem sumP_mem {ls : List (List (List UInt8))} {l : List (List UInt8)} (h : l ∈ ls) : sumL l + 1 ≤ sumP ls := by
  induction ls with
  | nil => cases h
  | cons a ls ih =>
    rw [sumP_cons]
    rcases List.mem_cons.1 h with rfl | h
    · omega
    · have := ih h; omega
end Go.Proofs.YtdmbhoagjjkogaaGreatDoor

namespace Go.Proofs.YtdmbhoagjjkogaaGreatDoor
open Go.RowKit
set_option linter.unusedVariables false
set_option linter.unusedSimpArgs false
theorem map_S_inj {a b : List (List UInt8)} (h : a.map S = b.map S) : a = b := by
  induction a generalizing b with
  | nil => cases b with | nil => rfl | cons _ _ => simp at h
  | cons x a ih =>
    cases b with
    | nil => simp at h
    | cons y b =>
      simp only [List.map_cons, List.cons.injEq] at h
      rw [S_inj.1 h.1, ih h.2]
theorem eqStrs_q {va vb : Value} {xs ys : List (List UInt8)} {w : World} (ha : IsStrs w va xs) (hb : IsStrs w vb ys) (lx : xs.length ≤ 1000000) (ly : ys.length ≤ 1000000) :
    Calls Tryz.prog 14 #[va, vb] w fun e w' => e = .returned (.bool (decide (xs = ys))) ∧ ∃ q, w' = w.drewN q := by
  obtain ⟨aa, ca, hva, _⟩ := ha.len
  obtain ⟨ab, cb, hvb, _⟩ := hb.len
  by_cases hn : xs.length = ys.length
  · by_cases h0 : xs = []
    · subst h0
      have : ys = [] := List.eq_nil_of_length_eq_zero (by rw [← hn]; rfl)
      subst this
      subst hva; subst hvb
      refine (Tryz.slices_Equal_string_empty aa ab ca 0 cb w (by omega)).mono ?_
      rintro e w' ⟨rfl, rfl⟩
      exact ⟨by simp, 0, rfl⟩
    · have h1 : ys ≠ [] := by rintro rfl; exact h0 (List.eq_nil_of_length_eq_zero (by rw [hn]; rfl))
      obtain ⟨b1, o1, c1, rfl, _, _, hc1⟩ := ha.at_ h0
      obtain ⟨b2, o2, c2, rfl, _, _, hc2⟩ := hb.at_ h1
      have key : ∀ (l : List (List UInt8)) (b o : Nat), (∀ (i : Nat) (x : List UInt8), l[i]? = some x → w.cell? ⟨b, o + i, none⟩ = some (.string (S x))) → ∀ j, j < (l.map S).length → w.cell? ⟨b, o + j, none⟩ = some (.string ((l.map S).getD j ByteArray.empty)) := by
        intro l b o h j hj
        have hj' : j < l.length := by simpa using hj
        rw [h j l[j] (List.getElem?_eq_getElem hj')]
        simp [List.getD, List.getElem?_eq_getElem hj']
      refine (Tryz.slices_Equal_string b1 o1 xs.length c1 b2 o2 ys.length c2 (xs.map S) (ys.map S) w (by simp) (by simp) (by omega) (by omega) (key xs b1 o1 hc1) (key ys b2 o2 hc2)).mono ?_
      rintro e w' ⟨rfl, hq⟩
      refine ⟨ret_bool ?_, hq⟩
      rw [List.take_of_length_le (by simp), List.take_of_length_le (by simp)]
      exact decide_eq_decide.2 ⟨map_S_inj, fun h => by rw [h]⟩
  · subst hva; subst hvb
    refine (Tryz.slices_Equal_string_lens aa ab xs.length ca ys.length cb w hn).mono ?_
    rintro e w' ⟨rfl, rfl⟩
    exact ⟨ret_bool (decide_eq_false (fun e => hn (by rw [e]))).symm, 0, rfl⟩
theorem G.ofDrewN {w w' : World} (h : ∃ q, w' = w.drewN q) : G w w' := by
  obtain ⟨q, rfl⟩ := h; exact (G.refl w).drewN q
theorem eqStrs_any {va vb : Value} {xs ys : List (List UInt8)} {w : World} (ha : IsStrs w va xs) (hb : IsStrs w vb ys) (lx : xs.length ≤ 1000000) (ly : ys.length ≤ 1000000) : Gives 14 #[va, vb] w (.bool (decide (xs = ys))) :=
  (eqStrs_q ha hb lx ly).mono fun e w' ⟨h1, h2⟩ => ⟨h1, G.ofDrewN h2⟩
theorem IsStrs.lit (w : World) (ls : List (List UInt8)) (n : Nat) (hn : n = ls.length) (h : ls ≠ []) : IsStrs (w.alloc (.cells ((ls.map S).map Value.string).toArray 9)) (.slice (some ⟨w.heap.size, 0, none⟩) n n) ls := by
  subst hn; exact strs_of_alloc w _ ls h
end Go.Proofs.YtdmbhoagjjkogaaGreatDoor

namespace Go.Proofs.YtdmbhoagjjkogaaGreatDoor
open Go.RowKit Go.Shelf
attribute [local go_sem] Oper.semAt_some
set_option linter.unusedVariables false
set_option linter.unusedSimpArgs false
def KpSeq (Bp B1 Bz : Nat) (W W' : World) : Prop := W'.cell? ⟨Bp, 0, none⟩ = W.cell? ⟨Bp, 0, none⟩ ∧ W'.cell? ⟨B1, 0, none⟩ = W.cell? ⟨B1, 0, none⟩ ∧ W'.cell? ⟨Bz, 0, none⟩ = W.cell? ⟨Bz, 0, none⟩ ∧ W'.frozen? ⟨B1, 0, none⟩ = W.frozen? ⟨B1, 0, none⟩
def leftSeq (B1 : Nat) (W : World) : Nat := match W.cell? ⟨B1, 0, none⟩ with | some (.string b) => b.size | _ => 0
set_option maxRecDepth 100000 in
set_option maxHeartbeats 2000000 in
theorem seq_in (n l Bp B1 Bz : Nat) (hn : 1 ≤ n) (hpz : ¬ Bp = B1) (hzz : ¬ Bz = B1) (xs : List (List UInt8)) (hx : ∀ q ∈ xs, (124 : UInt8) ∉ q) (p : List UInt8) (ps : List (List UInt8)) (hxs : xs = p :: ps) (hsz : (joinS [124] p ps).length ≤ 1000000)
    (J Jx : List (List UInt8) → World → Prop) (hJB : AbidesAt B1 J)
    (hY : ∀ pre x W1, J pre W1 → pre ++ [x] <+: xs → YieldAt Fence.wide (n - 1) Tryz.prog l #[.string (S x)] W1 fun e W' =>
      (e = .returned (.bool true) ∧ J (pre ++ [x]) W' ∧ KpSeq Bp B1 Bz W1 W') ∨ (e = .returned (.bool false) ∧ Jx (pre ++ [x]) W'))
    (W : World) (c1 : W.cell? ⟨Bp, 0, none⟩ = some (.string (S [124]))) (c2 : W.cell? ⟨B1, 0, none⟩ = some (.string (S (joinS [124] p ps)))) (c3 : W.cell? ⟨Bz, 0, none⟩ = some (.int .i64 0)) (cf : W.frozen? ⟨B1, 0, none⟩ = false) (h0 : J [] W) :
    CallsIn Fence.wide n Tryz.prog 119 #[.func (.yield l) #[] #[], .pointer (some ⟨Bp, 0, none⟩), .pointer (some ⟨B1, 0, none⟩), .pointer (some ⟨Bz, 0, none⟩)] W fun e W' => (∃ v, e = .returned v) ∧ (J xs W' ∨ ∃ pre, pre <+: xs ∧ Jx pre W') := by
  refine callsIn_of_wp Tryz.func119 rfl trivial ?_ rfl
  simp only [Tryz.ntmps119, List.size_toArray, List.length_cons, List.length_nil, Nat.reduceAdd, Nat.reduceSub, Array.replicate_succ, Array.replicate_zero, List.push_toArray, List.append_toArray, List.nil_append, List.cons_append]
  gi_wp2
  gi_loopw [7] (fun _ wr => ∃ (pre : List (List UInt8)) (q : List UInt8) (qs : List (List UInt8)), xs = pre ++ (q :: qs) ∧ wr.cell? ⟨Bp, 0, none⟩ = some (.string (S [124])) ∧ wr.cell? ⟨B1, 0, none⟩ = some (.string (S (joinS [124] q qs))) ∧ wr.cell? ⟨Bz, 0, none⟩ = some (.int .i64 0) ∧ wr.frozen? ⟨B1, 0, none⟩ = false ∧ (joinS [124] q qs).length ≤ 1000000 ∧ J pre wr)
    (fun _ wr => leftSeq B1 wr)
  case atStart => exact ⟨[], p, ps, hxs, c1, c2, c3, cf, hsz, h0⟩
  case round =>
    obtain ⟨pre, q, qs, e, d1, d2, d3, df, dz, hJ⟩ := hrel
    have hq : (124 : UInt8) ∉ q := hx q (by rw [e]; simp)
    have hpl : pre ++ [q] <+: xs := by rw [e]; exact ⟨qs, by simp⟩
    cases qs with
    | nil =>
      simp only [joinS] at d2 dz
      obtain ⟨fn, tmps, assign, body, hy, hR⟩ := hY pre q wr hJ hpl
      have hi : ∀ w, Calls Tryz.prog 121 #[.string (S q), .string (S [124])] w fun e w' => e = .returned (.int .i64 (-1)) ∧ w' = w := fun w => by
        have := Tryz.strings_Index_one (S q) 124 w
        rw [show (S q).data.toList = q from by simp [S], indexByte_none q 124 hq] at this
        exact this
      have HI := hid hi
      clear hi
      gi_wp2_with (refine ⟨trivial, ?_⟩; gi_at_call 121; refine (callsIn_wide.2 (HI.out _)).mono ?_; rintro e w' ⟨rfl, rfl⟩)
      refine hR.mono ?_
      rintro e2 W3 (⟨rfl, hJ3, hk3⟩ | ⟨rfl, hJx3⟩)
      · gi_wp2
        go_end0
        exact ⟨⟨_, rfl⟩, .inl (by rw [e]; exact hJ3)⟩
      · gi_wp2
        go_end0
        exact ⟨⟨_, rfl⟩, .inr ⟨_, by rw [e]; exact List.prefix_refl _, hJx3⟩⟩
    | cons r rs =>
      have dd : joinS [124] q (r :: rs) = q ++ 124 :: joinS [124] r rs := by simp [joinS]
      rw [dd] at d2 dz
      obtain ⟨fn, tmps, assign, body, hy, hR⟩ := hY pre q wr hJ hpl
      have hi : ∀ w, Calls Tryz.prog 121 #[.string (S (q ++ 124 :: joinS [124] r rs)), .string (S [124])] w fun e w' => e = .returned (.int .i64 (q.length : Int)) ∧ w' = w := fun w => by
        have := Tryz.strings_Index_one (S (q ++ 124 :: joinS [124] r rs)) 124 w
        rw [show (S (q ++ 124 :: joinS [124] r rs)).data.toList = q ++ 124 :: joinS [124] r rs from by simp [S], indexByte_some q _ 124 hq] at this
        exact this
      have HI := hid hi
      clear hi
      have hl : q.length + 1 + (joinS [124] r rs).length ≤ 1000000 := by simp only [List.length_append, List.length_cons] at dz; omega
      have hw : wrap64 (q.length : Int) = (q.length : Int) := (by unfold wrap64; omega)
      gi_wp2_with (refine ⟨trivial, ?_⟩; gi_at_call 121; refine (callsIn_wide.2 (HI.out _)).mono ?_; rintro e w' ⟨rfl, rfl⟩)
      refine hR.mono ?_
      rintro e2 W3 (⟨rfl, hJ3, k1, k2, k3, k4⟩ | ⟨rfl, hJx3⟩)
      · have b1 := k1.trans d1
        have b2 := k2.trans d2
        have b3 := k3.trans d3
        have b4 := k4.trans df
        have hw2 : wrap64 ((q.length : Int) + 1) = (q.length : Int) + 1 := (by unfold wrap64; omega)
        have htk : List.drop (q.length + 1) (List.take (q.length + ((joinS [124] r rs).length + 1)) (q ++ 124 :: joinS [124] r rs)) = joinS [124] r rs := by
          rw [List.take_of_length_le (by simp)]
          simp [List.drop_length_add_append]
        gi_wp2
        go_roundw
        case rel =>
          refine ⟨pre ++ [q], r, rs, by rw [e]; simp, ?_, ?_, ?_, ?_, by omega, hJB _ _ _ hJ3⟩
          · rw [World.cell?_setCell_other _ _ _ _ (by first | (simp; done) | (simp; omega))]; exact b1
          · rw [World.cell?_setCell_same _ _ _ b2]
          · rw [World.cell?_setCell_other _ _ _ _ (by first | (simp; done) | (simp; omega))]; exact b3
          · rw [World.frozen?_setCell]; exact b4
        case measure =>
          unfold leftSeq
          rw [World.cell?_setCell_same _ _ _ b2, d2]
          simp; omega
      · gi_wp2
        refine bodyPost_ret (results_none rfl _ _ _) rfl ?_
        exact ⟨⟨_, rfl⟩, .inr ⟨_, by rw [e]; exact ⟨r :: rs, by simp⟩, hJx3⟩⟩
theorem seq_stops (n Bp B1 Bz : Nat) (hn : 1 ≤ n) (hpz : ¬ Bp = B1) (hzz : ¬ Bz = B1) (p : List UInt8) (ps : List (List UInt8)) (hx : ∀ q ∈ p :: ps, (124 : UInt8) ∉ q) (hsz : (joinS [124] p ps).length ≤ 1000000) (w : World)
    (hBp : Bp < w.heap.size) (hB1 : B1 < w.heap.size) (hBz : Bz < w.heap.size)
    (c1 : w.cell? ⟨Bp, 0, none⟩ = some (.string (S [124]))) (c2 : w.cell? ⟨B1, 0, none⟩ = some (.string (S (joinS [124] p ps)))) (c3 : w.cell? ⟨Bz, 0, none⟩ = some (.int .i64 0)) (cf : w.frozen? ⟨B1, 0, none⟩ = false) :
    SeqStopsAt B1 Fence.wide n Tryz.prog 119 #[.pointer (some ⟨Bp, 0, none⟩), .pointer (some ⟨B1, 0, none⟩), .pointer (some ⟨Bz, 0, none⟩)] (fun x => #[Value.string (S x)]) (KpSeq Bp B1 Bz) (p :: ps) w :=
  fun l J Jx W hW _ _ hJB hY h0 => seq_in n l Bp B1 Bz hn hpz hzz (p :: ps) hx p ps rfl hsz J Jx hJB hY W ((hW.cell (p := ⟨Bp, 0, none⟩) hBp).trans c1) ((hW.cell (p := ⟨B1, 0, none⟩) hB1).trans c2) ((hW.cell (p := ⟨Bz, 0, none⟩) hBz).trans c3) ((hW.frozen (p := ⟨B1, 0, none⟩) hB1).trans cf) h0
end Go.Proofs.YtdmbhoagjjkogaaGreatDoor

namespace Go.Proofs.YtdmbhoagjjkogaaGreatDoor
open Go.RowKit
set_option linter.unusedVariables false
set_option linter.unusedSimpArgs false
structure Ent where
  name : List UInt8
  ty : Nat
  least : Nat
  most : Nat
  parts : Nat
def Ent.text (e : Ent) : List UInt8 := e.name ++ [32, UInt8.ofNat (48 + e.ty), 32, UInt8.ofNat (48 + e.least), 32, UInt8.ofNat (48 + e.most), 32, UInt8.ofNat (48 + e.parts)]
def oldT : List Ent := [⟨[70, 78], 1, 1, 1, 0⟩, ⟨[78], 3, 1, 1, 5⟩, ⟨[78, 73, 67, 75, 78, 65, 77, 69], 2, 0, 0, 0⟩, ⟨[80, 72, 79, 84, 79], 8, 0, 0, 0⟩, ⟨[66, 68, 65, 89], 5, 0, 1, 0⟩, ⟨[65, 68, 82], 3, 0, 0, 7⟩, ⟨[76, 65, 66, 69, 76], 1, 0, 0, 0⟩, ⟨[84, 69, 76], 1, 0, 0, 0⟩, ⟨[69, 77, 65, 73, 76], 1, 0, 0, 0⟩, ⟨[77, 65, 73, 76, 69, 82], 1, 0, 0, 0⟩, ⟨[84, 90], 6, 0, 1, 0⟩, ⟨[71, 69, 79], 3, 0, 1, 2⟩, ⟨[84, 73, 84, 76, 69], 1, 0, 0, 0⟩, ⟨[82, 79, 76, 69], 1, 0, 0, 0⟩, ⟨[76, 79, 71, 79], 8, 0, 0, 0⟩, ⟨[65, 71, 69, 78, 84], 1, 0, 0, 0⟩, ⟨[79, 82, 71], 3, 0, 0, 0⟩, ⟨[67, 65, 84, 69, 71, 79, 82, 73, 69, 83], 2, 0, 0, 0⟩, ⟨[78, 79, 84, 69], 1, 0, 0, 0⟩, ⟨[80, 82, 79, 68, 73, 68], 1, 0, 1, 0⟩, ⟨[82, 69, 86], 5, 0, 1, 0⟩, ⟨[83, 79, 82, 84, 45, 83, 84, 82, 73, 78, 71], 1, 0, 1, 0⟩, ⟨[83, 79, 85, 78, 68], 8, 0, 0, 0⟩, ⟨[85, 73, 68], 1, 0, 1, 0⟩, ⟨[85, 82, 76], 4, 0, 0, 0⟩, ⟨[67, 76, 65, 83, 83], 1, 0, 1, 0⟩, ⟨[75, 69, 89], 8, 0, 0, 0⟩, ⟨[78, 65, 77, 69], 1, 0, 1, 0⟩, ⟨[83, 79, 85, 82, 67, 69], 4, 0, 0, 0⟩]
def newT : List Ent := [⟨[70, 78], 1, 1, 0, 0⟩, ⟨[78], 3, 0, 1, 5⟩, ⟨[78, 73, 67, 75, 78, 65, 77, 69], 2, 0, 0, 0⟩, ⟨[80, 72, 79, 84, 79], 4, 0, 0, 0⟩, ⟨[66, 68, 65, 89], 5, 0, 1, 0⟩, ⟨[65, 78, 78, 73, 86, 69, 82, 83, 65, 82, 89], 5, 0, 1, 0⟩, ⟨[71, 69, 78, 68, 69, 82], 3, 0, 1, 2⟩, ⟨[65, 68, 82], 3, 0, 0, 7⟩, ⟨[84, 69, 76], 1, 0, 0, 0⟩, ⟨[69, 77, 65, 73, 76], 1, 0, 0, 0⟩, ⟨[73, 77, 80, 80], 4, 0, 0, 0⟩, ⟨[76, 65, 78, 71], 7, 0, 0, 0⟩, ⟨[84, 90], 1, 0, 0, 0⟩, ⟨[71, 69, 79], 4, 0, 0, 0⟩, ⟨[84, 73, 84, 76, 69], 1, 0, 0, 0⟩, ⟨[82, 79, 76, 69], 1, 0, 0, 0⟩, ⟨[76, 79, 71, 79], 4, 0, 0, 0⟩, ⟨[79, 82, 71], 3, 0, 0, 0⟩, ⟨[77, 69, 77, 66, 69, 82], 4, 0, 0, 0⟩, ⟨[82, 69, 76, 65, 84, 69, 68], 4, 0, 0, 0⟩, ⟨[67, 65, 84, 69, 71, 79, 82, 73, 69, 83], 2, 0, 0, 0⟩, ⟨[78, 79, 84, 69], 1, 0, 0, 0⟩, ⟨[80, 82, 79, 68, 73, 68], 1, 0, 1, 0⟩, ⟨[82, 69, 86], 5, 0, 1, 0⟩, ⟨[83, 79, 85, 78, 68], 4, 0, 0, 0⟩, ⟨[85, 73, 68], 4, 0, 1, 0⟩, ⟨[85, 82, 76], 4, 0, 0, 0⟩, ⟨[75, 73, 78, 68], 1, 0, 1, 0⟩, ⟨[75, 69, 89], 4, 0, 0, 0⟩, ⟨[83, 79, 85, 82, 67, 69], 4, 0, 0, 0⟩]
def tabT (v : Int) : List Ent := if v = 3 then oldT else newT
def textT (T : List Ent) : List UInt8 := match T.map Ent.text with | [] => [] | p :: ps => joinS [124] p ps
def ruleOf (T : List Ent) (u : List UInt8) : Int × Int × Int × Int := match T.find? (fun e => e.name == u) with | some e => ((e.ty : Int), (e.least : Int), (e.most : Int), (e.parts : Int)) | none => (8, 0, 0, 0)
set_option maxRecDepth 100000 in
set_option maxHeartbeats 1000000 in
theorem table_any (v : Int) (w : World) : Pure 44 #[.int .i64 v] w (.string (S (textT (tabT v)))) := by
  by_cases h : v = 3
  · subst h
    go_enter Tryz.func44, Tryz.ntmps44
    go_wp2
    go_ret
    exact ⟨by rfl, rfl⟩
  · have ht : tabT v = newT := if_neg h
    rw [ht]
    go_enter Tryz.func44, Tryz.ntmps44
    go_wp2
    go_ret
    exact ⟨by rfl, rfl⟩
set_option maxRecDepth 100000 in
set_option maxHeartbeats 400000 in
theorem splitSeq_any (t sep : List UInt8) (w : World) : Calls Tryz.prog 74 #[.string (S t), .string (S sep), .int .i64 0] w fun e w' => e = .returned (.func (.func 119) #[] #[.pointer (some ⟨w.heap.size + 1, 0, none⟩), .pointer (some ⟨w.heap.size, 0, none⟩), .pointer (some ⟨w.heap.size + 2, 0, none⟩)]) ∧
    w' = ((w.alloc (.cells #[.string (S t)] 9)).alloc (.cells #[.string (S sep)] 9)).alloc (.cells #[.int .i64 0] 3) := by
  have hmf : ∀ (fn : Fn) (first cap : Array Value) (w : World), (Instr.makeFunc fn first cap).run Tryz.prog w = .ok (.func fn first cap) w := fun _ _ _ _ => rfl
  go_enter Tryz.func74, Tryz.ntmps74
  go_wp2
  go_ret
  exact ⟨by simp, rfl⟩
set_option maxRecDepth 100000 in
set_option maxHeartbeats 400000 in
theorem SplitSeq_any (t sep : List UInt8) (w : World) : Calls Tryz.prog 43 #[.string (S t), .string (S sep)] w fun e w' => e = .returned (.func (.func 119) #[] #[.pointer (some ⟨w.heap.size + 1, 0, none⟩), .pointer (some ⟨w.heap.size, 0, none⟩), .pointer (some ⟨w.heap.size + 2, 0, none⟩)]) ∧
    w' = ((w.alloc (.cells #[.string (S t)] 9)).alloc (.cells #[.string (S sep)] 9)).alloc (.cells #[.int .i64 0] 3) := by
  go_enter Tryz.func43, Tryz.ntmps43
  go_wp2_with (go_at_call 74; refine (splitSeq_any t sep _).mono ?_; rintro e w' ⟨rfl, rfl⟩)
  go_ret
  exact ⟨rfl, rfl⟩
end Go.Proofs.YtdmbhoagjjkogaaGreatDoor

namespace Go.Proofs.YtdmbhoagjjkogaaGreatDoor
open Go.RowKit
set_option linter.unusedVariables false
set_option linter.unusedSimpArgs false
def idxB (c : UInt8) : Int := Lib.indexByte lettersL c
theorem idxB_cases (c : UInt8) : idxB c = -1 ∨ (0 ≤ idxB c ∧ idxB c < 64 ∧ byteOf (letB (idxB c)) = c ∧ c ≠ 61) := by
  have := byte_all (fun c => decide (idxB c = -1 ∨ (0 ≤ idxB c ∧ idxB c < 64 ∧ byteOf (letB (idxB c)) = c ∧ c ≠ 61))) (by decide +kernel) c
  exact of_decide_eq_true this
theorem idx61 : idxB 61 = -1 := by decide +kernel
def bytes3 (n : Int) : List UInt8 := [byteOf (n / 65536), byteOf (n / 256 % 256), byteOf (n % 256)]
def num4 (a b c d : Int) : Int := ((a * 64 + b) * 64 + c) * 64 + d
def decQ (last : Bool) (c0 c1 c2 c3 : UInt8) : Except Nat (List UInt8) :=
  if idxB c0 < 0 then .error 0
  else if idxB c1 < 0 then .error 1
  else if last = true ∧ c3 = 61 ∧ c2 = 61 then
    (if num4 (idxB c0) (idxB c1) 0 0 % 65536 = 0 then .ok ((bytes3 (num4 (idxB c0) (idxB c1) 0 0)).take 1) else .error 1)
  else if idxB c2 < 0 then .error 2
  else if last = true ∧ c3 = 61 then
    (if num4 (idxB c0) (idxB c1) (idxB c2) 0 % 256 = 0 then .ok ((bytes3 (num4 (idxB c0) (idxB c1) (idxB c2) 0)).take 2) else .error 2)
  else if idxB c3 < 0 then .error 3
  else .ok (bytes3 (num4 (idxB c0) (idxB c1) (idxB c2) (idxB c3)))
def b64D : List UInt8 → Except Nat (List UInt8)
  | c0 :: c1 :: c2 :: c3 :: t =>
    match decQ t.isEmpty c0 c1 c2 c3 with
    | .error p => .error p
    | .ok bs => match b64D t with
      | .error p => .error (p + 4)
      | .ok cs => .ok (bs ++ cs)
  | _ => .ok []
theorem wpList_pushM {ops : Array Oper} {rest : List Oper} {o : Oper} {a : Act} {Q : Exit → Act → World → Prop} {w wr : World} (hgd : o.guard = none) (s x : Operand) (t : TypeId)
    (ho : o.op = .call { callee := .builtin .append, args := #[s, x], argTypes := #[t, t] })
    (e : TypeId) (i : TypeInfo) (z : Value) (bytes : Nat) (ht : Tryz.prog.underlying t = some (.slice e)) (hi : Tryz.prog.info? e = some i) (hz : i.zero = some z)
    (hsize : i.size = 1) (hby : i.bytes = bytes) (hzs : z.cells.size = 1)
    (v : Value) (n : Nat) (xs : List Value) (hs : a.eval s = v) (hown : wr.ownsRow w.heap.size e 1 v n xs) (hg : G w wr)
    (us : List Value) (m cap : Nat) (hm : m ≤ us.length) (hx : a.eval x = .slice (some ⟨wr.heap.size, 0, none⟩) m cap) (h1 : ∀ u ∈ us, u.oneCell' = true)
    (hbytes : (n + m) * bytes ≤ 140737488355328) (h63 : n + m ≤ 140737488355328)
    (h : ∀ v' w', w'.ownsRow w.heap.size e 1 v' (n + m) (xs ++ us.take m) → G w w' → wpList Tryz.prog ops Q rest (a.put o.dst v') w') :
    wpList Tryz.prog ops Q (o :: rest) a (wr.alloc (.cells us.toArray e)) := by
  refine wpList_append_own _ hgd s x t ho w.heap.size e i z 1 bytes ht hi hz hsize hby hzs (by decide) v n xs hs (hown.alloc _) ⟨wr.heap.size, 0, none⟩ m cap (us.take m) hx (by simp; omega) ?_ (fun u hu => h1 u (List.mem_of_mem_take hu)) (by unfold maxLen; omega) hbytes (by have := hg.size; simp; omega) ?_
  · intro j u hj
    have : (⟨wr.heap.size, 0, none⟩ : Addr).add j = ⟨wr.heap.size, j, none⟩ := by unfold Addr.add; split <;> simp_all
    rw [this, World.cell?_alloc_new]
    have hjm : j < m := by
      rcases Nat.lt_or_ge j m with h | h
      · exact h
      · rw [List.getElem?_eq_none (by simp; omega)] at hj; cases hj
    rw [List.getElem?_take_of_lt hjm] at hj
    simpa using hj
  · intro v' w' h2 h3 h4
    refine h v' w' h2 ?_
    refine (hg.alloc (.cells us.toArray e)).grown h3 (by have := hg.size; simp; omega) ?_
    intro k hk
    exact ((hown.alloc (.cells us.toArray e)).lt k hk).1
theorem conv_own {w : World} {B : Nat} {v : Value} {bs : List UInt8} (h : w.ownsRow B 5 1 v bs.length (bs.map fun c => Value.int .u8 (c.toNat : Int))) :
    (convert 125 9 v).run Tryz.prog w = .ok (.string (S bs)) w := by
  obtain ⟨h1, h2⟩ := h
  rcases h2 with ⟨rfl, h0⟩ | ⟨g, cap, cur, hv, hb, hh, hn, hm, hcs, ht⟩
  · have : bs = [] := List.eq_nil_of_length_eq_zero h0
    subst this
    exact run_convert_bytes_nil (P := Tryz.prog) w 125 5 Tryz.underlying125 Tryz.underlying5 0 0 9 Tryz.underlying9
  · subst hv
    refine run_convert_bytes_back (P := Tryz.prog) w 125 9 5 ⟨g, 0, none⟩ cap bs Tryz.underlying125 Tryz.underlying5 Tryz.underlying9 (fun j hj => ?_)
    have e : (⟨g, 0, none⟩ : Addr).add j = ⟨g, j, none⟩ := by unfold Addr.add; split <;> simp_all
    rw [e]
    have := World.ownsRow.cellAt (w := w) (base := B) (e := 5) (size := 1) (g := g) (n := bs.length) (cap := cap) (xs := bs.map fun c => Value.int .u8 (c.toNat : Int)) ⟨h1, Or.inr ⟨g, cap, cur, rfl, hb, hh, hn, hm, hcs, ht⟩⟩ j (by omega)
    rw [this]
    simp [List.getElem?_eq_getElem hj]
end Go.Proofs.YtdmbhoagjjkogaaGreatDoor
