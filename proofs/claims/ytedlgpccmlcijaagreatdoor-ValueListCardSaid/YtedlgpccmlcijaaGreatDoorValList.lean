/-
  WALK of the law ValueList. (written by gen_vallist.py)
-/
import Derived.Test.YtedlgpccmlcijaaGreatDoorMBound
namespace Go.Proofs.YtedlgpccmlcijaaGreatDoor
open Go.RowKit
set_option linter.unusedVariables false
set_option linter.unusedSimpArgs false

/-- how many cuts are no semicolons -/
def com (cs : List UInt8) : Nat := (cs.filter fun c => c != 59).length
theorem com_snoc (cs : List UInt8) (c : UInt8) : com (cs ++ [c]) = com cs + if c = 59 then 0 else 1 := by
  unfold com
  rw [List.filter_append, List.length_append]
  by_cases h : c = 59
  · subst h; rfl
  · simp [h]
theorem pieces_com : ∀ (n : Nat) (s : List UInt8), s.length ≤ n → ∀ (k : Nat) cur ts cs k' cur' ts' cs' T C T' C', piecesGo [44] s k cur ts cs = .good T C → piecesGo [44, 59] s k' cur' ts' cs' = .good T' C' → C.length + com cs' = cs.length + com C' := by
  intro n
  induction n with
  | zero =>
    intro s hs k cur ts cs k' cur' ts' cs' T C T' C' h h'
    obtain rfl : s = [] := List.eq_nil_of_length_eq_zero (by omega)
    rw [pieces_nil] at h h'
    cases h; cases h'; rfl
  | succ n ih =>
    intro s hs k cur ts cs k' cur' ts' cs' T C T' C' h h'
    match s, hs, h, h' with
    | [], _, h, h' => rw [pieces_nil] at h h'; cases h; cases h'; rfl
    | c :: t, hs, h, h' =>
      by_cases h92 : c = 92
      · subst h92
        match t, hs, h, h' with
        | [], _, h, h' => rw [pieces_end] at h; cases h
        | d :: t, hs, h, h' =>
          cases hu : unescB d with
          | none => rw [pieces_none hu] at h; cases h
          | some x =>
            rw [pieces_esc hu] at h h'
            exact ih t (by simp at hs; omega) _ _ _ _ _ _ _ _ _ _ _ _ h h'
      · by_cases h44 : c = 44
        · subst h44
          rw [pieces_cut (by decide) (by decide)] at h h'
          have := ih t (by simp at hs; omega) _ _ _ _ _ _ _ _ _ _ _ _ h h'
          rw [com_snoc] at this
          simp at this; omega
        · have e1 : ([44] : List UInt8).contains c = false := by simp [h44]
          rw [pieces_one h92 e1] at h
          by_cases h59 : c = 59
          · subst h59
            rw [pieces_cut (by decide) (by decide)] at h'
            have := ih t (by simp at hs; omega) _ _ _ _ _ _ _ _ _ _ _ _ h h'
            rw [com_snoc] at this
            simp at this; omega
          · have e2 : ([44, 59] : List UInt8).contains c = false := by simp [h44, h59]
            rw [pieces_one h92 e2] at h'
            exact ih t (by simp at hs; omega) _ _ _ _ _ _ _ _ _ _ _ _ h h'
theorem parts_count : ∀ (cs : List UInt8) (ts cur : List (List UInt8)), ts.length = cs.length → ((partsOf cur cs ts).map List.length).sum = cur.length + ts.length ∧ (partsOf cur cs ts).length + com cs = 1 + cs.length
  | [], [], cur, _ => by simp [partsOf, com]
  | [], t :: ts, cur, h => by simp at h
  | c :: cs, [], cur, h => by simp at h
  | c :: cs, t :: ts, cur, h => by
    rw [partsOf_cons]
    by_cases hc : c = 59
    · subst hc
      rw [if_pos rfl]
      obtain ⟨h1, h2⟩ := parts_count cs ts [t] (by simpa using h)
      have e : com (59 :: cs) = com cs := by unfold com; simp
      refine ⟨?_, ?_⟩
      · simp only [List.map_cons, List.sum_cons, h1, List.length_cons, List.length_nil]; omega
      · rw [e]; simp only [List.length_cons]; omega
    · rw [if_neg hc]
      obtain ⟨h1, h2⟩ := parts_count cs ts (cur ++ [t]) (by simpa using h)
      have e : com (c :: cs) = com cs + 1 := by unfold com; simp [hc]
      refine ⟨?_, ?_⟩
      · rw [h1]; simp only [List.length_append, List.length_cons, List.length_nil]; omega
      · rw [e]; simp only [List.length_cons]; omega
/-- a text as a list, and as parts -/
theorem list_parts (s : List UInt8) : (readV s 2 = none ∧ readV s 3 = none) ∨ ∃ T ps, readV s 2 = some ⟨2, [], [T], St0, 0⟩ ∧ readV s 3 = some ⟨3, [], ps, St0, 0⟩ ∧ T.length + ps.length = (ps.map List.length).sum + 1 ∧ T ≠ [] ∧ ps.length ≤ s.length + 1 ∧ (ps.map List.length).sum ≤ s.length + 1 := by
  cases hh : holdsB s false with
  | false =>
    left
    unfold readV
    rw [if_neg (by decide), if_pos hh, if_neg (by decide), if_pos hh]
    exact ⟨rfl, rfl⟩
  | true =>
    have h2 : readV s 2 = (match piecesGo [44] s 0 [] [] [] with | .good T _ => some ⟨2, [], [T], St0, 0⟩ | _ => none) := by
      unfold readV; rw [if_neg (by decide), if_neg (by rw [hh]; decide), if_neg (by decide), if_pos rfl]; cases piecesGo [44] s 0 [] [] [] <;> rfl
    have h3 : readV s 3 = (match piecesGo [44, 59] s 0 [] [] [] with | .good (t :: ts) cs => some ⟨3, [], partsOf [t] cs ts, St0, 0⟩ | _ => none) := by
      unfold readV; rw [if_neg (by decide), if_neg (by rw [hh]; decide), if_neg (by decide), if_neg (by decide), if_pos rfl]
      rcases piecesGo [44, 59] s 0 [] [] [] with ⟨_ | ⟨t, ts⟩, cs⟩ | ⟨c, q⟩ <;> rfl
    cases hp : piecesGo [44] s 0 [] [] [] with
    | bad c q =>
      left
      have := pieces_bad [44] [44, 59] (by simp) (by simp) s.length s (Nat.le_refl _) _ _ _ _ [] [] [] _ _ hp
      rw [h2, h3, hp, this]; exact ⟨rfl, rfl⟩
    | good T C =>
      cases hq : piecesGo [44, 59] s 0 [] [] [] with
      | bad c q =>
        have := pieces_bad [44, 59] [44] (by simp) (by simp) s.length s (Nat.le_refl _) _ _ _ _ [] [] [] _ _ hq
        rw [hp] at this; cases this
      | good T' C' =>
        right
        have n1 := pieces_ne hp
        have n2 := pieces_ne hq
        simp at n1 n2
        cases T' with
        | nil => simp at n2
        | cons t ts =>
          have hc := pieces_com s.length s (Nat.le_refl _) _ _ _ _ _ _ _ _ _ _ _ _ hp hq
          obtain ⟨p1, p2⟩ := parts_count C' ts [t] (by simpa using n2)
          have hl := pieces_len hq
          have hl2 := sumL_len (t :: ts)
          have hcl : com C' ≤ C'.length := List.length_filter_le _ _
          simp [com] at hc
          simp only [List.length_cons, List.length_nil] at p1 n2 hl2
          refine ⟨T, partsOf [t] C' ts, by rw [h2, hp], by rw [h3, hq], ?_, ?_, ?_, ?_⟩
          · have : com C' = (C'.filter fun c => c != 59).length := rfl
            rw [p1]; omega
          · intro e; subst e; simp at n1
          · omega
          · omega

set_option maxRecDepth 100000 in
set_option maxHeartbeats 4000000 in
theorem valueList_walk (s : List UInt8) (w : World) (zs : s.length ≤ 140737488351232) (hM : HasM w) (hU : HasU w) (hE : LaidE w) : Gives 7 #[.string (S s)] w (.bool true) := by
  have HM := hid hM
  have HU := hid hU
  have HE := hid hE
  clear hM hU hE
  by_cases hs : s.length ≤ 400
  · have r1 := fun W hm hu => vread_any s 2 W (by omega) (by omega) hm hu
    have r2 := fun W hm hu => vread_any s 3 W (by omega) (by omega) hm hu
    rcases list_parts s with ⟨e1, e2⟩ | ⟨TT, ps, e1, e2, hsum, hne, hp1, hp2⟩
    · rw [e1] at r1
      rw [e2] at r2
      have R1 := hid r1
      have R2 := hid r2
      clear r1 r2 e1 e2
      go_enter Tryz.func7, Tryz.ntmps7
      go_wp2_with fail
      refine (valued_any _ HM.out HU.out HE.out).use ?_; intro w1 g1
      have G1 := hid g1
      clear g1
      go_wp2_with fail
      refine (R1.out _ (HM.out.grow G1.out) (HU.out.grow G1.out)).use ?_
      rintro v w2 hv g2
      obtain ⟨e, rfl, t, u, rfl⟩ := hv
      have G2 := hid (G1.out.trans g2)
      clear g2
      simp only [Vl.v, Vl0, St0]
      go_wp2_with fail
      refine (R2.out _ (HM.out.grow (by repeat (first | exact G2.out | apply G.drew | apply G.alloc))) (HU.out.grow (by repeat (first | exact G2.out | apply G.drew | apply G.alloc)))).use ?_
      rintro v w3 hv g3
      obtain ⟨e, rfl, t2, u2, rfl⟩ := hv
      have G3 : Hid (G w w3) := hid (G.trans (by repeat (first | exact G2.out | apply G.drew | apply G.alloc)) g3)
      clear g3
      simp only [Vl.v, Vl0, St0]
      go_wp2_with fail
      go_ret
      exact ⟨ret_bool (by simp), by repeat (first | exact G3.out | apply G.drew | apply G.alloc)⟩
    · rw [e1] at r1
      rw [e2] at r2
      have R1 := hid r1
      have R2 := hid r2
      have HSUM := hid hsum
      have hTl : 1 ≤ TT.length := List.length_pos_iff.2 hne
      have hTb : TT.length ≤ 1000 := by omega
      have hpb : ps.length ≤ 1000 := by omega
      have hpc : (ps.map List.length).sum ≤ 1000 := by omega
      clear r1 r2 e1 e2 hsum hne hp1 hp2
      go_enter Tryz.func7, Tryz.ntmps7
      go_wp2_with fail
      refine (valued_any _ HM.out HU.out HE.out).use ?_; intro w1 g1
      have G1 := hid g1
      clear g1
      go_wp2_with fail
      refine (R1.out _ (HM.out.grow G1.out) (HU.out.grow G1.out)).use ?_
      rintro v w2 hv g2
      obtain ⟨pv, rfl, hpl⟩ := hv
      have HA := hid hpl
      obtain ⟨a, ca, rfl, _⟩ := hpl.len
      have G2 := hid (G1.out.trans g2)
      clear g2 hpl
      simp only [Vl.v, St0, List.length_cons, List.length_nil] at HA ⊢
      go_wp2_with fail
      have rA : Hid ((w2.alloc (.cells #[.int .i64 2, .string (S []), .slice a 1 ca, .int .i64 0, .int .i64 0, .int .i64 0, .int .i64 0, .int .i64 0, .int .i64 0, .bool false, .int .i64 0, .int .i64 0] 26)).heap[w2.heap.size]? = some (.cells #[.int .i64 2, .string (S []), .slice a 1 ca, .int .i64 0, .int .i64 0, .int .i64 0, .int .i64 0, .int .i64 0, .int .i64 0, .bool false, .int .i64 0, .int .i64 0] 26 (0, 0))) := hid (heap_alloc_new w2 _)
      have GA : Hid (G w (w2.alloc (.cells #[.int .i64 2, .string (S []), .slice a 1 ca, .int .i64 0, .int .i64 0, .int .i64 0, .int .i64 0, .int .i64 0, .int .i64 0, .bool false, .int .i64 0, .int .i64 0] 26))) := hid (G2.out.alloc _)
      have HA2 : Hid (IsLists (w2.alloc (.cells #[.int .i64 2, .string (S []), .slice a 1 ca, .int .i64 0, .int .i64 0, .int .i64 0, .int .i64 0, .int .i64 0, .int .i64 0, .bool false, .int .i64 0, .int .i64 0] 26)) (.slice a 1 ca) [TT]) := hid (HA.out.grow ((G.refl w2).alloc _))
      refine (R2.out _ (HM.out.grow GA.out) (HU.out.grow GA.out)).use ?_
      rintro v w3 hv g3
      obtain ⟨pv, rfl, hpl⟩ := hv
      have HB := hid hpl
      obtain ⟨b, cb, rfl, _⟩ := hpl.len
      clear hpl
      simp only [Vl.v, St0] at HB ⊢
      have rA3 : Hid (w3.heap[w2.heap.size]? = some (.cells #[.int .i64 2, .string (S []), .slice a 1 ca, .int .i64 0, .int .i64 0, .int .i64 0, .int .i64 0, .int .i64 0, .int .i64 0, .bool false, .int .i64 0, .int .i64 0] 26 (0, 0))) := hid (by rw [g3.below.block _ (lt_of_row rA.out)]; exact rA.out)
      have HA3 := hid (HA2.out.grow g3)
      have G3 : Hid (G w w3) := hid (GA.out.trans g3)
      have hq : w2.heap.size < w3.heap.size := lt_of_row rA3.out
      clear g3
      have rB : (w3.alloc (.cells #[.int .i64 3, .string (S []), .slice b ps.length cb, .int .i64 0, .int .i64 0, .int .i64 0, .int .i64 0, .int .i64 0, .int .i64 0, .bool false, .int .i64 0, .int .i64 0] 26)).heap[w3.heap.size]? = some (.cells #[.int .i64 3, .string (S []), .slice b ps.length cb, .int .i64 0, .int .i64 0, .int .i64 0, .int .i64 0, .int .i64 0, .int .i64 0, .bool false, .int .i64 0, .int .i64 0] 26 (0, 0)) := heap_alloc_new w3 _
      have rA4 : (w3.alloc (.cells #[.int .i64 3, .string (S []), .slice b ps.length cb, .int .i64 0, .int .i64 0, .int .i64 0, .int .i64 0, .int .i64 0, .int .i64 0, .bool false, .int .i64 0, .int .i64 0] 26)).heap[w2.heap.size]? = some (.cells #[.int .i64 2, .string (S []), .slice a 1 ca, .int .i64 0, .int .i64 0, .int .i64 0, .int .i64 0, .int .i64 0, .int .i64 0, .bool false, .int .i64 0, .int .i64 0] 26 (0, 0)) := by rw [Lib.alloc_old _ _ _ hq]; exact rA3.out
      have G4 : G w (w3.alloc (.cells #[.int .i64 3, .string (S []), .slice b ps.length cb, .int .i64 0, .int .i64 0, .int .i64 0, .int .i64 0, .int .i64 0, .int .i64 0, .bool false, .int .i64 0, .int .i64 0] 26)) := G3.out.alloc _
      have HA4 : IsLists (w3.alloc (.cells #[.int .i64 3, .string (S []), .slice b ps.length cb, .int .i64 0, .int .i64 0, .int .i64 0, .int .i64 0, .int .i64 0, .int .i64 0, .bool false, .int .i64 0, .int .i64 0] 26)) (.slice a 1 ca) [TT] := HA3.out.grow ((G.refl w3).alloc _)
      have HB4 : IsLists (w3.alloc (.cells #[.int .i64 3, .string (S []), .slice b ps.length cb, .int .i64 0, .int .i64 0, .int .i64 0, .int .i64 0, .int .i64 0, .int .i64 0, .bool false, .int .i64 0, .int .i64 0] 26)) (.slice b ps.length cb) ps := HB.out.grow ((G.refl w3).alloc _)
      obtain ⟨w4, hw4⟩ : ∃ w4, (w3.alloc (.cells #[.int .i64 3, .string (S []), .slice b ps.length cb, .int .i64 0, .int .i64 0, .int .i64 0, .int .i64 0, .int .i64 0, .int .i64 0, .bool false, .int .i64 0, .int .i64 0] 26)) = w4 := ⟨_, rfl⟩
      obtain ⟨q, hqq⟩ : ∃ q, w3.heap.size = q := ⟨_, rfl⟩
      rw [hw4] at rB rA4 G4 HA4 HB4
      rw [hqq] at rB
      obtain ⟨oa, oo, oc, ea, _, hab, hac⟩ := HA4.at_ (by simp)
      simp only [Value.slice.injEq, true_and, List.length_cons, List.length_nil] at ea
      obtain ⟨rfl, rfl⟩ := ea
      obtain ⟨sv, k1, k2⟩ := hac 0 TT rfl
      obtain ⟨ta, tc, rfl, _⟩ := k2.len
      rw [Nat.add_zero] at k1
      have HB5 := hid HB4
      have G5 := hid G4
      clear hac k2 HA4 HB4 G4
      have d0 : w4.cell? ⟨w2.heap.size, 0, none⟩ = some (.int .i64 2) := by rw [cell_of_row w4 w2.heap.size 0 _ _ _ rA4]; rfl
      have d2 : w4.cell? ⟨w2.heap.size, 2, none⟩ = some (.slice (some ⟨oa, oo, none⟩) 1 ca) := by rw [cell_of_row w4 w2.heap.size 2 _ _ _ rA4]; rfl
      have e0 : w4.cell? ⟨q, 0, none⟩ = some (.int .i64 3) := by rw [cell_of_row w4 q 0 _ _ _ rB]; rfl
      have e2 : w4.cell? ⟨q, 2, none⟩ = some (.slice b ps.length cb) := by rw [cell_of_row w4 q 2 _ _ _ rB]; rfl
      clear rA4 rB
      subst hw4
      subst hqq
      go_wp2_with fail
      go_loop [7, 40] (fun nv i => ∃ k : Nat, k ≤ ps.length ∧ i = .int .i64 k ∧ nv = .int .i64 ((sumTo List.length ps k : Nat) : Int)) (fun _ i => ps.length - (intOf i).toNat)
      case atStart => exact ⟨0, Nat.zero_le _, rfl, by rw [sumTo_zero]; rfl⟩
      case round =>
        obtain ⟨k, hk, rfl, rfl⟩ := hrel
        have hst := sumTo_le List.length ps k
        by_cases hlt : k < ps.length
        · obtain ⟨bb, off, c, e1', _, hb', hc⟩ := HB5.out.at_ (by rintro rfl; simp at hlt)
          simp only [Value.slice.injEq, true_and] at e1'
          obtain ⟨rfl, rfl⟩ := e1'
          obtain ⟨sv, f1, i1⟩ := hc k _ (List.getElem?_eq_getElem hlt)
          have hsn := sumTo_snoc List.length ps k hlt
          have hst2 := sumTo_le List.length ps (k + 1)
          obtain ⟨x, hx⟩ : ∃ x, ps[k] = x := ⟨_, rfl⟩
          rw [hx] at i1 hsn
          obtain ⟨xa, xc, hxv, _⟩ := i1.len
          subst hxv
          have HSN := hid hsn
          have hsb : sumTo List.length ps k + x.length ≤ 1000 := by omega
          clear hc i1 hx hsn hst2
          go_wp2_with fail
          go_round
          case rel => exact ⟨k + 1, by omega, by go_num, by rw [HSN.out]; go_num⟩
          case measure => simp [intOf]; omega
        · obtain rfl : k = ps.length := by omega
          have HE2 : Hid (sumTo List.length ps ps.length = (ps.map List.length).sum) := hid (sumTo_all _ _ _ (Nat.le_refl _))
          have hfin : ((TT.length : Nat) : Int) = (((ps.map List.length).sum : Nat) : Int) - ((ps.length : Nat) : Int) + 1 := by have := HSUM.out; omega
          rw [HE2.out]
          clear hst
          obtain ⟨sm, hsm⟩ : ∃ sm, (ps.map List.length).sum = sm := ⟨_, rfl⟩
          rw [hsm] at hfin hpc ⊢
          clear hsm
          go_wp2_with fail
          go_region
          go_wp2_with fail
          go_ret
          exact ⟨ret_bool (by first | (simp; done) | (simp; omega)), by repeat (first | exact G5.out | apply G.drew)⟩
  · go_enter Tryz.func7, Tryz.ntmps7
    go_wp2_with fail
    refine (valued_any _ HM.out HU.out HE.out).use ?_; intro w1 g1
    go_wp2_with fail
    go_ret
    exact ⟨rfl, g1⟩

end Go.Proofs.YtedlgpccmlcijaaGreatDoor
