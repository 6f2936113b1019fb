/-
  Languages as their pieces; the CONTRACT of lang.Canon.
-/
import Derived.Test.YtnllmdognnfnhaaDoorLang
import Derived.Test.YtnllmdognnfnhaaDoorShelf
import Derived.Lib.JoinLaws
import Derived.Deep.RegionWith
namespace Go.Proofs.YtnllmdognnfnhaaDoor
open Go.RowKit
set_option linter.unusedVariables false
set_option linter.unusedSimpArgs false

/-- what one writes for a piece behind the first -/
def canonPiece (q : List UInt8) : List UInt8 := if q.length = 2 then upperL q else if q.length = 4 then upperL (q.take 1) ++ q.drop 1 else q
/-- a text cut at each - -/
def cutsL : List UInt8 → List UInt8 × List (List UInt8)
  | [] => ([], [])
  | c :: t => if c = 45 then ([], (cutsL t).1 :: (cutsL t).2) else (c :: (cutsL t).1, (cutsL t).2)
theorem cuts_join (s : List UInt8) : joinS [45] (cutsL s).1 (cutsL s).2 = s := by
  induction s with
  | nil => rfl
  | cons c t ih =>
    unfold cutsL
    split
    · rename_i h
      subst h
      show [] ++ ([45] ++ joinS [45] (cutsL t).1 (cutsL t).2) = _
      rw [ih]; rfl
    · cases h2 : (cutsL t).2 with
      | nil => rw [h2] at ih; simp only [joinS] at ih ⊢; rw [ih]
      | cons q ps => rw [h2] at ih; simp only [joinS] at ih ⊢; rw [List.cons_append, ih]
theorem cuts_no (s : List UInt8) : (45 : UInt8) ∉ (cutsL s).1 ∧ ∀ q ∈ (cutsL s).2, (45 : UInt8) ∉ q := by
  induction s with
  | nil => exact ⟨by simp [cutsL], by simp [cutsL]⟩
  | cons c t ih =>
    unfold cutsL
    split
    · refine ⟨by simp, fun q hq => ?_⟩
      rcases List.mem_cons.1 hq with rfl | hq
      · exact ih.1
      · exact ih.2 q hq
    · rename_i h
      refine ⟨?_, ih.2⟩
      intro hm
      rcases List.mem_cons.1 hm with e | hm
      · exact h e.symm
      · exact ih.1 hm
/-- the canonical form -/
def canonL (s : List UInt8) : List UInt8 := joinS [45] (cutsL (lowerL s)).1 ((cutsL (lowerL s)).2.map canonPiece)

theorem joinS_tail (sep p : List UInt8) (ps : List (List UInt8)) : joinS sep p ps = p ++ Lib.joinTail sep ps := by
  induction ps generalizing p with
  | nil => simp [joinS, Lib.joinTail]
  | cons q ps ih =>
    show p ++ (sep ++ joinS sep q ps) = _
    rw [ih]; simp [Lib.joinTail]
theorem lib_join (sep p : List UInt8) (ps : List (List UInt8)) : Lib.join (p :: ps) sep = joinS sep p ps := by
  rw [Lib.join_cons, joinS_tail]
theorem joinS_length (sep p : List UInt8) (ps : List (List UInt8)) : (joinS sep p ps).length = p.length + (ps.map fun q => sep.length + q.length).sum := by
  induction ps generalizing p with
  | nil => simp [joinS]
  | cons q ps ih =>
    show (p ++ (sep ++ joinS sep q ps)).length = _
    simp [ih]; omega

/-- a slice of texts of the call's own, that may be written -/
def OwnStrs (w0 w : World) (v : Value) (ls : List (List UInt8)) : Prop := ∃ b, v = .slice (some ⟨b, 0, none⟩) ls.length ls.length ∧ w0.heap.size ≤ b ∧ b < w.heap.size ∧ (∀ (i : Nat) (l : List UInt8), ls[i]? = some l → w.cell? ⟨b, i, none⟩ = some (.string (S l))) ∧ ∀ i, w.frozen? ⟨b, i, none⟩ = false
theorem OwnStrs.grow {w0 w w' : World} {v : Value} {ls : List (List UInt8)} (h : OwnStrs w0 w v ls) (g : G w w') : OwnStrs w0 w' v ls := by
  obtain ⟨b, h1, h2, h3, h4, h5⟩ := h
  exact ⟨b, h1, h2, Nat.lt_of_lt_of_le h3 g.size, fun i l hl => by rw [g.cell h3]; exact h4 i l hl, fun i => by rw [Below.frozen g (p := ⟨b, i, none⟩) h3]; exact h5 i⟩
theorem OwnStrs.set {w0 w : World} {b n : Nat} {ls : List (List UInt8)} (hn : ls.length = n) (h : OwnStrs w0 w (.slice (some ⟨b, 0, none⟩) n n) ls) (i : Nat) (hi : i < n) (x : List UInt8) : OwnStrs w0 (w.setCell ⟨b, i, none⟩ (.string (S x))) (.slice (some ⟨b, 0, none⟩) n n) (ls.set i x) := by
  subst hn
  obtain ⟨b', h1, h2, h3, h4, h5⟩ := h
  simp only [Value.slice.injEq, Option.some.injEq, Addr.mk.injEq, and_true] at h1
  subst h1
  refine ⟨b, by simp, h2, by simpa [World.setCell] using h3, fun j l hl => ?_, fun j => by rw [World.frozen?_setCell]; exact h5 j⟩
  by_cases hj : j = i
  · subst hj
    rw [List.getElem?_set_self hi] at hl
    injection hl with hl
    subst hl
    exact World.cell?_setCell_same _ _ _ (h4 j _ (List.getElem?_eq_getElem hi))
  · rw [List.getElem?_set_ne (by omega)] at hl
    rw [World.cell?_setCell_other _ _ _ _ (by simp; first | done | omega)]
    exact h4 j l hl
theorem OwnStrs.block {w0 w : World} {v : Value} {ls : List (List UInt8)} (h : OwnStrs w0 w v ls) : ∃ b, v = .slice (some ⟨b, 0, none⟩) ls.length ls.length ∧ w0.heap.size ≤ b ∧ b < w.heap.size ∧ (∀ (i : Nat) (l : List UInt8), ls[i]? = some l → w.cell? ⟨b, i, none⟩ = some (.string (S l))) ∧ ∀ i, w.frozen? ⟨b, i, none⟩ = false := h
theorem splitS_own {w0 : World} (c : UInt8) (t p : List UInt8) (ps : List (List UInt8)) (m : Int) (w : World) (g : G w0 w) (hp : c ∉ p) (hq : ∀ q ∈ ps, c ∉ q) (hl : (joinS (c :: t) p ps).length ≤ 1000000) (hm : w.cell? ⟨1, 0, none⟩ = some (.int .i64 m)) :
    Makes 27 #[.string (S (joinS (c :: t) p ps)), .string (S (c :: t))] w (fun v w' => OwnStrs w0 w' v (p :: ps)) := by
  have hcount : Lib.countB (S (joinS (c :: t) p ps)) (S (c :: t)) = ps.length := count_joinS c t ps p hp hq
  have hsplit : Lib.splitB (S (c :: t)) 0 ps.length (S (joinS (c :: t) p ps)) = (p :: ps).map S := by
    refine map_S_data _ _ ?_
    rw [Lib.splitB_data]
    exact split_joinS c t ps p hp hq
  refine (Tryd.strings_Split (S (joinS (c :: t) p ps)) (S (c :: t)) m w (by simp; omega) hm (by simp)).mono ?_
  rintro e w' ⟨rfl, rfl⟩
  rw [hcount, hsplit]
  refine ⟨_, rfl, ⟨w.heap.size, rfl, g.size, by simp, fun i l hl => ?_, fun i => ?_⟩, (G.refl _).alloc _⟩
  · rw [World.cell?_alloc_new]
    simp only [List.getElem?_toArray, List.getElem?_map, hl]; rfl
  · exact World.frozen?_alloc_at _ _ _ _ rfl
theorem join_any (v : Value) (p : List UInt8) (ps : List (List UInt8)) (sep : List UInt8) (w : World) {w0 : World} (h : OwnStrs w0 w v (p :: ps)) (hn : ps.length ≤ 1000000) (hl : (joinS sep p ps).length ≤ 1000000) : Gives 53 #[v, .string (S sep)] w (.string (S (joinS sep p ps))) := by
  obtain ⟨b, rfl, h2, h3, h4, h5⟩ := h
  have hj : Lib.join (((p :: ps).map S).map (·.data.toList)) sep = joinS sep p ps := by
    rw [List.map_map, ← lib_join]
    congr 1
    conv => rhs; rw [← List.map_id (p :: ps)]
    exact List.map_congr_left fun l _ => rfl
  have c := Tryd.strings_Join b 0 (p :: ps).length ((p :: ps).map S) (S sep) w (fun j x hx => by
      rw [Nat.zero_add]
      rw [List.getElem?_map] at hx
      cases hl : (p :: ps)[j]? with
      | none => rw [hl] at hx; cases hx
      | some l =>
        rw [hl] at hx
        injection hx with hx
        rw [h4 j l hl, ← hx]) h3 (by simp; omega) (by simp) (by show (Lib.join _ sep).length ≤ _; rw [hj]; omega)
  rw [List.length_map] at c
  refine c.mono fun e w' ⟨h1, h2⟩ => ⟨?_, h2⟩
  rw [h1]
  show Ending.returned (.string ⟨(Lib.join _ sep).toArray⟩) = _
  rw [hj]; rfl

theorem set_step {α : Type} (T F : List α) (i : Nat) (hl : T.length = F.length) (hi : i < T.length) : (T.take i ++ F.drop i).set i T[i] = T.take (i + 1) ++ F.drop (i + 1) := by
  have hlt : (T.take i).length = i := by simp; omega
  rw [List.set_append_right _ _ (by omega), hlt, Nat.sub_self, List.drop_eq_getElem_cons (by omega : i < F.length), List.set_cons_zero, List.take_succ_eq_append_getElem hi, List.append_assoc]
  rfl
theorem take_step {α : Type} (T F : List α) (i : Nat) (hl : T.length = F.length) (hi : i < T.length) (he : T[i] = F[i]'(by omega)) : T.take i ++ F.drop i = T.take (i + 1) ++ F.drop (i + 1) := by
  rw [List.drop_eq_getElem_cons (by omega : i < F.length), List.take_succ_eq_append_getElem hi, he, List.append_assoc]
  rfl
/-- all pieces of at most so many bytes in all -/
theorem canon_le (q : List UInt8) : (canonPiece q).length = q.length := by
  unfold canonPiece
  split
  · simp
  · split
    · simp; omega
    · rfl
theorem canonL_length (s : List UInt8) : (canonL s).length = s.length := by
  have h := cuts_join (lowerL s)
  have hl : (lowerL s).length = s.length := lowerL_length s
  rw [← h, joinS_length] at hl
  unfold canonL
  rw [joinS_length, List.map_map]
  have : ((fun q : List UInt8 => ([45] : List UInt8).length + q.length) ∘ canonPiece) = fun q => ([45] : List UInt8).length + q.length := by
    funext q; simp [canon_le]
  rw [this, hl]
theorem pieces_count (sep p : List UInt8) (ps : List (List UInt8)) (h : sep ≠ []) : ps.length ≤ (joinS sep p ps).length ∧ ∀ q ∈ p :: ps, q.length ≤ (joinS sep p ps).length := by
  have h1 : 1 ≤ sep.length := by cases sep with | nil => exact absurd rfl h | cons _ _ => simp
  rw [joinS_length]
  induction ps with
  | nil => simp
  | cons q ps ih =>
    obtain ⟨i1, i2⟩ := ih
    simp only [List.map_cons, List.sum_cons, List.length_cons]
    refine ⟨by omega, fun r hr => ?_⟩
    rcases List.mem_cons.1 hr with rfl | hr
    · omega
    · rcases List.mem_cons.1 hr with rfl | hr
      · omega
      · have := i2 r (List.mem_cons_of_mem _ hr); omega

set_option maxRecDepth 100000 in
set_option maxHeartbeats 4000000 in
theorem langCanon_yes (s : List UInt8) (m : Int) (w : World) (hs : s.length ≤ 100000) (hb : langB s = true) (hm : w.cell? ⟨1, 0, none⟩ = some (.int .i64 m)) : Gives 34 #[.string (S s)] w (.tuple #[.string (S (canonL s)), .nilIface]) := by
  have hml : 1 < w.heap.size := World.block_lt_of_cell? w _ hm
  have HM := hid hm
  have HB := hid hb
  obtain ⟨p, hp⟩ : ∃ p, (cutsL (lowerL s)).1 = p := ⟨_, rfl⟩
  obtain ⟨ps, hps⟩ : ∃ ps, (cutsL (lowerL s)).2 = ps := ⟨_, rfl⟩
  have hj : lowerL s = joinS [45] p ps := by rw [← hp, ← hps]; exact (cuts_join _).symm
  have hn := cuts_no (lowerL s)
  rw [hp, hps] at hn
  have hll : (joinS [45] p ps).length = s.length := by rw [← hj]; simp
  obtain ⟨k1, k2⟩ := pieces_count [45] p ps (by simp)
  have HJ := hid hj
  have HN := hid hn
  have HK2 : Hid (∀ q ∈ p :: ps, q.length ≤ 100000) := hid (fun q hq => by have := k2 q hq; omega)
  have HLL : Hid ((joinS [45] p ps).length ≤ 1000000) := hid (by omega)
  have hpsl : ps.length ≤ 100000 := by omega
  have HC : Hid (canonL s = joinS [45] p (ps.map canonPiece)) := hid (by unfold canonL; rw [hp, hps])
  have HCL : Hid ((joinS [45] p (ps.map canonPiece)).length ≤ 1000000) := hid (by
    have := canonL_length s
    rw [HC.out] at this; omega)
  clear hm hb hp hps hj hn hll k1 k2
  go_enter Tryd.func34, Tryd.ntmps34
  go_wp2_with fail
  refine (langRight_any s _ hs).use ?_
  intro v w1 hv g1
  have hv2 : v = .nilIface := by unfold LangPost at hv; rw [if_pos HB.out] at hv; exact hv
  subst hv2
  clear hv
  go_wp2_with fail
  refine (lower_any s _ (by omega)).use ?_; intro w2 g2
  rw [HJ.out]
  go_wp2_with fail
  refine (splitS_own (w0 := w) 45 [] p ps m _ (g1.trans g2) HN.out.1 HN.out.2 HLL.out (by rw [(g1.trans g2).cell hml]; exact HM.out)).use ?_
  intro v w3 hv g3
  obtain ⟨b, rfl, hb0, hb1, hb2, hb3⟩ := hv.block
  have HV := hid hv
  have hl : (p :: ps).length = ps.length + 1 := by simp
  rw [hl]
  obtain ⟨T, hT⟩ : ∃ T, p :: ps.map canonPiece = T := ⟨_, rfl⟩
  obtain ⟨F, hF⟩ : ∃ F, p :: ps = F := ⟨_, rfl⟩
  have hTF : T.length = F.length := by rw [← hT, ← hF]; simp
  have hFn : F.length = ps.length + 1 := by rw [← hF]; simp
  have HT := hid hT
  have HF := hid hF
  have HTF := hid hTF
  have HFN := hid hFn
  have G3 : Hid (G w w3) := hid ((g1.trans g2).trans g3)
  rw [hF] at HV
  clear hv hb2 hb3 hl hT hF hTF hFn
  go_wp2_with fail
  go_loopw [18] (fun iv wr => ∃ i : Nat, iv = .int .i64 i ∧ i ≤ ps.length + 1 ∧ OwnStrs w wr (.slice (some ⟨b, 0, none⟩) (ps.length + 1) (ps.length + 1)) (T.take i ++ F.drop i) ∧ G w wr) (fun iv _ => ps.length + 1 - (intOf iv).toNat)
  case atStart =>
    have := HV.out
    rw [HFN.out] at this
    exact ⟨0, rfl, Nat.zero_le _, by simpa using this, G3.out⟩
  case round =>
    obtain ⟨i, rfl, hi, hown, hg⟩ := hrel
    have HG := hid hg
    have HOWN := hid hown
    clear hown hg
    by_cases hlt : i < ps.length + 1
    · have hiF : i < F.length := by rw [HFN.out]; exact hlt
      have hiT : i < T.length := by rw [HTF.out, HFN.out]; exact hlt
      obtain ⟨x, hx⟩ : ∃ x, F[i]'hiF = x := ⟨_, rfl⟩
      have hxl : x.length ≤ 100000 := HK2.out x (by rw [HF.out, ← hx]; exact List.getElem_mem hiF)
      have hT0 : Hid (∀ y, (i = 0 ∧ y = x ∨ 0 < i ∧ y = canonPiece x) → T[i]'hiT = y) := hid (by
        rintro y (⟨rfl, rfl⟩ | ⟨h0, rfl⟩)
        · have e1 : T[0]? = some p := by rw [← HT.out]; rfl
          have e2 : F[0]? = some p := by rw [← HF.out]; rfl
          rw [List.getElem?_eq_getElem hiT] at e1
          rw [List.getElem?_eq_getElem hiF] at e2
          injection e1 with e1; injection e2 with e2
          rw [e1, ← hx, e2]
        · obtain ⟨j, rfl⟩ : ∃ j, i = j + 1 := ⟨i - 1, by omega⟩
          have e1 : T[j + 1]? = (ps.map canonPiece)[j]? := by rw [← HT.out]; rfl
          have e2 : F[j + 1]? = ps[j]? := by rw [← HF.out]; rfl
          rw [List.getElem?_map, ← e2, List.getElem?_eq_getElem hiT, List.getElem?_eq_getElem hiF, hx] at e1
          injection e1)
      have hlen : Hid ((T.take i ++ F.drop i).length = ps.length + 1) := hid (by simp; rw [HTF.out, HFN.out]; omega)
      obtain ⟨b', hb', -, hb1', hc', hf'⟩ := HOWN.out.block
      simp only [Value.slice.injEq, Option.some.injEq, Addr.mk.injEq, and_true] at hb'
      obtain ⟨rfl, -⟩ := hb'
      have hcell := hc' i x (by
        rw [List.getElem?_append_right (by simp; omega)]
        have : i - (T.take i).length = 0 := by simp; omega
        rw [this, List.drop_eq_getElem_cons hiF, hx]; rfl)
      have hfz := hf' i
      have HX := hid hx
      clear hc' hf' hx
      have same : Hid ((T[i]'hiT = x) → OwnStrs w _ (.slice (some ⟨b, 0, none⟩) (ps.length + 1) (ps.length + 1)) (T.take (i + 1) ++ F.drop (i + 1))) := hid (fun h => by
        have := HOWN.out
        rw [take_step T F i HTF.out hiT (by rw [h, HX.out])] at this
        exact this)
      by_cases h0 : i = 0
      · subst h0
        go_wp2_with fail
        go_roundw
        case rel => exact ⟨1, by go_num, by omega, same.out (hT0.out _ (.inl ⟨rfl, rfl⟩)), HG.out⟩
        case measure => simp [intOf]
      by_cases h2 : x.length = 2
      · have q2 : ((x.length : Int) == 2) = true := by simp [h2]
        have HT2 : Hid (T[i]'hiT = upperL x) := hid (hT0.out _ (.inr ⟨by omega, by unfold canonPiece; rw [if_pos h2]⟩))
        clear h2
        go_wp2_with fail
        refine (upper_any x _ (by omega)).use ?_; intro w5 g5
        have hcell5 := (g5.cell (p := ⟨b, i, none⟩) hb1').trans hcell
        have hfz5 := (Below.frozen g5 (p := ⟨b, i, none⟩) hb1').trans hfz
        have G5 := hid g5
        clear g5 hcell hfz
        go_wp2_with fail
        go_roundw
        case rel =>
          refine ⟨i + 1, by go_num, by omega, ?_, (HG.out.trans G5.out).below.setCell (p := ⟨b, i, none⟩) hb0 _⟩
          have := (HOWN.out.grow G5.out).set hlen.out i hlt (upperL x)
          rw [← HT2.out, set_step T F i HTF.out hiT, HT2.out] at this
          exact this
        case measure => simp [intOf]; omega
      by_cases h4 : x.length = 4
      · have q2 : ((x.length : Int) == 2) = false := by simp [h4]
        have q4 : ((x.length : Int) == 4) = true := by simp [h4]
        have HT4 : Hid (T[i]'hiT = upperL (x.take 1) ++ x.drop 1) := hid (hT0.out _ (.inr ⟨by omega, by unfold canonPiece; rw [if_neg h2, if_pos h4]⟩))
        have h41 : 1 ≤ x.length := by omega
        clear h2 h4
        have hx1 : (x.take 1).length ≤ 1000 := by simp; omega
        have hx2 : (x.drop 1).length ≤ 100000 := by simp; omega
        have hux : (upperL (x.take 1)).length ≤ 1000 := by rw [upperL_length]; exact hx1
        go_wp2_with fail
        go_region_with (go_at_call 36; refine (upper_any (x.take 1) _ (by omega)).use ?_; intro w5 g5; have hcell5 := (g5.cell (p := ⟨b, i, none⟩) hb1').trans hcell; have hfz5 := (Below.frozen g5 (p := ⟨b, i, none⟩) hb1').trans hfz; have G5 := hid g5; clear g5)
        all_goals
          go_wp2_with fail
          go_roundw
          case rel =>
            refine ⟨i + 1, by go_num, by omega, ?_, ((HG.out.drew).trans G5.out).below.setCell (p := ⟨b, i, none⟩) hb0 _⟩
            have := ((HOWN.out.grow (G.refl _).drew).grow G5.out).set hlen.out i hlt (upperL (x.take 1) ++ x.drop 1)
            rw [← HT4.out, set_step T F i HTF.out hiT, HT4.out, List.drop_one] at this
            exact this
          case measure => simp [intOf]; omega
      · have q2 : ((x.length : Int) == 2) = false := beq_eq_false_iff_ne.2 (by omega)
        have q4 : ((x.length : Int) == 4) = false := beq_eq_false_iff_ne.2 (by omega)
        have HT4 : Hid (T[i]'hiT = x) := hid (hT0.out _ (.inr ⟨by omega, by unfold canonPiece; rw [if_neg h2, if_neg h4]⟩))
        clear h2 h4
        go_wp2_with fail
        go_roundw
        case rel => exact ⟨i + 1, by go_num, by omega, same.out HT4.out, HG.out⟩
        case measure => simp [intOf]; omega
    · obtain rfl : i = ps.length + 1 := by omega
      have HOW2 : Hid (OwnStrs w _ (.slice (some ⟨b, 0, none⟩) (ps.length + 1) (ps.length + 1)) (p :: ps.map canonPiece)) := hid (by
        have := HOWN.out
        rw [List.take_of_length_le (by rw [HTF.out, HFN.out]; omega), List.drop_eq_nil_of_le (by rw [HFN.out]; omega), List.append_nil, ← HT.out] at this
        exact this)
      go_wp2_with fail
      refine (join_any _ p (ps.map canonPiece) [45] _ HOW2.out (by simp; omega) HCL.out).use ?_; intro w5 g5
      go_wp2_with fail
      go_ret2
      exact ⟨by rw [HC.out]; rfl, HG.out.trans g5⟩

set_option maxRecDepth 100000 in
set_option maxHeartbeats 1000000 in
theorem langCanon_no (s : List UInt8) (w : World) (hs : s.length ≤ 100000) (hb : langB s = false) : Makes 34 #[.string (S s)] w (fun v w' => ∃ e c p, v = .tuple #[.string (S []), e] ∧ IsAt w' e c p) := by
  have HB := hid hb
  clear hb
  go_enter Tryd.func34, Tryd.ntmps34
  go_wp2_with fail
  refine (langRight_any s _ hs).use ?_
  intro v w1 hv g1
  unfold LangPost at hv
  rw [if_neg (by rw [HB.out]; simp)] at hv
  obtain ⟨c, p, b, rfl, h1, h2, h3⟩ := hv
  have H1 := hid h1
  have H2 := hid h2
  clear h1 h2
  go_wp2_with fail
  go_ret2
  exact ⟨_, rfl, ⟨_, c, p, rfl, b, rfl, H1.out, H2.out, h3⟩, g1⟩

end Go.Proofs.YtnllmdognnfnhaaDoor
