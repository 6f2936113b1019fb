/-
  The law RulesCases walked.
-/
import Derived.Test.YtpfenaeaegdeaaaDoorRuled
import Derived.Test.YtpfenaeaegdeaaaDoorWide
import Derived.Test.YtpfenaeaegdeaaaDoorNameF
import Derived.Test.YtpfenaeaegdeaaaDoorTell
namespace Go.Proofs.YtpfenaeaegdeaaaDoor
open Go.RowKit
set_option linter.unusedVariables false
set_option linter.unusedSimpArgs false

set_option maxRecDepth 100000 in
set_option maxHeartbeats 400000 in
theorem tell_nil (w : World) : Gives 26 #[.nilIface] w (.int .i64 0) := by
  go_enter Tryd.func26, Tryd.ntmps26
  go_wp2
  go_ret
  exact ⟨rfl, (by repeat (first | exact G.refl _ | assumption | apply G.drew | apply G.alloc | refine G.trans ?_ (by assumption)))⟩
theorem find_upper (ps : List Pm) (s : List UInt8) : findL ps (upperL s) = findL ps s := by
  unfold findL
  congr 1
  funext p
  simp only [sameL, upper_upper]
theorem mem_lensP {p : Pm} {ps : List Pm} (h : p ∈ ps) : lensP p ≤ (ps.map lensP).sum := by
  induction ps with
  | nil => cases h
  | cons a ps ih =>
    rw [List.map_cons, List.sum_cons]
    rcases List.mem_cons.1 h with rfl | h
    · omega
    · have := ih h; omega
theorem mem_lens {x : List UInt8} {vs : List (List UInt8)} (h : x ∈ vs) : x.length ≤ (vs.map List.length).sum := by
  induction vs with
  | nil => cases h
  | cons a vs ih =>
    rw [List.map_cons, List.sum_cons]
    rcases List.mem_cons.1 h with rfl | h
    · omega
    · have := ih h; omega
theorem wideN_name {ps : List Pm} {p : Pm} (h : p ∈ ps) : p.1.length ≤ wideN ps := by
  have := mem_lensP h
  unfold wideN lensP at *
  omega
theorem wideN_value {ps : List Pm} {p : Pm} {x : List UInt8} (h : p ∈ ps) (hx : x ∈ p.2) : x.length ≤ wideN ps := by
  have := mem_lensP h
  have := mem_lens hx
  unfold wideN lensP at *
  omega

set_option maxRecDepth 100000 in
set_option maxHeartbeats 4000000 in
theorem rulesCases_walk (s : List UInt8) (pv : Value) (ps : List Pm) (v : Int) (w : World) (zs : s.length ≤ 140737488351232) (hP : IsParams w pv ps) (hb : wideN ps ≤ 1048576) (zv : -9223372036854775808 ≤ v ∧ v ≤ 9223372036854775807) (hR : RMem w) (hE : LaidE w) : Gives 7 #[.string (S s), pv, .int .i64 v] w (.bool true) := by
  have HR := hid hR
  have HE := hid hE
  have HP := hid hP
  have hnm : ∀ p ∈ ps, p.1.length ≤ 1000000 ∨ True := fun p hp => .inr trivial
  obtain ⟨pa, pc, rfl, _, _⟩ := hP
  have RU := hid (fun W h => ruled_any W h)
  have WD := hid (fun W (h : IsParams W (.slice pa ps.length pc) ps) => wide_any [] [] [] _ ps W h (by omega) (by simp) (by simp) (by simp))
  clear hR hE hnm zv
  by_cases hlong : 100 < (s.length : Int)
  · have b1 : decide (100 < (s.length : Int)) = true := decide_eq_true hlong
    go_enter Tryd.func7, Tryd.ntmps7
    go_wp2_with fail
    refine (RU.out w HR.out).use ?_
    intro w1 g1
    go_wp2_with fail
    go_ret
    exact ⟨rfl, g1⟩
  · have b1 : decide (100 < (s.length : Int)) = false := decide_eq_false hlong
    have hs : s.length ≤ 100 := by omega
    clear hlong zs
    go_enter Tryd.func7, Tryd.ntmps7
    go_wp2_with fail
    refine (RU.out w HR.out).use ?_
    intro w1 g1
    go_wp2_with fail
    refine (WD.out w1 (HP.out.grow g1)).use ?_
    intro w2 g2
    have GW2 := hid (g1.trans g2)
    clear g1 g2
    cases hwd : decide (2500 < wideN ps + ([] : List UInt8).length + ([] : List UInt8).length + ([] : List UInt8).length) with
    | true =>
      go_wp2_with fail
      go_ret
      exact ⟨rfl, GW2.out⟩
    | false =>
      have hH : wideN ps ≤ 2500 := by have := of_decide_eq_false hwd; simp at this; omega
      have hpl : ps.length ≤ 2500 := by unfold wideN at hH; omega
      have h1 : ∀ p ∈ ps, p.1.length ≤ 1000000 := fun p hp => by have := wideN_name hp; omega
      have h2 : ∀ p ∈ ps, ∀ x ∈ p.2, x.length ≤ 1000000 := fun p hp x hx => by have := wideN_value hp hx; omega
      obtain ⟨ua, hua⟩ : ∃ x, x = upperL s := ⟨_, rfl⟩
      obtain ⟨la, hla⟩ : ∃ x, x = lowerL s := ⟨_, rfl⟩
      have hul : ua.length ≤ 100 := by rw [hua]; simpa using hs
      have hll : la.length ≤ 100 := by rw [hla]; simpa using hs
      have U := hid (fun W => show Gives 22 #[.string (S s)] W (.string (S ua)) by rw [hua]; exact upper_any s W (by omega))
      have L := hid (fun W => show Gives 25 #[.string (S s)] W (.string (S la)) by rw [hla]; exact lower_any s W (by omega))
      have FU := hid (fun W (h : IsParams W (.slice pa ps.length pc) ps) => find_any _ ps ua W h (by omega) h1 (by omega))
      have FS := hid (fun W (h : IsParams W (.slice pa ps.length pc) ps) => find_any _ ps s W h (by omega) h1 (by omega))
      have hfe : findL ps ua = findL ps s := by rw [hua]; exact find_upper ps s
      have HFE := hid hfe
      have TN := hid (fun W => tell_nil W)
      have TE := hid (fun W h => tell_eno 1 W h)
      by_cases hv : v = 3 ∨ v = 4
      · obtain ⟨r, hr⟩ : ∃ r, r = ruleOf (tabT v) (upperL s) := ⟨_, rfl⟩
        have e1 : ruleOf (tabT v) (upperL ua) = r := by rw [hua, upper_upper, ← hr]
        have e2 : ruleOf (tabT v) (upperL la) = r := by rw [hla, upper_lower, ← hr]
        have o1 := fun W h => of_any ua v W hv (by omega) h
        have o2 := fun W h => of_any la v W hv (by omega) h
        have t1 := fun W (h : IsParams W (.slice pa ps.length pc) ps) h' => type_any ua _ ps v W hv (by omega) h (by omega) h1 h2 h'
        have t2 := fun W (h : IsParams W (.slice pa ps.length pc) ps) h' => type_any la _ ps v W hv (by omega) h (by omega) h1 h2 h'
        rw [e1] at o1 t1
        rw [e2] at o2 t2
        obtain ⟨tt, htt⟩ : ∃ tt, tt = typeOf r.1 ps := ⟨_, rfl⟩
        rw [← htt] at t1 t2
        obtain ⟨r0, r1, r2, r3⟩ := r
        have O1 := hid o1
        have O2 := hid o2
        have T1 := hid t1
        have T2 := hid t2
        clear o1 o2 t1 t2 e1 e2 hr htt hua hla h1 h2 hfe hwd
        go_wp2_with fail
        refine (U.out _).use ?_
        intro w3 g3
        have G3 := hid (GW2.out.trans g3)
        clear g3
        go_wp2_with fail
        refine (O1.out w3 (HR.out.grow G3.out)).use ?_
        intro w4 g4
        have G4 := hid (G3.out.trans g4)
        clear g4
        go_wp2_with fail
        generalize hwa : World.alloc w4 _ = wa
        have a0 : wa.cell? ⟨w4.heap.size, 0, none⟩ = some (.int .i64 r0) := by rw [← hwa]; simp [go_sem]
        have a1 : wa.cell? ⟨w4.heap.size, 1, none⟩ = some (.int .i64 r1) := by rw [← hwa]; simp [go_sem]
        have a2 : wa.cell? ⟨w4.heap.size, 2, none⟩ = some (.int .i64 r2) := by rw [← hwa]; simp [go_sem]
        have a3 : wa.cell? ⟨w4.heap.size, 3, none⟩ = some (.int .i64 r3) := by rw [← hwa]; simp [go_sem]
        have ha : w4.heap.size < wa.heap.size := World.block_lt_of_cell? _ _ a0
        have GA := hid (show G w wa by rw [← hwa]; exact G4.out.alloc _)
        clear hwa
        refine (L.out wa).use ?_
        intro w5 g5
        have G5 := hid (GA.out.trans g5)
        have K5 := hid g5
        clear g5
        go_wp2_with fail
        refine (O2.out w5 (HR.out.grow G5.out)).use ?_
        intro w6 g6
        have G6 := hid (G5.out.trans g6)
        have K6 := hid (K5.out.trans g6)
        clear g6
        go_wp2_with fail
        generalize hwb : World.alloc w6 _ = wb
        have c0 : wb.cell? ⟨w6.heap.size, 0, none⟩ = some (.int .i64 r0) := by rw [← hwb]; simp [go_sem]
        have c1 : wb.cell? ⟨w6.heap.size, 1, none⟩ = some (.int .i64 r1) := by rw [← hwb]; simp [go_sem]
        have c2 : wb.cell? ⟨w6.heap.size, 2, none⟩ = some (.int .i64 r2) := by rw [← hwb]; simp [go_sem]
        have c3 : wb.cell? ⟨w6.heap.size, 3, none⟩ = some (.int .i64 r3) := by rw [← hwb]; simp [go_sem]
        have hb' : w6.heap.size < wb.heap.size := World.block_lt_of_cell? _ _ c0
        have GB := hid (show G w wb by rw [← hwb]; exact G6.out.alloc _)
        have KB := hid (show G wa wb by rw [← hwb]; exact K6.out.alloc _)
        clear hwb
        refine (U.out wb).use ?_
        intro w7 g7
        have M7 := hid g7
        clear g7
        go_wp2_with fail
        refine (T1.out w7 (HP.out.grow (GB.out.trans M7.out)) (HR.out.grow (GB.out.trans M7.out))).use ?_
        intro w8 g8
        have M8 := hid (M7.out.trans g8)
        clear g8
        go_wp2_with fail
        refine (L.out w8).use ?_
        intro w9 g9
        have M9 := hid (M8.out.trans g9)
        clear g9
        go_wp2_with fail
        refine (T2.out w9 (HP.out.grow (GB.out.trans M9.out)) (HR.out.grow (GB.out.trans M9.out))).use ?_
        intro w10 g10
        have M10 := hid (M9.out.trans g10)
        clear g10
        go_wp2_with fail
        refine (TN.out w10).use ?_
        intro w11 g11
        have M11 := hid (M10.out.trans g11)
        clear g11
        go_wp2_with fail
        refine (TN.out w11).use ?_
        intro w12 g12
        have M12 := hid (M11.out.trans g12)
        have d0 := (G.cell (KB.out.trans M12.out) (p := ⟨w4.heap.size, 0, none⟩) ha).trans a0
        have d1 := (G.cell (KB.out.trans M12.out) (p := ⟨w4.heap.size, 1, none⟩) ha).trans a1
        have d2 := (G.cell (KB.out.trans M12.out) (p := ⟨w4.heap.size, 2, none⟩) ha).trans a2
        have d3 := (G.cell (KB.out.trans M12.out) (p := ⟨w4.heap.size, 3, none⟩) ha).trans a3
        have e0 := (G.cell M12.out (p := ⟨w6.heap.size, 0, none⟩) hb').trans c0
        have e1 := (G.cell M12.out (p := ⟨w6.heap.size, 1, none⟩) hb').trans c1
        have e2 := (G.cell M12.out (p := ⟨w6.heap.size, 2, none⟩) hb').trans c2
        have e3 := (G.cell M12.out (p := ⟨w6.heap.size, 3, none⟩) hb').trans c3
        clear g12 a0 a1 a2 a3 c0 c1 c2 c3
        go_wp2_with fail
        refine (TN.out w12).use ?_
        intro w13 g13
        have M13 := hid (M12.out.trans g13)
        clear g13 d0 d1 d2 d3 e0 e1 e2 e3
        go_wp2_with fail
        refine (TN.out w13).use ?_
        intro w14 g14
        have M14 := hid (M13.out.trans g14)
        clear g14
        go_wp2_with fail
        refine (U.out w14).use ?_
        intro w15 g15
        have M15 := hid (M14.out.trans g15)
        clear g15
        go_wp2_with fail
        refine (FU.out w15 (HP.out.grow (GB.out.trans M15.out))).use ?_
        intro w16 g16
        have M16 := hid (M15.out.trans g16)
        clear g16
        go_wp2_with fail
        refine (FS.out w16 (HP.out.grow (GB.out.trans M16.out))).use ?_
        intro w17 g17
        rw [HFE.out]
        have M17 := hid (M16.out.trans g17)
        clear g17
        go_wp2_with fail
        go_ret
        exact ⟨ret_bool (by simp), GB.out.trans M17.out⟩
      · have h3 : v ≠ 3 := fun h => hv (.inl h)
        have h4 : v ≠ 4 := fun h => hv (.inr h)
        have O1 := hid (fun W => of_no ua v W h3 h4)
        have O2 := hid (fun W => of_no la v W h3 h4)
        have T1 := hid (fun W => type_no ua (.slice pa ps.length pc) v W h3 h4)
        have T2 := hid (fun W => type_no la (.slice pa ps.length pc) v W h3 h4)
        clear hua hla h1 h2 hfe hwd h3 h4 hv
        go_wp2_with fail
        refine (U.out _).use ?_
        intro w3 g3
        have G3 := hid (GW2.out.trans g3)
        clear g3
        go_wp2_with fail
        refine (O1.out w3).use ?_
        intro w4 g4
        have G4 := hid (G3.out.trans g4)
        clear g4
        go_wp2_with fail
        generalize hwa : World.alloc w4 _ = wa
        have a0 : wa.cell? ⟨w4.heap.size, 0, none⟩ = some (.int .i64 0) := by rw [← hwa]; simp [go_sem]
        have a1 : wa.cell? ⟨w4.heap.size, 1, none⟩ = some (.int .i64 0) := by rw [← hwa]; simp [go_sem]
        have a2 : wa.cell? ⟨w4.heap.size, 2, none⟩ = some (.int .i64 0) := by rw [← hwa]; simp [go_sem]
        have a3 : wa.cell? ⟨w4.heap.size, 3, none⟩ = some (.int .i64 0) := by rw [← hwa]; simp [go_sem]
        have ha : w4.heap.size < wa.heap.size := World.block_lt_of_cell? _ _ a0
        have GA := hid (show G w wa by rw [← hwa]; exact G4.out.alloc _)
        clear hwa
        refine (L.out wa).use ?_
        intro w5 g5
        have G5 := hid (GA.out.trans g5)
        have K5 := hid g5
        clear g5
        go_wp2_with fail
        refine (O2.out w5).use ?_
        intro w6 g6
        have G6 := hid (G5.out.trans g6)
        have K6 := hid (K5.out.trans g6)
        clear g6
        go_wp2_with fail
        generalize hwb : World.alloc w6 _ = wb
        have c0 : wb.cell? ⟨w6.heap.size, 0, none⟩ = some (.int .i64 0) := by rw [← hwb]; simp [go_sem]
        have c1 : wb.cell? ⟨w6.heap.size, 1, none⟩ = some (.int .i64 0) := by rw [← hwb]; simp [go_sem]
        have c2 : wb.cell? ⟨w6.heap.size, 2, none⟩ = some (.int .i64 0) := by rw [← hwb]; simp [go_sem]
        have c3 : wb.cell? ⟨w6.heap.size, 3, none⟩ = some (.int .i64 0) := by rw [← hwb]; simp [go_sem]
        have hb' : w6.heap.size < wb.heap.size := World.block_lt_of_cell? _ _ c0
        have GB := hid (show G w wb by rw [← hwb]; exact G6.out.alloc _)
        have KB := hid (show G wa wb by rw [← hwb]; exact K6.out.alloc _)
        clear hwb
        refine (U.out wb).use ?_
        intro w7 g7
        have M7 := hid g7
        clear g7
        go_wp2_with fail
        refine (T1.out w7).use ?_
        intro w8 g8
        have M8 := hid (M7.out.trans g8)
        clear g8
        go_wp2_with fail
        refine (L.out w8).use ?_
        intro w9 g9
        have M9 := hid (M8.out.trans g9)
        clear g9
        go_wp2_with fail
        refine (T2.out w9).use ?_
        intro w10 g10
        have M10 := hid (M9.out.trans g10)
        clear g10
        go_wp2_with fail
        refine (TE.out w10 (HE.out.grow (GB.out.trans M10.out))).use ?_
        intro w11 g11
        have M11 := hid (M10.out.trans g11)
        clear g11
        go_wp2_with fail
        refine (TE.out w11 (HE.out.grow (GB.out.trans M11.out))).use ?_
        intro w12 g12
        have M12 := hid (M11.out.trans g12)
        have d0 := (G.cell (KB.out.trans M12.out) (p := ⟨w4.heap.size, 0, none⟩) ha).trans a0
        have d1 := (G.cell (KB.out.trans M12.out) (p := ⟨w4.heap.size, 1, none⟩) ha).trans a1
        have d2 := (G.cell (KB.out.trans M12.out) (p := ⟨w4.heap.size, 2, none⟩) ha).trans a2
        have d3 := (G.cell (KB.out.trans M12.out) (p := ⟨w4.heap.size, 3, none⟩) ha).trans a3
        have e0 := (G.cell M12.out (p := ⟨w6.heap.size, 0, none⟩) hb').trans c0
        have e1 := (G.cell M12.out (p := ⟨w6.heap.size, 1, none⟩) hb').trans c1
        have e2 := (G.cell M12.out (p := ⟨w6.heap.size, 2, none⟩) hb').trans c2
        have e3 := (G.cell M12.out (p := ⟨w6.heap.size, 3, none⟩) hb').trans c3
        clear g12 a0 a1 a2 a3 c0 c1 c2 c3
        go_wp2_with fail
        refine (TE.out w12 (HE.out.grow (GB.out.trans M12.out))).use ?_
        intro w13 g13
        have M13 := hid (M12.out.trans g13)
        clear g13 d0 d1 d2 d3 e0 e1 e2 e3
        go_wp2_with fail
        refine (TE.out w13 (HE.out.grow (GB.out.trans M13.out))).use ?_
        intro w14 g14
        have M14 := hid (M13.out.trans g14)
        clear g14
        go_wp2_with fail
        refine (U.out w14).use ?_
        intro w15 g15
        have M15 := hid (M14.out.trans g15)
        clear g15
        go_wp2_with fail
        refine (FU.out w15 (HP.out.grow (GB.out.trans M15.out))).use ?_
        intro w16 g16
        have M16 := hid (M15.out.trans g16)
        clear g16
        go_wp2_with fail
        refine (FS.out w16 (HP.out.grow (GB.out.trans M16.out))).use ?_
        intro w17 g17
        rw [HFE.out]
        have M17 := hid (M16.out.trans g17)
        clear g17
        go_wp2_with fail
        go_ret
        exact ⟨ret_bool (by simp), GB.out.trans M17.out⟩

end Go.Proofs.YtpfenaeaegdeaaaDoor
