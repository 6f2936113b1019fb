/-
  CONTRACT of convert.big. (written by gen_convbig.py)
-/
import Derived.Test.YtdmbhoagjjkogaaGreatDoorConvOther
import Derived.Test.YtdmbhoagjjkogaaGreatDoorMA37
import Derived.Test.YtdmbhoagjjkogaaGreatDoorPrefers
import Derived.Test.YtdmbhoagjjkogaaGreatDoorMA39
namespace Go.Proofs.YtdmbhoagjjkogaaGreatDoor
open Go.RowKit
set_option linter.unusedVariables false
set_option linter.unusedSimpArgs false
def ItB (w : World) (r : Value) (y : It × Bool) : Prop := ∃ pv lv, r = .tuple #[y.1.val pv lv, .bool y.2] ∧ ItOk w y.1 pv lv
theorem ItB.of {w : World} {y z : It × Bool} {pv lv : Value} (h : z = y) (ho : ItOk w y.1 pv lv) : ItB w (.tuple #[y.1.val pv lv, .bool y.2]) z := by subst h; exact ⟨_, _, rfl, ho⟩
theorem ItOk.into {w w' : World} {x : It} {pv lv : Value} {X : Nat} {L : List Nat} (h : ItOk (Wl L w) x pv lv) (g : G w w') (hX : w.heap.size ≤ X) : ItOk (Wl (X :: L) w') x pv lv := h.grow (Wl.into g hX)
theorem ItOk.wo {w w' : World} {x : It} {pv lv : Value} {L : List Nat} (h : ItOk (Wl L w) x pv lv) (g : G w w') : ItOk (Wl L w') x pv lv := h.grow (Wl.g g)
theorem ItOk.ps {w : World} {x : It} {pv lv u : Value} {qs : List Pm} (h : ItOk w x pv lv) (hu : PmR w u qs) : ItOk w ⟨x.g, x.n, qs, x.v⟩ u lv := ⟨hu.p, h.l, hu.f, h.y, h.t⟩
theorem put_ps {W : World} {b : Nat} {x : It} {pv lv u : Value} {t : TypeId} {qs : List Pm} (h : W.heap[b]? = some (.cells (x.cells pv lv).toArray t (0, 0))) : (W.setCell ⟨b, 2, none⟩ u).heap[b]? = some (.cells ((It.cells ⟨x.g, x.n, qs, x.v⟩ u lv)).toArray t (0, 0)) := by
  simp [World.setCell, Array.getElem?_modify, h, It.cells]
theorem sml_names {x : It} (h : Sml x) : ∀ p ∈ x.ps, p.1.length ≤ 1000000 := fun p hp => by
  have h1 : lensP p ≤ (x.ps.map lensP).sum := mem_le_sum (List.mem_map_of_mem hp)
  have h2 : lensP p = p.1.length + p.2.length + (p.2.map List.length).sum := rfl
  have h0 := h.h
  unfold wideN at h0
  omega
theorem sml_vals {x : It} (h : Sml x) : ∀ p ∈ x.ps, p.2.length ≤ 100000 ∧ ∀ u ∈ p.2, u.length ≤ 100000 := fun p hp => by
  have h1 : lensP p ≤ (x.ps.map lensP).sum := mem_le_sum (List.mem_map_of_mem hp)
  have h2 : lensP p = p.1.length + p.2.length + (p.2.map List.length).sum := rfl
  have h0 := h.h
  unfold wideN at h0
  refine ⟨by omega, fun u hu => ?_⟩
  have : u.length ≤ (p.2.map List.length).sum := mem_le_sum (List.mem_map_of_mem hu)
  omega
theorem sml_count {x : It} (h : Sml x) : x.ps.length ≤ 10000 := by
  have h0 := h.h
  unfold wideN at h0
  omega
theorem decode_form (l : List UInt8) (w : World) (hl : l.length ≤ 1000000) : Makes 112 #[.string (S l)] w (fun r _ => (∃ bs, l.length % 4 = 0 ∧ b64D l = .ok bs ∧ bs.length ≤ l.length ∧ r = .tuple #[.string (S bs), .nilIface]) ∨ ((l.length % 4 ≠ 0 ∨ ∃ q, b64D l = .error q) ∧ ∃ t u, r = .tuple #[.string (S []), .iface t u])) := by
  refine Makes.mono (b64decode_any l w (by omega)) ?_
  intro r w' _ h
  unfold DecPost at h
  by_cases h4 : l.length % 4 = 0
  · rw [if_neg (by omega)] at h
    cases hd : b64D l with
    | ok bs =>
      rw [hd] at h
      refine .inl ⟨bs, h4, rfl, ?_, h⟩
      have := congrArg List.length (enc_dec l bs h4 hd)
      rw [b64E_length] at this
      omega
    | error q =>
      rw [hd] at h
      obtain ⟨e, h1, b, h2, _⟩ := h
      exact .inr ⟨.inr ⟨q, rfl⟩, _, _, by rw [h1, h2]⟩
  · rw [if_pos h4] at h
    obtain ⟨e, h1, b, h2, _⟩ := h
    exact .inr ⟨.inl h4, _, _, by rw [h1, h2]⟩
theorem mediaL_len {nn : List UInt8} {x : It} (h : Sml x) : (mediaL nn x.ps).length ≤ 200000 := by
  unfold mediaL
  split
  · simp [octets]
  · rename_i i hi
    have h1 := find_lt hi
    have h2 : (val0 x.ps i).length ≤ 100000 := by
      unfold val0
      simp only [List.getD_eq_getElem?_getD, List.getElem?_eq_getElem h1, Option.getD_some]
      cases hv : (x.ps[i]).2[0]? with
      | none => simp
      | some v => exact (sml_vals h _ (List.getElem_mem h1)).2 v (List.mem_of_getElem? hv)
    have h3 : (kindM nn).length ≤ 12 := by unfold kindM; split; (· decide); split <;> decide
    rw [List.length_append, lowerL_length]
    omega
theorem ret_two {fn : Func} {Q : Ending → World → Prop} {a : Act} {WF : World} {X s t : Nat} {y : It} {pv lv : Value} {bv : Bool} (hres : fn.results = #[.cell s 31, .tmp t]) (hp : a.tmps.getD s undef = .pointer (some ⟨X, 0, none⟩)) (hb : a.tmps.getD t undef = .bool bv) (hd : a.defers = []) (hrow : WF.heap[X]? = some (.cells (y.cells pv lv).toArray 31 (0, 0))) (hQ : Q (.returned (.tuple #[y.val pv lv, .bool bv])) WF) : bodyPost Tryz.prog fn Q .ret a WF := by
  obtain ⟨e0, e1, e2, e3, e4, e5, e6, e7, e8, e9, e10, e11, e12, e13, e14⟩ := box_item hrow
  refine bodyPost_ret (v := .tuple #[It.val y pv lv, .bool bv]) ?_ hd hQ
  have hp2 : a.tmps[s]?.getD undef = .pointer (some ⟨X, 0, none⟩) := by simpa using hp
  have hb2 : a.tmps[t]?.getD undef = .bool bv := by simpa using hb
  simp only [results, hres]
  go_simp
set_option maxRecDepth 100000 in
set_option maxHeartbeats 16000000 in
theorem big_none (L : List Nat) (nn : List UInt8) (x : It) (pv lv : Value) (w : World) (hX : ∀ X ∈ L, X < w.heap.size) (h : ItOk (Wl L w) x pv lv) (hs : Sml x) (hne : ∀ p ∈ x.ps, p.2 ≠ []) (hfn : findL x.ps nENC = none) : Makes 68 #[.string (S nn), x.val pv lv] w (fun r w' => ItB (Wl L w') r (bigX nn x)) := by
  have HIT := hid h
  have HS := hid hs
  have HNE := hid hne
  have hpc := sml_count hs
  obtain ⟨pa, pc, rfl⟩ := h.un.pv
  obtain ⟨la, lc, rfl⟩ := h.un.lv
  have hXL : ∀ W : World, w.heap.size + 1 < W.heap.size → ∀ X ∈ w.heap.size :: (w.heap.size + 1) :: L, X < W.heap.size := fun W h1 X hx => by
    rcases List.mem_cons.1 hx with rfl | hx
    · omega
    rcases List.mem_cons.1 hx with rfl | hx
    · exact h1
    · have := hX X hx; omega
  have HXL := hid hXL
  clear h hs hne hXL hX
  have FD0 := fun W (g : G w W) => find_any (.slice pa x.ps.length pc) x.ps nENC W (HIT.out.un.p.grow g) (by omega) (sml_names HS.out) (by simp [nENC])
  have FD := hid FD0
  unfold nENC at FD
  clear FD0
  obtain ⟨f, hf⟩ : ∃ f, f = findL x.ps nENC := ⟨_, rfl⟩
  rw [show findL x.ps [69, 78, 67, 79, 68, 73, 78, 71] = f from hf.symm] at FD
  have HF := hid hf.symm
  clear hf
  go_enter Tryz.func68, Tryz.ntmps68
  go_wp2_with fail
  generalize hw0 : (w.alloc _).alloc _ = w0
  have HB0 := hid (show w0.heap[w.heap.size]? = some (.cells (x.cells (.slice pa x.ps.length pc) (.slice la x.v.ps.length lc)).toArray 31 (0, 0)) by rw [← hw0, Lib.alloc_old _ _ _ (by simp)]; exact heap_alloc_new w _)
  have HX0 := hid (show w0.heap[w.heap.size + 1]? = some (.cells (zIt.cells (.slice none 0 0) (.slice none 0 0)).toArray 31 (0, 0)) by rw [← hw0]; exact new_2 _ _ _)
  have G0 := hid (show G w w0 by rw [← hw0]; exact ((G.refl w).alloc _).alloc _)
  clear hw0
  refine (FD.out w0 G0.out).use ?_
  intro w1 g1
  have HB := hid (row_up HB0.out g1)
  have HBX := hid (row_up HX0.out g1)
  have G1 := hid (G0.out.trans g1)
  have IT1 := hid (show ItOk (Wl (w.heap.size :: (w.heap.size + 1) :: L) w1) x (.slice pa x.ps.length pc) (.slice la x.v.ps.length lc) from HIT.out.grow (Wl.g (L := L) (show G w (Wo (w.heap.size + 1) (Wo w.heap.size w1)) from Wo.of (Wo.of G1.out (Nat.le_refl _)) (by omega))))
  have hsz1 : w.heap.size + 1 < w1.heap.size := lt_of_row HBX.out
  clear g1
  · have hfz : f = none := HF.out.symm.trans hfn
    subst hfz
    simp only [findV]
    by_cases h4 : x.v.ty = 4
    · have b4 : (x.v.ty == 4) = true := by simpa using h4
      have HR := hid (show bigX nn x = (⟨x.g, x.n, withoutL x.ps nVALUE, x.v⟩, true) by unfold bigX; rw [HF.out]; simp only; rw [if_pos h4])
      have WO := hid (without_any (w.heap.size :: (w.heap.size + 1) :: L) (.slice pa x.ps.length pc) nVALUE x.ps w1 (HXL.out w1 hsz1) IT1.out.pm hpc (sml_names HS.out) (by simp [nVALUE]))
      unfold nVALUE at WO
      clear h4
      obtain ⟨q0, q1, q2, q3, q4, q5, q6, q7, q8, q9, q10, q11, q12, q13, q14⟩ := box_item HB.out
      obtain ⟨c0, c1, c2, c3, c4, c5, c6, c7, c8, c9, c10, c11, c12, c13, c14⟩ := box_item HBX.out
      have fz := fun i => Lib.frozen_of_heap HBX.out i
      go_wp2_with fail
      refine WO.out.use ?_
      intro u w2 hu g2
      obtain ⟨ua, um, uc, rfl⟩ := hu.sl
      have HU := hid hu
      have hb2 := row_up HB.out g2
      have f2 := Lib.frozen_of_heap hb2 2
      obtain ⟨_, _, r2, _⟩ := box_item hb2
      obtain ⟨w3, hw3⟩ : ∃ w3, w2.setCell ⟨w.heap.size, 2, none⟩ (.slice ua um uc) = w3 := ⟨_, rfl⟩
      have HB3 := hid (show w3.heap[w.heap.size]? = some (.cells ((It.cells ⟨x.g, x.n, withoutL x.ps nVALUE, x.v⟩ (.slice ua um uc) (.slice la x.v.ps.length lc))).toArray 31 (0, 0)) by rw [← hw3]; exact put_ps hb2)
      have HBX3 := hid (show w3.heap[w.heap.size + 1]? = some (.cells (zIt.cells (.slice none 0 0) (.slice none 0 0)).toArray 31 (0, 0)) by rw [← hw3, Below.heap_setCell _ _ _ _ (by simp only; omega)]; exact row_up HBX.out g2)
      have G3 := hid (show G w w3 by rw [← hw3]; exact g_set (G1.out.trans g2) (Nat.le_refl _))
      have IT3 := hid (show ItOk (Wl (w.heap.size :: (w.heap.size + 1) :: L) w3) ⟨x.g, x.n, withoutL x.ps nVALUE, x.v⟩ (.slice ua um uc) (.slice la x.v.ps.length lc) by rw [← hw3, Wl.setm (by simp)]; exact (IT1.out.wo g2).ps HU.out)
      clear q0 q1 q2 q3 q4 q5 q6 q7 q8 q9 q10 q11 q12 q13 q14 c0 c1 c2 c3 c4 c5 c6 c7 c8 c9 c10 c11 c12 c13 c14 fz hu
      obtain ⟨q0, q1, q2, q3, q4, q5, q6, q7, q8, q9, q10, q11, q12, q13, q14⟩ := box_item HB3.out
      obtain ⟨c0, c1, c2, c3, c4, c5, c6, c7, c8, c9, c10, c11, c12, c13, c14⟩ := box_item HBX3.out
      have fz := fun i => Lib.frozen_of_heap HBX3.out i
      go_wp2_with fail
      generalize hWF : World.setCell (World.setCell (World.setCell (World.setCell (World.setCell (World.setCell (World.setCell (World.setCell (World.setCell (World.setCell (World.setCell (World.setCell (World.setCell (World.setCell (World.setCell w3 _ _) _ _) _ _) _ _) _ _) _ _) _ _) _ _) _ _) _ _) _ _) _ _) _ _) _ _) _ _ = WF
      have hrow : WF.heap[w.heap.size + 1]? = some (.cells ((It.cells ⟨x.g, x.n, withoutL x.ps nVALUE, x.v⟩ (.slice ua um uc) (.slice la x.v.ps.length lc))).toArray 31 (0, 0)) := by
        rw [← hWF]
        exact setI_row HBX3.out rfl _ _ _ _ _ _ _ _ _ _ _ _ _ _ _
      have hgf : G w WF := by rw [← hWF]; exact setI_g (by omega) G3.out _ _ _ _ _ _ _ _ _ _ _ _ _ _ _
      have hok : ItOk (Wl L WF) ⟨x.g, x.n, withoutL x.ps nVALUE, x.v⟩ (.slice ua um uc) (.slice la x.v.ps.length lc) := ItOk.sub (by rw [← hWF, setI_wm (by simp)]; exact IT3.out) ((Wl.tail w.heap.size _ WF).trans (Wl.tail (w.heap.size + 1) L WF))
      exact ret_two rfl rfl rfl rfl hrow ⟨_, rfl, ItB.of HR.out hok, hgf⟩
    · have b4 : (x.v.ty == 4) = false := by simpa using h4
      have HR := hid (show bigX nn x = (x, false) by unfold bigX; rw [HF.out]; simp only; rw [if_neg h4])
      obtain ⟨q0, q1, q2, q3, q4, q5, q6, q7, q8, q9, q10, q11, q12, q13, q14⟩ := box_item HB.out
      obtain ⟨c0, c1, c2, c3, c4, c5, c6, c7, c8, c9, c10, c11, c12, c13, c14⟩ := box_item HBX.out
      have fz := fun i => Lib.frozen_of_heap HBX.out i
      go_wp2_with fail
      generalize hWF : World.setCell (World.setCell (World.setCell (World.setCell (World.setCell (World.setCell (World.setCell (World.setCell (World.setCell (World.setCell (World.setCell (World.setCell (World.setCell (World.setCell (World.setCell w1 _ _) _ _) _ _) _ _) _ _) _ _) _ _) _ _) _ _) _ _) _ _) _ _) _ _) _ _) _ _ = WF
      have hrow : WF.heap[w.heap.size + 1]? = some (.cells ((It.cells x (.slice pa x.ps.length pc) (.slice la x.v.ps.length lc))).toArray 31 (0, 0)) := by
        rw [← hWF]
        exact setI_row HBX.out rfl _ _ _ _ _ _ _ _ _ _ _ _ _ _ _
      have hgf : G w WF := by rw [← hWF]; exact setI_g (by omega) G1.out _ _ _ _ _ _ _ _ _ _ _ _ _ _ _
      have hok : ItOk (Wl L WF) x (.slice pa x.ps.length pc) (.slice la x.v.ps.length lc) := ItOk.sub (by rw [← hWF, setI_wm (by simp)]; exact IT1.out) ((Wl.tail w.heap.size _ WF).trans (Wl.tail (w.heap.size + 1) L WF))
      exact ret_two rfl rfl rfl rfl hrow ⟨_, rfl, ItB.of HR.out hok, hgf⟩
set_option maxRecDepth 100000 in
set_option maxHeartbeats 16000000 in
theorem big_bad (L : List Nat) (nn : List UInt8) (x : It) (pv lv : Value) (w : World) (hX : ∀ X ∈ L, X < w.heap.size) (h : ItOk (Wl L w) x pv lv) (hs : Sml x) (hne : ∀ p ∈ x.ps, p.2 ≠ []) (i : Nat) (hfn : findL x.ps nENC = some i) (hbad0 : ¬ (sameL (val0 x.ps i) [98] = true ∧ x.v.ty = 8)) : Makes 68 #[.string (S nn), x.val pv lv] w (fun r w' => ItB (Wl L w') r (bigX nn x)) := by
  have HIT := hid h
  have HS := hid hs
  have HNE := hid hne
  have hpc := sml_count hs
  obtain ⟨pa, pc, rfl⟩ := h.un.pv
  obtain ⟨la, lc, rfl⟩ := h.un.lv
  have hXL : ∀ W : World, w.heap.size + 1 < W.heap.size → ∀ X ∈ w.heap.size :: (w.heap.size + 1) :: L, X < W.heap.size := fun W h1 X hx => by
    rcases List.mem_cons.1 hx with rfl | hx
    · omega
    rcases List.mem_cons.1 hx with rfl | hx
    · exact h1
    · have := hX X hx; omega
  have HXL := hid hXL
  clear h hs hne hXL hX
  have FD0 := fun W (g : G w W) => find_any (.slice pa x.ps.length pc) x.ps nENC W (HIT.out.un.p.grow g) (by omega) (sml_names HS.out) (by simp [nENC])
  have FD := hid FD0
  unfold nENC at FD
  clear FD0
  obtain ⟨f, hf⟩ : ∃ f, f = findL x.ps nENC := ⟨_, rfl⟩
  rw [show findL x.ps [69, 78, 67, 79, 68, 73, 78, 71] = f from hf.symm] at FD
  have HF := hid hf.symm
  clear hf
  go_enter Tryz.func68, Tryz.ntmps68
  go_wp2_with fail
  generalize hw0 : (w.alloc _).alloc _ = w0
  have HB0 := hid (show w0.heap[w.heap.size]? = some (.cells (x.cells (.slice pa x.ps.length pc) (.slice la x.v.ps.length lc)).toArray 31 (0, 0)) by rw [← hw0, Lib.alloc_old _ _ _ (by simp)]; exact heap_alloc_new w _)
  have HX0 := hid (show w0.heap[w.heap.size + 1]? = some (.cells (zIt.cells (.slice none 0 0) (.slice none 0 0)).toArray 31 (0, 0)) by rw [← hw0]; exact new_2 _ _ _)
  have G0 := hid (show G w w0 by rw [← hw0]; exact ((G.refl w).alloc _).alloc _)
  clear hw0
  refine (FD.out w0 G0.out).use ?_
  intro w1 g1
  have HB := hid (row_up HB0.out g1)
  have HBX := hid (row_up HX0.out g1)
  have G1 := hid (G0.out.trans g1)
  have IT1 := hid (show ItOk (Wl (w.heap.size :: (w.heap.size + 1) :: L) w1) x (.slice pa x.ps.length pc) (.slice la x.v.ps.length lc) from HIT.out.grow (Wl.g (L := L) (show G w (Wo (w.heap.size + 1) (Wo w.heap.size w1)) from Wo.of (Wo.of G1.out (Nat.le_refl _)) (by omega))))
  have hsz1 : w.heap.size + 1 < w1.heap.size := lt_of_row HBX.out
  clear g1
  · have hfz : f = some i := HF.out.symm.trans hfn
    subst hfz
    simp only [findV]
    have hi := find_lt HF.out
    have hvs := HNE.out _ (List.getElem_mem hi)
    obtain ⟨p, hpe⟩ : ∃ p, x.ps[i] = p := ⟨_, rfl⟩
    have HXP := hid (show x.ps[i]? = some p by rw [List.getElem?_eq_getElem hi, hpe])
    rw [hpe] at hvs
    obtain ⟨v0, vr, hvr⟩ := List.exists_cons_of_ne_nil hvs
    have hv0l : v0.length ≤ 100000 := (sml_vals HS.out p (List.mem_of_getElem? HXP.out)).2 v0 (by rw [hvr]; exact List.mem_cons_self)
    have HV0 := hid (show val0 x.ps i = v0 by unfold val0; simp only [List.getD_eq_getElem?_getD, HXP.out, Option.getD_some, hvr]; rfl)
    obtain ⟨a2, cap2, e1, _, hc⟩ := IT1.out.un.p
    obtain ⟨b, off, e2, hb, hcc⟩ := hc (by intro e; rw [e] at hi; simp at hi)
    clear hc
    simp only [Value.slice.injEq, true_and] at e1
    obtain ⟨rfl, rfl⟩ := e1
    subst e2
    obtain ⟨sv, c1', c2', c3'⟩ := hcc i _ HXP.out
    rw [hvr] at c3'
    obtain ⟨b2, o2, cc2, hsv, _, hb2, hc2⟩ := c3'.at_ (by simp)
    have d0 := hc2 0 _ rfl
    rw [Nat.add_zero] at d0
    subst hsv
    simp only [List.length_cons] at c2'
    have hkl : (i : Int) < (x.ps.length : Int) := by omega
    have hi0 : ¬ (i : Int) < 0 := by omega
    clear hcc c3' hc2 hpe hvs
    have SM := hid (fun W => same_any v0 [98] W (by omega) (by simp))
    obtain ⟨sm, hsm⟩ : ∃ sm, sm = sameL v0 [98] := ⟨_, rfl⟩
    rw [← hsm] at SM
    have HSM := hid hsm
    clear hsm
    have ways : ((sm = false ∨ x.v.ty ≠ 8) ∧ ((sm = false ∧ (x.v.ty == 4) = true) ∨ (sm = false ∧ (x.v.ty == 4) = false) ∨ (sm = true ∧ (x.v.ty == 4) = true ∧ (x.v.ty != 8) = true) ∨ (sm = true ∧ (x.v.ty == 4) = false ∧ (x.v.ty != 8) = true))) ∨ (sm = true ∧ x.v.ty = 8) := by
      by_cases h8 : x.v.ty = 8
      · cases sm with
        | true => exact .inr ⟨rfl, h8⟩
        | false => exact .inl ⟨.inl rfl, .inr (.inl ⟨rfl, by rw [h8]; rfl⟩)⟩
      · have e8 : (x.v.ty != 8) = true := by simpa using h8
        cases h4 : (x.v.ty == 4) <;> cases sm <;> simp_all
    rcases ways with ⟨hbad, hw⟩ | ⟨hsm1, h8⟩
    · have HR := hid (show bigX nn x = (x, false) by
        unfold bigX
        rw [HF.out]
        simp only
        rw [if_neg (by
          rw [HV0.out, ← HSM.out]
          rintro ⟨e1, e2⟩
          rcases hbad with h | h
          · rw [h] at e1; cases e1
          · exact h e2)])
      clear hbad
      rcases hw with ⟨rfl, b4⟩ | ⟨rfl, b4⟩ | ⟨rfl, b4, b8⟩ | ⟨rfl, b4, b8⟩
      all_goals
        obtain ⟨q0, q1, q2, q3, q4, q5, q6, q7, q8, q9, q10, q11, q12, q13, q14⟩ := box_item HB.out
        obtain ⟨c0, c1, c2, c3, c4, c5, c6, c7, c8, c9, c10, c11, c12, c13, c14⟩ := box_item HBX.out
        have fz := fun i => Lib.frozen_of_heap HBX.out i
        go_wp2_with fail
        refine (SM.out w1).use ?_
        intro w2 g2
        have HB2 := hid (row_up HB.out g2)
        have HBX2 := hid (row_up HBX.out g2)
        have G2 := hid (G1.out.trans g2)
        have IT2 := hid (IT1.out.wo g2)
        clear q0 q1 q2 q3 q4 q5 q6 q7 q8 q9 q10 q11 q12 q13 q14 c0 c1 c2 c3 c4 c5 c6 c7 c8 c9 c10 c11 c12 c13 c14 fz
        obtain ⟨q0, q1, q2, q3, q4, q5, q6, q7, q8, q9, q10, q11, q12, q13, q14⟩ := box_item HB2.out
        obtain ⟨c0, c1, c2, c3, c4, c5, c6, c7, c8, c9, c10, c11, c12, c13, c14⟩ := box_item HBX2.out
        have fz := fun i => Lib.frozen_of_heap HBX2.out i
        go_wp2_with fail
        generalize hWF : World.setCell (World.setCell (World.setCell (World.setCell (World.setCell (World.setCell (World.setCell (World.setCell (World.setCell (World.setCell (World.setCell (World.setCell (World.setCell (World.setCell (World.setCell w2 _ _) _ _) _ _) _ _) _ _) _ _) _ _) _ _) _ _) _ _) _ _) _ _) _ _) _ _) _ _ = WF
        have hrow : WF.heap[w.heap.size + 1]? = some (.cells ((It.cells x (.slice (some ⟨b, off, none⟩) x.ps.length pc) (.slice la x.v.ps.length lc))).toArray 31 (0, 0)) := by
          rw [← hWF]
          exact setI_row HBX2.out rfl _ _ _ _ _ _ _ _ _ _ _ _ _ _ _
        have hgf : G w WF := by rw [← hWF]; exact setI_g (by omega) G2.out _ _ _ _ _ _ _ _ _ _ _ _ _ _ _
        have hok : ItOk (Wl L WF) x (.slice (some ⟨b, off, none⟩) x.ps.length pc) (.slice la x.v.ps.length lc) := ItOk.sub (by rw [← hWF, setI_wm (by simp)]; exact IT2.out) ((Wl.tail w.heap.size _ WF).trans (Wl.tail (w.heap.size + 1) L WF))
        exact ret_two rfl rfl rfl rfl hrow ⟨_, rfl, ItB.of HR.out hok, hgf⟩
    · exact absurd ⟨by rw [HV0.out, ← HSM.out]; exact hsm1, h8⟩ hbad0
end Go.Proofs.YtdmbhoagjjkogaaGreatDoor
