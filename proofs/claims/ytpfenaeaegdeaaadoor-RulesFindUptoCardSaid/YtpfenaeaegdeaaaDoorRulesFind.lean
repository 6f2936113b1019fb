/-
  The law RulesFind walked.
-/
import Derived.Test.YtpfenaeaegdeaaaDoorFindFunc
import Derived.Test.YtpfenaeaegdeaaaDoorNamesPlain
import Derived.Test.YtpfenaeaegdeaaaDoorRulesFitLaw
import Derived.Test.YtpfenaeaegdeaaaDoorRulesCases
import Derived.Deep.AppendLies
namespace Go.Proofs.YtpfenaeaegdeaaaDoor
open Go.RowKit
set_option linter.unusedVariables false
set_option linter.unusedSimpArgs false

theorem findL_snoc (ps : List Pm) (p : Pm) : findL (ps ++ [p]) p.1 = some ((findL ps p.1).getD ps.length) := by
  unfold findL
  rw [List.findIdx?_append]
  cases h : ps.findIdx? fun q => sameL q.1 p.1 with
  | some k => simp
  | none => simp [sameL]
theorem findL_take (ps : List Pm) (s : List UInt8) (k : Nat) (h : findL ps s = some k) : findL (ps.take k) s = none ∧ ∃ hk : k < ps.length, sameL (ps[k]).1 s = true := by
  unfold findL at h ⊢
  obtain ⟨hk, h1, h2⟩ := List.findIdx?_eq_some_iff_getElem.1 h
  refine ⟨?_, hk, by simpa using h1⟩
  rw [List.findIdx?_eq_none_iff]
  intro x hx
  obtain ⟨j, hj, rfl⟩ := List.mem_iff_getElem.1 hx
  have hj' : j < k := by simp at hj; omega
  have := h2 j hj'
  simpa using this
theorem IsParams.take {w : World} {b off cap : Nat} {ps : List Pm} {n : Nat} (h : IsParams w (.slice (some ⟨b, off, none⟩) ps.length cap) ps) (k : Nat) (hk : k ≤ ps.length) : IsParams w (.slice (some ⟨b, off, none⟩) k cap) (ps.take k) := by
  obtain ⟨a, c, e, hc, h⟩ := h
  simp only [Value.slice.injEq, true_and] at e
  obtain ⟨rfl, rfl⟩ := e
  refine ⟨_, _, by rw [List.length_take]; rw [Nat.min_eq_left hk], by rw [List.length_take]; omega, fun h0 => ?_⟩
  obtain ⟨b', off', e, hb, hc'⟩ := h (by rintro rfl; simp at h0)
  refine ⟨b', off', e, hb, fun i p hp => hc' i p ?_⟩
  rw [List.getElem?_take] at hp
  split at hp
  · exact hp
  · cases hp

set_option maxRecDepth 100000 in
set_option maxHeartbeats 4000000 in
theorem rulesFind_walk (v : Value) (ps : List Pm) (p : Pm) (sv : Value) (w : World) (hP : IsParams w v ps) (hform : v = .slice none 0 0 ∨ ∃ a n c, v = .slice (some a) n c) (hb : wideN ps ≤ 1048576) (hv : IsStrs w sv p.2) (hb2 : lensP p ≤ 1048576) (hR : RMem w) :
    Gives 4 #[v, .agg #[.string (S p.1), sv]] w (.bool true) := by
  obtain ⟨nm, vs⟩ := p
  simp only at hv
  have HR := hid hR
  have HP := hid hP
  have HV := hid hv
  have HF := hid hform
  have hlw : lensP (nm, vs) = nm.length + vs.length + (vs.map List.length).sum := rfl
  have hWI : wideN [(nm, vs)] = 1 + lensP (nm, vs) := by simp [wideN]
  have hnl : nm.length ≤ 1048576 := by omega
  have RU := hid (fun W h => ruled_any W h)
  have LE := hid (fun W => lettered_any W)
  obtain ⟨pa, pc, rfl, _, _⟩ := hP
  obtain ⟨sa, sc, rfl, hsc⟩ := hv.len
  have WD := hid (fun W (h : IsParams W (.slice pa ps.length pc) ps) => wide_any [] [] [] _ ps W h (by omega) (by simp) (by simp) (by simp))
  have WP := hid (fun W pv h => wide_any [] [] [] pv [(nm, vs)] W h (by omega) (by simp) (by simp) (by simp))
  have HWI := hid hWI
  have hpl : ps.length ≤ 1048576 := by unfold wideN at hb; omega
  clear hR hv hform hlw hWI
  go_enter Tryd.func4, Tryd.ntmps4
  go_wp2_with fail
  refine (RU.out _ (HR.out.grow ((G.refl w).alloc _))).use ?_
  intro w1 g1
  have gw1 := (((G.refl w).alloc (.cells #[.string (S nm), .slice sa vs.length sc] 35)).trans g1 : G w w1)
  have bx0 : w1.cell? ⟨w.heap.size, 0, none⟩ = some (.string (S nm)) := (G.cell g1 (p := ⟨w.heap.size, 0, none⟩) (by simp)).trans (by simp [go_sem])
  have bx1 : w1.cell? ⟨w.heap.size, 1, none⟩ = some (.slice sa vs.length sc) := (G.cell g1 (p := ⟨w.heap.size, 1, none⟩) (by simp)).trans (by simp [go_sem])
  have GW1 := hid gw1
  clear g1 gw1
  have hB1 : w.heap.size < w1.heap.size := World.block_lt_of_cell? _ _ bx0
  go_wp2_with fail
  refine (LE.out w1).use ?_
  intro w2 g2
  have GW2 := hid (GW1.out.trans g2)
  have M2 := hid g2
  clear g2
  go_wp2_with fail
  refine (WD.out w2 (HP.out.grow GW2.out)).use ?_
  intro w3 g3
  have GW3 := hid (GW2.out.trans g3)
  have cx0 : w3.cell? ⟨w.heap.size, 0, none⟩ = some (.string (S nm)) := (G.cell (M2.out.trans g3) hB1).trans bx0
  have cx1 : w3.cell? ⟨w.heap.size, 1, none⟩ = some (.slice sa vs.length sc) := (G.cell (M2.out.trans g3) hB1).trans bx1
  have hB3 : w.heap.size < w3.heap.size := World.block_lt_of_cell? _ _ cx0
  clear g3 bx0 bx1 hB1
  cases hwd : decide (2500 < wideN ps + ([] : List UInt8).length + ([] : List UInt8).length + ([] : List UInt8).length) with
  | true =>
    clear hwd
    go_wp2_with fail
    go_ret
    exact ⟨rfl, GW3.out⟩
  | false =>
    have hH : wideN ps ≤ 2500 := by have := of_decide_eq_false hwd; simp at this; omega
    clear hwd
    go_wp2_with fail
    generalize hwa : World.alloc w3 _ = wa
    have ga : G w3 wa := by rw [← hwa]; exact (G.refl _).alloc _
    have hP1 : IsParams wa (.slice (some ⟨w3.heap.size, 0, none⟩) 1 1) [(nm, vs)] := IsParams.single (by rw [← hwa]; simp [go_sem]) (by rw [← hwa]; simp [go_sem]) (HV.out.grow (GW3.out.trans ga))
    refine (WP.out wa _ hP1).use ?_
    intro w4 g4
    have GW4 := hid ((GW3.out.trans ga).trans g4)
    have dx0 : w4.cell? ⟨w.heap.size, 0, none⟩ = some (.string (S nm)) := (G.cell (ga.trans g4) hB3).trans cx0
    have dx1 : w4.cell? ⟨w.heap.size, 1, none⟩ = some (.slice sa vs.length sc) := (G.cell (ga.trans g4) hB3).trans cx1
    have hB4 : w.heap.size < w4.heap.size := World.block_lt_of_cell? _ _ dx0
    clear hwa ga hP1 g4 cx0 cx1 hB3
    cases hwd : decide (2500 < wideN [(nm, vs)] + ([] : List UInt8).length + ([] : List UInt8).length + ([] : List UInt8).length) with
    | true =>
      clear hwd
      go_wp2_with fail
      go_ret
      exact ⟨rfl, GW4.out⟩
    | false =>
      have hH2 : wideN [(nm, vs)] ≤ 2500 := by have := of_decide_eq_false hwd; simp at this; omega
      have hnl2 : nm.length ≤ 1000000 := by
        have h := HWI.out
        have h' : lensP (nm, vs) = nm.length + vs.length + (vs.map List.length).sum := rfl
        omega
      clear hwd WP WD HWI RU LE
      have hpl2 : ps.length ≤ 2500 := by unfold wideN at hH; omega
      have h1 : ∀ p ∈ ps, p.1.length ≤ 1000000 := fun p hp => by have := wideN_name hp; omega
      have H1 := hid h1
      have FD := hid (fun W (h : IsParams W (.slice pa ps.length pc) ps) => find_any _ ps nm W h (by omega) h1 hnl2)
      obtain ⟨kk, hkk⟩ : ∃ kk, kk = findL ps nm := ⟨_, rfl⟩
      have hsn : findL (ps ++ [(nm, vs)]) nm = some (kk.getD ps.length) := by rw [hkk]; exact findL_snoc ps (nm, vs)
      have HSN := hid hsn
      have HKK := hid hkk
      have hw1 : ∀ p ∈ ps ++ [(nm, vs)], p.1.length ≤ 1000000 := fun p hp => by
        rcases List.mem_append.1 hp with h | h
        · exact h1 p h
        · rw [List.mem_singleton.1 h]; exact hnl2
      have FN := hid (fun W u (h : IsParams W u (ps ++ [(nm, vs)])) => show Gives 15 #[u, .string (S nm)] W (.int .i64 (findV (some (kk.getD ps.length)))) by rw [← hsn]; exact find_any u _ nm W h (by simp; omega) hw1 hnl2)
      clear hsn hkk h1 hw1
      go_wp2_with fail
      refine (FD.out w4 (HP.out.grow GW4.out)).use ?_
      rw [← HKK.out]
      intro w5 g5
      have GW5 := hid (GW4.out.trans g5)
      have ex0 : w5.cell? ⟨w.heap.size, 0, none⟩ = some (.string (S nm)) := (G.cell g5 hB4).trans dx0
      have ex1 : w5.cell? ⟨w.heap.size, 1, none⟩ = some (.slice sa vs.length sc) := (G.cell g5 hB4).trans dx1
      have hB5 : w.heap.size < w5.heap.size := World.block_lt_of_cell? _ _ ex0
      clear g5 dx0 dx1 hB4
      obtain ⟨kv, hkv⟩ : ∃ kv, kv = findV kk := ⟨_, rfl⟩
      rw [← hkv]
      have HKV := hid hkv
      clear hkv
      go_wp2_with fail
      obtain ⟨i0, hi, hz0, hz1, hz2⟩ := info_parts infoParam
      obtain ⟨vs0, hl0, hs0, hcl⟩ := clone_params _ ps w5 (HP.out.grow GW5.out) HF.out (by omega)
      have CLN := hid hcl
      have HS0 := hid hs0
      have HL0 := hid hl0
      have HV5 := hid (HV.out.grow GW5.out)
      clear hcl hs0 hl0
      go_region_held3 (fun w' => w'.cell? ⟨w.heap.size, 0, none⟩ = some (.string (S nm)) ∧ w'.cell? ⟨w.heap.size, 1, none⟩ = some (.slice sa vs.length sc)) (go_keep)
        (first
          | (go_at_call 16; refine (CLN.out _ ?_).mono ?_; (· (repeat (first | with_reducible exact G.refl _ | with_reducible exact Hid.out ‹Hid (G w5 _)› | with_reducible apply G.drew | with_reducible apply G.alloc))); rintro e w' ⟨u, rfl, hown, hg⟩; have hgw : G w5 w' := G.trans (by (repeat (first | with_reducible exact G.refl _ | with_reducible exact Hid.out ‹Hid (G w5 _)› | with_reducible apply G.drew | with_reducible apply G.alloc))) hg; have s0 := (hgw.cell (p := ⟨w.heap.size, 0, none⟩) hB5).trans ex0; have s1 := (hgw.cell (p := ⟨w.heap.size, 1, none⟩) hB5).trans ex1; have HOWN := hid (ownsRow_mono hown (show w5.heap.size ≤ _ by first | exact Nat.le_refl _ | (simp; done) | (simp; omega))); have HGR := hid hg; have HG5 := hid hgw; have hz := hgw.size; clear hg hown hgw)
          | (go_at_call 15; refine (FN.out _ _ ?_).mono ?_; (· first | with_reducible exact HPN.out | exact HPN.out.grow ((G.refl _).drew)); rintro e w3' ⟨rfl, hg⟩; have hgw : G w5 w3' := G.trans (by (repeat (first | with_reducible exact G.refl _ | with_reducible exact Hid.out ‹Hid (G w5 _)› | with_reducible apply G.drew | with_reducible apply G.alloc))) hg; have s0 := (hgw.cell (p := ⟨w.heap.size, 0, none⟩) hB5).trans ex0; have s1 := (hgw.cell (p := ⟨w.heap.size, 1, none⟩) hB5).trans ex1; have hz := hgw.size; have HG8 := hid hgw; clear hg hgw HPN HG6)
          | (refine step_append_lies _ rfl (.tmp 27) (.tmp 29) 36 rfl w5.heap.size 35 i0 _ 2 40 Tryd.underlying36 hi hz0 hz1 hz2 rfl (by decide) u ps.length _ (by simp [Act.eval, Act.put]) (by repeat (first | with_reducible exact HOWN.out | with_reducible apply World.ownsRow.alloc | with_reducible apply World.ownsRow.drew)) _ 1 _ [.string (S nm), .slice sa vs.length sc] (by simp [Act.eval, Act.put]; exact ⟨rfl, rfl⟩) rfl (by first | with_reducible exact news2 _ _ _ _ | with_reducible exact news2_kept HGR.out | with_reducible exact news2_drew HGR.out) (by intro x hx; simp at hx; rcases hx with rfl | rfl <;> rfl) (by omega) (by unfold maxLen; omega) (by omega) (by first | omega | (simp; omega)) _ rfl ?_; intro g gcap w'' hown2 hgrow hat hlt2; have hg6 : G w5 w'' := (by refine Below.grown ?_ hgrow ?_ (fun j hj => (HOWN.out.lt j hj).1); (· show G w5 _; (repeat (first | with_reducible exact G.refl _ | with_reducible exact Hid.out ‹Hid (G w5 _)› | with_reducible apply G.drew | with_reducible apply G.alloc))); (· first | omega | (simp; omega))); have s0 := (hg6.cell (p := ⟨w.heap.size, 0, none⟩) hB5).trans ex0; have s1 := (hg6.cell (p := ⟨w.heap.size, 1, none⟩) hB5).trans ex1; have HPN := hid (params_snoc HL0.out HS0.out HV5.out hg6 hown2); have hz := hg6.size; have HG6 := hid hg6; clear hown2 hgrow hat hlt2 hg6 HOWN HGR HG5))
      all_goals
        have GW8 := hid (GW5.out.trans HG8.out)
        have hB8 : w.heap.size < w3'.heap.size := World.block_lt_of_cell? _ _ s0
        have hP8 := HP.out.grow GW8.out
        have HP8 := hid hP8
        cases kk with
        | none =>
          have hm : findV (some (Option.getD none ps.length)) = (ps.length : Int) := rfl
          have hkv2 : kv = -1 := HKV.out
          subst hkv2
          rw [hm]
          have CF := hid (containsFn_no _ ps nm w.heap.size w3' hP8 (by omega) H1.out hnl2 s0 HKK.out.symm)
          clear hm hP8
          go_wp2_with fail
          refine CF.out.use ?_
          intro w9 g9
          go_wp2_with fail
          go_ret
          exact ⟨ret_bool (by simp), GW8.out.trans g9⟩
        | some k =>
          have hm : findV (some (Option.getD (some k) ps.length)) = (k : Int) := rfl
          have hkv2 : kv = (k : Int) := HKV.out
          subst hkv2
          rw [hm]
          obtain ⟨htk, hk, hsame⟩ := findL_take ps nm k HKK.out.symm
          obtain ⟨a2, cap2, e1, _, hc⟩ := hP8
          obtain ⟨b, off, e2, hbl, hcc⟩ := hc (by rintro rfl; simp at hk)
          clear hc
          simp only [Value.slice.injEq, true_and] at e1
          obtain ⟨rfl, rfl⟩ := e1
          subst e2
          obtain ⟨sv2, c1, c2, c3⟩ := hcc k _ (List.getElem?_eq_getElem hk)
          have hqn := H1.out _ (List.getElem_mem hk)
          obtain ⟨q, hq⟩ : ∃ q, q = (ps[k]).1 := ⟨_, rfl⟩
          rw [← hq] at c1 hqn hsame
          have SM := hid (fun W => show Gives 19 #[.string (S q), .string (S nm)] W (.bool true) by rw [← hsame]; exact same_any q nm W (by omega) (by omega))
          have FT := hid (fun W (h : IsParams W (.slice (some ⟨b, off, none⟩) ps.length pc) ps) => show Gives 15 #[.slice (some ⟨b, off, none⟩) k pc, .string (S nm)] W (.int .i64 (-1)) by
            have := find_any _ (ps.take k) nm W (h.take (n := 0) k (by omega)) (by simp; omega) (fun p hp => H1.out p (List.mem_of_mem_take hp)) hnl2
            rwa [htk] at this)
          have z0 : decide ((k : Int) < 0) = false := decide_eq_false (by omega)
          have z1 : decide ((k : Int) < (ps.length : Int)) = true := decide_eq_true (by omega)
          clear hm hcc c2 c3 htk hsame hq
          go_wp2_with fail
          refine wp_region_grow (by kernel_rfl) (by kernel_rfl) ?_
          repeat (first | go_big_quiet_skip | (go_big_quiet_want; go_big_quiet_op; first | go_big_quiet_on | (apply Exists.intro; apply And.intro; (focus (intro _ hg; first | (go_at_call 19; with_reducible exact Gives.gq hg (SM.out _)) | (go_at_call 15; with_reducible exact Gives.gq hg (FT.out _ (HP8.out.grow hg))) | (rw [G.cell hg (p := ⟨b, off + k * 2, none⟩) hbl, c1]; exact ⟨rfl, rfl⟩) | (rw [G.cell hg (p := ⟨w.heap.size, 0, none⟩) hB8, s0]; exact ⟨rfl, rfl⟩))); go_big_quiet_on) | (refine ⟨_, fun _ _ => rfl, ?_⟩; go_big_quiet_on)))
          refine wpQuiet_nil ?_
          intro wq gq
          go_wp2_with fail
          go_ret
          exact ⟨rfl, GW8.out.trans gq⟩

end Go.Proofs.YtpfenaeaegdeaaaDoor
