/-
  The law RulesFit walked.
-/
import Derived.Test.YtpfenaeaegdeaaaDoorRuled
import Derived.Test.YtpfenaeaegdeaaaDoorRulesFits
import Derived.Test.YtpfenaeaegdeaaaDoorWide
import Derived.Test.YtpfenaeaegdeaaaDoorNameF
import Derived.Deep.RegionHeld3
import Derived.Deep.DeepCutAuto
namespace Go.Proofs.YtpfenaeaegdeaaaDoor
open Go.RowKit
set_option linter.unusedVariables false
set_option linter.unusedSimpArgs false

theorem fitsU_nil (u : List UInt8) : fitsU u [] = false := by
  unfold fitsU
  repeat (first | split | rfl | simp [oneL])
theorem fitsU_one (u : List UInt8) (vs : List (List UInt8)) (x : List UInt8) (h : fitsU u vs = true) (hx : x ∈ vs) : fitsU u [x] = true := by
  unfold fitsU at h ⊢
  split
  · rfl
  · rename_i h1
    rw [if_neg h1] at h
    split
    · rename_i h2
      rw [if_pos h2] at h
      unfold oneL at h ⊢
      split at h
      · simp only [List.mem_singleton] at hx; subst hx; exact h
      · cases h
    · rename_i h2
      rw [if_neg h2] at h
      split
      · rename_i h3
        rw [if_pos h3] at h
        unfold oneL at h ⊢
        split at h
        · simp only [List.mem_singleton] at hx; subst hx; exact h
        · cases h
      · rename_i h3
        rw [if_neg h3] at h
        split
        · rename_i h4
          rw [if_pos h4, Bool.and_eq_true, List.all_eq_true] at h
          simp [h.1 x hx]
        · rename_i h4
          rw [if_neg h4] at h
          split
          · rename_i h5
            rw [if_pos h5, Bool.and_eq_true, List.all_eq_true] at h
            simp [h.1 x hx]
          · rfl
theorem mem_len {x : List UInt8} {vs : List (List UInt8)} (h : x ∈ vs) : x.length ≤ (vs.map List.length).sum := by
  induction vs with
  | nil => cases h
  | cons a vs ih =>
    rw [List.map_cons, List.sum_cons]
    rcases List.mem_cons.1 h with rfl | h
    · omega
    · have := ih h; omega

theorem IsParams.single {w : World} {c : Nat} {nm : List UInt8} {sv : Value} {vs : List (List UInt8)} (h1 : w.cell? ⟨c, 0, none⟩ = some (.string (S nm))) (h2 : w.cell? ⟨c, 1, none⟩ = some sv) (hs : IsStrs w sv vs) :
    IsParams w (.slice (some ⟨c, 0, none⟩) 1 1) [(nm, vs)] := by
  refine ⟨_, _, rfl, by simp, fun _ => ⟨c, 0, rfl, World.block_lt_of_cell? _ _ h1, ?_⟩⟩
  intro i p hp
  match i, hp with
  | 0, hp =>
    simp at hp
    subst hp
    exact ⟨_, by simpa using h1, by simpa using h2, hs⟩
  | n + 1, hp => simp at hp
set_option maxRecDepth 100000 in
set_option maxHeartbeats 2000000 in
theorem rulesFit_walk (p : Pm) (sv : Value) (w : World) (hv : IsStrs w sv p.2) (hb : lensP p ≤ 1048576) (hR : RMem w) : Gives 6 #[.agg #[.string (S p.1), sv]] w (.bool true) := by
  obtain ⟨nm, vs⟩ := p
  simp only [lensP] at hb hv ⊢
  have hml : ∀ x ∈ vs, x.length ≤ (vs.map List.length).sum := fun x hx => mem_len hx
  obtain ⟨ua, hua⟩ : ∃ x, x = upperL nm := ⟨_, rfl⟩
  obtain ⟨la, hla⟩ : ∃ x, x = lowerL nm := ⟨_, rfl⟩
  have U := hid (fun W => show Gives 22 #[.string (S nm)] W (.string (S ua)) by rw [hua]; exact upper_any nm W (by omega))
  have L := hid (fun W => show Gives 25 #[.string (S nm)] W (.string (S la)) by rw [hla]; exact lower_any nm W (by omega))
  obtain ⟨ok, hok⟩ : ∃ b, b = fitsU (upperL nm) vs := ⟨_, rfl⟩
  have hWI : wideN [(nm, vs)] = 1 + lensP (nm, vs) := by simp [wideN]
  have hlw : lensP (nm, vs) = nm.length + vs.length + (vs.map List.length).sum := rfl
  have WD := hid (fun W pv h => wide_any [] [] [] pv [(nm, vs)] W h (by omega) (by simp) (by simp) (by simp))
  have RU := hid (fun W h => ruled_any W h)
  have HV := hid hv
  have HR := hid hR
  obtain ⟨sa, sc, rfl, hsc⟩ := hv.len
  clear hv hR
  have HM := hid hml
  have HW2 := hid hlw
  have hvl : vs.length ≤ 1048576 := by omega
  have hnl : nm.length ≤ 1048576 := by omega
  have hvx : ∀ x ∈ vs, x.length ≤ 1048576 := fun x hx => by have := hml x hx; omega
  have HX := hid hvx
  have FN := hid (fun W (g : G w W) (hh : wideN [(nm, vs)] ≤ 2500) => show Gives 24 #[.agg #[.string (S nm), .slice sa vs.length sc]] W (.bool ok) by
    rw [hok]; exact fits_any nm _ vs W (HV.out.grow g) (by omega) (by omega) (fun x hx => by have := hml x hx; omega) (HR.out.grow g))
  have FU := hid (fun W (g : G w W) (hh : wideN [(nm, vs)] ≤ 2500) => show Gives 24 #[.agg #[.string (S ua), .slice sa vs.length sc]] W (.bool ok) by
    have := fits_any ua _ vs W (HV.out.grow g) (by rw [hua]; simp; omega) (by omega) (fun x hx => by have := hml x hx; omega) (HR.out.grow g)
    have e : upperL ua = upperL nm := by rw [hua, upper_upper]
    rw [e, ← hok] at this
    exact this)
  have FL := hid (fun W (g : G w W) (hh : wideN [(nm, vs)] ≤ 2500) => show Gives 24 #[.agg #[.string (S la), .slice sa vs.length sc]] W (.bool ok) by
    have := fits_any la _ vs W (HV.out.grow g) (by rw [hla]; simp; omega) (by omega) (fun x hx => by have := hml x hx; omega) (HR.out.grow g)
    have e : upperL la = upperL nm := by rw [hla, upper_lower]
    rw [e, ← hok] at this
    exact this)
  have F1 := hid (fun W pv x (hx : x ∈ vs) (ht : ok = true) (g : G w W) (hh : wideN [(nm, vs)] ≤ 2500) (hs : IsStrs W pv [x]) => show Gives 24 #[.agg #[.string (S nm), pv]] W (.bool true) by
    have := fits_any nm pv [x] W hs (by omega) (by simp) (fun y hy => by rw [List.mem_singleton.1 hy]; have := hml x hx; omega) (HR.out.grow g)
    rwa [fitsU_one _ vs x (by rw [← hok]; exact ht) hx] at this)
  have hn0 : vs = [] → ok = false := fun h => by rw [hok, h, fitsU_nil]
  have N0 := hid hn0
  clear hml hok hua hla hlw hvx hn0
  go_enter Tryd.func6, Tryd.ntmps6
  go_wp2_with fail
  refine (RU.out _ (HR.out.grow ((G.refl w).alloc _))).use ?_
  intro w1 g1
  have gw1 := (((G.refl w).alloc (.cells #[.string (S nm), .slice sa vs.length sc] 35)).trans g1 : G w w1)
  have bx0 : w1.cell? ⟨w.heap.size, 0, none⟩ = some (.string (S nm)) := (G.cell g1 (p := ⟨w.heap.size, 0, none⟩) (by simp)).trans (by simp [go_sem])
  have bx1 : w1.cell? ⟨w.heap.size, 1, none⟩ = some (.slice sa vs.length sc) := (G.cell g1 (p := ⟨w.heap.size, 1, none⟩) (by simp)).trans (by simp [go_sem])
  have hB1 : w.heap.size < w1.heap.size := World.block_lt_of_cell? _ _ bx0
  clear g1
  go_wp2_with fail
  generalize hwa : World.alloc w1 _ = wa
  have ga1 : G w1 wa := by rw [← hwa]; exact (G.refl _).alloc _
  have hP : IsParams wa (.slice (some ⟨w1.heap.size, 0, none⟩) 1 1) [(nm, vs)] := IsParams.single (by rw [← hwa]; simp [go_sem]) (by rw [← hwa]; simp [go_sem]) (HV.out.grow (gw1.trans ga1))
  refine (WD.out wa _ hP).use ?_
  intro w2 g2
  have gw2 : G w w2 := (gw1.trans ga1).trans g2
  have cx0 : w2.cell? ⟨w.heap.size, 0, none⟩ = some (.string (S nm)) := (G.cell (ga1.trans g2) hB1).trans bx0
  have cx1 : w2.cell? ⟨w.heap.size, 1, none⟩ = some (.slice sa vs.length sc) := (G.cell (ga1.trans g2) hB1).trans bx1
  have hB2 : w.heap.size < w2.heap.size := World.block_lt_of_cell? _ _ cx0
  have GW2 := hid gw2
  clear hwa ga1 hP g2 bx0 bx1 gw1 gw2 hB1
  cases hwd : decide (2500 < wideN [(nm, vs)] + ([] : List UInt8).length + ([] : List UInt8).length + ([] : List UInt8).length) with
  | true =>
    go_wp2_with fail
    go_ret
    exact ⟨rfl, GW2.out⟩
  | false =>
    have HH : Hid (wideN [(nm, vs)] ≤ 2500) := hid (by have := of_decide_eq_false hwd; simp at this; omega)
    clear hwd
    go_wp2_with fail
    refine (FN.out w2 GW2.out HH.out).use ?_
    intro w3 g3
    have dx0 : w3.cell? ⟨w.heap.size, 0, none⟩ = some (.string (S nm)) := (G.cell g3 hB2).trans cx0
    have dx1 : w3.cell? ⟨w.heap.size, 1, none⟩ = some (.slice sa vs.length sc) := (G.cell g3 hB2).trans cx1
    have hB3 : w.heap.size < w3.heap.size := World.block_lt_of_cell? _ _ dx0
    have GW3 := hid (GW2.out.trans g3)
    have D0 := hid dx0
    have D1 := hid dx1
    clear cx0 cx1 g3 hB2
    go_wp2_with fail
    clear dx0 dx1
    go_loopw [17] (fun i wr => ∃ k : Nat, k ≤ vs.length ∧ i = .int .i64 k ∧ G w3 wr) (fun i _ => vs.length - (intOf i).toNat)
    case atStart => exact ⟨0, Nat.zero_le _, rfl, G.refl _⟩
    case round =>
      obtain ⟨k, hk, rfl, gr⟩ := hrel
      have GR := hid gr
      have ex0 : wr.cell? ⟨w.heap.size, 0, none⟩ = some (.string (S nm)) := (G.cell gr hB3).trans D0.out
      have ex1 : wr.cell? ⟨w.heap.size, 1, none⟩ = some (.slice sa vs.length sc) := (G.cell gr hB3).trans D1.out
      have hBr : w.heap.size < wr.heap.size := World.block_lt_of_cell? _ _ ex0
      have GW := hid (GW3.out.trans gr)
      clear gr
      by_cases hlt : k < vs.length
      · obtain ⟨b, off, cap, e1, _, hbb, hc⟩ := (HV.out.grow GW.out).at_ (by rintro rfl; simp at hlt)
        have c0 := hc k _ (List.getElem?_eq_getElem hlt)
        have hxm := List.getElem_mem hlt
        obtain ⟨x, hxe⟩ : ∃ x, vs[k] = x := ⟨_, rfl⟩
        rw [hxe] at c0 hxm
        cases e1
        have HXM := hid hxm
        clear hc hxe hxm
        cases hok2 : ok with
        | false =>
          go_wp2_with fail
          go_roundw
          case rel => exact ⟨k + 1, by omega, by go_num, GR.out⟩
          case measure => simp [intOf]; omega
        | true =>
          have HT := hid hok2
          go_wp2_with fail
          generalize hwb : World.alloc wr _ = wb
          have gb : G wr wb := by rw [← hwb]; exact (G.refl _).alloc _
          have hs1 : IsStrs wb (.slice (some ⟨wr.heap.size, 0, none⟩) 1 1) [x] := IsStrs.one1 (by rw [← hwb]; simp [go_sem])
          have ey0 : wb.cell? ⟨w.heap.size, 0, none⟩ = some (.string (S nm)) := (G.cell gb hBr).trans ex0
          refine (F1.out wb _ x HXM.out HT.out (GW.out.trans gb) HH.out hs1).use ?_
          intro w5 g5
          have G5 := hid ((GR.out.trans gb).trans g5)
          clear hwb gb hs1 g5
          go_wp2_with fail
          go_roundw
          case rel => exact ⟨k + 1, by omega, by go_num, G5.out⟩
          case measure => simp [intOf]; omega
      · obtain rfl : k = vs.length := by omega
        clear hlt hk
        clear F1 FN WD RU HX HW2 D0 D1
        go_wp2_with fail
        have FUC : ∀ W, G w W → Gives 24 #[.agg #[.string (S ua), .slice sa vs.length sc]] W (.bool ok) := fun W g => FU.out W g HH.out
        have FLC : ∀ W, G w W → Gives 24 #[.agg #[.string (S la), .slice sa vs.length sc]] W (.bool ok) := fun W g => FL.out W g HH.out
        by_cases hvs : 0 < vs.length
        · have p1 : 0 < (vs.length : Int) := by omega
          have p2 : vs ≠ [] := by rintro rfl; simp at hvs
          have p3 : decide (0 < (vs.length : Int)) = true := decide_eq_true p1
          cases hok2 : ok with
          | false =>
            simp only [hok2] at FUC FLC
            refine wp_region_grow (by kernel_rfl) (by kernel_rfl) ?_
            repeat (first | go_big_quiet_skip | (go_big_quiet_want; go_big_quiet_op; first | go_big_quiet_on | (apply Exists.intro; apply And.intro; (focus (intro _ hg; first | (go_at_call 22; with_reducible exact Gives.gq hg (U.out _)) | (go_at_call 25; with_reducible exact Gives.gq hg (L.out _)) | (go_at_call 24; with_reducible exact Gives.gq hg (FUC _ (GW.out.trans hg))) | (go_at_call 24; with_reducible exact Gives.gq hg (FLC _ (GW.out.trans hg))) | (rw [G.cell hg (p := ⟨w.heap.size, 0, none⟩) hBr, ex0]; exact ⟨rfl, rfl⟩) | (rw [G.cell hg (p := ⟨w.heap.size, 1, none⟩) hBr, ex1]; exact ⟨rfl, rfl⟩))); go_big_quiet_on) | (refine ⟨_, fun _ _ => rfl, ?_⟩; go_big_quiet_on)))
            refine wpQuiet_nil ?_
            intro wq gq
            go_wp2_with fail
            go_ret
            exact ⟨rfl, GW.out.trans gq⟩
          | true =>
            simp only [hok2] at FUC FLC
            refine wp_region_grow (by kernel_rfl) (by kernel_rfl) ?_
            repeat (first | go_big_quiet_skip | (go_big_quiet_want; go_big_quiet_op; first | go_big_quiet_on | (apply Exists.intro; apply And.intro; (focus (intro _ hg; first | (go_at_call 22; with_reducible exact Gives.gq hg (U.out _)) | (go_at_call 25; with_reducible exact Gives.gq hg (L.out _)) | (go_at_call 24; with_reducible exact Gives.gq hg (FUC _ (GW.out.trans hg))) | (go_at_call 24; with_reducible exact Gives.gq hg (FLC _ (GW.out.trans hg))) | (rw [G.cell hg (p := ⟨w.heap.size, 0, none⟩) hBr, ex0]; exact ⟨rfl, rfl⟩) | (rw [G.cell hg (p := ⟨w.heap.size, 1, none⟩) hBr, ex1]; exact ⟨rfl, rfl⟩))); go_big_quiet_on) | (refine ⟨_, fun _ _ => rfl, ?_⟩; go_big_quiet_on)))
            refine wpQuiet_nil ?_
            intro wq gq
            go_wp2_with fail
            go_ret
            exact ⟨rfl, GW.out.trans gq⟩
        · obtain rfl : vs = [] := List.length_eq_zero_iff.1 (by omega)
          have hok2 := N0.out rfl
          subst hok2
          simp only [List.length_nil] at FUC FLC ex1
          simp only [List.length_nil]
          refine wp_region_grow (by kernel_rfl) (by kernel_rfl) ?_
          repeat (first | go_big_quiet_skip | (go_big_quiet_want; go_big_quiet_op; first | go_big_quiet_on | (apply Exists.intro; apply And.intro; (focus (intro _ hg; first | (go_at_call 22; with_reducible exact Gives.gq hg (U.out _)) | (go_at_call 25; with_reducible exact Gives.gq hg (L.out _)) | (go_at_call 24; with_reducible exact Gives.gq hg (FUC _ (GW.out.trans hg))) | (go_at_call 24; with_reducible exact Gives.gq hg (FLC _ (GW.out.trans hg))) | (rw [G.cell hg (p := ⟨w.heap.size, 0, none⟩) hBr, ex0]; exact ⟨rfl, rfl⟩) | (rw [G.cell hg (p := ⟨w.heap.size, 1, none⟩) hBr, ex1]; exact ⟨rfl, rfl⟩))); go_big_quiet_on) | (refine ⟨_, fun _ _ => rfl, ?_⟩; go_big_quiet_on)))
          refine wpQuiet_nil ?_
          intro wq gq
          go_wp2_with fail
          go_ret
          exact ⟨rfl, GW.out.trans gq⟩

end Go.Proofs.YtpfenaeaegdeaaaDoor
