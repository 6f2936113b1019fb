/-
  Texts merged into one: ConvMedia, Ann, AnnAt.
-/
import Derived.Test.YtdmbhoagjjkogaaGreatDoorMA39
import Derived.Test.YtdmbhoagjjkogaaGreatDoorMA48
import Derived.Carry
import Derived.Test.YtdmbhoagjjkogaaGreatDoorMVeil
import Derived.Test.YtdmbhoagjjkogaaGreatDoorMA53
namespace Go.Proofs.YtdmbhoagjjkogaaGreatDoor
open Go.RowKit
set_option linter.unusedVariables false
set_option linter.unusedSimpArgs false
def kindB (n : List UInt8) : List UInt8 := if n = nPHOTO ∨ n = nLOGO then [105, 109, 97, 103, 101, 47] else if n = nSOUND then [97, 117, 100, 105, 111, 47] else []
def kE1 : Array MapEntry := #[{ key := .string ⟨#[80, 72, 79, 84, 79]⟩, val := .string ⟨#[105, 109, 97, 103, 101, 47]⟩, born := 0 }]
def kE2 : Array MapEntry := #[{ key := .string ⟨#[80, 72, 79, 84, 79]⟩, val := .string ⟨#[105, 109, 97, 103, 101, 47]⟩, born := 0 }, { key := .string ⟨#[76, 79, 71, 79]⟩, val := .string ⟨#[105, 109, 97, 103, 101, 47]⟩, born := 1 }]
def kE3 : Array MapEntry := #[{ key := .string ⟨#[80, 72, 79, 84, 79]⟩, val := .string ⟨#[105, 109, 97, 103, 101, 47]⟩, born := 0 }, { key := .string ⟨#[76, 79, 71, 79]⟩, val := .string ⟨#[105, 109, 97, 103, 101, 47]⟩, born := 1 }, { key := .string ⟨#[83, 79, 85, 78, 68]⟩, val := .string ⟨#[97, 117, 100, 105, 111, 47]⟩, born := 2 }]
theorem kinds_put1 (X : World) : (Instr.mapUpdate 211 (.map (some X.heap.size)) (.string ⟨#[80, 72, 79, 84, 79]⟩) (.string ⟨#[105, 109, 97, 103, 101, 47]⟩)).run Tryz.prog (X.alloc (.map #[] 0)) = .ok () (X.alloc (.map kE1 1)) :=
  run_put X _ _ _ _ Tryz.underlying211 Tryz.underlying9 #[] 0 (.string ⟨#[80, 72, 79, 84, 79]⟩) _ trivial (by kernel_rfl)
theorem kinds_put2 (X : World) : (Instr.mapUpdate 211 (.map (some X.heap.size)) (.string ⟨#[76, 79, 71, 79]⟩) (.string ⟨#[105, 109, 97, 103, 101, 47]⟩)).run Tryz.prog (X.alloc (.map kE1 1)) = .ok () (X.alloc (.map kE2 2)) :=
  run_put X _ _ _ _ Tryz.underlying211 Tryz.underlying9 kE1 1 (.string ⟨#[76, 79, 71, 79]⟩) _ trivial (by kernel_rfl)
theorem kinds_put3 (X : World) : (Instr.mapUpdate 211 (.map (some X.heap.size)) (.string ⟨#[83, 79, 85, 78, 68]⟩) (.string ⟨#[97, 117, 100, 105, 111, 47]⟩)).run Tryz.prog (X.alloc (.map kE2 2)) = .ok () (X.alloc (.map kE3 3)) :=
  run_put X _ _ _ _ Tryz.underlying211 Tryz.underlying9 kE2 2 (.string ⟨#[83, 79, 85, 78, 68]⟩) _ trivial (by kernel_rfl)
theorem kinds_look (X : World) (n : List UInt8) : (Instr.lookup 211 (.map (some X.heap.size)) (.string (S n)) false).run Tryz.prog (X.alloc (.map kE3 3)) = .ok (.string (S (kindB n))) (X.alloc (.map kE3 3)) := by
  have hb : (X.alloc (.map kE3 3)).heap[X.heap.size]? = some (.map kE3 3) := heap_alloc_new X _
  by_cases h1 : n = nPHOTO
  · subst h1
    exact run_look (k := .string (S nPHOTO)) (X.alloc _) _ _ _ _ Tryz.underlying211 Tryz.underlying9 X.heap.size kE3 3 hb trivial 0 (.string ⟨#[105, 109, 97, 103, 101, 47]⟩) false (by kernel_rfl)
  by_cases h2 : n = nLOGO
  · subst h2
    exact run_look (k := .string (S nLOGO)) (X.alloc _) _ _ _ _ Tryz.underlying211 Tryz.underlying9 X.heap.size kE3 3 hb trivial 1 (.string ⟨#[105, 109, 97, 103, 101, 47]⟩) false (by kernel_rfl)
  by_cases h3 : n = nSOUND
  · subst h3
    exact run_look (k := .string (S nSOUND)) (X.alloc _) _ _ _ _ Tryz.underlying211 Tryz.underlying9 X.heap.size kE3 3 hb trivial 2 (.string ⟨#[97, 117, 100, 105, 111, 47]⟩) false (by kernel_rfl)
  · have e : kindB n = [] := by unfold kindB; rw [if_neg (by rintro (h | h); exact h1 h; exact h2 h), if_neg h3]
    rw [e]
    have hz : ∀ W, (zeroValue 9).run Tryz.prog W = .ok (.string (S [])) W := fun W => by kernel_rfl
    have hc : ∀ e, (Instr.checkKey e 10000 9 (.string (S n))).run Tryz.prog (X.alloc (.map kE3 3)) = .ok () (X.alloc (.map kE3 3)) := fun e => MapKept.run_checkKey (d := .string) (k := .string (S n)) Tryz.underlying9 trivial e 9999
    have hn : Instr.findNow .string (.string (S n)) kE3.toList 0 = some none := by
      rcases MapKept.findNow_spec (d := .string) (k := .string (S n)) trivial kE3.toList 0 (fun e he => by
        simp [kE3] at he
        rcases he with rfl | rfl | rfl <;> trivial) with ⟨h, _⟩ | ⟨j, e, _, hj, hk⟩
      · exact h
      · have he := List.mem_of_getElem? hj
        simp [kE3] at he
        have inj : ∀ {a b : List UInt8}, Value.string (S a) = .string (S b) → a = b := fun h => by injection h with h; exact S_inj.1 h
        rcases he with rfl | rfl | rfl
        · exact absurd (inj (a := nPHOTO) hk).symm h1
        · exact absurd (inj (a := nLOGO) hk).symm h2
        · exact absurd (inj (a := nSOUND) hk).symm h3
    simp [Instr.lookup, run_underlying Tryz.underlying211, MapKept.run_getObj_map hb, hc, MapKept.run_findKey Tryz.underlying9 hn, Result.andThen, hz]
set_option maxRecDepth 100000 in
set_option maxHeartbeats 2000000 in
theorem media2_any (n : List UInt8) (l : Value) (ps : List Pm) (w : World) (h : IsParams w l ps) (hl : ps.length ≤ 10000) (hp : ∀ p ∈ ps, p.1.length ≤ 1000000 ∧ ∀ u ∈ p.2, u.length ≤ 100000) (hne : ∀ i, findL ps nTYPE = some i → (ps.getD i ([], [])).2 ≠ []) : Gives 114 #[.string (S n), l] w (.string (S (mediaL n ps))) := by
  have HPS := hid h
  have HP := hid hp
  have FD := hid (find_any l ps nTYPE w h (by omega) (fun p hq => (hp p hq).1) (by simp [nTYPE]))
  obtain ⟨la, lc, rfl⟩ : ∃ a c, l = .slice a ps.length c := by
    obtain ⟨a, c, e, _⟩ := h
    exact ⟨a, c, e⟩
  clear h hp
  cases hf : findL ps nTYPE with
  | none =>
    have HR := hid (show mediaL n ps = octets by unfold mediaL; rw [hf])
    rw [hf] at FD
    unfold nTYPE at FD
    clear hf hne
    go_enter Tryz.func114, Tryz.ntmps114
    go_wp2_with fail
    refine FD.out.use ?_
    intro w2 g2
    simp only [findV]
    go_wp2_with fail
    go_ret
    exact ⟨by rw [HR.out]; rfl, g2⟩
  | some i =>
    have hi := find_lt hf
    have hvs := hne i hf
    have hgd : ps.getD i ([], []) = ps[i] := by simp [List.getD_eq_getElem?_getD, List.getElem?_eq_getElem hi]
    have HR := hid (show mediaL n ps = kindM n ++ lowerL (val0 ps i) by unfold mediaL; rw [hf])
    rw [hgd] at hvs
    have HVAL := hid (show val0 ps i = (ps[i]).2.getD 0 [] by unfold val0; rw [hgd])
    rw [hf] at FD
    unfold nTYPE at FD
    obtain ⟨hpn, hpv⟩ := HP.out _ (List.getElem_mem hi)
    obtain ⟨p, hpe⟩ : ∃ p, ps[i] = p := ⟨_, rfl⟩
    have HX := hid (show ps[i]? = some p by rw [List.getElem?_eq_getElem hi, hpe])
    rw [hpe] at hvs hpn hpv HVAL
    obtain ⟨pn, pvs⟩ := p
    simp only at hvs hpn hpv HVAL
    cases pvs with
    | nil => exact absurd rfl hvs
    | cons v0 vr =>
      have hv0 := hpv v0 List.mem_cons_self
      have HV0 := hid (show val0 ps i = v0 from HVAL.out)
      obtain ⟨kb, hkb⟩ : ∃ kb, kb = kindB n := ⟨_, rfl⟩
      have hkbl : kb.length ≤ 12 := by rw [hkb]; unfold kindB; split; (· decide); split <;> decide
      have lk := fun X => kinds_look X n
      have p1 := kinds_put1
      have p2 := kinds_put2
      have p3 := kinds_put3
      rw [← hkb] at lk
      have HKB := hid hkb
      have hmm := @run_makeMap Tryz.prog
      clear hkb hpe hf hne hgd hpv hvs
      go_enter Tryz.func114, Tryz.ntmps114
      go_wp2_with fail
      refine FD.out.use ?_
      intro w2 g2
      simp only [findV]
      have hi0 : ¬ (i : Int) < 0 := by omega
      obtain ⟨w3, hw3⟩ : ∃ w3, w2.alloc (.map kE3 3) = w3 := ⟨_, rfl⟩
      have G3 := hid (show G w w3 by rw [← hw3]; exact g2.alloc _)
      have lk3 := lk w2
      rw [hw3] at lk3
      obtain ⟨a2, cap2, e1, _, hc⟩ := HPS.out.grow G3.out
      obtain ⟨b, off, e2, hb, hcc⟩ := hc (by intro e; rw [e] at hi; simp at hi)
      clear hc
      simp only [Value.slice.injEq, true_and] at e1
      obtain ⟨rfl, rfl⟩ := e1
      subst e2
      obtain ⟨sv, c1, c2, c3⟩ := hcc i _ HX.out
      obtain ⟨b2, o2, cc2, hsv, _, hb2, hc2⟩ := c3.at_ (by simp)
      have d0 := hc2 0 _ rfl
      rw [Nat.add_zero] at d0
      subst hsv
      simp only [List.length_cons] at c2
      have hkl : (i : Int) < (ps.length : Int) := by omega
      clear hcc c3 hc2
      have LW := hid (fun W => lower_any v0 W (by omega))
      by_cases hk0 : kb = []
      · have hk1 : (kb == []) = true := by rw [hk0]; rfl
        have HM := hid (show mediaL n ps = [97, 112, 112, 108, 105, 99, 97, 116, 105, 111, 110, 47] ++ lowerL v0 by
          rw [HR.out, HV0.out]
          have := HKB.out
          rw [hk0] at this
          unfold kindB at this
          unfold kindM
          split at this
          · cases this
          · rename_i hh
            rw [if_neg hh]
            split at this
            · cases this
            · rename_i hh2; rw [if_neg hh2])
        clear hk0
        go_wp2_with fail
        refine (LW.out _).use ?_
        intro w4 g4
        go_wp2_with fail
        go_ret
        exact ⟨by rw [HM.out]; simp, G3.out.trans g4⟩
      · have hk1 : (kb == []) = false := by simpa using hk0
        have HM := hid (show mediaL n ps = kb ++ lowerL v0 by
          rw [HR.out, HV0.out, HKB.out]
          have := HKB.out
          congr 1
          unfold kindB kindM
          split
          · rfl
          · rename_i hh
            split
            · rfl
            · rename_i hh2
              exfalso; apply hk0; rw [this]; unfold kindB; rw [if_neg hh, if_neg hh2])
        clear hk0
        go_wp2_with fail
        refine (LW.out _).use ?_
        intro w4 g4
        go_wp2_with fail
        go_ret
        exact ⟨by rw [HM.out]; rfl, G3.out.trans g4⟩
end Go.Proofs.YtdmbhoagjjkogaaGreatDoor

namespace Go.Proofs.YtdmbhoagjjkogaaGreatDoor
open Go.RowKit
set_option linter.unusedVariables false
set_option linter.unusedSimpArgs false
theorem new_at (w : World) (o : Obj) (n : Nat) (h : n = w.heap.size) : (w.alloc o).heap[n]? = some o := by subst h; exact heap_alloc_new w o
theorem news8 (w : World) (o0 o1 o2 o3 o4 o5 o6 o7 : Obj) (W : World) (hW : ((((((((w.alloc o0).alloc o1).alloc o2).alloc o3).alloc o4).alloc o5).alloc o6).alloc o7) = W) :
    W.heap[w.heap.size + 1]? = some o1 ∧ W.heap[w.heap.size + 2]? = some o2 ∧ W.heap[w.heap.size + 3]? = some o3 ∧ W.heap[w.heap.size + 4]? = some o4 ∧ W.heap[w.heap.size + 5]? = some o5 ∧ W.heap[w.heap.size + 6]? = some o6 ∧ W.heap[w.heap.size + 7]? = some o7 := by
  subst hW
  refine ⟨?_, ?_, ?_, ?_, ?_, ?_, ?_⟩ <;> repeat (first | exact new_at _ _ _ (by simp) | rw [Lib.alloc_old _ _ _ (by simp)] | rw [Lib.alloc_old _ _ _ (by simp; omega)])
def annFN : It := ⟨[], [70, 78], [], ⟨1, [65, 110, 110], [], St0, 0⟩⟩
def annN : It := ⟨[], [78], [], ⟨3, [], [[[65]], [[65, 110, 110]], [[]], [[]], [[]]], St0, 0⟩⟩
def annXs : List It := [annFN, annN]
def OneS (W : World) (v : Value) (s : List UInt8) : Prop := ∃ b, v = .slice (some ⟨b, 0, none⟩) 1 1 ∧ W.heap[b]? = some (.cells #[.string (S s)] 9 (0, 0))
theorem OneS.grow {W W' : World} {v : Value} {s : List UInt8} (h : OneS W v s) (g : G W W') : OneS W' v s := by
  obtain ⟨b, e, h⟩ := h
  exact ⟨b, e, (g.below.block b (Array.getElem?_eq_some_iff.1 h).1).trans h⟩
theorem OneS.strs {W : World} {v : Value} {s : List UInt8} (h : OneS W v s) : IsStrs W v [s] := by
  obtain ⟨b, rfl, h⟩ := h
  refine ⟨⟨rfl, by simp [Value.oneCell'], .inr ⟨b, 0, 1, rfl, (Array.getElem?_eq_some_iff.1 h).1, Nat.le_refl _, fun j hj => ?_⟩⟩, Nat.le_refl _⟩
  have hj0 : j = 0 := by simp at hj; omega
  subst hj0
  rw [cell_of_row W b _ _ _ _ h]; rfl
theorem ok_fn (W : World) : ItOk W annFN (.slice none 0 0) (.slice none 0 0) :=
  ⟨⟨_, _, rfl, Nat.le_refl _, fun h => absurd rfl h⟩, ⟨[], ⟨rfl, by simp, .inl ⟨rfl, .inl rfl⟩⟩, Nat.le_refl _, by simp [annFN]⟩, .inl rfl, by decide, by decide⟩
theorem ok_n {W : World} {a : Option Addr} (h : IsLists W (.slice a 5 5) annN.v.ps) : ItOk W annN (.slice none 0 0) (.slice a 5 5) :=
  ⟨⟨_, _, rfl, Nat.le_refl _, fun h => absurd rfl h⟩, h, .inl rfl, by decide, by decide⟩
set_option maxRecDepth 100000 in
set_option maxHeartbeats 4000000 in
theorem ann_any (ver : Int) (w : World) : Makes 10 #[.int .i64 ver] w (fun v w' => ∃ u, v = cardV ver u ∧ IsItems w' u annXs ∧ ∃ b c, u = .slice (some b) 2 c) := by
  go_enter Tryz.func10, Tryz.ntmps10
  go_wp2_with fail
  refine bodyPost_ret (v := cardV ver (.slice (some ⟨w.heap.size + 7, 0, none⟩) 2 2)) ?_ rfl ⟨_, rfl, ⟨_, rfl, ?_, _, _, rfl⟩, ?_⟩
  · unfold cardV
    simp only [results, Tryz.f10]
    go_simp
  · generalize hW : ((((((((w.alloc _).alloc _).alloc _).alloc _).alloc _).alloc _).alloc _).alloc _) = W
    obtain ⟨e1, e2, e3, e4, e5, e6, e7⟩ := news8 _ _ _ _ _ _ _ _ _ _ hW
    clear hW
    have s1 : IsStrs W (.slice (some ⟨w.heap.size + 1, 0, none⟩) 1 1) [[65]] := OneS.strs ⟨_, rfl, e1⟩
    have s2 : IsStrs W (.slice (some ⟨w.heap.size + 2, 0, none⟩) 1 1) [[65, 110, 110]] := OneS.strs ⟨_, rfl, e2⟩
    have s3 : IsStrs W (.slice (some ⟨w.heap.size + 3, 0, none⟩) 1 1) [[]] := OneS.strs ⟨_, rfl, e3⟩
    have s4 : IsStrs W (.slice (some ⟨w.heap.size + 4, 0, none⟩) 1 1) [[]] := OneS.strs ⟨_, rfl, e4⟩
    have s5 : IsStrs W (.slice (some ⟨w.heap.size + 5, 0, none⟩) 1 1) [[]] := OneS.strs ⟨_, rfl, e5⟩
    have hl : IsLists W (.slice (some ⟨w.heap.size + 6, 0, none⟩) 5 5) annN.v.ps := by
      refine ⟨[.slice (some ⟨w.heap.size + 1, 0, none⟩) 1 1, .slice (some ⟨w.heap.size + 2, 0, none⟩) 1 1, .slice (some ⟨w.heap.size + 3, 0, none⟩) 1 1, .slice (some ⟨w.heap.size + 4, 0, none⟩) 1 1, .slice (some ⟨w.heap.size + 5, 0, none⟩) 1 1], ⟨rfl, by simp [Value.oneCell'], .inr ⟨w.heap.size + 6, 0, 5, rfl, (Array.getElem?_eq_some_iff.1 e6).1, by simp [annN], fun j hj => ?_⟩⟩, Nat.le_refl _, fun i l hi => ?_⟩
      · rw [cell_of_row W _ _ _ _ _ e6, Nat.zero_add]; simp
      · match i, hi with
        | 0, hi => cases hi; exact ⟨_, rfl, s1⟩
        | 1, hi => cases hi; exact ⟨_, rfl, s2⟩
        | 2, hi => cases hi; exact ⟨_, rfl, s3⟩
        | 3, hi => cases hi; exact ⟨_, rfl, s4⟩
        | 4, hi => cases hi; exact ⟨_, rfl, s5⟩
        | n + 5, hi => simp [annN] at hi
    exact items_of_cells (xs := annXs) (cap := 2) ⟨_, _, _, rfl, ok_fn W, _, _, _, rfl, ok_n hl, rfl⟩ (Array.getElem?_eq_some_iff.1 e7).1 (fun j u hu => by
      rw [cell_of_row W _ _ _ _ _ e7, Nat.zero_add]
      rw [List.getElem?_toArray]
      exact hu) (Nat.le_refl _)
  · repeat (first | exact G.refl _ | refine G.alloc ?_ _)
end Go.Proofs.YtdmbhoagjjkogaaGreatDoor

namespace Go.Proofs.YtdmbhoagjjkogaaGreatDoor
open Go.RowKit
set_option linter.unusedVariables false
set_option linter.unusedSimpArgs false
structure AnnAt (m : Nat) (W : World) : Prop where
  e1 : W.heap[m + 1]? = some (.cells #[.string (S [65])] 9 (0, 0))
  e2 : W.heap[m + 2]? = some (.cells #[.string (S [65, 110, 110])] 9 (0, 0))
  e3 : W.heap[m + 3]? = some (.cells #[.string (S [])] 9 (0, 0))
  e4 : W.heap[m + 4]? = some (.cells #[.string (S [])] 9 (0, 0))
  e5 : W.heap[m + 5]? = some (.cells #[.string (S [])] 9 (0, 0))
  e6 : W.heap[m + 6]? = some (.cells #[.slice (some ⟨m + 1, 0, none⟩) 1 1, .slice (some ⟨m + 2, 0, none⟩) 1 1, .slice (some ⟨m + 3, 0, none⟩) 1 1, .slice (some ⟨m + 4, 0, none⟩) 1 1, .slice (some ⟨m + 5, 0, none⟩) 1 1] 23 (0, 0))
  e7 : W.heap[m + 7]? = some (.cells (annFN.cells (.slice none 0 0) (.slice none 0 0) ++ annN.cells (.slice none 0 0) (.slice (some ⟨m + 6, 0, none⟩) 5 5)).toArray 31 (0, 0))
theorem AnnAt.wl {m : Nat} {W : World} {L : List Nat} (h : AnnAt m W) (hL : ∀ X ∈ L, X < m + 1 ∨ m + 8 ≤ X) : AnnAt m (Wl L W) := by
  have k : ∀ b, m + 1 ≤ b ∧ b < m + 8 → (Wl L W).heap[b]? = W.heap[b]? := fun b hb => Wl.other fun X hX => by have := hL X hX; omega
  exact ⟨(k _ (by omega)).trans h.e1, (k _ (by omega)).trans h.e2, (k _ (by omega)).trans h.e3, (k _ (by omega)).trans h.e4, (k _ (by omega)).trans h.e5, (k _ (by omega)).trans h.e6, (k _ (by omega)).trans h.e7⟩
def annCs (m : Nat) : List Value := annFN.cells (.slice none 0 0) (.slice none 0 0) ++ annN.cells (.slice none 0 0) (.slice (some ⟨m + 6, 0, none⟩) 5 5)
theorem AnnAt.grow {m : Nat} {W W' : World} (h : AnnAt m W) (g : G W W') : AnnAt m W' := ⟨row_up h.e1 g, row_up h.e2 g, row_up h.e3 g, row_up h.e4 g, row_up h.e5 g, row_up h.e6 g, row_up h.e7 g⟩
theorem AnnAt.row {m : Nat} {W : World} (h : AnnAt m W) : ItRow W annXs (annCs m) := by
  obtain ⟨e1, e2, e3, e4, e5, e6, e7⟩ := h
  have s1 : IsStrs W (.slice (some ⟨m + 1, 0, none⟩) 1 1) [[65]] := OneS.strs ⟨_, rfl, e1⟩
  have s2 : IsStrs W (.slice (some ⟨m + 2, 0, none⟩) 1 1) [[65, 110, 110]] := OneS.strs ⟨_, rfl, e2⟩
  have s3 : IsStrs W (.slice (some ⟨m + 3, 0, none⟩) 1 1) [[]] := OneS.strs ⟨_, rfl, e3⟩
  have s4 : IsStrs W (.slice (some ⟨m + 4, 0, none⟩) 1 1) [[]] := OneS.strs ⟨_, rfl, e4⟩
  have s5 : IsStrs W (.slice (some ⟨m + 5, 0, none⟩) 1 1) [[]] := OneS.strs ⟨_, rfl, e5⟩
  have hl : IsLists W (.slice (some ⟨m + 6, 0, none⟩) 5 5) annN.v.ps := by
    refine ⟨[.slice (some ⟨m + 1, 0, none⟩) 1 1, .slice (some ⟨m + 2, 0, none⟩) 1 1, .slice (some ⟨m + 3, 0, none⟩) 1 1, .slice (some ⟨m + 4, 0, none⟩) 1 1, .slice (some ⟨m + 5, 0, none⟩) 1 1], ⟨rfl, by simp [Value.oneCell'], .inr ⟨m + 6, 0, 5, rfl, (Array.getElem?_eq_some_iff.1 e6).1, by simp [annN], fun j hj => ?_⟩⟩, Nat.le_refl _, fun i l hi => ?_⟩
    · rw [cell_of_row W _ _ _ _ _ e6, Nat.zero_add]; simp
    · match i, hi with
      | 0, hi => cases hi; exact ⟨_, rfl, s1⟩
      | 1, hi => cases hi; exact ⟨_, rfl, s2⟩
      | 2, hi => cases hi; exact ⟨_, rfl, s3⟩
      | 3, hi => cases hi; exact ⟨_, rfl, s4⟩
      | 4, hi => cases hi; exact ⟨_, rfl, s5⟩
      | n + 5, hi => simp [annN] at hi
  exact ⟨_, _, _, rfl, ok_fn W, _, _, _, rfl, ok_n hl, rfl⟩
theorem AnnAt.lies {m : Nat} {W : World} (h : AnnAt m W) : Lies W (.slice (some ⟨m + 7, 0, none⟩) 2 2) 2 (annCs m) := by
  have e7 := h.e7
  refine ⟨by simp [annCs, It.cells], (show ItRow W annXs (annCs m) from h.row).one, _, 2, rfl, Nat.le_refl _, fun _ => ⟨m + 7, 0, rfl, (Array.getElem?_eq_some_iff.1 e7).1, fun j u hu => ?_⟩⟩
  rw [cell_of_row W _ _ _ _ _ e7, Nat.zero_add, List.getElem?_toArray]
  exact hu
set_option maxRecDepth 100000 in
set_option maxHeartbeats 4000000 in
theorem annAt_any (ver : Int) (w : World) : Makes 10 #[.int .i64 ver] w (fun v w' => v = cardV ver (.slice (some ⟨w.heap.size + 7, 0, none⟩) 2 2) ∧ AnnAt w.heap.size w') := by
  go_enter Tryz.func10, Tryz.ntmps10
  go_wp2_with fail
  refine bodyPost_ret (v := cardV ver (.slice (some ⟨w.heap.size + 7, 0, none⟩) 2 2)) ?_ rfl ⟨_, rfl, ⟨rfl, ?_⟩, ?_⟩
  · unfold cardV
    simp only [results, Tryz.f10]
    go_simp
  · generalize hW : ((((((((w.alloc _).alloc _).alloc _).alloc _).alloc _).alloc _).alloc _).alloc _) = W
    obtain ⟨e1, e2, e3, e4, e5, e6, e7⟩ := news8 _ _ _ _ _ _ _ _ _ _ hW
    exact ⟨e1, e2, e3, e4, e5, e6, e7⟩
  · repeat (first | exact G.refl _ | refine G.alloc ?_ _)
end Go.Proofs.YtdmbhoagjjkogaaGreatDoor
