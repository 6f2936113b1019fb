/-
  The walk of the law FoldJoins: over all texts of at most 2 to the 47 bytes it returns true.
-/
import Derived.Test.YtnllmdognnfnhaaFoldF
import Derived.Test.YtnllmdognnfnhaaRowLine
namespace Go.Proofs.Ytnllmdognnfnhaa
open Go.RowKit
set_option linter.unusedVariables false
set_option linter.unusedSimpArgs false

/-- lines as cells -/
theorem IsLines.cells {w : World} {v : Value} {ls : List Ln} (h : IsLines w v ls) : ∃ ps : List (Ln × Value), ps.map (·.1) = ls ∧ IsRow 3 w v ls.length (rowOf ps) ∧ ∀ p ∈ ps, IsInts w p.2 (natsV p.1.folds) := by
  rcases h with ⟨rfl, rfl⟩ | ⟨b, cap, rfl, hb, h0, hc⟩
  · exact ⟨[], rfl, ⟨by simp [rowOf], by simp [rowOf], .inl ⟨rfl, .inl rfl⟩⟩, by simp⟩
  · have key : ∀ n, n ≤ ls.length → ∃ ps : List (Ln × Value), ps.map (·.1) = ls.take n ∧ (∀ (i : Nat) (p : Ln × Value), ps[i]? = some p → w.cell? ⟨b, 3 * i, none⟩ = some (.string (S p.1.text)) ∧ w.cell? ⟨b, 3 * i + 1, none⟩ = some (.int .i64 p.1.pos) ∧ w.cell? ⟨b, 3 * i + 2, none⟩ = some p.2 ∧ IsInts w p.2 (natsV p.1.folds)) := by
      intro n
      induction n with
      | zero => intro _; exact ⟨[], by simp, by simp⟩
      | succ n ih =>
        intro hn
        obtain ⟨ps, h1, h2⟩ := ih (by omega)
        have hlt : n < ls.length := by omega
        obtain ⟨c0, c1, fv, c2, hf⟩ := hc n ls[n] (List.getElem?_eq_getElem hlt)
        have hpl : ps.length = n := by have := congrArg List.length h1; simp at this; omega
        refine ⟨ps ++ [(ls[n], fv)], ?_, ?_⟩
        · rw [List.map_append, h1, List.take_succ_eq_append_getElem hlt]; rfl
        · intro i p hp
          by_cases hi : i < ps.length
          · rw [List.getElem?_append_left hi] at hp
            exact h2 i p hp
          · rw [List.getElem?_append_right (by omega)] at hp
            have hin : i - ps.length = 0 := by
              rcases Nat.eq_zero_or_pos (i - ps.length) with h | h
              · exact h
              · rw [List.getElem?_eq_none (by simp; omega)] at hp; cases hp
            rw [hin] at hp
            simp at hp
            subst hp
            obtain rfl : i = n := by omega
            exact ⟨c0, c1, c2, hf⟩
    obtain ⟨ps, h1, h2⟩ := key ls.length (Nat.le_refl _)
    rw [List.take_length] at h1
    have hpl : ps.length = ls.length := by rw [← h1]; simp
    have hmem : ∀ p ∈ ps, IsInts w p.2 (natsV p.1.folds) := fun p hp => by
      obtain ⟨i, hi, rfl⟩ := List.getElem_of_mem hp
      exact (h2 i _ (List.getElem?_eq_getElem hi)).2.2.2
    refine ⟨ps, h1, ⟨by rw [rowOf_length, hpl], ?_, .inr ⟨b, 0, cap, rfl, hb, ?_, ?_⟩⟩, hmem⟩
    · intro u hu
      unfold rowOf at hu
      obtain ⟨p, hp, hu⟩ := List.mem_flatMap.1 hu
      simp [lnCells] at hu
      rcases hu with rfl | rfl | rfl
      · rfl
      · rfl
      · obtain ⟨a, c, e⟩ := (hmem p hp).len
        rw [e]; rfl
    · cases ls with
      | nil => exact absurd rfl h0
      | cons _ _ => simp
    · intro j hj
      rw [rowOf_length] at hj
      have hi : j / 3 < ps.length := by omega
      obtain ⟨c0, c1, c2, _⟩ := h2 (j / 3) _ (List.getElem?_eq_getElem hi)
      obtain ⟨r0, r1, r2⟩ := rowOf_at (List.getElem?_eq_getElem hi)
      rw [Nat.zero_add]
      have h3 : j = 3 * (j / 3) ∨ j = 3 * (j / 3) + 1 ∨ j = 3 * (j / 3) + 2 := by omega
      rw [← List.getElem?_eq_getElem]
      rcases h3 with h3 | h3 | h3
      · rw [h3, r0, ← c0, ← h3]
      · rw [h3, r1, ← c1, ← h3]
      · rw [h3, r2, ← c2, ← h3]

/-- the i-th line of both, and of the whole -/
theorem joins_at {xs ys : List Ln} {px py : List (Ln × Value)} {n i : Nat} (hx : px.map (·.1) = xs) (hy : py.map (·.1) = ys) (h : i < xs.length + ys.length) :
    ∃ p l', (px ++ py)[i]? = some p ∧ (xs ++ ys.map (Ln.shift n))[i]? = some l' ∧ (i < xs.length ∧ l' = p.1 ∨ ¬ i < xs.length ∧ l' = p.1.shift n) := by
  subst hx; subst hy
  simp only [List.length_map] at h ⊢
  by_cases hi : i < px.length
  · refine ⟨px[i], px[i].1, ?_, ?_, .inl ⟨hi, rfl⟩⟩
    · rw [List.getElem?_append_left hi, List.getElem?_eq_getElem hi]
    · rw [List.getElem?_append_left (by simpa using hi), List.getElem?_map, List.getElem?_eq_getElem hi]; rfl
  · refine ⟨py[i - px.length]'(by omega), (py[i - px.length]'(by omega)).1.shift n, ?_, ?_, .inr ⟨hi, rfl⟩⟩
    · rw [List.getElem?_append_right (by omega), List.getElem?_eq_getElem (by omega)]
    · rw [List.getElem?_append_right (by simp; omega)]
      simp only [List.length_map, List.getElem?_map, List.getElem?_eq_getElem (show i - px.length < py.length by omega)]
      rfl
theorem ownsRow_line {w : World} {base : Nat} {n : Nat} {ps : List (Ln × Value)} {va : Option Addr} {vc i : Nat} {p : Ln × Value} (h : w.ownsRow base 57 3 (.slice va n vc) n (rowOf ps)) (hp : ps[i]? = some p) :
    ∃ g, va = some ⟨g, 0, none⟩ ∧ g < w.heap.size ∧ w.cell? ⟨g, i * 3, none⟩ = some (.string (S p.1.text)) ∧ w.cell? ⟨g, i * 3 + 1, none⟩ = some (.int .i64 p.1.pos) ∧ w.cell? ⟨g, i * 3 + 2, none⟩ = some p.2 := by
  have hn : n = ps.length := by have := h.1; rw [rowOf_length] at this; omega
  have hi : i < ps.length := by
    rcases Nat.lt_or_ge i ps.length with h | h
    · exact h
    · rw [List.getElem?_eq_none h] at hp; cases hp
  obtain ⟨g, cap, hv, hb, hlt⟩ := h.form (by omega)
  simp only [Value.slice.injEq] at hv
  obtain ⟨rfl, -, rfl⟩ := hv
  obtain ⟨c0, c1, c2⟩ := rowOf_at hp
  have hc := fun j (hj : j < n * 3) => h.cellAt j hj
  rw [Nat.mul_comm i 3]
  exact ⟨g, rfl, hlt, by rw [hc _ (by omega)]; exact c0, by rw [hc _ (by omega)]; exact c1, by rw [hc _ (by omega)]; exact c2⟩

set_option maxRecDepth 100000 in
set_option maxHeartbeats 4000000 in
theorem foldJoins_walk (a b : List UInt8) (w : World) (za : a.length ≤ 140737488351232) (zb : b.length ≤ 140737488351232) : Gives 17 #[.string (S a), .string (S b)] w (.bool true) := by
  by_cases hlen : 3000 < a.length + b.length
  · go_enter Try.func17, Try.ntmps17
    go_wp2_with fail
    refine (folded_any _).use ?_; intro w1 g1
    go_wp2_with fail
    go_ret
    exact ⟨rfl, g1⟩
  have hq : b = [] ∨ (∃ t, b = 32 :: t) ∨ (∃ t, b = 9 :: t) ∨ ∃ c t, b = c :: t ∧ ((c.toNat : Int) == 32) = false ∧ ((c.toNat : Int) == 9) = false := by
    cases b with
    | nil => exact .inl rfl
    | cons c t =>
      right
      by_cases h1 : c = 32
      · subst h1; exact .inl ⟨t, rfl⟩
      by_cases h2 : c = 9
      · subst h2; exact .inr (.inl ⟨t, rfl⟩)
      refine .inr (.inr ⟨c, t, rfl, ?_, ?_⟩)
      · exact beq_eq_false_iff_ne.2 (fun e => h1 (UInt8.toNat_inj.1 (by show c.toNat = 32; omega)))
      · exact beq_eq_false_iff_ne.2 (fun e => h2 (UInt8.toNat_inj.1 (by show c.toNat = 9; omega)))
  by_cases hbl : ∃ c t, b = c :: t ∧ (c = 32 ∨ c = 9)
  · obtain ⟨c, t, rfl, hc⟩ := hbl
    have hl2 : a.length + (t.length + 1) ≤ 3000 := by simp at hlen; omega
    clear hlen hq za zb
    rcases hc with rfl | rfl
    all_goals
      go_enter Try.func17, Try.ntmps17
      go_wp2_with fail
      refine (folded_any _).use ?_; intro w1 g1
      go_wp2_with fail
      go_ret
      exact ⟨rfl, g1⟩
  have hq2 : b = [] ∨ ∃ c t, b = c :: t ∧ ((c.toNat : Int) == 32) = false ∧ ((c.toNat : Int) == 9) = false ∧ a.length + (t.length + 1) ≤ 3000 := by
    rcases hq with h | ⟨t, rfl⟩ | ⟨t, rfl⟩ | ⟨c, t, rfl, h1, h2⟩
    · exact .inl h
    · exact absurd ⟨32, t, rfl, .inl rfl⟩ hbl
    · exact absurd ⟨9, t, rfl, .inr rfl⟩ hbl
    · exact .inr ⟨c, t, rfl, h1, h2, by simp at hlen; omega⟩
  have ha3 : a.length ≤ 3000 := by omega
  have hb3 : b.length ≤ 3000 := by omega
  clear hq hbl za zb
  cases hra : linesGo a 0 [] with
  | bad c p =>
    have HA := hid hra
    clear hra
    have HB := hid (lines_any b)
    rcases hq2 with rfl | ⟨c', t, rfl, q1, q2, q3⟩
    all_goals
      go_enter Try.func17, Try.ntmps17
      go_wp2_with fail
      refine (folded_any _).use ?_; intro w1 g1
      go_wp2_with fail
      refine (lines_bad a c p _ (by omega) HA.out).use ?_
      rintro v w2 ⟨e, rfl, he⟩ g2
      obtain ⟨b', rfl, he1, he2, he3⟩ := he
      clear he1 he2
      go_wp2_with fail
      refine (HB.out _ (by omega)).use ?_
      intro v w3 hv g3
      have hv2 : ∃ x e, v = .tuple #[x, e] := by
        unfold LinesPost at hv
        split at hv
        · obtain ⟨s, rfl, _⟩ := hv; exact ⟨_, _, rfl⟩
        · obtain ⟨e, rfl, _⟩ := hv; exact ⟨_, _, rfl⟩
      obtain ⟨x, e, rfl⟩ := hv2
      clear hv
      go_wp2_with fail
      go_ret
      exact ⟨rfl, (by repeat (first | exact G.refl _ | assumption | apply G.drew | apply G.alloc | refine G.trans ?_ (by assumption)))⟩
  | good xs =>
    cases hrb : linesGo b 0 [] with
    | bad c p =>
      have HA := hid hra
      have HB := hid hrb
      clear hra hrb
      rcases hq2 with rfl | ⟨c', t, rfl, q1, q2, q3⟩
      all_goals
        go_enter Try.func17, Try.ntmps17
        go_wp2_with fail
        refine (folded_any _).use ?_; intro w1 g1
        go_wp2_with fail
        refine (lines_good a xs _ (by omega) HA.out).use ?_
        rintro v w2 ⟨x, rfl, hx⟩ g2
        clear hx
        go_wp2_with fail
        refine (lines_bad _ c p _ (by omega) HB.out).use ?_
        rintro v w3 ⟨e, rfl, he⟩ g3
        obtain ⟨b', rfl, he1, he2, he3⟩ := he
        clear he1 he2
        go_wp2_with fail
        go_ret
        exact ⟨rfl, (by repeat (first | exact G.refl _ | assumption | apply G.drew | apply G.alloc | refine G.trans ?_ (by assumption)))⟩
    | good ys =>
      have HZ := hid (lines_joins hra hrb)
      have HA := hid hra
      have HB := hid hrb
      have cx := lines_count hra
      have cy := lines_count hrb
      have hsx := hid (lines_small hra)
      have hsy := hid (lines_small hrb)
      clear hra hrb
      rcases hq2 with rfl | ⟨c', t, rfl, q1, q2, q3⟩
      · rw [List.append_nil] at HZ
        go_enter Try.func17, Try.ntmps17
        go_wp2_with fail
        refine (folded_any _).use ?_; intro w1 g1
        go_wp2_with fail
        refine (lines_good a xs _ (by omega) HA.out).use ?_
        rintro v w2 ⟨x, rfl, hx⟩ g2
        have HX := hid hx
        clear hx
        obtain ⟨xa, xc, rfl⟩ := HX.out.len
        go_wp2_with fail
        refine (lines_good [] ys _ (by omega) HB.out).use ?_
        rintro v w3 ⟨y, rfl, hy⟩ g3
        have HY := hid hy
        clear hy
        obtain ⟨ya, yc, rfl⟩ := HY.out.len
        go_wp2_with fail
        refine (lines_good (a) (xs ++ ys.map (Ln.shift a.length)) _ (by first | omega | (simp; omega)) HZ.out).use ?_
        rintro v w4 ⟨z, rfl, hz⟩ g4
        have HZZ := hid hz
        clear hz
        obtain ⟨za, zc, hze⟩ := HZZ.out.len
        rw [List.length_append, List.length_map] at hze
        subst hze
        obtain ⟨px, px1, px2, px3⟩ := (HX.out.grow (g3.trans g4)).cells
        obtain ⟨py, py1, py2, py3⟩ := (HY.out.grow g4).cells
        have hpxl : px.length = xs.length := by rw [← px1]; simp
        have hpyl : py.length = ys.length := by rw [← py1]; simp
        have PX1 := hid px1
        have PY1 := hid py1
        have PX2 := hid px2
        have PY2 := hid py2
        have PX3 := hid px3
        have PY3 := hid py3
        have PXL := hid hpxl
        have PYL := hid hpyl
        clear px1 py1 px2 py2 px3 py3 hpxl hpyl
        go_wp2_with fail
        refine (concat_line (by simp) (by simp) (by simp) (PX2.out.grow ((G.refl _).alloc _)) (PY2.out.grow ((G.refl _).alloc _)) (by omega) (by omega)).use ?_
        rintro v w5 ⟨hv, hv0⟩ g5
        obtain ⟨va, vc, hve⟩ : ∃ va vc, v = .slice va (xs.length + ys.length) vc := by
          rcases hv.2 with ⟨h, h2⟩ | ⟨g, cap, cur, h, _⟩
          · exact ⟨_, _, by rw [h, h2]⟩
          · exact ⟨_, _, h⟩
        subst hve
        have HV := hid hv
        have G5 := hid g5
        clear hv hv0 g5
        go_wp2_with fail
        have HZ5 : Hid (IsLines w5 (.slice za (xs.length + ys.length) zc) (xs ++ ys.map (Ln.shift a.length))) := hid (HZZ.out.grow (((G.refl _).alloc _).trans G5.out))
        have HF5 : Hid (∀ p ∈ px ++ py, IsInts w5 p.2 (natsV p.1.folds)) := hid (fun p hp => by
          rcases List.mem_append.1 hp with hp | hp
          · exact (PX3.out p hp).grow (((G.refl _).alloc _).trans G5.out)
          · exact (PY3.out p hp).grow (((G.refl _).alloc _).trans G5.out))
        have HR5 : Hid (w5.ownsRow 0 57 3 (.slice va (xs.length + ys.length) vc) (xs.length + ys.length) (rowOf (px ++ py))) := hid (by
          rw [rowOf_append]
          refine ⟨HV.out.1, ?_⟩
          rcases HV.out.2 with h | ⟨g, cap, cur, h1, h2, h3⟩
          · exact .inl h
          · exact .inr ⟨g, cap, cur, h1, Nat.zero_le _, h3⟩)
        go_loopw [76] (fun iv wr => ∃ i : Nat, iv = .int .i64 i ∧ i ≤ xs.length + ys.length ∧ G w5 wr) (fun iv _ => xs.length + ys.length - (intOf iv).toNat)
        case atStart => exact ⟨0, rfl, Nat.zero_le _, G.refl _⟩
        case round =>
          obtain ⟨i, rfl, hi, hg⟩ := hrel
          have HG := hid hg
          clear hg
          by_cases hlt : i < xs.length + ys.length
          · obtain ⟨p, l', hp, hl', hre⟩ := joins_at (i := i) (n := a.length) PX1.out PY1.out hlt
            obtain ⟨g, hgv, hgb, r0, r1, r2⟩ := ownsRow_line HR5.out hp
            obtain ⟨zb, zc', hze, hzb, hzc⟩ := HZ5.out.at_ (by intro e; have h2 := congrArg List.length e; rw [List.length_append, List.length_map] at h2; simp only [List.length_nil] at h2; omega)
            obtain ⟨z0, z1, zf, z2, hzf⟩ := hzc i l' hl'
            simp only [Value.slice.injEq] at hze
            obtain ⟨rfl, -, rfl⟩ := hze
            subst hgv
            have hpf := HF5.out p (List.mem_of_getElem? hp)
            obtain ⟨fa, fc, hfe⟩ := hpf.len
            have hfn : (natsV p.1.folds).length = p.1.folds.length := by simp [natsV]
            obtain ⟨ga, gc, hge⟩ := hzf.len
            have hgn : (natsV l'.folds).length = l'.folds.length := by simp [natsV]
            rw [hfn] at hfe
            rw [hgn] at hge
            have hgb' : g < _ := Nat.lt_of_lt_of_le hgb HG.out.size
            have hzb' : zb < _ := Nat.lt_of_lt_of_le hzb HG.out.size
            rw [← HG.out.cell (p := ⟨g, i * 3, none⟩) hgb] at r0
            rw [← HG.out.cell (p := ⟨g, i * 3 + 1, none⟩) hgb] at r1
            rw [← HG.out.cell (p := ⟨g, i * 3 + 2, none⟩) hgb] at r2
            rw [Nat.mul_comm 3 i] at z0 z1 z2
            rw [← HG.out.cell (p := ⟨zb, i * 3, none⟩) hzb] at z0
            rw [← HG.out.cell (p := ⟨zb, i * 3 + 1, none⟩) hzb] at z1
            rw [← HG.out.cell (p := ⟨zb, i * 3 + 2, none⟩) hzb] at z2
            have hfl : p.1.folds.length ≤ 3000 ∧ p.1.pos ≤ 3000 := by
              rcases List.mem_append.1 (List.mem_of_getElem? hp) with hm | hm
              · have := hsx.out p.1 (by rw [← PX1.out]; exact List.mem_map_of_mem hm); omega
              · have := hsy.out p.1 (by rw [← PY1.out]; exact List.mem_map_of_mem hm); omega
            obtain ⟨⟨pt, pp, pf⟩, pv⟩ := p
            dsimp only at hre r0 r1 r2 hfl hpf hfe hfn
            subst hfe
            rcases hre with ⟨hix, rfl⟩ | ⟨hix, rfl⟩
            all_goals
              dsimp only [Ln.shift] at z0 z1 z2 hzf hge hgn
              subst hge
              have HPF := hid (hpf.grow HG.out)
              have HZF := hid (hzf.grow HG.out)
              have hfl1 := hfl.1
              have hfl2 := hfl.2
              have HFN := hid hfn
              clear hpf hzf hzc hp hl' hfn hgn hfl
            · go_wp2_with fail
              go_quiet ((go_at_call 36; exact intsEqual_quiet _ (HZF.out.grow ((G.refl _).alloc _)) (HPF.out.grow ((G.refl _).alloc _)) (by rw [HFN.out]; omega) (by rw [HFN.out]; omega) (beq_self_eq_true _)))
              go_wp2_with fail
              go_roundw
              case rel => exact ⟨i + 1, by go_num, by omega, (HG.out.alloc _).drewN _⟩
              case measure => simp [intOf]; omega
            · have hpa : (((a.length : Int) + (pp : Int)) != (pp : Int) + (a.length : Int)) = false := by simp; omega
              go_wp2_with fail
              go_quiet ((go_at_call 36; exact intsEqual_quiet _ (HZF.out.grow ((G.refl _).alloc _)) (HPF.out.grow ((G.refl _).alloc _)) (by rw [HFN.out]; omega) (by rw [HFN.out]; omega) (beq_self_eq_true _)))
              go_wp2_with fail
              go_roundw
              case rel => exact ⟨i + 1, by go_num, by omega, (HG.out.alloc _).drewN _⟩
              case measure => simp [intOf]; omega
          · obtain rfl : i = xs.length + ys.length := by omega
            go_wp2_with fail
            go_ret
            exact ⟨rfl, ((((g1.trans g2).trans g3).trans g4).alloc _).trans (G5.out.trans HG.out)⟩
      · have HH := trivial
        go_enter Try.func17, Try.ntmps17
        go_wp2_with fail
        refine (folded_any _).use ?_; intro w1 g1
        go_wp2_with fail
        refine (lines_good a xs _ (by omega) HA.out).use ?_
        rintro v w2 ⟨x, rfl, hx⟩ g2
        have HX := hid hx
        clear hx
        obtain ⟨xa, xc, rfl⟩ := HX.out.len
        go_wp2_with fail
        refine (lines_good (c' :: t) ys _ (by omega) HB.out).use ?_
        rintro v w3 ⟨y, rfl, hy⟩ g3
        have HY := hid hy
        clear hy
        obtain ⟨ya, yc, rfl⟩ := HY.out.len
        go_wp2_with fail
        refine (lines_good (a ++ c' :: t) (xs ++ ys.map (Ln.shift a.length)) _ (by first | omega | (simp; omega)) HZ.out).use ?_
        rintro v w4 ⟨z, rfl, hz⟩ g4
        have HZZ := hid hz
        clear hz
        obtain ⟨za, zc, hze⟩ := HZZ.out.len
        rw [List.length_append, List.length_map] at hze
        subst hze
        obtain ⟨px, px1, px2, px3⟩ := (HX.out.grow (g3.trans g4)).cells
        obtain ⟨py, py1, py2, py3⟩ := (HY.out.grow g4).cells
        have hpxl : px.length = xs.length := by rw [← px1]; simp
        have hpyl : py.length = ys.length := by rw [← py1]; simp
        have PX1 := hid px1
        have PY1 := hid py1
        have PX2 := hid px2
        have PY2 := hid py2
        have PX3 := hid px3
        have PY3 := hid py3
        have PXL := hid hpxl
        have PYL := hid hpyl
        clear px1 py1 px2 py2 px3 py3 hpxl hpyl
        go_wp2_with fail
        refine (concat_line (by simp) (by simp) (by simp) (PX2.out.grow ((G.refl _).alloc _)) (PY2.out.grow ((G.refl _).alloc _)) (by omega) (by omega)).use ?_
        rintro v w5 ⟨hv, hv0⟩ g5
        obtain ⟨va, vc, hve⟩ : ∃ va vc, v = .slice va (xs.length + ys.length) vc := by
          rcases hv.2 with ⟨h, h2⟩ | ⟨g, cap, cur, h, _⟩
          · exact ⟨_, _, by rw [h, h2]⟩
          · exact ⟨_, _, h⟩
        subst hve
        have HV := hid hv
        have G5 := hid g5
        clear hv hv0 g5
        go_wp2_with fail
        have HZ5 : Hid (IsLines w5 (.slice za (xs.length + ys.length) zc) (xs ++ ys.map (Ln.shift a.length))) := hid (HZZ.out.grow (((G.refl _).alloc _).trans G5.out))
        have HF5 : Hid (∀ p ∈ px ++ py, IsInts w5 p.2 (natsV p.1.folds)) := hid (fun p hp => by
          rcases List.mem_append.1 hp with hp | hp
          · exact (PX3.out p hp).grow (((G.refl _).alloc _).trans G5.out)
          · exact (PY3.out p hp).grow (((G.refl _).alloc _).trans G5.out))
        have HR5 : Hid (w5.ownsRow 0 57 3 (.slice va (xs.length + ys.length) vc) (xs.length + ys.length) (rowOf (px ++ py))) := hid (by
          rw [rowOf_append]
          refine ⟨HV.out.1, ?_⟩
          rcases HV.out.2 with h | ⟨g, cap, cur, h1, h2, h3⟩
          · exact .inl h
          · exact .inr ⟨g, cap, cur, h1, Nat.zero_le _, h3⟩)
        go_loopw [76] (fun iv wr => ∃ i : Nat, iv = .int .i64 i ∧ i ≤ xs.length + ys.length ∧ G w5 wr) (fun iv _ => xs.length + ys.length - (intOf iv).toNat)
        case atStart => exact ⟨0, rfl, Nat.zero_le _, G.refl _⟩
        case round =>
          obtain ⟨i, rfl, hi, hg⟩ := hrel
          have HG := hid hg
          clear hg
          by_cases hlt : i < xs.length + ys.length
          · obtain ⟨p, l', hp, hl', hre⟩ := joins_at (i := i) (n := a.length) PX1.out PY1.out hlt
            obtain ⟨g, hgv, hgb, r0, r1, r2⟩ := ownsRow_line HR5.out hp
            obtain ⟨zb, zc', hze, hzb, hzc⟩ := HZ5.out.at_ (by intro e; have h2 := congrArg List.length e; rw [List.length_append, List.length_map] at h2; simp only [List.length_nil] at h2; omega)
            obtain ⟨z0, z1, zf, z2, hzf⟩ := hzc i l' hl'
            simp only [Value.slice.injEq] at hze
            obtain ⟨rfl, -, rfl⟩ := hze
            subst hgv
            have hpf := HF5.out p (List.mem_of_getElem? hp)
            obtain ⟨fa, fc, hfe⟩ := hpf.len
            have hfn : (natsV p.1.folds).length = p.1.folds.length := by simp [natsV]
            obtain ⟨ga, gc, hge⟩ := hzf.len
            have hgn : (natsV l'.folds).length = l'.folds.length := by simp [natsV]
            rw [hfn] at hfe
            rw [hgn] at hge
            have hgb' : g < _ := Nat.lt_of_lt_of_le hgb HG.out.size
            have hzb' : zb < _ := Nat.lt_of_lt_of_le hzb HG.out.size
            rw [← HG.out.cell (p := ⟨g, i * 3, none⟩) hgb] at r0
            rw [← HG.out.cell (p := ⟨g, i * 3 + 1, none⟩) hgb] at r1
            rw [← HG.out.cell (p := ⟨g, i * 3 + 2, none⟩) hgb] at r2
            rw [Nat.mul_comm 3 i] at z0 z1 z2
            rw [← HG.out.cell (p := ⟨zb, i * 3, none⟩) hzb] at z0
            rw [← HG.out.cell (p := ⟨zb, i * 3 + 1, none⟩) hzb] at z1
            rw [← HG.out.cell (p := ⟨zb, i * 3 + 2, none⟩) hzb] at z2
            have hfl : p.1.folds.length ≤ 3000 ∧ p.1.pos ≤ 3000 := by
              rcases List.mem_append.1 (List.mem_of_getElem? hp) with hm | hm
              · have := hsx.out p.1 (by rw [← PX1.out]; exact List.mem_map_of_mem hm); omega
              · have := hsy.out p.1 (by rw [← PY1.out]; exact List.mem_map_of_mem hm); omega
            obtain ⟨⟨pt, pp, pf⟩, pv⟩ := p
            dsimp only at hre r0 r1 r2 hfl hpf hfe hfn
            subst hfe
            rcases hre with ⟨hix, rfl⟩ | ⟨hix, rfl⟩
            all_goals
              dsimp only [Ln.shift] at z0 z1 z2 hzf hge hgn
              subst hge
              have HPF := hid (hpf.grow HG.out)
              have HZF := hid (hzf.grow HG.out)
              have hfl1 := hfl.1
              have hfl2 := hfl.2
              have HFN := hid hfn
              clear hpf hzf hzc hp hl' hfn hgn hfl
            · go_wp2_with fail
              go_quiet ((go_at_call 36; exact intsEqual_quiet _ (HZF.out.grow ((G.refl _).alloc _)) (HPF.out.grow ((G.refl _).alloc _)) (by rw [HFN.out]; omega) (by rw [HFN.out]; omega) (beq_self_eq_true _)))
              go_wp2_with fail
              go_roundw
              case rel => exact ⟨i + 1, by go_num, by omega, (HG.out.alloc _).drewN _⟩
              case measure => simp [intOf]; omega
            · have hpa : (((a.length : Int) + (pp : Int)) != (pp : Int) + (a.length : Int)) = false := by simp; omega
              go_wp2_with fail
              go_quiet ((go_at_call 36; exact intsEqual_quiet _ (HZF.out.grow ((G.refl _).alloc _)) (HPF.out.grow ((G.refl _).alloc _)) (by rw [HFN.out]; omega) (by rw [HFN.out]; omega) (beq_self_eq_true _)))
              go_wp2_with fail
              go_roundw
              case rel => exact ⟨i + 1, by go_num, by omega, (HG.out.alloc _).drewN _⟩
              case measure => simp [intOf]; omega
          · obtain rfl : i = xs.length + ys.length := by omega
            go_wp2_with fail
            go_ret
            exact ⟨rfl, ((((g1.trans g2).trans g3).trans g4).alloc _).trans (G5.out.trans HG.out)⟩

end Go.Proofs.Ytnllmdognnfnhaa
