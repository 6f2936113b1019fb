/-
  Texts merged into one: EqStrs, SameProp.
-/
import Derived.Test.YtccaknanagmmhaaGreatSplit
import Derived.Test.YtccaknanagmmhaaGreatShelf
import Derived.Test.YtccaknanagmmhaaGreatParams
namespace Go.Proofs.YtccaknanagmmhaaGreat
open Go.RowKit
set_option linter.unusedVariables false
set_option linter.unusedSimpArgs false

theorem map_S_inj {a b : List (List UInt8)} (h : a.map S = b.map S) : a = b := by
  induction a generalizing b with
  | nil => cases b with | nil => rfl | cons _ _ => simp at h
  | cons x a ih =>
    cases b with
    | nil => simp at h
    | cons y b =>
      simp only [List.map_cons, List.cons.injEq] at h
      rw [S_inj.1 h.1, ih h.2]
theorem eqStrs_q {va vb : Value} {xs ys : List (List UInt8)} {w : World} (ha : IsStrs w va xs) (hb : IsStrs w vb ys) (lx : xs.length ≤ 1000000) (ly : ys.length ≤ 1000000) :
    Calls Tryz.prog 42 #[va, vb] w fun e w' => e = .returned (.bool (decide (xs = ys))) ∧ ∃ q, w' = w.drewN q := by
  obtain ⟨aa, ca, hva, _⟩ := ha.len
  obtain ⟨ab, cb, hvb, _⟩ := hb.len
  by_cases hn : xs.length = ys.length
  · by_cases h0 : xs = []
    · subst h0
      have : ys = [] := List.eq_nil_of_length_eq_zero (by rw [← hn]; rfl)
      subst this
      subst hva; subst hvb
      refine (Tryz.slices_Equal_string_empty aa ab ca 0 cb w (by omega)).mono ?_
      rintro e w' ⟨rfl, rfl⟩
      exact ⟨by simp, 0, rfl⟩
    · have h1 : ys ≠ [] := by rintro rfl; exact h0 (List.eq_nil_of_length_eq_zero (by rw [hn]; rfl))
      obtain ⟨b1, o1, c1, rfl, _, _, hc1⟩ := ha.at_ h0
      obtain ⟨b2, o2, c2, rfl, _, _, hc2⟩ := hb.at_ h1
      have key : ∀ (l : List (List UInt8)) (b o : Nat), (∀ (i : Nat) (x : List UInt8), l[i]? = some x → w.cell? ⟨b, o + i, none⟩ = some (.string (S x))) → ∀ j, j < (l.map S).length → w.cell? ⟨b, o + j, none⟩ = some (.string ((l.map S).getD j ByteArray.empty)) := by
        intro l b o h j hj
        have hj' : j < l.length := by simpa using hj
        rw [h j l[j] (List.getElem?_eq_getElem hj')]
        simp [List.getD, List.getElem?_eq_getElem hj']
      refine (Tryz.slices_Equal_string b1 o1 xs.length c1 b2 o2 ys.length c2 (xs.map S) (ys.map S) w (by simp) (by simp) (by omega) (by omega) (key xs b1 o1 hc1) (key ys b2 o2 hc2)).mono ?_
      rintro e w' ⟨rfl, hq⟩
      refine ⟨ret_bool ?_, hq⟩
      rw [List.take_of_length_le (by simp), List.take_of_length_le (by simp)]
      exact decide_eq_decide.2 ⟨map_S_inj, fun h => by rw [h]⟩
  · subst hva; subst hvb
    refine (Tryz.slices_Equal_string_lens aa ab xs.length ca ys.length cb w hn).mono ?_
    rintro e w' ⟨rfl, rfl⟩
    exact ⟨ret_bool (decide_eq_false (fun e => hn (by rw [e]))).symm, 0, rfl⟩
theorem G.ofDrewN {w w' : World} (h : ∃ q, w' = w.drewN q) : G w w' := by
  obtain ⟨q, rfl⟩ := h; exact (G.refl w).drewN q
theorem eqStrs_any {va vb : Value} {xs ys : List (List UInt8)} {w : World} (ha : IsStrs w va xs) (hb : IsStrs w vb ys) (lx : xs.length ≤ 1000000) (ly : ys.length ≤ 1000000) : Gives 42 #[va, vb] w (.bool (decide (xs = ys))) :=
  (eqStrs_q ha hb lx ly).mono fun e w' ⟨h1, h2⟩ => ⟨h1, G.ofDrewN h2⟩
theorem IsStrs.lit (w : World) (ls : List (List UInt8)) (n : Nat) (hn : n = ls.length) (h : ls ≠ []) : IsStrs (w.alloc (.cells ((ls.map S).map Value.string).toArray 9)) (.slice (some ⟨w.heap.size, 0, none⟩) n n) ls := by
  subst hn; exact strs_of_alloc w _ ls h


end Go.Proofs.YtccaknanagmmhaaGreat

namespace Go.Proofs.YtccaknanagmmhaaGreat
open Go.RowKit
set_option linter.unusedVariables false
set_option linter.unusedSimpArgs false

set_option maxRecDepth 100000 in
set_option maxHeartbeats 1000000 in
theorem samePm_any (n m : List UInt8) (va vb : Value) (xs ys : List (List UInt8)) (w : World) (ha : IsStrs w va xs) (hb : IsStrs w vb ys) (lx : xs.length ≤ 1000000) (ly : ys.length ≤ 1000000) (ln : n.length ≤ 1000000) (lm : m.length ≤ 1000000) :
    Gives 41 #[.agg #[.string (S n), va], .agg #[.string (S m), vb]] w (.bool (decide ((n, xs) = (m, ys)))) := by
  have HA := hid ha
  have HB := hid hb
  obtain ⟨aa, ca, rfl, _⟩ := ha.len
  obtain ⟨ab, cb, rfl, _⟩ := hb.len
  clear ha hb
  by_cases hnm : n = m
  · subst hnm
    have hd : decide ((n, xs) = (n, ys)) = decide (xs = ys) := by simp
    rw [hd]
    clear hd
    go_enter Tryz.func41, Tryz.ntmps41
    go_wp2_with fail
    refine (eqStrs_any (HA.out.grow (by repeat (first | exact G.refl _ | assumption | apply G.drew | apply G.drewN | apply G.alloc | refine G.trans ?_ (by assumption)))) (HB.out.grow (by repeat (first | exact G.refl _ | assumption | apply G.drew | apply G.drewN | apply G.alloc | refine G.trans ?_ (by assumption)))) lx ly).use ?_
    intro w1 g1
    go_wp2_with fail
    go_ret
    exact ⟨rfl, G.trans (by repeat (first | exact G.refl _ | assumption | apply G.drew | apply G.drewN | apply G.alloc | refine G.trans ?_ (by assumption))) g1⟩
  · have hd : decide ((n, xs) = (m, ys)) = false := decide_eq_false fun e => hnm (congrArg Prod.fst e)
    have hz : (n == m) = false := beq_eq_false_iff_ne.2 hnm
    rw [hd]
    clear hd hnm
    go_enter Tryz.func41, Tryz.ntmps41
    go_wp2_with fail
    go_ret
    exact ⟨rfl, (by repeat (first | exact G.refl _ | assumption | apply G.drew | apply G.drewN | apply G.alloc | refine G.trans ?_ (by assumption)))⟩
def smallPm (ps : List Pm) : Prop := ∀ p ∈ ps, p.1.length ≤ 1000000 ∧ p.2.length ≤ 1000000
set_option maxRecDepth 100000 in
set_option maxHeartbeats 2000000 in
theorem eqParams_any {va vb : Value} {xs ys : List Pm} {w : World} (ha : IsParams w va xs) (hb : IsParams w vb ys) (lx : xs.length ≤ 1000000) (ly : ys.length ≤ 1000000) (sx : smallPm xs) (sy : smallPm ys) :
    Gives 40 #[va, vb, .func (.func 41) #[] #[]] w (.bool (decide (xs = ys))) := by
  have HA := hid ha
  have HB := hid hb
  obtain ⟨aa, ca, rfl, _, _⟩ := ha
  obtain ⟨ab, cb, rfl, _, _⟩ := hb
  have SX := hid sx
  have SY := hid sy
  clear sx sy
  by_cases hn : xs.length = ys.length
  · have hb1 : ((xs.length : Int) != (ys.length : Int)) = false := by rw [hn]; simp
    have HN := hid hn
    clear hn
    go_enter Tryz.func40, Tryz.ntmps40
    go_wp2_with fail
    go_loopw [17] (fun i wr => ∃ k : Nat, k ≤ xs.length ∧ i = .int .i64 k ∧ G w wr ∧ ∀ j, j < k → xs[j]? = ys[j]?) (fun i _ => xs.length - (intOf i).toNat)
    case atStart => exact ⟨0, Nat.zero_le _, rfl, G.refl _, by omega⟩
    case round =>
      obtain ⟨k, hk, rfl, g, hall⟩ := hrel
      have HG := hid g
      have HALL := hid hall
      clear g hall
      by_cases hlt : k < xs.length
      · have hlt2 : k < ys.length := by rw [← HN.out]; exact hlt
        obtain ⟨a1, c1, e1, _, hc1⟩ := HA.out
        obtain ⟨b1, o1, e1', hb1', hcc1⟩ := hc1 (by rintro rfl; simp at hlt)
        obtain ⟨a2, c2, e2, _, hc2⟩ := HB.out
        obtain ⟨b2, o2, e2', hb2', hcc2⟩ := hc2 (by rintro rfl; simp at hlt2)
        simp only [Value.slice.injEq, true_and] at e1 e2
        obtain ⟨rfl, rfl⟩ := e1
        obtain ⟨rfl, rfl⟩ := e2
        subst e1'; subst e2'
        obtain ⟨s1, d1, f1, i1⟩ := hcc1 k _ (List.getElem?_eq_getElem hlt)
        obtain ⟨s2, d2, f2, i2⟩ := hcc2 k _ (List.getElem?_eq_getElem hlt2)
        obtain ⟨x, hx⟩ : ∃ x, xs[k] = x := ⟨_, rfl⟩
        obtain ⟨y, hy⟩ : ∃ y, ys[k] = y := ⟨_, rfl⟩
        have zx := SX.out _ (List.getElem_mem hlt)
        have zy := SY.out _ (List.getElem_mem hlt2)
        rw [hx] at i1 zx d1
        rw [hy] at i2 zy d2
        have I1 := hid i1
        have I2 := hid i2
        obtain ⟨ax, cx, rfl, _⟩ := i1.len
        obtain ⟨ay, cy, rfl, _⟩ := i2.len
        rw [← HG.out.cell (p := ⟨b1, o1 + k * 2, none⟩) hb1'] at d1
        rw [← HG.out.cell (p := ⟨b2, o2 + k * 2, none⟩) hb2'] at d2
        rw [← HG.out.cell (p := ⟨b1, o1 + k * 2 + 1, none⟩) hb1'] at f1
        rw [← HG.out.cell (p := ⟨b2, o2 + k * 2 + 1, none⟩) hb2'] at f2
        have bl1 : b1 < wr.heap.size := Nat.lt_of_lt_of_le hb1' HG.out.size
        have bl2 : b2 < wr.heap.size := Nat.lt_of_lt_of_le hb2' HG.out.size
        have HX := hid hx
        have HY := hid hy
        have ZX := hid zx
        have ZY := hid zy
        obtain ⟨n, x⟩ := x
        obtain ⟨m, y⟩ := y
        clear hx hy i1 i2 hc1 hc2 hcc1 hcc2 zx zy
        simp only at d1 d2
        obtain ⟨r, hr⟩ : ∃ r, decide ((n, x) = (m, y)) = r := ⟨_, rfl⟩
        have SP := hid (fun W (g : G wr W) => show Gives 41 #[.agg #[.string (S n), .slice ax x.length cx], .agg #[.string (S m), .slice ay y.length cy]] W (.bool r) by rw [← hr]; exact samePm_any n m _ _ x y W (I1.out.grow (G.trans HG.out g)) (I2.out.grow (G.trans HG.out g)) ZX.out.2 ZY.out.2 ZX.out.1 ZY.out.1)
        have HRR := hid hr
        clear hr
        go_wp2_with (go_at_call 41; refine (SP.out _ (by repeat (first | exact G.refl _ | assumption | apply G.drew | apply G.drewN | apply G.alloc | refine G.trans ?_ (by assumption)))).use ?_)
        intro w1 g1
        have G1 := hid (HG.out.trans (G.trans (by repeat (first | exact G.refl _ | assumption | apply G.drew | apply G.drewN | apply G.alloc | refine G.trans ?_ (by assumption))) g1))
        clear g1
        cases r with
        | true =>
          go_wp2_with fail
          go_roundw
          case rel =>
            refine ⟨k + 1, by omega, by go_num, G1.out, fun j hj => ?_⟩
            rcases Nat.lt_or_ge j k with h | h
            · exact HALL.out j h
            · obtain rfl : j = k := by omega
              rw [List.getElem?_eq_getElem hlt, List.getElem?_eq_getElem hlt2, HX.out, HY.out, of_decide_eq_true HRR.out]
          case measure => simp [intOf]; omega
        | false =>
          have HR : Hid (decide (xs = ys) = false) := hid (decide_eq_false (by
            intro e
            apply of_decide_eq_false HRR.out
            rw [← HX.out, ← HY.out]
            simp only [e]))
          go_wp2_with fail
          go_ret
          exact ⟨ret_bool HR.out.symm, G1.out⟩
      · have HR : Hid (decide (xs = ys) = true) := hid (decide_eq_true (by
          apply List.ext_getElem?
          intro j
          rcases Nat.lt_or_ge j k with h | h
          · exact HALL.out j h
          · rw [List.getElem?_eq_none (by omega), List.getElem?_eq_none (by have := HN.out; omega)]))
        go_wp2_with fail
        go_ret
        exact ⟨ret_bool HR.out.symm, HG.out⟩
  · have hb1 : ((xs.length : Int) != (ys.length : Int)) = true := by simp; omega
    have HR : Hid (decide (xs = ys) = false) := hid (decide_eq_false fun e => hn (by rw [e]))
    clear hn
    go_enter Tryz.func40, Tryz.ntmps40
    go_wp2_with fail
    go_ret
    exact ⟨ret_bool HR.out.symm, G.refl _⟩
set_option maxRecDepth 100000 in
set_option maxHeartbeats 1000000 in
theorem sameParams_any {va vb : Value} {xs ys : List Pm} {w : World} (ha : IsParams w va xs) (hb : IsParams w vb ys) (lx : xs.length ≤ 1000000) (ly : ys.length ≤ 1000000) (sx : smallPm xs) (sy : smallPm ys) :
    Gives 21 #[va, vb] w (.bool (decide (xs = ys))) := by
  have EQ := hid (fun W (g : G w W) => eqParams_any (ha.grow g) (hb.grow g) lx ly sx sy)
  obtain ⟨aa, ca, rfl, _, _⟩ := ha
  obtain ⟨ab, cb, rfl, _, _⟩ := hb
  go_enter Tryz.func21, Tryz.ntmps21
  go_wp2_with fail
  refine (EQ.out _ (by repeat (first | exact G.refl _ | assumption | apply G.drew | apply G.drewN | apply G.alloc | refine G.trans ?_ (by assumption)))).use ?_
  intro w1 g1
  go_wp2_with fail
  go_ret
  exact ⟨rfl, g1⟩
set_option maxRecDepth 100000 in
set_option maxHeartbeats 2000000 in
theorem sameProp_any {va vb : Value} {xs ys : List Pm} {w : World} (ga gb na nb ea eb : List UInt8) (ha : IsParams w va xs) (hb : IsParams w vb ys) (lx : xs.length ≤ 1000000) (ly : ys.length ≤ 1000000) (sx : smallPm xs) (sy : smallPm ys)
    (l1 : ga.length ≤ 1000000) (l2 : gb.length ≤ 1000000) (l3 : na.length ≤ 1000000) (l4 : nb.length ≤ 1000000) (l5 : ea.length ≤ 1000000) (l6 : eb.length ≤ 1000000) :
    Gives 14 #[.agg #[.string (S ga), .string (S na), va, .string (S ea)], .agg #[.string (S gb), .string (S nb), vb, .string (S eb)]] w (.bool (decide (ga = gb ∧ na = nb ∧ ea = eb ∧ xs = ys))) := by
  have EQ := hid (fun W (g : G w W) => sameParams_any (ha.grow g) (hb.grow g) lx ly sx sy)
  obtain ⟨aa, ca, rfl, _, _⟩ := ha
  obtain ⟨ab, cb, rfl, _, _⟩ := hb
  by_cases h1 : ga = gb
  · subst h1
    by_cases h2 : na = nb
    · subst h2
      by_cases h3 : ea = eb
      · subst h3
        have hd : decide (ga = ga ∧ na = na ∧ ea = ea ∧ xs = ys) = decide (xs = ys) := by simp
        rw [hd]
        clear hd
        go_enter Tryz.func14, Tryz.ntmps14
        go_wp2_with fail
        refine (EQ.out _ (by repeat (first | exact G.refl _ | assumption | apply G.drew | apply G.drewN | apply G.alloc | refine G.trans ?_ (by assumption)))).use ?_
        intro w1 g1
        go_wp2_with fail
        go_ret
        exact ⟨rfl, G.trans (by repeat (first | exact G.refl _ | assumption | apply G.drew | apply G.drewN | apply G.alloc | refine G.trans ?_ (by assumption))) g1⟩
      · have hd : decide (ga = ga ∧ na = na ∧ ea = eb ∧ xs = ys) = false := decide_eq_false fun e => h3 e.2.2.1
        have hz : (ea == eb) = false := beq_eq_false_iff_ne.2 h3
        rw [hd]
        clear hd h3
        go_enter Tryz.func14, Tryz.ntmps14
        go_wp2_with fail
        go_ret
        exact ⟨rfl, (by repeat (first | exact G.refl _ | assumption | apply G.drew | apply G.drewN | apply G.alloc | refine G.trans ?_ (by assumption)))⟩
    · have hd : decide (ga = ga ∧ na = nb ∧ ea = eb ∧ xs = ys) = false := decide_eq_false fun e => h2 e.2.1
      have hz : (na == nb) = false := beq_eq_false_iff_ne.2 h2
      rw [hd]
      clear hd h2
      go_enter Tryz.func14, Tryz.ntmps14
      go_wp2_with fail
      go_ret
      exact ⟨rfl, (by repeat (first | exact G.refl _ | assumption | apply G.drew | apply G.drewN | apply G.alloc | refine G.trans ?_ (by assumption)))⟩
  · have hd : decide (ga = gb ∧ na = nb ∧ ea = eb ∧ xs = ys) = false := decide_eq_false fun e => h1 e.1
    have hz : (ga == gb) = false := beq_eq_false_iff_ne.2 h1
    rw [hd]
    clear hd h1
    go_enter Tryz.func14, Tryz.ntmps14
    go_wp2_with fail
    go_ret
    exact ⟨rfl, (by repeat (first | exact G.refl _ | assumption | apply G.drew | apply G.drewN | apply G.alloc | refine G.trans ?_ (by assumption)))⟩

end Go.Proofs.YtccaknanagmmhaaGreat
