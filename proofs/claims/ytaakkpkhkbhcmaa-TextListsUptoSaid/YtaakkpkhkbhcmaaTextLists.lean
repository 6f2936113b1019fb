/-
  CONTRACT of heavy; WALKS of the laws TextConcats, TextLists.
-/
import Derived.Test.YtaakkpkhkbhcmaaTextStill
namespace Go.Proofs.Ytaakkpkhkbhcmaa
open Go.RowKit
set_option linter.unusedVariables false
set_option linter.unusedSimpArgs false

/-- a sum over the first k -/
def sumTo {α : Type} (f : α → Nat) (l : List α) (k : Nat) : Nat := ((l.take k).map f).sum
theorem sumTo_zero {α : Type} (f : α → Nat) (l : List α) : sumTo f l 0 = 0 := by simp [sumTo]
theorem sumTo_snoc {α : Type} (f : α → Nat) (l : List α) (k : Nat) (h : k < l.length) : sumTo f l (k + 1) = sumTo f l k + f l[k] := by
  unfold sumTo
  rw [List.take_succ_eq_append_getElem h, List.map_append, List.sum_append]
  simp
theorem sumTo_all {α : Type} (f : α → Nat) (l : List α) (k : Nat) (h : l.length ≤ k) : sumTo f l k = (l.map f).sum := by
  unfold sumTo; rw [List.take_of_length_le h]
theorem sumTo_le {α : Type} (f : α → Nat) (l : List α) (k : Nat) : sumTo f l k ≤ (l.map f).sum := by
  unfold sumTo
  conv => rhs; rw [← List.take_append_drop k l, List.map_append, List.sum_append]
  omega
theorem sumL_split (x : List (List UInt8)) : sumL x = x.length + (x.map List.length).sum := by
  induction x with
  | nil => rfl
  | cons a x ih => rw [sumL_cons, ih]; simp; omega
theorem sumP_split (x : List (List (List UInt8))) : sumP x = x.length + (x.map sumL).sum := by
  induction x with
  | nil => rfl
  | cons a x ih => rw [sumP_cons, ih]; simp; omega
set_option maxRecDepth 100000 in
set_option maxHeartbeats 2000000 in
theorem heavy_any {v : Value} {ls : List (List (List UInt8))} (w : World) (h : IsLists w v ls) (hb : sumP ls ≤ 2000000) : Pure 27 #[v] w (.bool (decide (1500 < sumP ls))) := by
  have hsp := sumP_split ls
  obtain ⟨a, cap, hv, _⟩ := h.len
  have H := hid h
  have HSP := hid hsp
  subst hv
  have htot : (ls.map sumL).sum ≤ 2000000 := by omega
  have hll : ls.length + (ls.map sumL).sum ≤ 2000000 := by omega
  clear h hsp
  go_enter Try.func27, Try.ntmps27
  go_wp2_with fail
  go_loop [3, 12] (fun n i => ∃ k : Nat, k ≤ ls.length ∧ i = .int .i64 k ∧ n = .int .i64 ((ls.length + sumTo sumL ls k : Nat) : Int)) (fun _ i => ls.length - (intOf i).toNat)
  case atStart => exact ⟨0, Nat.zero_le _, rfl, by rw [sumTo_zero]; rfl⟩
  case round =>
    obtain ⟨k, hk, rfl, rfl⟩ := hrel
    have hst := sumTo_le sumL ls k
    by_cases hlt : k < ls.length
    · obtain ⟨b, o, c, e1, _, hb', hc⟩ := H.out.at_ (by rintro rfl; simp at hlt)
      simp only [Value.slice.injEq, true_and] at e1
      obtain ⟨rfl, rfl⟩ := e1
      obtain ⟨sv, d1, i1⟩ := hc k _ (List.getElem?_eq_getElem hlt)
      have hsn := sumTo_snoc sumL ls k hlt
      have hst2 := sumTo_le sumL ls (k + 1)
      obtain ⟨x, hx⟩ : ∃ x, ls[k] = x := ⟨_, rfl⟩
      rw [hx] at i1 hsn
      have hxs := sumL_split x
      obtain ⟨xa, xc, hxv, _⟩ := i1.len
      have I1 := hid i1
      subst hxv
      obtain ⟨B, hB⟩ : ∃ B, ls.length + sumTo sumL ls k = B := ⟨_, rfl⟩
      have hB2 : B + x.length + (x.map List.length).sum ≤ 2000000 := by omega
      have HSN : Hid (ls.length + sumTo sumL ls (k + 1) = B + x.length + (x.map List.length).sum) := hid (by omega)
      rw [hB]
      clear hc i1 hx hsn hst2 hxs hB hst
      go_wp2_with fail
      go_loop [3, 22] (fun n i => ∃ j : Nat, j ≤ x.length ∧ i = .int .i64 j ∧ n = .int .i64 ((B + x.length + sumTo List.length x j : Nat) : Int)) (fun _ i => x.length - (intOf i).toNat)
      case atStart => exact ⟨0, Nat.zero_le _, rfl, by rw [sumTo_zero]; go_num⟩
      case round =>
        obtain ⟨j, hj, rfl, rfl⟩ := hrel
        have hst := sumTo_le List.length x j
        by_cases hjt : j < x.length
        · obtain ⟨b2, o2, c2, e2, _, hb2', hc2⟩ := I1.out.at_ (by rintro rfl; simp at hjt)
          simp only [Value.slice.injEq, true_and] at e2
          obtain ⟨rfl, rfl⟩ := e2
          have d2 := hc2 j _ (List.getElem?_eq_getElem hjt)
          have hsn := sumTo_snoc List.length x j hjt
          have hst2 := sumTo_le List.length x (j + 1)
          obtain ⟨s, hs⟩ : ∃ s, x[j] = s := ⟨_, rfl⟩
          rw [hs] at d2 hsn
          have hs2 : B + x.length + sumTo List.length x j + s.length ≤ 2000000 := by omega
          have HSJ := hid hsn
          clear hc2 hs hsn hst2
          go_wp2_with fail
          go_round
          case rel => exact ⟨j + 1, by omega, by go_num, by rw [HSJ.out]; go_num⟩
          case measure => simp [intOf]; omega
        · obtain rfl : j = x.length := by omega
          have HE : Hid (sumTo List.length x x.length = (x.map List.length).sum) := hid (sumTo_all _ _ _ (Nat.le_refl _))
          rw [HE.out]
          go_wp2_with fail
          go_round
          case rel => exact ⟨k + 1, by omega, by go_num, by rw [HSN.out]⟩
          case measure => simp [intOf]; omega
    · obtain rfl : k = ls.length := by omega
      have HE : Hid (sumTo sumL ls ls.length = (ls.map sumL).sum) := hid (sumTo_all _ _ _ (Nat.le_refl _))
      rw [HE.out, ← HSP.out]
      clear hst
      go_wp2_with fail
      go_ret
      exact ⟨ret_bool (by simp; omega), rfl⟩

theorem IsStrs.one {w : World} {v : Value} {ls : List (List UInt8)} (h : IsStrs w v ls) : v.oneCell' = true := by
  obtain ⟨a, c, rfl, _⟩ := h.len; rfl
theorem lists_two {w : World} {va vb : Value} {a b : List (List UInt8)} (ha : IsStrs w va a) (hb : IsStrs w vb b) : IsLists (w.alloc (.cells #[va, vb] 31)) (.slice (some ⟨w.heap.size, 0, none⟩) 2 2) [a, b] := by
  have h := lists_lit (w := w) (ls := [a, b]) (vs := [va, vb]) 31 2 rfl (by simp) rfl (by intro u hu; simp at hu; rcases hu with rfl | rfl; exact ha.one; exact hb.one) (by
    intro i l v hl hv
    match i, hl, hv with
    | 0, hl, hv => simp at hl hv; subst hl; subst hv; exact ha
    | 1, hl, hv => simp at hl hv; subst hl; subst hv; exact hb
    | n + 2, hl, hv => simp at hl)
  exact h
theorem concatS_any {q : Nat} {a b : Value} {xs ys : List (List UInt8)} {w : World} (h0 : w.cell? ⟨q, 0, none⟩ = some a) (h1 : w.cell? ⟨q, 1, none⟩ = some b) (hq : q < w.heap.size) (ha : IsStrs w a xs) (hb : IsStrs w b ys) (lx : xs.length ≤ 100000) (ly : ys.length ≤ 100000) :
    Makes 28 #[.slice (some ⟨q, 0, none⟩) 2 2] w (fun v w' => IsStrs w' v (xs ++ ys)) := by
  refine (concat_str h0 h1 hq ha.1 hb.1 lx ly).mono ?_
  rintro v w' g ⟨hown, _⟩
  exact strs_of_own (by simpa using hown)

theorem joinL_append (a b : List (List UInt8)) (ha : a ≠ []) (hb : b ≠ []) : joinL (a ++ b) = joinL a ++ 44 :: joinL b := by
  cases a with
  | nil => exact absurd rfl ha
  | cons x xs =>
    cases b with
    | nil => exact absurd rfl hb
    | cons y ys =>
      rw [List.cons_append, joinL_eq, joinL_eq, joinL_eq, joinS_tail, joinS_tail, joinS_tail]
      simp [Lib.joinTail]
set_option maxRecDepth 100000 in
set_option maxHeartbeats 4000000 in
theorem textConcats_walk (va : Value) (a : List (List UInt8)) (vb : Value) (b : List (List UInt8)) (w : World) (ha : IsStrs w va a) (hb : IsStrs w vb b) (hs : sumL a + sumL b ≤ 1100000) : Gives 9 #[va, vb] w (.bool true) := by
  have hsum : sumP [a, b] = sumL a + sumL b + 2 := by simp [sumP]; omega
  obtain ⟨aa, ac, hva, _⟩ := ha.len
  obtain ⟨ba, bc, hvb, _⟩ := hb.len
  have HA := hid ha
  have HB := hid hb
  subst hva; subst hvb
  clear ha hb
  have hH := fun w1 (g : G w w1) => heavy_any _ (lists_two (HA.out.grow g) (HB.out.grow g)) (by rw [hsum]; omega)
  by_cases hbig : 1500 < sumL a + sumL b + 2
  · rw [hsum, decide_eq_true hbig] at hH
    have HH := hid hH
    clear hH hsum
    go_enter Try.func9, Try.ntmps9
    go_wp2_with fail
    refine (escaped_any _).use ?_; intro w1 g1
    go_wp2_with fail
    refine (HH.out w1 g1).use ?_
    go_wp2_with fail
    go_ret
    exact ⟨rfl, g1.alloc _⟩
  · rw [hsum, decide_eq_false hbig] at hH
    have HH := hid hH
    have la := sumL_len a
    have lb := sumL_len b
    have sab : sumL (a ++ b) ≤ 100000 := by rw [sumL_append]; omega
    have HJ := hid (joinL_append a b)
    clear hH hsum
    by_cases ha0 : a = []
    · subst ha0
      by_cases hb0 : b = []
      · subst hb0
        have HJA : Hid (joinR [] = .tuple #[.string (S []), eno 8]) := hid (rfl)
        have HJB : Hid (joinR [] = .tuple #[.string (S []), eno 8]) := hid (rfl)
        have HJC : Hid (joinR ([] ++ []) = .tuple #[.string (S []), eno 8]) := hid rfl
        go_enter Try.func9, Try.ntmps9
        go_wp2_with fail
        refine (escaped_any _).use ?_; intro w1 g1
        go_wp2_with fail
        refine (HH.out w1 g1).use ?_
        have HA1 := hid ((HA.out.grow g1).grow ((G.refl _).alloc (.cells #[.slice aa 0 ac, .slice ba 0 bc] 31)))
        have HB1 := hid ((HB.out.grow g1).grow ((G.refl _).alloc (.cells #[.slice aa 0 ac, .slice ba 0 bc] 31)))
        have G1 := hid (g1.alloc (.cells #[.slice aa 0 ac, .slice ba 0 bc] 31))
        clear g1
        go_wp2_with fail
        refine (join_text _ [] _ HA1.out (by omega)).use ?_
        intro w2 g2
        rw [HJA.out]
        go_wp2_with fail
        refine (join_text _ [] _ (HB1.out.grow g2) (by omega)).use ?_
        intro w3 g3
        rw [HJB.out]
        go_wp2_with fail
        refine (concatS_any (by rw [World.cell?_alloc_new]; rfl) (by rw [World.cell?_alloc_new]; rfl) (by simp) (((HA1.out.grow g2).grow g3).grow ((G.refl _).alloc _)) (((HB1.out.grow g2).grow g3).grow ((G.refl _).alloc _)) (by first | omega | simp) (by first | omega | simp)).use ?_
        intro v w4 hv g4
        go_wp2_with fail
        refine (join_text _ _ _ hv (by omega)).use ?_
        intro w5 g5
        rw [HJC.out]
        clear hv
        go_wp2_with fail
        go_ret
        refine ⟨ret_bool ?_, (((G1.out.trans g2).trans g3).trans ((G.refl _).alloc _)).trans (g4.trans g5)⟩
        rfl
      · have HJA : Hid (joinR [] = .tuple #[.string (S []), eno 8]) := hid (rfl)
        have HJB : Hid (joinR b = .tuple #[.string (S (joinL b)), .nilIface]) := hid (joinR_ne hb0)
        have HJC : Hid (joinR ([] ++ b) = .tuple #[.string (S (joinL ([] ++ b))), .nilIface]) := hid (joinR_ne (by simp [hb0]))
        have hpb : 0 < b.length := List.length_pos_iff.2 hb0
        clear hb0
        go_enter Try.func9, Try.ntmps9
        go_wp2_with fail
        refine (escaped_any _).use ?_; intro w1 g1
        go_wp2_with fail
        refine (HH.out w1 g1).use ?_
        have HA1 := hid ((HA.out.grow g1).grow ((G.refl _).alloc (.cells #[.slice aa 0 ac, .slice ba b.length bc] 31)))
        have HB1 := hid ((HB.out.grow g1).grow ((G.refl _).alloc (.cells #[.slice aa 0 ac, .slice ba b.length bc] 31)))
        have G1 := hid (g1.alloc (.cells #[.slice aa 0 ac, .slice ba b.length bc] 31))
        clear g1
        go_wp2_with fail
        refine (join_text _ [] _ HA1.out (by omega)).use ?_
        intro w2 g2
        rw [HJA.out]
        go_wp2_with fail
        refine (join_text _ b _ (HB1.out.grow g2) (by omega)).use ?_
        intro w3 g3
        rw [HJB.out]
        go_wp2_with fail
        refine (concatS_any (by rw [World.cell?_alloc_new]; rfl) (by rw [World.cell?_alloc_new]; rfl) (by simp) (((HA1.out.grow g2).grow g3).grow ((G.refl _).alloc _)) (((HB1.out.grow g2).grow g3).grow ((G.refl _).alloc _)) (by first | omega | simp) (by first | omega | simp)).use ?_
        intro v w4 hv g4
        go_wp2_with fail
        refine (join_text _ _ _ hv (by omega)).use ?_
        intro w5 g5
        rw [HJC.out]
        clear hv
        go_wp2_with fail
        go_ret
        refine ⟨ret_bool ?_, (((G1.out.trans g2).trans g3).trans ((G.refl _).alloc _)).trans (g4.trans g5)⟩
        first | (simp; done) | (simp; omega)
    · by_cases hb0 : b = []
      · subst hb0
        have HJA : Hid (joinR a = .tuple #[.string (S (joinL a)), .nilIface]) := hid (joinR_ne ha0)
        have HJB : Hid (joinR [] = .tuple #[.string (S []), eno 8]) := hid (rfl)
        have HJC : Hid (joinR (a ++ []) = .tuple #[.string (S (joinL (a ++ []))), .nilIface]) := hid (joinR_ne (by simp [ha0]))
        have hpa : 0 < a.length := List.length_pos_iff.2 ha0
        clear ha0
        go_enter Try.func9, Try.ntmps9
        go_wp2_with fail
        refine (escaped_any _).use ?_; intro w1 g1
        go_wp2_with fail
        refine (HH.out w1 g1).use ?_
        have HA1 := hid ((HA.out.grow g1).grow ((G.refl _).alloc (.cells #[.slice aa a.length ac, .slice ba 0 bc] 31)))
        have HB1 := hid ((HB.out.grow g1).grow ((G.refl _).alloc (.cells #[.slice aa a.length ac, .slice ba 0 bc] 31)))
        have G1 := hid (g1.alloc (.cells #[.slice aa a.length ac, .slice ba 0 bc] 31))
        clear g1
        go_wp2_with fail
        refine (join_text _ a _ HA1.out (by omega)).use ?_
        intro w2 g2
        rw [HJA.out]
        go_wp2_with fail
        refine (join_text _ [] _ (HB1.out.grow g2) (by omega)).use ?_
        intro w3 g3
        rw [HJB.out]
        go_wp2_with fail
        refine (concatS_any (by rw [World.cell?_alloc_new]; rfl) (by rw [World.cell?_alloc_new]; rfl) (by simp) (((HA1.out.grow g2).grow g3).grow ((G.refl _).alloc _)) (((HB1.out.grow g2).grow g3).grow ((G.refl _).alloc _)) (by first | omega | simp) (by first | omega | simp)).use ?_
        intro v w4 hv g4
        go_wp2_with fail
        refine (join_text _ _ _ hv (by omega)).use ?_
        intro w5 g5
        rw [HJC.out]
        clear hv
        go_wp2_with fail
        go_ret
        refine ⟨ret_bool ?_, (((G1.out.trans g2).trans g3).trans ((G.refl _).alloc _)).trans (g4.trans g5)⟩
        first | (simp; done) | (simp; omega)
      · have HJA : Hid (joinR a = .tuple #[.string (S (joinL a)), .nilIface]) := hid (joinR_ne ha0)
        have HJB : Hid (joinR b = .tuple #[.string (S (joinL b)), .nilIface]) := hid (joinR_ne hb0)
        have HJC : Hid (joinR (a ++ b) = .tuple #[.string (S (joinL (a ++ b))), .nilIface]) := hid (joinR_ne (by simp [ha0]))
        have hpa : 0 < a.length := List.length_pos_iff.2 ha0
        have hpb : 0 < b.length := List.length_pos_iff.2 hb0
        have HE : Hid (joinL (a ++ b) = joinL a ++ 44 :: joinL b) := hid (HJ.out ha0 hb0)
        have lja : (joinL a).length ≤ 10000 := by have := joinL_le a; omega
        have ljb : (joinL b).length ≤ 10000 := by have := joinL_le b; omega
        clear ha0
        clear hb0
        go_enter Try.func9, Try.ntmps9
        go_wp2_with fail
        refine (escaped_any _).use ?_; intro w1 g1
        go_wp2_with fail
        refine (HH.out w1 g1).use ?_
        have HA1 := hid ((HA.out.grow g1).grow ((G.refl _).alloc (.cells #[.slice aa a.length ac, .slice ba b.length bc] 31)))
        have HB1 := hid ((HB.out.grow g1).grow ((G.refl _).alloc (.cells #[.slice aa a.length ac, .slice ba b.length bc] 31)))
        have G1 := hid (g1.alloc (.cells #[.slice aa a.length ac, .slice ba b.length bc] 31))
        clear g1
        go_wp2_with fail
        refine (join_text _ a _ HA1.out (by omega)).use ?_
        intro w2 g2
        rw [HJA.out]
        go_wp2_with fail
        refine (join_text _ b _ (HB1.out.grow g2) (by omega)).use ?_
        intro w3 g3
        rw [HJB.out]
        go_wp2_with fail
        refine (concatS_any (by rw [World.cell?_alloc_new]; rfl) (by rw [World.cell?_alloc_new]; rfl) (by simp) (((HA1.out.grow g2).grow g3).grow ((G.refl _).alloc _)) (((HB1.out.grow g2).grow g3).grow ((G.refl _).alloc _)) (by first | omega | simp) (by first | omega | simp)).use ?_
        intro v w4 hv g4
        go_wp2_with fail
        refine (join_text _ _ _ hv (by omega)).use ?_
        intro w5 g5
        rw [HJC.out, HE.out]
        clear hv
        go_wp2_with fail
        go_ret
        refine ⟨ret_bool ?_, (((G1.out.trans g2).trans g3).trans ((G.refl _).alloc _)).trans (g4.trans g5)⟩
        simp

theorem isEmpty_any {v : Value} {l : List (List UInt8)} (w : World) (h : IsStrs w v l) : Pure 30 #[v] w (.bool (decide (l = []))) := by
  obtain ⟨a, c, hv, _⟩ := h.len
  subst hv
  clear h
  by_cases h0 : l = []
  · subst h0
    go_enter Try.func30, Try.ntmps30
    go_wp2
    go_ret
    exact ⟨rfl, rfl⟩
  · have hne : ((l.length : Int) == 0) = false := beq_eq_false_iff_ne.2 (by have := List.length_pos_iff.2 h0; omega)
    have HR : Hid (decide (l = []) = false) := hid (decide_eq_false h0)
    clear h0
    go_enter Try.func30, Try.ntmps30
    go_wp2
    go_ret
    exact ⟨ret_bool HR.out.symm, rfl⟩
set_option maxRecDepth 100000 in
set_option maxHeartbeats 2000000 in
theorem indexEmpty_any {v : Value} {ls : List (List (List UInt8))} {w : World} (ha : IsLists w v ls) (hl : ls.length ≤ 1000000) (n : Nat) (hn : ls[n]? = some []) :
    Makes 42 #[v, .func (.func 30) #[] #[]] w (fun v _ => ∃ i : Nat, i < ls.length ∧ v = .int .i64 (i : Int)) := by
  obtain ⟨aa, ca, hva, _⟩ := ha.len
  have HA := hid ha
  have HN := hid hn
  subst hva
  clear ha hn
  go_enter Try.func42, Try.ntmps42
  go_wp2_with fail
  go_loopw [8] (fun i wr => ∃ k : Nat, k ≤ ls.length ∧ i = .int .i64 k ∧ G w wr ∧ ∀ j, j < k → ls[j]? ≠ some []) (fun i _ => ls.length - (intOf i).toNat)
  case atStart => exact ⟨0, Nat.zero_le _, rfl, G.refl _, by omega⟩
  case round =>
    obtain ⟨k, hk, rfl, g, hall⟩ := hrel
    have HG := hid g
    have HALL := hid hall
    clear g hall
    by_cases hlt : k < ls.length
    · obtain ⟨b1, o1, c1, e1, _, hb1', hc1⟩ := HA.out.at_ (by rintro rfl; simp at hlt)
      simp only [Value.slice.injEq, true_and] at e1
      obtain ⟨rfl, rfl⟩ := e1
      obtain ⟨s1, d1, i1⟩ := hc1 k _ (List.getElem?_eq_getElem hlt)
      obtain ⟨x, hx⟩ : ∃ x, ls[k] = x := ⟨_, rfl⟩
      rw [hx] at i1
      have I1 := hid (i1.grow HG.out)
      rw [← HG.out.cell (p := ⟨b1, o1 + k, none⟩) hb1'] at d1
      have HX := hid hx
      clear hx i1 hc1
      go_wp2_with fail
      refine (isEmpty_any _ I1.out).use ?_
      by_cases hxe : x = []
      · rw [decide_eq_true hxe]
        go_wp2_with fail
        go_ret
        exact ⟨_, rfl, ⟨k, hlt, rfl⟩, HG.out⟩
      · rw [decide_eq_false hxe]
        have HXE := hid hxe
        clear hxe
        go_wp2_with fail
        go_roundw
        case rel =>
          refine ⟨k + 1, by omega, by go_num, HG.out, fun j hj => ?_⟩
          rcases Nat.lt_or_ge j k with h | h
          · exact HALL.out j h
          · obtain rfl : j = k := by omega
            rw [List.getElem?_eq_getElem hlt, HX.out]
            intro e; injection e with e; exact HXE.out e
        case measure => simp [intOf]; omega
    · exfalso
      have h := HN.out
      rcases Nat.lt_or_ge n k with h2 | h2
      · exact HALL.out n h2 h
      · rw [List.getElem?_eq_none (by omega)] at h; cases h
theorem containsEmpty_any {v : Value} {ls : List (List (List UInt8))} {w : World} (ha : IsLists w v ls) (hl : ls.length ≤ 1000000) (n : Nat) (hn : ls[n]? = some []) :
    Gives 29 #[v, .func (.func 30) #[] #[]] w (.bool true) := by
  have h := indexEmpty_any ha hl n hn
  obtain ⟨aa, ca, hva, _⟩ := ha.len
  subst hva
  clear ha hn
  have H := hid h
  clear h
  go_enter Try.func29, Try.ntmps29
  go_wp2_with fail
  refine H.out.use ?_
  rintro v w1 ⟨i, hi, rfl⟩ g1
  have hi0 : (0 : Int) ≤ (i : Int) := by omega
  go_wp2_with fail
  go_ret
  exact ⟨ret_bool (by simp), g1⟩
set_option maxRecDepth 100000 in
set_option maxHeartbeats 4000000 in
theorem textLists_walk (v : Value) (ls : List (List (List UInt8))) (w : World) (h : IsLists w v ls) (hs : sumP ls ≤ 1100000) : Gives 10 #[v] w (.bool true) := by
  have hH := fun w1 (g : G w w1) => heavy_any _ (h.grow g) (by omega)
  have hlen := sumP_len ls
  by_cases hbig : 1500 < sumP ls
  · rw [decide_eq_true hbig] at hH
    have HH := hid hH
    obtain ⟨aa, ca, hva, _⟩ := h.len
    subst hva
    clear hH h
    go_enter Try.func10, Try.ntmps10
    go_wp2_with fail
    refine (escaped_any _).use ?_; intro w1 g1
    go_wp2_with fail
    refine (HH.out w1 g1).use ?_
    go_wp2_with fail
    go_ret
    exact ⟨rfl, g1⟩
  · rw [decide_eq_false hbig] at hH
    have HH := hid hH
    have HL := hid h
    obtain ⟨aa, ca, hva, _⟩ := h.len
    subst hva
    clear hH h
    go_enter Try.func10, Try.ntmps10
    go_wp2_with fail
    refine (escaped_any _).use ?_; intro w1 g1
    go_wp2_with fail
    refine (HH.out w1 g1).use ?_
    go_wp2_with fail
    refine (joinParts_any _ ls _ (HL.out.grow g1) (by omega)).use ?_
    rintro v w2 hv g2
    rcases hv with ⟨rfl, rfl⟩ | ⟨h1, h2, rfl⟩ | ⟨k, e, h1, rfl, he⟩
    · go_wp2_with fail
      go_ret
      exact ⟨rfl, g1.trans g2⟩
    · have hlp := joinP_le ls
      obtain ⟨l0, LL, rfl⟩ : ∃ l LL, ls = l :: LL := by cases ls with | nil => exact absurd rfl h1 | cons l LL => exact ⟨l, LL, rfl⟩
      obtain ⟨x, xs, CC, e1, e2, e3⟩ := parts_pieces LL l0 (h2 l0 List.mem_cons_self) (fun m hm => h2 m (List.mem_cons_of_mem _ hm)) 0 [] []
      simp only [List.nil_append] at e1
      have hparts := fun w => parts_any (joinP (l0 :: LL)) w (by omega)
      rw [e1] at hparts
      have h0 := h2 l0 List.mem_cons_self
      obtain ⟨y, ys, rfl⟩ : ∃ y ys, l0 = y :: ys := by cases l0 with | nil => exact absurd rfl h0 | cons y ys => exact ⟨y, ys, rfl⟩
      have s0 : sumL (y :: ys) + 1 ≤ sumP ((y :: ys) :: LL) := sumP_mem List.mem_cons_self
      have l0l := sumL_len (y :: ys)
      have hjl := joinL_le (y :: ys)
      have hlist := fun w => list_any (joinL (y :: ys)) w (by omega)
      rw [list_back] at hlist
      have HPA := hid hparts
      have HLI := hid hlist
      have HE3 := hid e3
      have HJ : Hid (joinR (y :: ys) = .tuple #[.string (S (joinL (y :: ys))), .nilIface]) := hid (joinR_ne (by simp))
      have llen : (y :: ys).length ≤ 2000 := by omega
      have HLN := hid llen
      clear hparts hlist e1 e2 e3 h1 h2 h0 llen
      have hne : ((LL.length : Int) + 1 == 0) = false := beq_eq_false_iff_ne.2 (by omega)
      go_wp2_with fail
      refine (HPA.out _).use ?_
      rintro v w3 ⟨mv, rfl, hm⟩ g3
      simp only [List.headD_cons, List.tail_cons] at hm
      rw [HE3.out] at hm
      have HM := hid hm
      clear hm
      have HL3 := hid ((HL.out.grow g1).grow (g2.trans g3))
      simp only [List.length_cons] at HL3
      go_wp2_with fail
      refine (sameLists_any HL3.out HM.out (by omega) (by omega)).use ?_
      intro w4 g4
      rw [decide_eq_true rfl]
      obtain ⟨b1, o1, c1, e1, _, hb1', hc1⟩ := (HL3.out.grow g4).at_ (by simp)
      simp only [Value.slice.injEq, true_and] at e1
      obtain ⟨rfl, -, rfl⟩ := e1
      obtain ⟨sv, d1, i1⟩ := hc1 0 _ rfl
      rw [Nat.add_zero] at d1
      have I1 := hid i1
      clear hc1 i1
      go_wp2_with fail
      refine (join_text _ (y :: ys) _ I1.out (by omega)).use ?_
      intro w5 g5
      rw [HJ.out]
      go_wp2_with fail
      refine (HLI.out _).use ?_
      rintro v w6 ⟨kv, rfl, hkv⟩ g6
      have HK := hid hkv
      clear hkv
      have d6 : w6.cell? ⟨b1, o1, none⟩ = some sv := by rw [(g5.trans g6).cell (p := ⟨b1, o1, none⟩) hb1']; exact d1
      go_wp2_with fail
      refine (eqStrs_any HK.out ((I1.out.grow g5).grow g6) (by have := HLN.out; omega) (by have := HLN.out; omega)).use ?_
      intro w7 g7
      go_wp2_with fail
      go_ret
      exact ⟨ret_bool (by simp), (by repeat (first | exact G.refl _ | assumption | apply G.drew | apply G.alloc | refine G.trans ?_ (by assumption)))⟩
    · obtain ⟨b, rfl, -, -, -⟩ := he
      have hk : k < ls.length := by
        rcases Nat.lt_or_ge k ls.length with h | h
        · exact h
        · rw [List.getElem?_eq_none h] at h1; cases h1
      have hne : ((ls.length : Int) == 0) = false := beq_eq_false_iff_ne.2 (by omega)
      have HC := hid (containsEmpty_any ((HL.out.grow g1).grow g2) (by omega) k h1)
      clear h1
      go_wp2_with fail
      refine HC.out.use ?_
      intro w3 g3
      go_wp2_with fail
      go_ret
      exact ⟨rfl, (by repeat (first | exact G.refl _ | assumption | apply G.drew | apply G.alloc | refine G.trans ?_ (by assumption)))⟩

end Go.Proofs.Ytaakkpkhkbhcmaa
