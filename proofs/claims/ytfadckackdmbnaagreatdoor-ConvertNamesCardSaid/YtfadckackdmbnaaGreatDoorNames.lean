/-
  The law ConvertNames walked.
-/
import Derived.Test.YtfadckackdmbnaaGreatDoorUrisPlain
import Derived.Test.YtfadckackdmbnaaGreatDoorConvOld1
import Derived.Test.YtfadckackdmbnaaGreatDoorMA53
import Derived.Test.YtfadckackdmbnaaGreatDoorMA46
namespace Go.Proofs.YtfadckackdmbnaaGreatDoor
open Go.RowKit
set_option linter.unusedVariables false
set_option linter.unusedSimpArgs false
theorem ann_more {v : Int} {y : It} (hv : v = 3 ∨ v = 4) (ho : oneB v y = true) (hm : mostN v [annFN.n, annN.n, y.n] = true) (hl : leastN v [annFN.n, annN.n, y.n] = true) : rightC v (annXs ++ [y]) = true := by
  refine rightC_iff.2 ⟨hv, (by show (3 : Nat) ≤ 60; omega), fun x hx => ?_, hm, hl⟩
  simp only [annXs, List.mem_append, List.mem_cons, List.mem_nil_iff, or_false] at hx
  rcases hx with (rfl | rfl) | rfl
  · rcases hv with rfl | rfl <;> decide +kernel
  · rcases hv with rfl | rfl <;> decide +kernel
  · exact ho
theorem ann_up {x y : It} (h3 : rightC 3 (annXs ++ [x]) = true) (hn : sameL x.n nLABEL = false) (ho : oneX x = (y, true)) (h4 : rightC 4 (annXs ++ [y]) = true) : upX (annXs ++ [x]) = some (annXs ++ [y]) := by
  have hl : labelsX (annXs ++ [x]) = annXs ++ [x] := labels_none fun z hz => by
    simp only [annXs, List.mem_append, List.mem_cons, List.mem_nil_iff, or_false] at hz
    rcases hz with (rfl | rfl) | rfl
    · decide +kernel
    · decide +kernel
    · exact hn
  have hm : (annXs ++ [x]).map (fun x => (oneX x).1) = annXs ++ [y] := by
    show [(oneX annFN).1, (oneX annN).1, (oneX x).1] = _
    rw [ann_one.1, ann_one.2, ho]; rfl
  have ha : (annXs ++ [x]).all (fun x => (oneX x).2) = true := by
    show ((oneX annFN).2 && ((oneX annN).2 && ((oneX x).2 && true))) = true
    rw [ann_one.1, ann_one.2, ho]; rfl
  unfold upX
  rw [if_pos h3, hl, if_pos ha, hm, if_pos h4]
def OldN (n : List UInt8) : Prop := n = nAGENT ∨ n = nCLASS ∨ n = nMAILER ∨ n = nNAME ∨ n = nSORT
def oIt (n s : List UInt8) : It := ⟨[], n, [], tV 1 s⟩
def oY (n s : List UInt8) : It := ⟨[], 88 :: 45 :: n, [], tV 8 (escL s)⟩
theorem old_len {n : List UInt8} (h : OldN n) : n.length ≤ 11 := by rcases h with rfl | rfl | rfl | rfl | rfl <;> decide
theorem o_one {n s : List UInt8} (h : OldN n) : oneX (oIt n s) = (oY n s, true) := by
  have e1 : prefersL (oIt n s).ps = [] := rfl
  have hb : bigN (upperL n) = false := by rcases h with rfl | rfl | rfl | rfl | rfl <;> decide +kernel
  have ho : otherN (upperL n) = true := by rcases h with rfl | rfl | rfl | rfl | rfl <;> decide +kernel
  have hu : upperL n = n := by rcases h with rfl | rfl | rfl | rfl | rfl <;> decide +kernel
  unfold oneX
  simp only
  rw [show (oIt n s).n = n from rfl, if_neg (by rw [hb]; decide), if_pos ho, hu, e1]
  rfl
theorem o_holds {n s : List UInt8} (h : rightC 3 (annXs ++ [oIt n s]) = true) : holdsB s true = true := by
  have := (one_iff.1 ((rightC_iff.1 h).2.2.1 (oIt n s) (by simp))).2.2.2.2.1
  exact ok_text.symm.trans this
theorem o_right4 {n s : List UInt8} (h : OldN n) (hs : s.length ≤ 400) (hh : holdsB s true = true) : rightC 4 (annXs ++ [oY n s]) = true := by
  have hl := old_len h
  have he := escL_le s
  refine ann_more (.inr rfl) ?_ ?_ ?_
  · refine one_bare ?_ ?_ ?_ ?_ (fun q => by cases q.1) ?_
    · rcases h with rfl | rfl | rfl | rfl | rfl <;> decide +kernel
    · rcases h with rfl | rfl | rfl | rfl | rfl <;> decide +kernel
    · show (ruleX 4 (88 :: 45 :: n)).1 = 8
      rcases h with rfl | rfl | rfl | rfl | rfl <;> decide +kernel
    · rw [ok_other]; exact holds_escL hh
    · show (88 :: 45 :: n).length + 1 + (escL s).length ≤ 1500
      simp only [List.length_cons]; omega
  · show mostN 4 [annFN.n, annN.n, 88 :: 45 :: n] = true
    rcases h with rfl | rfl | rfl | rfl | rfl <;> decide +kernel
  · show leastN 4 [annFN.n, annN.n, 88 :: 45 :: n] = true
    rcases h with rfl | rfl | rfl | rfl | rfl <;> decide +kernel
theorem o_up {n s : List UInt8} (h : OldN n) (hs : s.length ≤ 400) (h3 : rightC 3 (annXs ++ [oIt n s]) = true) : upX (annXs ++ [oIt n s]) = some (annXs ++ [oY n s]) := by
  refine ann_up h3 ?_ (o_one h) (o_right4 h hs (o_holds h3))
  show sameL n nLABEL = false
  rcases h with rfl | rfl | rfl | rfl | rfl <;> decide +kernel
theorem o_line {n s : List UInt8} : printW false (lnX (oIt n s) (oIt n s).v.text) = n ++ 58 :: escL s ∧ printW true (lnX (oY n s) (oY n s).v.text) = 88 :: 45 :: (n ++ 58 :: escL s) := by
  constructor
  · show [] ++ n ++ [] ++ 58 :: escL s = _; simp
  · show [] ++ (88 :: 45 :: n) ++ [] ++ 58 :: escL s = _; simp
theorem item_bare {w : World} {n : List UInt8} {y : Vl} (hp : y.ps = []) (hs : y.st = St0) (ht : -9223372036854775808 ≤ y.ty ∧ y.ty ≤ 9223372036854775807) : ItOk w ⟨[], n, [], y⟩ (.slice none 0 0) (.slice none 0 0) :=
  ⟨⟨_, _, rfl, Nat.le_refl _, fun h => absurd rfl h⟩, ⟨[], by rw [show (⟨[], n, [], y⟩ : It).v.ps = [] from hp]; exact ⟨rfl, by simp, .inl ⟨rfl, .inl rfl⟩⟩, Nat.le_refl _, by rw [show (⟨[], n, [], y⟩ : It).v.ps = [] from hp]; simp⟩, .inl rfl, by rw [show (⟨[], n, [], y⟩ : It).v.st = St0 from hs]; decide, ht⟩
theorem ann_all {x : It} {P : It → Prop} (h1 : P annFN) (h2 : P annN) (h3 : P x) : ∀ y ∈ annXs ++ [x], P y := by
  intro y hy
  simp only [annXs, List.mem_append, List.mem_cons, List.mem_nil_iff, or_false] at hy
  rcases hy with (rfl | rfl) | rfl
  · exact h1
  · exact h2
  · exact h3
theorem right_ann (b : Addr) (c : Nat) (x : It) (w : World) (h : IsItems w (.slice (some b) 3 c) (annXs ++ [x])) (hs : Sml x) (hR : RMem w) (hM : HasM w) (hE : LaidE w) : Makes 17 #[cardV 3 (.slice (some b) 3 c)] w (RightR 3 (annXs ++ [x])) :=
  cardRight_any 3 _ (annXs ++ [x]) w h (by show (3 : Nat) ≤ 1000; omega) (ann_all ⟨by decide, by decide, by decide⟩ ⟨by decide, by decide, by decide⟩ hs) hR hM hE
theorem up_ann2 (b : Addr) (c : Nat) (x : It) (w : World) (h : IsItems w (.slice (some b) 3 c) (annXs ++ [x])) (hs : Sml x) (hR : RMem w) (hM : HasM w) (hE : LaidE w) (hnl : sameL x.n nLABEL = false) (hnm : otherN (upperL x.n) = true) (hty : x.v.ty = 1) (hs1 : Sml ⟨x.g, x.n, prefersL x.ps, x.v⟩) (hne : ∀ p ∈ prefersL x.ps, p.2 ≠ []) (hs2 : Sml (oneX x).1) : Makes 19 #[cardV 3 (.slice (some b) 3 c)] w (fun r w' => UpR 3 (annXs ++ [x]) r w') := by
  have HS : ∀ y ∈ annXs ++ [x], Sml y := ann_all ⟨by decide, by decide, by decide⟩ ⟨by decide, by decide, by decide⟩ hs
  have HNL : ∀ y ∈ annXs ++ [x], sameL y.n nLABEL = false := ann_all (by decide +kernel) (by decide +kernel) hnl
  have HNM : ∀ y ∈ annXs ++ [x], plainN (upperL y.n) = true ∨ otherN (upperL y.n) = true ∧ y.v.ty = 1 := ann_all (.inl (by decide +kernel)) (.inl (by decide +kernel)) (.inr ⟨hnm, hty⟩)
  have HS1 : ∀ y ∈ annXs ++ [x], Sml ⟨y.g, y.n, prefersL y.ps, y.v⟩ := ann_all ⟨by decide +kernel, by decide, by decide⟩ ⟨by decide +kernel, by decide, by decide⟩ hs1
  have HNE : ∀ y ∈ annXs ++ [x], ∀ p ∈ prefersL y.ps, p.2 ≠ [] := ann_all (by decide +kernel) (by decide +kernel) hne
  have HS2 : ∀ y ∈ annXs ++ [x], Sml (oneX y).1 := ann_all ⟨by decide +kernel, by decide +kernel, by decide +kernel⟩ ⟨by decide +kernel, by decide +kernel, by decide +kernel⟩ hs2
  have el := labels_none HNL
  have hl : (annXs ++ [x]).length ≤ 1000 := by show (3 : Nat) ≤ 1000; omega
  refine up_gen 3 _ (annXs ++ [x]) w h hl HS hR hM hE (fun L W g hX => ?_) (fun y hy L W pv lv hX ho => ?_) (by rw [el]; exact hl) (fun y hy => HS2 y (by rw [el] at hy; exact hy))
  · rw [el]
    exact labels_plain L _ _ W (h.grow (Wl.of g (fun X hx => (hX X hx).1))) hl (fun y hy => by have := (HS y hy).bounds.2.1; omega) HNL
  · rw [el] at hy
    rcases HNM y hy with hp | ⟨ho2, ht⟩
    · exact one_plain L y pv lv W hX ho (HS y hy) (HS1 y hy) (HNE y hy) hp
    · exact one_old1 L y pv lv W hX ho (HS y hy) (HS1 y hy) (HNE y hy) ho2 ht
def oldN (k : Nat) : List UInt8 := [nAGENT, nCLASS, nMAILER, nNAME, nSORT].getD k nAGENT
theorem oldN_is (k : Nat) : OldN (oldN k) := by
  match k with
  | 0 => exact .inl rfl
  | 1 => exact .inr (.inl rfl)
  | 2 => exact .inr (.inr (.inl rfl))
  | 3 => exact .inr (.inr (.inr (.inl rfl)))
  | 4 => exact .inr (.inr (.inr (.inr rfl)))
  | n + 5 => exact .inl rfl
theorem o_sml {n s : List UInt8} (h : OldN n) (hs : s.length ≤ 400) : Sml (oIt n s) ∧ Sml (oY n s) := by
  have hn := old_len h
  have he := escL_le s
  have hw : wideN [] = 0 := rfl
  exact ⟨⟨by show 0 + n.length + wideN [] ≤ 10000; omega, by show s.length ≤ 4900; omega, by show sumP [] ≤ 4900; decide⟩, ⟨by show 0 + (88 :: 45 :: n).length + wideN [] ≤ 10000; simp only [List.length_cons]; omega, by show (escL s).length ≤ 4900; omega, by show sumP [] ≤ 4900; decide⟩⟩
set_option maxRecDepth 100000 in
set_option maxHeartbeats 8000000 in
theorem convertNames_walk (s : List UInt8) (which : Int) (w : World) (zs : s.length ≤ 140737488351232) (zi : -9223372036854775808 ≤ which ∧ which ≤ 9223372036854775807) (hR : RMem w) (hE : LaidE w) : Gives 3 #[.string (S s), .int .i64 which] w (.bool true) := by
  have TU := hid (turned_any w hR hR.hm hE)
  have HM := hid hR.hm
  have HR := hid hR
  have HE := hid hE
  clear hR hE
  by_cases hl : 400 < s.length
  · have hl2 : (400 : Int) < (s.length : Int) := by omega
    clear hl
    go_enter Tryz.func3, Tryz.ntmps3
    go_wp2_with fail
    refine TU.out.use ?_
    intro w1 g1
    go_wp2_with fail
    go_ret
    exact ⟨rfl, g1⟩
  have hl2 : ¬ (400 : Int) < (s.length : Int) := by omega
  have hl3 : s.length ≤ 400 := by omega
  have PK := hid (fun W => pick_any which 5 W (by decide) (by decide))
  obtain ⟨k, hk⟩ : ∃ k, pickV which 5 = k := ⟨_, rfl⟩
  have hk4 : k < 5 := by have := pickV_lt which (n := 5) (by decide); omega
  rw [hk] at PK
  clear hk hl
  obtain ⟨n, hn⟩ : ∃ n, n = oldN k := ⟨_, rfl⟩
  have HP := hid (show OldN n by rw [hn]; exact oldN_is k)
  have AN := hid (fun W => ann_any 3 W)
  go_enter Tryz.func3, Tryz.ntmps3
  go_wp2_with fail
  refine TU.out.use ?_
  intro w1 g1
  have G1 := hid g1
  clear g1 TU
  go_wp2_with fail
  refine (PK.out _).use ?_
  generalize hw2 : w1.alloc _ = w2
  have hA : w2.heap[w1.heap.size]? = some (.cells #[.string (S [65, 71, 69, 78, 84]), .string (S [67, 76, 65, 83, 83]), .string (S [77, 65, 73, 76, 69, 82]), .string (S [78, 65, 77, 69]), .string (S [83, 79, 82, 84, 45, 83, 84, 82, 73, 78, 71])] 9 (0, 0)) := by rw [← hw2]; exact heap_alloc_new w1 _
  have CN : w2.cell? ⟨w1.heap.size, k, none⟩ = some (.string (S n)) := by
    rw [cell_of_row w2 _ _ _ _ _ hA, hn]
    match k, hk4 with
    | 0, _ => rfl
    | 1, _ => rfl
    | 2, _ => rfl
    | 3, _ => rfl
    | 4, _ => rfl
    | m + 5, h => omega
  have FZ : ∀ i, w2.frozen? ⟨w1.heap.size, i, none⟩ = false := fun i => Lib.frozen_of_heap hA i
  have G2 := hid (show G w w2 by rw [← hw2]; exact G1.out.alloc _)
  clear hw2 hA hn
  go_wp2_with fail
  refine (AN.out w2).use ?_
  rintro v w3 ⟨u, rfl, hit, b, c, rfl⟩ g3
  have HIT := hid hit
  have G3 := hid (G2.out.trans g3)
  clear hit g3 CN FZ AN PK
  unfold cardV
  go_wp2_with fail
  have WT := hid (show Makes 15 #[.agg #[.int .i64 3, .slice (some b) 2 c], .agg #[.string ⟨#[]⟩, .string (S n), .slice none 0 0, .int .i64 1, .string (S s), .slice none 0 0, .int .i64 0, .int .i64 0, .int .i64 0, .int .i64 0, .int .i64 0, .int .i64 0, .bool false, .int .i64 0, .int .i64 0]] w3 _ from
    withAnn_any 3 b 2 c annXs (oIt n s) (.slice none 0 0) (.slice none 0 0) w3 HIT.out (by decide) rfl (item_bare rfl rfl ⟨(by show (-9223372036854775808 : Int) ≤ 1; decide), (by show (1 : Int) ≤ 9223372036854775807; decide)⟩))
  refine WT.out.use ?_
  rintro v w5 ⟨b3, c3, rfl, hit⟩ g5
  have HIT5 := hid hit
  have G5 := hid (G3.out.trans g5)
  clear hit g5 WT HIT
  have hnu : upperL n = n ∧ otherN n = true ∧ sameL n nLABEL = false := by rcases HP.out with h | h | h | h | h <;> (rw [h]; decide +kernel)
  have UPC := hid (fun W (g : G w5 W) => up_ann2 b3 c3 (oIt n s) W (HIT5.out.grow g) (o_sml HP.out hl3).1 (HR.out.grow (G5.out.trans g)) (HM.out.grow (G5.out.trans g)) (HE.out.grow (G5.out.trans g)) hnu.2.2 (by show otherN (upperL n) = true; rw [hnu.1]; exact hnu.2.1) rfl (o_sml HP.out hl3).1 (by show ∀ p ∈ prefersL [], p.2 ≠ []; decide +kernel) (by rw [o_one HP.out]; exact (o_sml HP.out hl3).2))
  have RC := hid (fun W (g : G w5 W) => right_ann b3 c3 (oIt n s) W (HIT5.out.grow g) (o_sml HP.out hl3).1 (HR.out.grow (G5.out.trans g)) (HM.out.grow (G5.out.trans g)) (HE.out.grow (G5.out.trans g)))
  clear hnu
  unfold cardV at UPC RC
  unfold cardV
  have HB6 := hid (heap_alloc_new w5 (.cells #[.int .i64 3, .slice (some b3) 3 c3] 27))
  have G56 := hid ((G.refl w5).alloc (.cells #[.int .i64 3, .slice (some b3) 3 c3] 27))
  go_wp2_with fail
  refine (RC.out _ G56.out).use ?_
  intro r w7 hr g7
  have HB7 := hid (row_up HB6.out g7)
  have G57 := hid (G56.out.trans g7)
  clear g7 RC
  rcases hr with ⟨hok, rfl⟩ | ⟨hno, c, kk, he, hc, hfb⟩
  case inr =>
    obtain ⟨t, e, rfl⟩ := IsErr.iface he
    clear hno he hc hfb
    go_wp2_with fail
    go_ret
    exact ⟨rfl, G5.out.trans G57.out⟩
  have HUP := hid (o_up HP.out hl3 hok)
  have h3one : oneB 3 (oIt n s) = true := (rightC_iff.1 hok).2.2.1 _ (by simp)
  have h4one : oneB 4 (oY n s) = true := (rightC_iff.1 (o_right4 HP.out hl3 (o_holds hok))).2.2.1 _ (by simp)
  clear hok
  obtain ⟨b1, off1, cap1, e, hb1, hit1⟩ := items_at (HIT5.out.grow G57.out) (by simp)
  obtain ⟨pv1, lv1, hat1⟩ := hit1 2 (oIt n s) rfl
  obtain ⟨e1, e2⟩ : b3 = ⟨b1, off1, none⟩ ∧ c3 = cap1 := by cases e; exact ⟨rfl, rfl⟩
  subst e1
  subst e2
  clear e
  obtain ⟨pa1, pc1, rfl⟩ := hat1.ok.pv
  obtain ⟨la1, lc1, rfl⟩ := hat1.ok.lv
  have L1 := hid (fun W (g : G w7 W) => line_any 3 (.inl rfl) (oIt n s) _ _ W (hat1.ok.grow g) (o_sml HP.out hl3).1 (HR.out.grow (G5.out.trans (G57.out.trans g))) (HM.out.grow (G5.out.trans (G57.out.trans g))) (HE.out.grow (G5.out.trans (G57.out.trans g))) h3one)
  rw [show printW ((3 : Int) == 4) (lnX (oIt n s) (oIt n s).v.text) = n ++ 58 :: escL s from o_line.1] at L1
  have L2 := fun (pv lv : Value) (W : World) (h : ItOk W (oY n s) pv lv) (g : G w7 W) => line_any 4 (.inr rfl) (oY n s) pv lv W h (o_sml HP.out hl3).2 (HR.out.grow (G5.out.trans (G57.out.trans g))) (HM.out.grow (G5.out.trans (G57.out.trans g))) (HE.out.grow (G5.out.trans (G57.out.trans g))) h4one
  rw [show printW ((4 : Int) == 4) (lnX (oY n s) (oY n s).v.text) = 88 :: 45 :: (n ++ 58 :: escL s) from o_line.2] at L2
  obtain ⟨l, hll⟩ : ∃ l, l = n ++ 58 :: escL s := ⟨_, rfl⟩
  have hlb : l.length ≤ 1000 := by
    have h1 := old_len HP.out
    have h2 := escL_le s
    rw [hll, List.length_append, List.length_cons]; omega
  have hov : ¬ 9223372036854775807 < 2 + l.length := by omega
  rw [← hll] at L1 L2
  have LL2 := hid L2
  obtain ⟨k0, k1, k2, k3, k4, k5, k6, k7, k8, k9, k10, k11, k12, k13, k14⟩ := hat1.e
  simp only [Nat.reduceMul, oIt, tV] at k0 k1 k2 k3 k4 k5 k6 k7 k8 k9 k10 k11 k12 k13 k14 L1
  clear hit1 hat1 h3one h4one L2 hll
  obtain ⟨c0, c1⟩ := box2c HB7.out
  go_wp2_with fail
  refine (L1.out w7 (G.refl _)).use ?_
  intro wq gq
  have HBQ := hid (row_up HB7.out gq)
  have G7Q := hid gq
  clear gq c0 c1 k0 k1 k2 k3 k4 k5 k6 k7 k8 k9 k10 k11 k12 k13 k14 L1
  obtain ⟨c0, c1⟩ := box2c HBQ.out
  go_wp2_with fail
  refine (UPC.out wq (G57.out.trans G7Q.out)).use ?_
  rintro r w8 hr g8
  have G78 := hid (G7Q.out.trans g8)
  have G8 := hid (G5.out.trans (G57.out.trans G78.out))
  clear g8 UPC c0 c1
  rcases hr with ⟨_, ys, u3, hup, rfl, hiy, hfrm⟩ | ⟨hn, _⟩
  case inr => exact absurd ⟨rfl, _, HUP.out⟩ hn
  rw [HUP.out] at hup
  cases hup
  obtain ⟨ua, uc, hu3, _⟩ := hiy.len
  obtain rfl : u3 = .slice ua 3 uc := hu3
  have HIY := hid hiy
  clear hiy hfrm
  unfold cardV
  have G9 := hid ((G.refl w8).alloc (.cells #[.int .i64 4, .slice ua 3 uc] 27))
  have HD := hid (heap_alloc_new w8 (.cells #[.int .i64 4, .slice ua 3 uc] 27))
  obtain ⟨b2, off, cap2, e, hb2, hit⟩ := items_at (HIY.out.grow G9.out) (by simp)
  obtain ⟨pv, lv, hat⟩ := hit 2 (oY n s) rfl
  obtain ⟨e1, e2⟩ : ua = some ⟨b2, off, none⟩ ∧ uc = cap2 := by cases e; exact ⟨rfl, rfl⟩
  subst e1
  subst e2
  clear e
  obtain ⟨pa, pc, rfl⟩ := hat.ok.pv
  obtain ⟨la, lc, rfl⟩ := hat.ok.lv
  have L2 := hid (LL2.out _ _ _ hat.ok (G78.out.trans G9.out))
  obtain ⟨k0, k1, k2, k3, k4, k5, k6, k7, k8, k9, k10, k11, k12, k13, k14⟩ := hat.e
  obtain ⟨d0, d1⟩ := box2c HD.out
  simp only [Nat.reduceMul, oY, tV] at k0 k1 k2 k3 k4 k5 k6 k7 k8 k9 k10 k11 k12 k13 k14 L2
  clear hit hat HIY LL2
  go_wp2_with fail
  refine L2.out.use ?_
  intro w10 g10
  go_wp2_with fail
  go_ret
  exact ⟨rfl, (G8.out.trans G9.out).trans g10⟩
end Go.Proofs.YtfadckackdmbnaaGreatDoor
