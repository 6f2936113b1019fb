/-
  Texts merged into one: Uris, ZonesPlain, Zones, IdsPlain, Ids.
-/
import Derived.Test.YtfadckackdmbnaaGreatDoorMA55
import Derived.Test.YtfadckackdmbnaaGreatDoorMA53
import Derived.Test.YtfadckackdmbnaaGreatDoorMA46
import Derived.Test.YtfadckackdmbnaaGreatDoorMTell
namespace Go.Proofs.YtfadckackdmbnaaGreatDoor
open Go.RowKit
set_option linter.unusedVariables false
set_option linter.unusedSimpArgs false
def picN (k : Nat) : List UInt8 := [nPHOTO, nLOGO, nSOUND, nKEY].getD k nKEY
theorem picN_is (k : Nat) : PicN (picN k) := by
  match k with
  | 0 => exact .inl rfl
  | 1 => exact .inr (.inl rfl)
  | 2 => exact .inr (.inr (.inl rfl))
  | 3 => exact .inr (.inr (.inr rfl))
  | n + 4 => exact .inr (.inr (.inr rfl))
theorem pic_len {n : List UInt8} (h : PicN n) : n.length ≤ 5 := by rcases h with rfl | rfl | rfl | rfl <;> decide
theorem ur_all {n s : List UInt8} {P : It → Prop} (h1 : P annFN) (h2 : P annN) (h3 : P (urIt n s)) : ∀ x ∈ annXs ++ [urIt n s], P x := by
  intro x hx
  simp only [annXs, List.mem_append, List.mem_cons, List.mem_nil_iff, or_false] at hx
  rcases hx with (rfl | rfl) | rfl
  · exact h1
  · exact h2
  · exact h3
theorem ur_sml {n s : List UInt8} (hn : PicN n) (hs : s.length ≤ 300) : ∀ x ∈ annXs ++ [urIt n s], Sml x :=
  ur_all ⟨by decide, by decide, by decide⟩ ⟨by decide, by decide, by decide⟩ ⟨by show 0 + n.length + wideN [([86, 65, 76, 85, 69], [[117, 114, 105]])] ≤ 10000; have := pic_len hn; have : wideN [([86, 65, 76, 85, 69], [[117, 114, 105]])] ≤ 100 := (by decide); omega, by show s.length ≤ 4900; omega, by show sumP [] ≤ 4900; decide⟩
theorem ur_pref (n s : List UInt8) : prefersL (urIt n s).ps = [([86, 65, 76, 85, 69], [[117, 114, 105]])] := by show prefersL [([86, 65, 76, 85, 69], [[117, 114, 105]])] = _; decide +kernel
theorem ur_sml1 {n s : List UInt8} (hn : PicN n) (hs : s.length ≤ 300) : ∀ x ∈ annXs ++ [urIt n s], Sml ⟨x.g, x.n, prefersL x.ps, x.v⟩ :=
  ur_all ⟨by decide +kernel, by decide, by decide⟩ ⟨by decide +kernel, by decide, by decide⟩ (by rw [ur_pref]; exact ur_sml hn hs (urIt n s) (by simp))
theorem ur_sml2 {n s : List UInt8} (hn : PicN n) (hs : s.length ≤ 300) : ∀ x ∈ annXs ++ [urIt n s], Sml (oneX x).1 :=
  ur_all ⟨by decide +kernel, by decide +kernel, by decide +kernel⟩ ⟨by decide +kernel, by decide +kernel, by decide +kernel⟩ (by
    rw [ur_one hn]
    exact ⟨by show 0 + n.length + wideN [] ≤ 10000; have := pic_len hn; have : wideN [] ≤ 100 := (by decide); omega, by show s.length ≤ 4900; omega, by show sumP [] ≤ 4900; decide⟩)
theorem ur_ne {n s : List UInt8} (hn : PicN n) : ∀ x ∈ annXs ++ [urIt n s], ∀ p ∈ prefersL x.ps, p.2 ≠ [] := ur_all (by decide +kernel) (by decide +kernel) (by rw [ur_pref]; decide)
theorem ur_nl {n s : List UInt8} (hn : PicN n) : ∀ x ∈ annXs ++ [urIt n s], sameL x.n nLABEL = false := ur_all (by decide +kernel) (by decide +kernel) (by show sameL n nLABEL = false; rcases hn with rfl | rfl | rfl | rfl <;> decide +kernel)
theorem ur_nm {n s : List UInt8} (hn : PicN n) : ∀ x ∈ annXs ++ [urIt n s], plainN (upperL x.n) = true ∨ bigN (upperL x.n) = true := ur_all (by decide +kernel) (by decide +kernel) (by show plainN (upperL n) = true ∨ bigN (upperL n) = true; rcases hn with rfl | rfl | rfl | rfl <;> decide +kernel)
set_option maxRecDepth 100000 in
set_option maxHeartbeats 8000000 in
theorem convertUris_walk (s : List UInt8) (which : Int) (w : World) (zs : s.length ≤ 140737488351232) (hR : RMem w) (hE : LaidE w) : Gives 7 #[.string (S s), .int .i64 which] w (.bool true) := by
  have TU := hid (turned_any w hR hR.hm hE)
  have HM := hid hR.hm
  have HR := hid hR
  have HE := hid hE
  clear hR hE
  by_cases hl : 300 < s.length
  · have hl2 : (300 : Int) < (s.length : Int) := by omega
    clear hl
    go_enter Tryz.func7, Tryz.ntmps7
    go_wp2_with fail
    refine TU.out.use ?_
    intro w1 g1
    go_wp2_with fail
    go_ret
    exact ⟨rfl, g1⟩
  have hl2 : ¬ (300 : Int) < (s.length : Int) := by omega
  have hl3 : s.length ≤ 300 := by omega
  have PK := hid (fun W => pick_any which 4 W (by decide) (by decide))
  obtain ⟨k, hk⟩ : ∃ k, pickV which 4 = k := ⟨_, rfl⟩
  have hk4 : k < 4 := by have := pickV_lt which (n := 4) (by decide); omega
  rw [hk] at PK
  clear hk hl
  obtain ⟨n, hn⟩ : ∃ n, n = picN k := ⟨_, rfl⟩
  have HP := hid (show PicN n by rw [hn]; exact picN_is k)
  have AN := hid (fun W => ann_any 3 W)
  go_enter Tryz.func7, Tryz.ntmps7
  go_wp2_with fail
  refine TU.out.use ?_
  intro w1 g1
  have G1 := hid g1
  clear g1
  go_wp2_with fail
  refine (PK.out _).use ?_
  generalize hw2 : w1.alloc _ = w2
  have hA : w2.heap[w1.heap.size]? = some (.cells #[.string (S [80, 72, 79, 84, 79]), .string (S [76, 79, 71, 79]), .string (S [83, 79, 85, 78, 68]), .string (S [75, 69, 89])] 9 (0, 0)) := by rw [← hw2]; exact heap_alloc_new w1 _
  have CN : w2.cell? ⟨w1.heap.size, k, none⟩ = some (.string (S n)) := by
    rw [cell_of_row w2 _ _ _ _ _ hA, hn]
    match k, hk4 with
    | 0, _ => rfl
    | 1, _ => rfl
    | 2, _ => rfl
    | 3, _ => rfl
    | m + 4, h => omega
  have FZ : ∀ i, w2.frozen? ⟨w1.heap.size, i, none⟩ = false := fun i => Lib.frozen_of_heap hA i
  have G2 := hid (show G w w2 by rw [← hw2]; exact G1.out.alloc _)
  clear hw2 hA hn
  go_wp2_with fail
  refine (AN.out w2).use ?_
  rintro v w3 ⟨u, rfl, hit, b, c, rfl⟩ g3
  have HIT := hid hit
  have G3 := hid (G2.out.trans g3)
  clear hit g3 CN FZ
  unfold cardV
  go_wp2_with fail
  generalize hw4 : (w3.alloc _).alloc _ = w4
  have hA1 : w4.heap[w3.heap.size]? = some (.cells #[.string (S [117, 114, 105])] 9 (0, 0)) := by rw [← hw4, Lib.alloc_old _ _ _ (by simp)]; exact heap_alloc_new w3 _
  have hA2 : w4.heap[w3.heap.size + 1]? = some (.cells #[.string (S [86, 65, 76, 85, 69]), .slice (some ⟨w3.heap.size, 0, none⟩) 1 1] 48 (0, 0)) := by rw [← hw4]; exact new_2 _ _ _
  have G34 := hid (show G w3 w4 by rw [← hw4]; exact ((G.refl w3).alloc _).alloc _)
  clear hw4
  have hs1 : IsStrs w4 (.slice (some ⟨w3.heap.size, 0, none⟩) 1 1) [[117, 114, 105]] := IsStrs.one1 (by rw [cell_of_row w4 _ 0 _ _ _ hA1]; rfl)
  have hok : ItOk w4 (urIt n s) (.slice (some ⟨w3.heap.size + 1, 0, none⟩) 1 1) (.slice none 0 0) := by
    refine ⟨⟨_, _, rfl, Nat.le_refl _, fun _ => ⟨_, 0, rfl, lt_of_row hA2, fun i p hp => ?_⟩⟩, ⟨[], ⟨rfl, by simp, .inl ⟨rfl, .inl rfl⟩⟩, Nat.le_refl _, by simp [urIt, tV]⟩, .inr ⟨_, _, _, rfl⟩, ⟨by show (-9223372036854775808 : Int) ≤ 0; decide, by show (0 : Int) ≤ 9223372036854775807; decide⟩, ⟨by show (-9223372036854775808 : Int) ≤ 4; decide, by show (4 : Int) ≤ 9223372036854775807; decide⟩⟩
    match i, hp with
    | 0, hp => cases hp; exact ⟨_, by rw [cell_of_row w4 _ _ _ _ _ hA2]; rfl, by rw [cell_of_row w4 _ _ _ _ _ hA2]; rfl, hs1⟩
    | m + 1, hp => simp [urIt] at hp
  have WT := hid (show Makes 15 #[.agg #[.int .i64 3, .slice (some b) 2 c], .agg #[.string ⟨#[]⟩, .string (S n), .slice (some ⟨w3.heap.size + 1, 0, none⟩) 1 1, .int .i64 4, .string (S s), .slice none 0 0, .int .i64 0, .int .i64 0, .int .i64 0, .int .i64 0, .int .i64 0, .int .i64 0, .bool false, .int .i64 0, .int .i64 0]] w4 _ from
    withAnn_any 3 b 2 c annXs (urIt n s) _ _ w4 (HIT.out.grow G34.out) (by decide) rfl hok)
  have G4 := hid (G3.out.trans G34.out)
  clear hok hs1 hA1 hA2 HIT G34
  refine WT.out.use ?_
  rintro v w5 ⟨b3, c3, rfl, hit⟩ g5
  have HIT := hid hit
  have G5 := hid (G4.out.trans g5)
  clear hit g5 WT
  unfold cardV
  have SM := hid (ur_sml HP.out hl3)
  have RC := hid (fun W (g : G w5 W) => cardRight_any 3 (.slice (some b3) 3 c3) (annXs ++ [urIt n s]) W (HIT.out.grow g) (by show (3 : Nat) ≤ 1000; omega) SM.out (HR.out.grow (G5.out.trans g)) (HM.out.grow (G5.out.trans g)) (HE.out.grow (G5.out.trans g)))
  have UPC := hid (fun W (g : G w5 W) => up_plain 3 (.slice (some b3) 3 c3) (annXs ++ [urIt n s]) W (HIT.out.grow g) (by show (3 : Nat) ≤ 1000; omega) SM.out (HR.out.grow (G5.out.trans g)) (HM.out.grow (G5.out.trans g)) (HE.out.grow (G5.out.trans g)) (ur_nl HP.out) (ur_nm HP.out) (ur_sml1 HP.out hl3) (ur_ne HP.out) (ur_sml2 HP.out hl3))
  unfold cardV at RC UPC
  clear SM
  have HB6 := hid (heap_alloc_new w5 (.cells #[.int .i64 3, .slice (some b3) 3 c3] 27))
  have G56 := hid ((G.refl w5).alloc (.cells #[.int .i64 3, .slice (some b3) 3 c3] 27))
  go_wp2_with fail
  refine (RC.out _ G56.out).use ?_
  intro r w7 hr g7
  have HB7 := hid (row_up HB6.out g7)
  have G57 := hid (G56.out.trans g7)
  clear g7 RC
  rcases hr with ⟨hok, rfl⟩ | ⟨hno, c, kk, he, hc, hfb⟩
  case inr =>
    obtain ⟨t, e, rfl⟩ := IsErr.iface he
    clear hno he hc hfb
    go_wp2_with fail
    go_ret
    exact ⟨rfl, G5.out.trans G57.out⟩
  have HUP := hid (uris_up HP.out hl3 hok)
  clear hok
  obtain ⟨c0, c1⟩ := box2c HB7.out
  go_wp2_with fail
  refine (UPC.out w7 G57.out).use ?_
  rintro r w8 hr g8
  rcases hr with ⟨_, ys, u3, hup, rfl, hiy, hfrm⟩ | ⟨hn, _⟩
  case inr => exact absurd ⟨rfl, _, HUP.out⟩ hn
  rw [HUP.out] at hup
  cases hup
  obtain ⟨ua, uc, hu3, _⟩ := hiy.len
  obtain rfl : u3 = .slice ua 3 uc := hu3
  have HIY := hid hiy
  have G8 := hid (G5.out.trans (G57.out.trans g8))
  clear hiy hfrm g8 UPC c0 c1
  unfold cardV
  have G9 := hid ((G.refl w8).alloc (.cells #[.int .i64 4, .slice ua 3 uc] 27))
  have HD := hid (heap_alloc_new w8 (.cells #[.int .i64 4, .slice ua 3 uc] 27))
  obtain ⟨b2, off, cap2, e, hb2, hit⟩ := items_at (HIY.out.grow G9.out) (by simp)
  obtain ⟨pv, lv, hat⟩ := hit 2 (urY n s) rfl
  obtain ⟨e1, e2⟩ : ua = some ⟨b2, off, none⟩ ∧ uc = cap2 := by cases e; exact ⟨rfl, rfl⟩
  subst e1
  subst e2
  clear e
  obtain ⟨pa, pc, rfl⟩ := hat.ok.pv
  obtain ⟨la, lc, rfl⟩ := hat.ok.lv
  have hz : ItOk w8 (urY n s) (.slice none 0 0) (.slice none 0 0) := ⟨⟨_, _, rfl, Nat.le_refl _, fun h => absurd rfl h⟩, ⟨[], ⟨rfl, by simp, .inl ⟨rfl, .inl rfl⟩⟩, Nat.le_refl _, by simp [urY, tV]⟩, .inl rfl, ⟨by show (-9223372036854775808 : Int) ≤ 0; decide, by show (0 : Int) ≤ 9223372036854775807; decide⟩, ⟨by show (-9223372036854775808 : Int) ≤ 4; decide, by show (4 : Int) ≤ 9223372036854775807; decide⟩⟩
  have SI := hid (fun W (g : G _ W) => sameItem_same (urY n s) _ _ _ _ W (hat.ok.grow g) (hz.grow (G9.out.trans g)) ⟨by show 0 + n.length + wideN [] ≤ 10000; have := pic_len HP.out; have : wideN [] = 0 := rfl; omega, by show s.length ≤ 4900; omega, by show sumP [] ≤ 4900; decide⟩)
  obtain ⟨y, hy⟩ : ∃ y, y = urY n s := ⟨_, rfl⟩
  obtain ⟨k0, k1, k2, k3, k4, k5, k6, k7, k8, k9, k10, k11, k12, k13, k14⟩ := hat.e
  obtain ⟨d0, d1⟩ := box2c HD.out
  simp only [Nat.reduceMul] at k0 k1 k2 k3 k4 k5 k6 k7 k8 k9 k10 k11 k12 k13 k14
  simp only [urY, tV, St0] at k0 k1 k2 k3 k4 k5 k6 k7 k8 k9 k10 k11 k12 k13 k14 SI
  clear hit hat hy hz HIY
  go_wp2_with fail
  trace_state
  refine (SI.out _ (by repeat (first | exact G.refl _ | apply G.alloc))).use ?_
  intro w10 g10
  go_wp2_with fail
  go_ret
  exact ⟨rfl, G.trans (by repeat (first | exact G8.out | apply G.alloc)) g10⟩
end Go.Proofs.YtfadckackdmbnaaGreatDoor

namespace Go.Proofs.YtfadckackdmbnaaGreatDoor
open Go.RowKit
set_option linter.unusedVariables false
set_option linter.unusedSimpArgs false
theorem one_kind {x : It} (h : upperL x.n = nTZ) (hp : x.ps = []) : oneX x = (⟨x.g, x.n, [(nVALUE, [kindN x.v.ty])], x.v⟩, true) := by
  unfold oneX
  simp only
  rw [h, if_neg (by decide), if_neg (by decide), if_neg (by decide), if_pos rfl, hp]
  rfl
theorem printZ_le5 (n : Int) : (printZ n).length ≤ 5 := by unfold printZ; split <;> (try split) <;> simp [twoL]
theorem ann_more {v : Int} {y : It} (hv : v = 3 ∨ v = 4) (ho : oneB v y = true) (hm : mostN v [annFN.n, annN.n, y.n] = true) (hl : leastN v [annFN.n, annN.n, y.n] = true) : rightC v (annXs ++ [y]) = true := by
  refine rightC_iff.2 ⟨hv, (by show (3 : Nat) ≤ 60; omega), fun x hx => ?_, hm, hl⟩
  simp only [annXs, List.mem_append, List.mem_cons, List.mem_nil_iff, or_false] at hx
  rcases hx with (rfl | rfl) | rfl
  · rcases hv with rfl | rfl <;> decide +kernel
  · rcases hv with rfl | rfl <;> decide +kernel
  · exact ho
theorem ann_up {x y : It} (h3 : rightC 3 (annXs ++ [x]) = true) (hn : sameL x.n nLABEL = false) (ho : oneX x = (y, true)) (h4 : rightC 4 (annXs ++ [y]) = true) : upX (annXs ++ [x]) = some (annXs ++ [y]) := by
  have hl : labelsX (annXs ++ [x]) = annXs ++ [x] := labels_none fun z hz => by
    simp only [annXs, List.mem_append, List.mem_cons, List.mem_nil_iff, or_false] at hz
    rcases hz with (rfl | rfl) | rfl
    · decide +kernel
    · decide +kernel
    · exact hn
  have hm : (annXs ++ [x]).map (fun x => (oneX x).1) = annXs ++ [y] := by
    show [(oneX annFN).1, (oneX annN).1, (oneX x).1] = _
    rw [ann_one.1, ann_one.2, ho]; rfl
  have ha : (annXs ++ [x]).all (fun x => (oneX x).2) = true := by
    show ((oneX annFN).2 && ((oneX annN).2 && ((oneX x).2 && true))) = true
    rw [ann_one.1, ann_one.2, ho]; rfl
  unfold upX
  rw [if_pos h3, hl, if_pos ha, hm, if_pos h4]
def zoIt (n : Int) : It := ⟨[], nTZ, [], ⟨6, [], [], St0, n⟩⟩
def zoY (n : Int) : It := ⟨[], nTZ, [(nVALUE, [[117, 116, 99, 45, 111, 102, 102, 115, 101, 116]])], ⟨6, [], [], St0, n⟩⟩
theorem z_one (n : Int) : oneX (zoIt n) = (zoY n, true) := one_kind (x := zoIt n) (by show upperL nTZ = nTZ; decide +kernel) rfl
theorem z_ok {n : Int} : (zoIt n).v.ok = rightZ n := by
  have e : (zoIt n).v.only = true := by unfold Vl.only zoIt; simp [isT, isL, St.isZero, St0]
  unfold Vl.ok
  rw [e]
  show (true && true && Vl.body ⟨6, [], [], St0, n⟩) = _
  unfold Vl.body
  simp
theorem z_right {n : Int} (h : rightZ n = true) : rightC 3 (annXs ++ [zoIt n]) = true := by
  refine ann_more (.inl rfl) ?_ (by show mostN 3 [annFN.n, annN.n, nTZ] = true; decide +kernel) (by show leastN 3 [annFN.n, annN.n, nTZ] = true; decide +kernel)
  refine one_bare (by decide +kernel) (by decide +kernel) (by show (ruleX 3 nTZ).1 = 6; decide +kernel) (by have := z_ok (n := n); rw [h] at this; exact this) (fun q => by cases q.1) ?_
  show 2 + 1 + (printZ n).length ≤ 1500
  have := printZ_le5 n
  omega
theorem z_right4 {n : Int} (h : rightZ n = true) : rightC 4 (annXs ++ [zoY n]) = true := by
  refine ann_more (.inr rfl) ?_ (by show mostN 4 [annFN.n, annN.n, nTZ] = true; decide +kernel) (by show leastN 4 [annFN.n, annN.n, nTZ] = true; decide +kernel)
  refine one_iff.2 ⟨by show headB true ⟨[], nTZ, [(nVALUE, [[117, 116, 99, 45, 111, 102, 102, 115, 101, 116]])], ⟨6, [], [], St0, 0⟩⟩ = true; decide +kernel, by show framesB nTZ = false; decide +kernel, by show parsB [(nVALUE, [[117, 116, 99, 45, 111, 102, 102, 115, 101, 116]])] = true; decide +kernel, by show typeOf (ruleX 4 nTZ).1 [(nVALUE, [[117, 116, 99, 45, 111, 102, 102, 115, 101, 116]])] = 6; decide +kernel, by have := z_ok (n := n); rw [h] at this; exact this, fun q => (by cases q.1), ?_⟩
  show (headW true ⟨[], nTZ, [(nVALUE, [[117, 116, 99, 45, 111, 102, 102, 115, 101, 116]])]⟩ ++ 58 :: printZ n).length ≤ 1500
  have e : (headW true ⟨[], nTZ, [(nVALUE, [[117, 116, 99, 45, 111, 102, 102, 115, 101, 116]])]⟩).length ≤ 100 := by decide +kernel
  have := printZ_le5 n
  rw [List.length_append, List.length_cons]
  omega
theorem z_up {n : Int} (h : rightZ n = true) : upX (annXs ++ [zoIt n]) = some (annXs ++ [zoY n]) := ann_up (z_right h) (by show sameL nTZ nLABEL = false; decide +kernel) (z_one n) (z_right4 h)
theorem z_bad {n c : Int} (h : rightZ n = false) (hf : FirstBad 3 (annXs ++ [zoIt n]) c) : c = 2 := by
  have hb : oneB 3 (zoIt n) = false := by
    cases e : oneB 3 (zoIt n) with
    | false => rfl
    | true =>
      have := (one_iff.1 e).2.2.2.2.1
      rw [z_ok, h] at this; cases this
  have := hf (.inl rfl) (by show (3 : Nat) ≤ 60; omega) 2 (zoIt n) rfl (fun j y hj hy => by
    match j, hj with
    | 0, _ => cases hy; decide +kernel
    | 1, _ => cases hy; decide +kernel
    | j + 2, hj => omega) hb
  exact this.off (front_iff.2 ⟨by show headB false ⟨[], nTZ, [], ⟨6, [], [], St0, 0⟩⟩ = true; decide +kernel, by show framesB nTZ = false; decide +kernel, by show parsB [] = true; rfl, by show typeOf (ruleX 3 nTZ).1 [] = 6; decide +kernel⟩) rfl (by unfold Vl.only zoIt; simp [isT, isL, St.isZero, St0]) h
theorem z_notC {n : Int} (h : rightZ n = false) : rightC 3 (annXs ++ [zoIt n]) = false := by
  cases e : rightC 3 (annXs ++ [zoIt n]) with
  | false => rfl
  | true =>
    have := (one_iff.1 ((rightC_iff.1 e).2.2.1 (zoIt n) (by simp))).2.2.2.2.1
    rw [z_ok, h] at this; cases this
end Go.Proofs.YtfadckackdmbnaaGreatDoor

namespace Go.Proofs.YtfadckackdmbnaaGreatDoor
open Go.RowKit
set_option linter.unusedVariables false
set_option linter.unusedSimpArgs false
theorem upX_right {xs ys : List It} (h : upX xs = some ys) : rightC 3 xs = true := by
  unfold upX at h
  split at h
  · assumption
  · cases h
theorem item_bare {w : World} {n : List UInt8} {y : Vl} (hp : y.ps = []) (hs : y.st = St0) (ht : -9223372036854775808 ≤ y.ty ∧ y.ty ≤ 9223372036854775807) : ItOk w ⟨[], n, [], y⟩ (.slice none 0 0) (.slice none 0 0) :=
  ⟨⟨_, _, rfl, Nat.le_refl _, fun h => absurd rfl h⟩, ⟨[], by rw [show (⟨[], n, [], y⟩ : It).v.ps = [] from hp]; exact ⟨rfl, by simp, .inl ⟨rfl, .inl rfl⟩⟩, Nat.le_refl _, by rw [show (⟨[], n, [], y⟩ : It).v.ps = [] from hp]; simp⟩, .inl rfl, by rw [show (⟨[], n, [], y⟩ : It).v.st = St0 from hs]; decide, ht⟩
theorem z_sml (n : Int) : Sml (zoIt n) ∧ Sml (zoY n) := ⟨⟨by show 0 + 2 + wideN [] ≤ 10000; decide, by show (0 : Nat) ≤ 4900; omega, by show sumP [] ≤ 4900; decide⟩, ⟨by show 0 + 2 + wideN [(nVALUE, [[117, 116, 99, 45, 111, 102, 102, 115, 101, 116]])] ≤ 10000; decide, by show (0 : Nat) ≤ 4900; omega, by show sumP [] ≤ 4900; decide⟩⟩
set_option maxRecDepth 100000 in
set_option maxHeartbeats 8000000 in
theorem convertZones_walk (n : Int) (w : World) (zn : -9223372036854775808 ≤ n ∧ n ≤ 9223372036854775807) (hR : RMem w) (hE : LaidE w) : Gives 8 #[.int .i64 n] w (.bool true) := by
  have TU := hid (turned_any w hR hR.hm hE)
  have HM := hid hR.hm
  have HR := hid hR
  have HE := hid hE
  have AN := hid (fun W => ann_any 3 W)
  clear hR hE
  go_enter Tryz.func8, Tryz.ntmps8
  go_wp2_with fail
  refine TU.out.use ?_
  intro w0 g0
  go_wp2_with fail
  refine (zoned_any w0).use ?_
  intro w1 g1
  have G1 := hid (g0.trans g1)
  clear g0 g1 TU
  go_wp2_with fail
  refine (AN.out w1).use ?_
  rintro v w3 ⟨u, rfl, hit, b, c, rfl⟩ g3
  have HIT := hid hit
  have G3 := hid (G1.out.trans g3)
  clear hit g3 AN
  unfold cardV
  go_wp2_with fail
  have WT := hid (show Makes 15 #[.agg #[.int .i64 3, .slice (some b) 2 c], .agg #[.string ⟨#[]⟩, .string ⟨#[84, 90]⟩, .slice none 0 0, .int .i64 6, .string ⟨#[]⟩, .slice none 0 0, .int .i64 0, .int .i64 0, .int .i64 0, .int .i64 0, .int .i64 0, .int .i64 0, .bool false, .int .i64 0, .int .i64 n]] w3 _ from
    withAnn_any 3 b 2 c annXs (zoIt n) (.slice none 0 0) (.slice none 0 0) w3 HIT.out (by decide) rfl (item_bare rfl rfl ⟨(by show (-9223372036854775808 : Int) ≤ 6; decide), (by show (6 : Int) ≤ 9223372036854775807; decide)⟩))
  refine WT.out.use ?_
  rintro v w5 ⟨b3, c3, rfl, hit⟩ g5
  have HIT5 := hid hit
  have G5 := hid (G3.out.trans g5)
  clear hit g5 WT HIT
  have UPC := hid (fun W (g : G w5 W) => up_ann b3 c3 (zoIt n) W (HIT5.out.grow g) (z_sml n).1 (HR.out.grow (G5.out.trans g)) (HM.out.grow (G5.out.trans g)) (HE.out.grow (G5.out.trans g)) (by show sameL nTZ nLABEL = false; decide +kernel) (.inr (.inr (.inl (by show upperL nTZ = nTZ; decide +kernel)))) (z_sml n).1 (by show ∀ p ∈ prefersL [], p.2 ≠ []; decide +kernel) (by rw [z_one]; exact (z_sml n).2))
  unfold cardV at UPC
  unfold cardV
  have HB6 := hid (heap_alloc_new w5 (.cells #[.int .i64 3, .slice (some b3) 3 c3] 27))
  have G56 := hid ((G.refl w5).alloc (.cells #[.int .i64 3, .slice (some b3) 3 c3] 27))
  go_wp2_with fail
  refine (UPC.out _ G56.out).use ?_
  rintro r w8 hr g8
  have G8 := hid (G5.out.trans (G56.out.trans g8))
  have ZR := hid (fun W => zoneRight_any n W)
  clear g8 UPC
  cases hz : rightZ n with
  | false =>
    rw [hz] at ZR
    rcases hr with ⟨_, ys, u3, hup, _⟩ | ⟨hn, t, e, rfl, cc, kk, he, hc, h1, h2, h3⟩
    · have h0 := upX_right hup
      rw [z_notC hz] at h0
      cases h0
    · have hcc : cc = 2 := z_bad hz (h3 (z_notC hz))
      have TL := hid (show ∀ W, G w8 W → Gives 33 #[.iface t e] W (.int .i64 2) from fun W g => by
        rw [hcc] at he
        cases kk with
        | none => have e1 : (Value.iface t e) = eno 2 := he; rw [e1]; exact tell_eno 2 W (HE.out.grow (G8.out.trans g))
        | some k => exact tell_at 2 k _ W (HE.out.grow (G8.out.trans g)) (IsAt.grow he g))
      clear he hc h1 h2 h3 hn hz hcc
      unfold cardV
      go_wp2_with fail
      refine (ZR.out _).use ?_
      go_wp2_with fail
      refine (TL.out _ ((G.refl w8).alloc _)).use ?_
      intro w9 g9
      go_wp2_with fail
      go_ret
      exact ⟨rfl, (G8.out.alloc _).trans g9⟩
  | true =>
    rw [hz] at ZR
    have HUP := hid (z_up hz)
    rcases hr with ⟨_, ys, u3, hup, rfl, hiy, hfrm⟩ | ⟨hn, _⟩
    case inr => exact absurd ⟨rfl, _, HUP.out⟩ hn
    rw [HUP.out] at hup
    cases hup
    obtain ⟨ua, uc, hu3, _⟩ := hiy.len
    obtain rfl : u3 = .slice ua 3 uc := hu3
    have HIY := hid hiy
    clear hiy hfrm hz
    unfold cardV
    have G9 := hid ((G.refl w8).alloc (.cells #[.int .i64 4, .slice ua 3 uc] 27))
    have HD := hid (heap_alloc_new w8 (.cells #[.int .i64 4, .slice ua 3 uc] 27))
    obtain ⟨b2, off, cap2, e, hb2, hit⟩ := items_at (HIY.out.grow G9.out) (by simp)
    obtain ⟨pv, lv, hat⟩ := hit 2 (zoY n) rfl
    obtain ⟨e1, e2⟩ : ua = some ⟨b2, off, none⟩ ∧ uc = cap2 := by cases e; exact ⟨rfl, rfl⟩
    subst e1
    subst e2
    clear e
    obtain ⟨pa, pc, rfl⟩ := hat.ok.pv
    obtain ⟨la, lc, rfl⟩ := hat.ok.lv
    have FD := hid (fun W (g : G _ W) => find_any _ (zoY n).ps nVALUE W (hat.ok.p.grow g) (by show (1 : Nat) ≤ 1000000; omega) (by show ∀ p ∈ [(nVALUE, [[117, 116, 99, 45, 111, 102, 102, 115, 101, 116]])], p.1.length ≤ 1000000; decide) (by decide))
    obtain ⟨k0, k1, k2, k3, k4, k5, k6, k7, k8, k9, k10, k11, k12, k13, k14⟩ := hat.e
    obtain ⟨d0, d1⟩ := box2c HD.out
    simp only [Nat.reduceMul] at k0 k1 k2 k3 k4 k5 k6 k7 k8 k9 k10 k11 k12 k13 k14
    rw [show findL (zoY n).ps nVALUE = some 0 by show findL [(nVALUE, [[117, 116, 99, 45, 111, 102, 102, 115, 101, 116]])] nVALUE = some 0; decide +kernel] at FD
    simp only [zoY, nVALUE] at k0 k1 k2 k3 k4 k5 k6 k7 k8 k9 k10 k11 k12 k13 k14 FD
    clear hit hat HIY
    go_wp2_with fail
    refine (ZR.out _).use ?_
    go_wp2_with fail
    refine (FD.out _ (G.refl _)).use ?_
    intro w10 g10
    go_wp2_with fail
    go_ret
    exact ⟨rfl, (G8.out.trans G9.out).trans g10⟩
end Go.Proofs.YtfadckackdmbnaaGreatDoor

namespace Go.Proofs.YtfadckackdmbnaaGreatDoor
open Go.RowKit
set_option linter.unusedVariables false
set_option linter.unusedSimpArgs false
def OldN (n : List UInt8) : Prop := n = nAGENT ∨ n = nCLASS ∨ n = nMAILER ∨ n = nNAME ∨ n = nSORT
def oIt (n s : List UInt8) : It := ⟨[], n, [], tV 1 s⟩
def oY (n s : List UInt8) : It := ⟨[], 88 :: 45 :: n, [], tV 8 (escL s)⟩
theorem old_len {n : List UInt8} (h : OldN n) : n.length ≤ 11 := by rcases h with rfl | rfl | rfl | rfl | rfl <;> decide
theorem o_one {n s : List UInt8} (h : OldN n) : oneX (oIt n s) = (oY n s, true) := by
  have e1 : prefersL (oIt n s).ps = [] := rfl
  have hb : bigN (upperL n) = false := by rcases h with rfl | rfl | rfl | rfl | rfl <;> decide +kernel
  have ho : otherN (upperL n) = true := by rcases h with rfl | rfl | rfl | rfl | rfl <;> decide +kernel
  have hu : upperL n = n := by rcases h with rfl | rfl | rfl | rfl | rfl <;> decide +kernel
  unfold oneX
  simp only
  rw [show (oIt n s).n = n from rfl, if_neg (by rw [hb]; decide), if_pos ho, hu, e1]
  rfl
theorem o_holds {n s : List UInt8} (h : rightC 3 (annXs ++ [oIt n s]) = true) : holdsB s true = true := by
  have := (one_iff.1 ((rightC_iff.1 h).2.2.1 (oIt n s) (by simp))).2.2.2.2.1
  exact ok_text.symm.trans this
theorem o_right4 {n s : List UInt8} (h : OldN n) (hs : s.length ≤ 400) (hh : holdsB s true = true) : rightC 4 (annXs ++ [oY n s]) = true := by
  have hl := old_len h
  have he := escL_le s
  refine ann_more (.inr rfl) ?_ ?_ ?_
  · refine one_bare ?_ ?_ ?_ ?_ (fun q => by cases q.1) ?_
    · rcases h with rfl | rfl | rfl | rfl | rfl <;> decide +kernel
    · rcases h with rfl | rfl | rfl | rfl | rfl <;> decide +kernel
    · show (ruleX 4 (88 :: 45 :: n)).1 = 8
      rcases h with rfl | rfl | rfl | rfl | rfl <;> decide +kernel
    · rw [ok_other]; exact holds_escL hh
    · show (88 :: 45 :: n).length + 1 + (escL s).length ≤ 1500
      simp only [List.length_cons]; omega
  · show mostN 4 [annFN.n, annN.n, 88 :: 45 :: n] = true
    rcases h with rfl | rfl | rfl | rfl | rfl <;> decide +kernel
  · show leastN 4 [annFN.n, annN.n, 88 :: 45 :: n] = true
    rcases h with rfl | rfl | rfl | rfl | rfl <;> decide +kernel
theorem o_up {n s : List UInt8} (h : OldN n) (hs : s.length ≤ 400) (h3 : rightC 3 (annXs ++ [oIt n s]) = true) : upX (annXs ++ [oIt n s]) = some (annXs ++ [oY n s]) := by
  refine ann_up h3 ?_ (o_one h) (o_right4 h hs (o_holds h3))
  show sameL n nLABEL = false
  rcases h with rfl | rfl | rfl | rfl | rfl <;> decide +kernel
theorem o_line {n s : List UInt8} : printW false (lnX (oIt n s) (oIt n s).v.text) = n ++ 58 :: escL s ∧ printW true (lnX (oY n s) (oY n s).v.text) = 88 :: 45 :: (n ++ 58 :: escL s) := by
  constructor
  · show [] ++ n ++ [] ++ 58 :: escL s = _; simp
  · show [] ++ (88 :: 45 :: n) ++ [] ++ 58 :: escL s = _; simp
def iIt (s : List UInt8) : It := ⟨[], nUID, [], tV 1 s⟩
def iY (s : List UInt8) : It := if uriB s = true then ⟨[], nUID, [], tV 4 s⟩ else ⟨[], nUID, [(nVALUE, [[116, 101, 120, 116]])], tV 1 s⟩
theorem i_one {s : List UInt8} : oneX (iIt s) = (iY s, true) := by
  have hu : upperL (iIt s).n = nUID := by show upperL nUID = nUID; decide +kernel
  unfold oneX
  simp only
  rw [hu, if_neg (by decide), if_neg (by decide), if_neg (by decide), if_neg (by decide), if_pos rfl]
  unfold iY
  by_cases h : uriB s = true
  · rw [if_pos ⟨rfl, h⟩, if_pos h]; rfl
  · rw [if_neg (fun q => h q.2), if_neg h]; rfl
theorem i_holds {s : List UInt8} (h : rightC 3 (annXs ++ [iIt s]) = true) : holdsB s true = true := by
  have := (one_iff.1 ((rightC_iff.1 h).2.2.1 (iIt s) (by simp))).2.2.2.2.1
  exact ok_text.symm.trans this
theorem i_right4 {s : List UInt8} (hs : s.length ≤ 300) (hh : holdsB s true = true) : rightC 4 (annXs ++ [iY s]) = true := by
  have he := escL_le s
  have hn : (iY s).n = nUID := by unfold iY; split <;> rfl
  refine ann_more (.inr rfl) ?_ (by rw [hn]; decide +kernel) (by rw [hn]; decide +kernel)
  unfold iY
  by_cases h : uriB s = true
  · rw [if_pos h]
    refine one_bare (by decide +kernel) (by decide +kernel) (by show (ruleX 4 nUID).1 = 4; decide +kernel) (by rw [ok_uri]; exact h) (fun q => by cases q.1) ?_
    show 3 + 1 + s.length ≤ 1500
    omega
  · rw [if_neg h]
    refine one_iff.2 ⟨?_, by show framesB nUID = false; decide +kernel, by show parsB [(nVALUE, [[116, 101, 120, 116]])] = true; decide +kernel, by show typeOf (ruleX 4 nUID).1 [(nVALUE, [[116, 101, 120, 116]])] = 1; decide +kernel, ok_text.trans hh, fun q => (by cases q.1), ?_⟩
    · show headB true ⟨[], nUID, [(nVALUE, [[116, 101, 120, 116]])], tV 1 []⟩ = true
      decide +kernel
    · show (headW true ⟨[], nUID, [(nVALUE, [[116, 101, 120, 116]])]⟩ ++ 58 :: escL s).length ≤ 1500
      have e : (headW true ⟨[], nUID, [(nVALUE, [[116, 101, 120, 116]])]⟩).length ≤ 100 := by decide +kernel
      rw [List.length_append, List.length_cons]
      omega
theorem i_up {s : List UInt8} (hs : s.length ≤ 300) (h3 : rightC 3 (annXs ++ [iIt s]) = true) : upX (annXs ++ [iIt s]) = some (annXs ++ [iY s]) :=
  ann_up h3 (by show sameL nUID nLABEL = false; decide +kernel) i_one (i_right4 hs (i_holds h3))
end Go.Proofs.YtfadckackdmbnaaGreatDoor

namespace Go.Proofs.YtfadckackdmbnaaGreatDoor
open Go.RowKit
set_option linter.unusedVariables false
set_option linter.unusedSimpArgs false
theorem i_sml {s : List UInt8} (hs : s.length ≤ 300) : Sml (iIt s) ∧ Sml (iY s) := by
  refine ⟨⟨by show 0 + 3 + wideN [] ≤ 10000; decide, by show s.length ≤ 4900; omega, by show sumP [] ≤ 4900; decide⟩, ?_⟩
  unfold iY
  split
  · exact ⟨by show 0 + 3 + wideN [] ≤ 10000; decide, by show s.length ≤ 4900; omega, by show sumP [] ≤ 4900; decide⟩
  · exact ⟨by show 0 + 3 + wideN [(nVALUE, [[116, 101, 120, 116]])] ≤ 10000; decide, by show s.length ≤ 4900; omega, by show sumP [] ≤ 4900; decide⟩
set_option maxRecDepth 100000 in
set_option maxHeartbeats 8000000 in
theorem convertIds_walk (s : List UInt8) (w : World) (zs : s.length ≤ 140737488351232) (hR : RMem w) (hE : LaidE w) : Gives 10 #[.string (S s)] w (.bool true) := by
  have TU := hid (turned_any w hR hR.hm hE)
  have HM := hid hR.hm
  have HR := hid hR
  have HE := hid hE
  have AN := hid (fun W => ann_any 3 W)
  clear hR hE
  by_cases hl : 300 < s.length
  · have hl2 : (300 : Int) < (s.length : Int) := by omega
    clear hl
    go_enter Tryz.func10, Tryz.ntmps10
    go_wp2_with fail
    refine TU.out.use ?_
    intro w0 g0
    go_wp2_with fail
    refine (located_any w0).use ?_
    intro w1 g1
    go_wp2_with fail
    go_ret
    exact ⟨rfl, g0.trans g1⟩
  have hl2 : ¬ (300 : Int) < (s.length : Int) := by omega
  have hl3 : s.length ≤ 300 := by omega
  clear hl
  go_enter Tryz.func10, Tryz.ntmps10
  go_wp2_with fail
  refine TU.out.use ?_
  intro w0 g0
  go_wp2_with fail
  refine (located_any w0).use ?_
  intro w1 g1
  have G1 := hid (g0.trans g1)
  clear g0 g1 TU
  go_wp2_with fail
  refine (AN.out w1).use ?_
  rintro v w3 ⟨u, rfl, hit, b, c, rfl⟩ g3
  have HIT := hid hit
  have G3 := hid (G1.out.trans g3)
  clear hit g3 AN
  unfold cardV
  go_wp2_with fail
  have WT := hid (show Makes 15 #[.agg #[.int .i64 3, .slice (some b) 2 c], .agg #[.string ⟨#[]⟩, .string ⟨#[85, 73, 68]⟩, .slice none 0 0, .int .i64 1, .string (S s), .slice none 0 0, .int .i64 0, .int .i64 0, .int .i64 0, .int .i64 0, .int .i64 0, .int .i64 0, .bool false, .int .i64 0, .int .i64 0]] w3 _ from
    withAnn_any 3 b 2 c annXs (iIt s) (.slice none 0 0) (.slice none 0 0) w3 HIT.out (by decide) rfl (item_bare rfl rfl ⟨(by show (-9223372036854775808 : Int) ≤ 1; decide), (by show (1 : Int) ≤ 9223372036854775807; decide)⟩))
  refine WT.out.use ?_
  rintro v w5 ⟨b3, c3, rfl, hit⟩ g5
  have HIT5 := hid hit
  have G5 := hid (G3.out.trans g5)
  clear hit g5 WT HIT
  have UPC := hid (fun W (g : G w5 W) => up_ann b3 c3 (iIt s) W (HIT5.out.grow g) (i_sml hl3).1 (HR.out.grow (G5.out.trans g)) (HM.out.grow (G5.out.trans g)) (HE.out.grow (G5.out.trans g)) (by show sameL nUID nLABEL = false; decide +kernel) (.inr (.inr (.inr (by show upperL nUID = nUID; decide +kernel)))) (i_sml hl3).1 (by show ∀ p ∈ prefersL [], p.2 ≠ []; decide +kernel) (by rw [i_one]; exact (i_sml hl3).2))
  have RC := hid (fun W (g : G w5 W) => right_ann b3 c3 (iIt s) W (HIT5.out.grow g) (i_sml hl3).1 (HR.out.grow (G5.out.trans g)) (HM.out.grow (G5.out.trans g)) (HE.out.grow (G5.out.trans g)))
  unfold cardV at UPC RC
  unfold cardV
  have HB6 := hid (heap_alloc_new w5 (.cells #[.int .i64 3, .slice (some b3) 3 c3] 27))
  have G56 := hid ((G.refl w5).alloc (.cells #[.int .i64 3, .slice (some b3) 3 c3] 27))
  go_wp2_with fail
  refine (RC.out _ G56.out).use ?_
  intro r w7 hr g7
  have HB7 := hid (row_up HB6.out g7)
  have G57 := hid (G56.out.trans g7)
  clear g7 RC
  rcases hr with ⟨hok, rfl⟩ | ⟨hno, c, kk, he, hc, hfb⟩
  case inr =>
    obtain ⟨t, e, rfl⟩ := IsErr.iface he
    clear hno he hc hfb
    go_wp2_with fail
    go_ret
    exact ⟨rfl, G5.out.trans G57.out⟩
  have HUP := hid (i_up hl3 hok)
  clear hok
  obtain ⟨c0, c1⟩ := box2c HB7.out
  go_wp2_with fail
  refine (UPC.out w7 G57.out).use ?_
  rintro r w8 hr g8
  have G8 := hid (G5.out.trans (G57.out.trans g8))
  clear g8 UPC c0 c1
  rcases hr with ⟨_, ys, u3, hup, rfl, hiy, hfrm⟩ | ⟨hn, _⟩
  case inr => exact absurd ⟨rfl, _, HUP.out⟩ hn
  rw [HUP.out] at hup
  cases hup
  obtain ⟨ua, uc, hu3, _⟩ := hiy.len
  obtain rfl : u3 = .slice ua 3 uc := hu3
  have HIY := hid hiy
  clear hiy hfrm
  unfold cardV
  have G9 := hid ((G.refl w8).alloc (.cells #[.int .i64 4, .slice ua 3 uc] 27))
  have HD := hid (heap_alloc_new w8 (.cells #[.int .i64 4, .slice ua 3 uc] 27))
  obtain ⟨b2, off, cap2, e, hb2, hit⟩ := items_at (HIY.out.grow G9.out) (by simp)
  obtain ⟨pv, lv, hat⟩ := hit 2 (iY s) rfl
  obtain ⟨e1, e2⟩ : ua = some ⟨b2, off, none⟩ ∧ uc = cap2 := by cases e; exact ⟨rfl, rfl⟩
  subst e1
  subst e2
  clear e
  obtain ⟨pa, pc, rfl⟩ := hat.ok.pv
  obtain ⟨la, lc, rfl⟩ := hat.ok.lv
  obtain ⟨k0, k1, k2, k3, k4, k5, k6, k7, k8, k9, k10, k11, k12, k13, k14⟩ := hat.e
  obtain ⟨d0, d1⟩ := box2c HD.out
  simp only [Nat.reduceMul] at k0 k1 k2 k3 k4 k5 k6 k7 k8 k9 k10 k11 k12 k13 k14
  clear hit hat HIY
  cases hu : uriB s with
  | true =>
    simp only [show iY s = ⟨[], nUID, [], tV 4 s⟩ by unfold iY; rw [if_pos hu], tV] at k0 k1 k2 k3 k4 k5 k6 k7 k8 k9 k10 k11 k12 k13 k14
    clear hu
    go_wp2_with fail
    go_ret
    exact ⟨rfl, G8.out.trans G9.out⟩
  | false =>
    simp only [show iY s = ⟨[], nUID, [(nVALUE, [[116, 101, 120, 116]])], tV 1 s⟩ by unfold iY; rw [if_neg (by rw [hu]; decide)], tV] at k0 k1 k2 k3 k4 k5 k6 k7 k8 k9 k10 k11 k12 k13 k14
    clear hu
    go_wp2_with fail
    go_ret
    exact ⟨rfl, G8.out.trans G9.out⟩
end Go.Proofs.YtfadckackdmbnaaGreatDoor
