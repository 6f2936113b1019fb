/-
  The law ConvertLabels walked.
-/
import Derived.Test.YtdmbhoagjjkogaaGreatDoorMA43
import Derived.Test.YtdmbhoagjjkogaaGreatDoorMA42
namespace Go.Proofs.YtdmbhoagjjkogaaGreatDoor
open Go.RowKit
set_option linter.unusedVariables false
set_option linter.unusedSimpArgs false
theorem label_any (s : List UInt8) (w : World) : Gives 8 #[.string (S s)] w ((lblI s).val (.slice none 0 0) (.slice none 0 0)) := by
  go_enter Tryz.func8, Tryz.ntmps8
  go_wp2_with fail
  refine bodyPost_ret (v := (lblI s).val (.slice none 0 0) (.slice none 0 0)) ?_ rfl ⟨rfl, ?_⟩
  · simp only [results, Tryz.f8]
    go_simp
    repeat' (first | rfl | apply And.intro)
  · repeat (first | exact G.refl _ | refine G.alloc ?_ _ | (refine g_set ?_ ?_))
    all_goals simp
theorem lbl_ok (s : List UInt8) (w : World) : ItOk w (lblI s) (.slice none 0 0) (.slice none 0 0) :=
  ⟨⟨_, _, rfl, Nat.le_refl _, fun h => absurd rfl h⟩, ⟨[], ⟨rfl, by simp, .inl ⟨rfl, .inl rfl⟩⟩, Nat.le_refl _, by simp [lblI, tV]⟩, .inl rfl, (by show (-9223372036854775808 : Int) ≤ 0 ∧ (0 : Int) ≤ 9223372036854775807; decide), (by show (-9223372036854775808 : Int) ≤ 1 ∧ (1 : Int) ≤ 9223372036854775807; decide)⟩
theorem adr_ok {W : World} {b q : Nat} (hq : b + 7 = q) (e : ∀ i, i < 7 → W.heap[b + i]? = some (.cells #[.string (S (if i = 2 then [97] else []))] 9 (0, 0)))
    (e7 : W.heap[q]? = some (.cells #[.slice (some ⟨b, 0, none⟩) 1 1, .slice (some ⟨b + 1, 0, none⟩) 1 1, .slice (some ⟨b + 2, 0, none⟩) 1 1, .slice (some ⟨b + 3, 0, none⟩) 1 1, .slice (some ⟨b + 4, 0, none⟩) 1 1, .slice (some ⟨b + 5, 0, none⟩) 1 1, .slice (some ⟨b + 6, 0, none⟩) 1 1] 23 (0, 0))) :
    ItOk W (adrI []) (.slice none 0 0) (.slice (some ⟨q, 0, none⟩) 7 7) := by
  have s : ∀ i, i < 7 → IsStrs W (.slice (some ⟨b + i, 0, none⟩) 1 1) [if i = 2 then [97] else []] := fun i hi => OneS.strs ⟨_, rfl, e i hi⟩
  refine ⟨⟨_, _, rfl, Nat.le_refl _, fun h => absurd rfl h⟩, ?_, .inl rfl, (by show (-9223372036854775808 : Int) ≤ 0 ∧ (0 : Int) ≤ 9223372036854775807; decide), (by show (-9223372036854775808 : Int) ≤ 3 ∧ (3 : Int) ≤ 9223372036854775807; decide)⟩
  refine ⟨[.slice (some ⟨b, 0, none⟩) 1 1, .slice (some ⟨b + 1, 0, none⟩) 1 1, .slice (some ⟨b + 2, 0, none⟩) 1 1, .slice (some ⟨b + 3, 0, none⟩) 1 1, .slice (some ⟨b + 4, 0, none⟩) 1 1, .slice (some ⟨b + 5, 0, none⟩) 1 1, .slice (some ⟨b + 6, 0, none⟩) 1 1], ⟨rfl, by simp [Value.oneCell'], .inr ⟨q, 0, 7, rfl, (Array.getElem?_eq_some_iff.1 e7).1, by simp [adrI, adrV], fun j hj => ?_⟩⟩, Nat.le_refl _, fun i l hi => ?_⟩
  · rw [cell_of_row W _ _ _ _ _ e7, Nat.zero_add]; simp
  · match i, hi with
    | 0, hi => cases hi; exact ⟨_, rfl, s 0 (by decide)⟩
    | 1, hi => cases hi; exact ⟨_, rfl, s 1 (by decide)⟩
    | 2, hi => cases hi; exact ⟨_, rfl, s 2 (by decide)⟩
    | 3, hi => cases hi; exact ⟨_, rfl, s 3 (by decide)⟩
    | 4, hi => cases hi; exact ⟨_, rfl, s 4 (by decide)⟩
    | 5, hi => cases hi; exact ⟨_, rfl, s 5 (by decide)⟩
    | 6, hi => cases hi; exact ⟨_, rfl, s 6 (by decide)⟩
    | n + 7, hi => simp [adrI, adrV] at hi
theorem news9 (w : World) (o0 o1 o2 o3 o4 o5 o6 o7 o8 : Obj) (W : World) (hW : (((((((((w.alloc o0).alloc o1).alloc o2).alloc o3).alloc o4).alloc o5).alloc o6).alloc o7).alloc o8) = W) :
    W.heap[w.heap.size]? = some o0 ∧ W.heap[w.heap.size + 1]? = some o1 ∧ W.heap[w.heap.size + 2]? = some o2 ∧ W.heap[w.heap.size + 3]? = some o3 ∧ W.heap[w.heap.size + 4]? = some o4 ∧ W.heap[w.heap.size + 5]? = some o5 ∧ W.heap[w.heap.size + 6]? = some o6 ∧ W.heap[w.heap.size + 7]? = some o7 ∧ W.heap[w.heap.size + 8]? = some o8 := by
  subst hW
  refine ⟨?_, ?_, ?_, ?_, ?_, ?_, ?_, ?_, ?_⟩ <;> repeat (first | exact new_at _ _ _ (by simp) | rw [Lib.alloc_old _ _ _ (by simp <;> omega)])
def lbsPhi7 (hs : Nat) (s t : List UInt8) (q : Nat)  (k : Nat) (v : Value) (W : World) : Prop :=
  match k with
  | 0 => ∃ m, v = cardV 3 (.slice (some ⟨m + 7, 0, none⟩) 2 2) ∧ AnnAt m W
  | 1 => v = (adrI []).val (.slice none 0 0) (.slice (some ⟨q, 0, none⟩) 7 7)
  | 2 => ∃ a c', v = cardV 3 (.slice (some a) 3 c') ∧ FreeR hs W (.slice (some a) 3 c') (annXs ++ [adrI []])
  | 3 => v = .func (.func 8) #[] #[]
  | 4 => v = .string (S s)
  | 5 => v = (lblI s).val (.slice none 0 0) (.slice none 0 0)
  | 6 => ∃ a c', v = cardV 3 (.slice (some a) 4 c') ∧ FreeR hs W (.slice (some a) 4 c') (annXs ++ [adrI []] ++ [lblI s])
  | 7 => v = .func (.func 8) #[] #[]
  | 8 => v = .string (S t)
  | 9 => v = (lblI t).val (.slice none 0 0) (.slice none 0 0)
  | 10 => ∃ a c', v = cardV 3 (.slice (some a) 5 c') ∧ FreeR hs W (.slice (some a) 5 c') (annXs ++ [adrI []] ++ [lblI s] ++ [lblI t])
  | 11 => ∃ Y, v = .pointer (some ⟨Y, 0, none⟩) ∧ hs ≤ Y ∧ IsZc W Y
  | _ => True
set_option maxRecDepth 100000 in
set_option maxHeartbeats 16000000 in
theorem convertLabels_walk (s t : List UInt8) (w : World) (zs : s.length ≤ 140737488351232) (zt : t.length ≤ 140737488351232) (hR : RMem w) (hE : LaidE w) : Gives 3 #[.string (S s), .string (S t)] w (.bool true) := by
  have TU := hid (turned_any w hR hR.hm hE)
  have HM := hid hR.hm
  have HR := hid hR
  have HE := hid hE
  clear hR hE
  have hov : ¬ 9223372036854775807 < s.length + t.length := by omega
  by_cases hl : 400 < s.length + t.length
  · have hl2 : (400 : Int) < (s.length : Int) + (t.length : Int) := by omega
    clear hl
    go_enter Tryz.func3, Tryz.ntmps3
    go_wp2_with fail
    refine TU.out.use ?_
    intro w1 g1
    go_wp2_with fail
    go_ret
    exact ⟨rfl, g1⟩
  have hl2 : ¬ (400 : Int) < (s.length : Int) + (t.length : Int) := by omega
  have hl3 : s.length + t.length ≤ 400 := by omega
  clear hl
  go_enter Tryz.func3, Tryz.ntmps3
  go_wp2_with fail
  refine TU.out.use ?_
  intro w1 g1
  have G1 := hid g1
  clear g1 TU
  go_upto_region 7 with fail
  generalize hw2 : World.alloc (World.alloc (World.alloc (World.alloc (World.alloc (World.alloc (World.alloc (World.alloc (World.alloc w1 _) _) _) _) _) _) _) _) _ = w2
  obtain ⟨q, hq⟩ : ∃ q, w1.heap.size + 1 + 1 + 1 + 1 + 1 + 1 + 1 = q := ⟨_, rfl⟩
  obtain ⟨n0, n1, n2, n3, n4, n5, n6, n7, n8⟩ := news9 _ _ _ _ _ _ _ _ _ _ _ hw2
  have hq7 : q = w1.heap.size + 7 := by omega
  have HOK := hid (show ItOk w2 (adrI []) (.slice none 0 0) (.slice (some ⟨q, 0, none⟩) 7 7) from adr_ok (b := w1.heap.size) hq (fun i hi => by
    match i, hi with
    | 0, _ => exact n0
    | 1, _ => exact n1
    | 2, _ => exact n2
    | 3, _ => exact n3
    | 4, _ => exact n4
    | 5, _ => exact n5
    | 6, _ => exact n6
    | n + 7, h => omega) (by rw [hq7]; exact n7))
  have HB2 := hid (show w2.heap[q + 1]? = some (.cells ((adrI []).cells (.slice none 0 0) (.slice (some ⟨q, 0, none⟩) 7 7)).toArray 31 (0, 0)) by rw [hq7]; exact n8)
  clear n0 n1 n2 n3 n4 n5 n6 n7 n8
  have G2 := hid (show G w w2 by rw [← hw2]; repeat (first | exact G1.out | refine G.alloc ?_ _))
  rw [hq]
  clear hw2 hq7
  refine wp_region_any (by kernel_rfl) ?_
  refine wpAny_veiled (E := #[false, false, false, false, false, false, false, false, false, false, false, false, false]) G 12 (lbsPhi7 w2.heap.size s t q) [some [], some [], some [(0, 29), (1, 30), (0, 29)], some [], some [], some [(3, 32), (4, 33)], some [(2, 31), (5, 34), (5, 34)], some [], some [], some [(7, 36), (8, 37)], some [(6, 35), (9, 38), (9, 38)], some [], none] [(0, 29), (1, 30), (2, 31), (3, 32), (4, 33), (5, 34), (6, 35), (7, 36), (8, 37), (9, 38), (10, 39), (11, 7)] _ (by kernel_rfl) (by decide) (by kernel_rfl) (by kernel_rfl) rfl G.refl (fun _ _ _ => G.trans) (w0 := w2) ((G.refl w2).drew) ?_ ?_ ?_
  · intro k v W W' g h
    match k, h with
    | 0, h => exact by obtain ⟨m, h1, h2⟩ := h; exact ⟨m, h1, h2.grow g⟩
    | 1, h => exact h
    | 2, h => exact by obtain ⟨a, c', h1, h2⟩ := h; exact ⟨a, c', h1, h2.grow g⟩
    | 3, h => exact h
    | 4, h => exact h
    | 5, h => exact h
    | 6, h => exact by obtain ⟨a, c', h1, h2⟩ := h; exact ⟨a, c', h1, h2.grow g⟩
    | 7, h => exact h
    | 8, h => exact h
    | 9, h => exact h
    | 10, h => exact by obtain ⟨a, c', h1, h2⟩ := h; exact ⟨a, c', h1, h2.grow g⟩
    | 11, h => exact by obtain ⟨Y, h1, h2, h3⟩ := h; exact ⟨Y, h1, h2, h3.grow g⟩
    | n + 12, h => trivial
  · refine gAll_some (fun vals W g d => ?_) <| gAll_some (fun vals W g d => ?_) <| gAll_some (fun vals W g d => ?_) <| gAll_some (fun vals W g d => ?_) <| gAll_some (fun vals W g d => ?_) <| gAll_some (fun vals W g d => ?_) <| gAll_some (fun vals W g d => ?_) <| gAll_some (fun vals W g d => ?_) <| gAll_some (fun vals W g d => ?_) <| gAll_some (fun vals W g d => ?_) <| gAll_some (fun vals W g d => ?_) <| gAll_some (fun vals W g d => ?_) <| gAll_none gAll_nil
    · refine gOp_one rfl rfl rfl fun K hK => ?_
      simp only [gFr] at hK ⊢
      go_simp
      refine (annAt_any 3 W).use ?_
      rintro v W' ⟨rfl, hat⟩ hg
      exact hK _ _ hg ⟨_, rfl, hat⟩
    · refine gOp_one rfl rfl rfl fun K hK => ?_
      simp only [gFr] at hK ⊢
      obtain ⟨q0, q1, q2, q3, q4, q5, q6, q7, q8, q9, q10, q11, q12, q13, q14⟩ := box_item (row_up HB2.out g)
      go_simp
      exact hK _ _ (G.refl _) rfl
    · obtain ⟨d0, d1, _, _⟩ := d
      change vals 1 = _ at d1
      refine gOp_one rfl rfl rfl fun K hK => ?_
      obtain ⟨m, d0, hat⟩ := d0
      simp only [gFr, d0, d1] at hK ⊢
      go_simp
      refine (withMore_any 3 ⟨m + 7, 0, none⟩ 2 annXs (adrI []) _ _ w2.heap.size W hat.freeR (by simp [annXs]) (HOK.out.grow g) (fun Y hY hz => HOK.out.grow (Wo.of g hY))).use ?_
      rintro v W' ⟨a2, c2, rfl, hf2⟩ hg
      exact hK _ _ hg ⟨a2, c2, rfl, hf2⟩
    · refine gOp_one rfl rfl rfl fun K hK => ?_
      simp only [gFr] at hK ⊢
      go_simp
      exact hK _ _ (G.refl _) rfl
    · refine gOp_one rfl rfl rfl fun K hK => ?_
      simp only [gFr] at hK ⊢
      go_simp
      exact hK _ _ (G.refl _) rfl
    · obtain ⟨d3, d4, _⟩ := d
      change vals 3 = _ at d3
      change vals 4 = _ at d4
      refine gOp_one rfl rfl rfl fun K hK => ?_
      simp only [gFr, d3, d4] at hK ⊢
      go_simp
      refine (label_any s W).use ?_
      intro W' hg
      exact hK _ _ hg rfl
    · obtain ⟨d2, d5, _, _⟩ := d
      change vals 5 = _ at d5
      refine gOp_one rfl rfl rfl fun K hK => ?_
      obtain ⟨a, c', d2, hf⟩ := d2
      simp only [gFr, d2, d5] at hK ⊢
      go_simp
      refine (withMore_any 3 a c' (annXs ++ [adrI []]) (lblI s) _ _ w2.heap.size W hf (by simp [annXs]) (lbl_ok s _) (fun Y hY hz => lbl_ok s _)).use ?_
      rintro v W' ⟨a2, c2, rfl, hf2⟩ hg
      exact hK _ _ hg ⟨a2, c2, rfl, hf2⟩
    · refine gOp_one rfl rfl rfl fun K hK => ?_
      simp only [gFr] at hK ⊢
      go_simp
      exact hK _ _ (G.refl _) rfl
    · refine gOp_one rfl rfl rfl fun K hK => ?_
      simp only [gFr] at hK ⊢
      go_simp
      exact hK _ _ (G.refl _) rfl
    · obtain ⟨d7, d8, _⟩ := d
      change vals 7 = _ at d7
      change vals 8 = _ at d8
      refine gOp_one rfl rfl rfl fun K hK => ?_
      simp only [gFr, d7, d8] at hK ⊢
      go_simp
      refine (label_any t W).use ?_
      intro W' hg
      exact hK _ _ hg rfl
    · obtain ⟨d6, d9, _, _⟩ := d
      change vals 9 = _ at d9
      refine gOp_one rfl rfl rfl fun K hK => ?_
      obtain ⟨a, c', d6, hf⟩ := d6
      simp only [gFr, d6, d9] at hK ⊢
      go_simp
      refine (withMore_any 3 a c' (annXs ++ [adrI []] ++ [lblI s]) (lblI t) _ _ w2.heap.size W hf (by simp [annXs]) (lbl_ok t _) (fun Y hY hz => lbl_ok t _)).use ?_
      rintro v W' ⟨a2, c2, rfl, hf2⟩ hg
      exact hK _ _ hg ⟨a2, c2, rfl, hf2⟩
    · refine gOp_one rfl rfl rfl fun K hK => ?_
      simp only [gFr] at hK ⊢
      go_simp
      exact hK _ _ ((G.refl _).alloc _) ⟨W.heap.size, rfl, g.size, heap_alloc_new W _⟩
  · intro vals W g d
    simp only [gFacts_cons, gFacts_nil] at d
    obtain ⟨d0, d1, d2, d3, d4, d5, d6, d7, d8, d9, d10, d11, _⟩ := d
    change vals 1 = _ at d1
    change vals 3 = _ at d3
    change vals 4 = _ at d4
    change vals 5 = _ at d5
    change vals 7 = _ at d7
    change vals 8 = _ at d8
    change vals 9 = _ at d9
    obtain ⟨a, c', d10, hf⟩ := d10
    obtain ⟨Y, d11, hY, hz⟩ := d11
    refine ⟨?_⟩
    show wpList _ _ _ [_] _ _
    simp only [gFr, d1, d3, d4, d5, d7, d8, d9]
    clear d1 d3 d4 d5 d7 d8 d9
    simp only [d10, d11]
    unfold cardV
    have HF := hid hf.free
    have HZ := hid hz
    have GW := hid g
    obtain ⟨c0, c1⟩ := box2c hz
    have fz := fun i => Lib.frozen_of_heap hz i
    clear d0 d2 d6 d10 d11 hf hz g
    go_upto_region 8 with fail
    generalize hw3 : (W.setCell ⟨Y, 0, none⟩ _).setCell ⟨Y, 1, none⟩ _ = w3
    have HB3 := hid (show w3.heap[Y]? = some (.cells #[.int .i64 3, .slice (some a) 5 c'] 35 (0, 0)) by rw [← hw3]; exact put2c HZ.out)
    have HIT3 := hid (show IsItems w3 (.slice (some a) 5 c') (labXs s t) by rw [← hw3]; exact zc_put HF.out hY HZ.out)
    have G3 := hid (show G w w3 by rw [← hw3]; exact G2.out.trans (Below.setCell (Below.setCell GW.out (by dsimp only; omega) _) (by dsimp only; omega) _))
    clear hw3 c0 c1 fz HF HZ GW hY
    obtain ⟨sm1, sm2, sm3, sm4, sm5⟩ := lab_smls (s := s) (t := t) hl3
    have hln : (labXs s t).length ≤ 1000 := by show (5 : Nat) ≤ 1000; omega
    have RC := hid (fun W (g : G w3 W) => cardRight_any 3 _ (labXs s t) W (HIT3.out.grow g) hln sm1 (HR.out.grow (G3.out.trans g)) (HM.out.grow (G3.out.trans g)) (HE.out.grow (G3.out.trans g)))
    have UPC := hid (fun W (g : G w3 W) => up_any 3 _ (labXs s t) W (HIT3.out.grow g) hln sm1 (HR.out.grow (G3.out.trans g)) (HM.out.grow (G3.out.trans g)) (HE.out.grow (G3.out.trans g)) (by rw [lab_labels]; exact sm2) (by rw [lab_labels]; exact sm3) (by rw [lab_labels]; exact sm4) (by rw [lab_labels]; exact sm5))
    unfold cardV at RC UPC
    clear sm1 sm2 sm3 sm4 sm5 hln
    obtain ⟨c0, c1⟩ := box2c HB3.out
    go_wp2_with fail
    refine (RC.out w3 (G.refl _)).use ?_
    intro r w4 hr g4
    have HB4 := hid (row_up HB3.out g4)
    have G34 := hid g4
    clear g4 RC c0 c1
    rcases hr with ⟨hok, rfl⟩ | ⟨hno, c, kk, he, hc, hfb⟩
    case inr =>
      obtain ⟨tt, e, rfl⟩ := IsErr.iface he
      clear hno he hc hfb
      go_wp2_with fail
      go_ret
      exact ⟨rfl, G3.out.trans G34.out⟩
    have HUP := hid (lab_up hl3 hok)
    clear hok
    obtain ⟨c0, c1⟩ := box2c HB4.out
    go_wp2_with fail
    refine (UPC.out w4 G34.out).use ?_
    rintro r w5 hr g5
    have G5 := hid ((G3.out.trans G34.out).trans g5)
    clear g5 UPC c0 c1
    rcases hr with ⟨_, ys, u3, hup, rfl, hiy, hfrm⟩ | ⟨hn, _⟩
    case inr => exact absurd ⟨rfl, _, HUP.out⟩ hn
    rw [HUP.out] at hup
    cases hup
    obtain ⟨ua, uc, hu3, _⟩ := hiy.len
    obtain rfl : u3 = .slice ua 4 uc := hu3
    have HIY := hid hiy
    clear hiy hfrm
    unfold cardV
    have G56 := hid ((G.refl w5).alloc (.cells #[.int .i64 4, .slice ua 4 uc] 35))
    have HD := hid (heap_alloc_new w5 (.cells #[.int .i64 4, .slice ua 4 uc] 35))
    obtain ⟨b2, off, cap2, e, hb2, hit⟩ := items_at (HIY.out.grow G56.out) (by simp [labYs])
    obtain ⟨pv2, lv2, hat2⟩ := hit 2 (adrI [(nLABEL, [s])]) rfl
    obtain ⟨pv3, lv3, hat3⟩ := hit 3 (lblY t) rfl
    obtain ⟨e1, e2⟩ : ua = some ⟨b2, off, none⟩ ∧ uc = cap2 := by cases e; exact ⟨rfl, rfl⟩
    subst e1
    subst e2
    clear e
    obtain ⟨pa, pc, rfl⟩ := hat2.ok.pv
    obtain ⟨pa3, pc3, rfl⟩ := hat3.ok.pv
    have FND := hid (fun W (g : G (w5.alloc (.cells #[.int .i64 4, .slice (some ⟨b2, off, none⟩) 4 uc] 35)) W) => find_any (.slice pa (adrI [(nLABEL, [s])]).ps.length pc) (adrI [(nLABEL, [s])]).ps nLABEL W (hat2.ok.p.grow g) (by show (1 : Nat) ≤ 1000000; omega) (by intro p hp; rw [List.mem_singleton.1 hp]; show nLABEL.length ≤ 1000000; decide) (by decide))
    have ef : findV (findL (adrI [(nLABEL, [s])]).ps nLABEL) = 0 := by
      have : findL [(nLABEL, [s])] nLABEL = some 0 := rfl
      show findV (findL [(nLABEL, [s])] nLABEL) = 0
      rw [this]; rfl
    rw [ef] at FND
    obtain ⟨pa', pc', ep, _, hcell⟩ := hat2.ok.p
    obtain ⟨pb, poff, epa, hpb, hcc⟩ := hcell (by simp [adrI])
    obtain ⟨e1, e2⟩ : pa = pa' ∧ pc = pc' := by cases ep; exact ⟨rfl, rfl⟩
    subst e1
    subst e2
    subst epa
    obtain ⟨sv, f1, f2, f3⟩ := hcc 0 (nLABEL, [s]) rfl
    obtain ⟨sa, sc, rfl, _⟩ := f3.len
    have F3 := hid f3
    have F2 := hid f2
    have HPB := hid hpb
    obtain ⟨d0, d1⟩ := box2c HD.out
    obtain ⟨_, _, k2, _⟩ := hat2.e
    obtain ⟨_, j1, _⟩ := hat3.e
    have K2 := hid k2
    have J1 := hid j1
    have HB2L := hid hb2
    simp only [Nat.reduceMul, adrI, lblY] at k2 j1
    clear ep ef hcell hcc hit hat2 hat3 HIY HUP f1 f2 f3 hpb
    go_wp2_with fail
    refine (FND.out _ (G.refl _)).use ?_
    intro w7 g7
    have G57 := hid (G56.out.trans g7)
    have HD7 := hid (row_up HD.out g7)
    have HB27 := hid (Nat.lt_of_lt_of_le HB2L.out g7.size)
    have K27 := hid ((g7.cell HB2L.out).trans K2.out)
    have J17 := hid ((g7.cell HB2L.out).trans J1.out)
    have F27 := hid ((g7.cell HPB.out).trans F2.out)
    have F37 := hid (F3.out.grow g7)
    have HPB7 := hid (Nat.lt_of_lt_of_le HPB.out g7.size)
    clear g7 d0 d1 k2 j1 FND
    have A8 := hid ((G.refl w7).alloc (.cells #[.string (S s)] 9))
    have EQ := hid (fun W (g : G (w7.alloc (.cells #[.string (S s)] 9)) W) => eqStrs_any ((F37.out.grow A8.out).grow g) ((OneS.strs ⟨_, rfl, heap_alloc_new w7 (.cells #[.string (S s)] 9)⟩).grow g) (by show (1 : Nat) ≤ 1000000; omega) (by show (1 : Nat) ≤ 1000000; omega))
    have SM := hid (fun W => same_any (88 :: 45 :: nLABEL) [88, 45, 76, 65, 66, 69, 76] W (by decide) (by decide))
    rw [show sameL (88 :: 45 :: nLABEL) [88, 45, 76, 65, 66, 69, 76] = true by decide +kernel] at SM
    simp only [decide_true] at EQ
    obtain ⟨d0, d1⟩ := box2c HD7.out
    have k2 := K27.out
    have f2 := F27.out
    simp only [Nat.reduceMul, adrI, lblY, Nat.zero_mul, Nat.add_zero] at k2 f2
    go_wp2_with fail
    refine (EQ.out _ (G.refl _)).use ?_
    intro w9 g9
    have G79 := hid (A8.out.trans g9)
    clear g9 d0 d1 k2 f2 EQ
    obtain ⟨d0, d1⟩ := box2c (row_up HD7.out G79.out)
    have j1 := (G79.out.cell HB27.out).trans J17.out
    simp only [Nat.reduceMul, adrI, lblY] at j1
    go_wp2_with fail
    refine (SM.out _).use ?_
    intro wx gx
    go_wp2_with fail
    go_ret
    exact ⟨rfl, (((G5.out.trans G57.out).trans G79.out).trans gx)⟩
end Go.Proofs.YtdmbhoagjjkogaaGreatDoor
