/-
  CONTRACT of card.Right: whether a card is right.
-/
import Derived.Test.YtdmbhoagjjkogaaGreatDoorCardOne
import Derived.Test.YtdmbhoagjjkogaaGreatDoorMA49
import Derived.Test.YtdmbhoagjjkogaaGreatDoorMA45
import Derived.Carry
namespace Go.Proofs.YtdmbhoagjjkogaaGreatDoor
open Go.RowKit
set_option linter.unusedVariables false
set_option linter.unusedSimpArgs false
def FirstBad (ver : Int) (xs : List It) (c : Int) : Prop := (ver = 3 ∨ ver = 4) → xs.length ≤ 60 → ∀ (i : Nat) (x : It), xs[i]? = some x → (∀ (j : Nat) (y : It), j < i → xs[j]? = some y → oneB ver y = true) → oneB ver x = false → OneC ver x c
def BadAt (ver : Int) (xs : List It) (c : Int) (k : Option Nat) : Prop := (∀ i, k = some i → i < xs.length) ∧ ((ver = 3 ∨ ver = 4) → xs.length ≤ 60 → (∀ x ∈ xs, oneB ver x = true) → mostN ver (xs.map It.n) = false → c = 9)
def RightR (ver : Int) (xs : List It) (r : Value) (w : World) : Prop := (rightC ver xs = true ∧ r = .nilIface) ∨ (rightC ver xs = false ∧ ∃ c k, IsErr w r (some (c, k)) ∧ c ≠ 0 ∧ FirstBad ver xs c ∧ BadAt ver xs c k)
theorem RightR.no {ver : Int} {xs : List It} {r : Value} {w : World} {c : Int} {k : Option Nat} (h : rightC ver xs = false) (hr : IsErr w r (some (c, k))) (hc : c ≠ 0) (hf : FirstBad ver xs c) (hb : BadAt ver xs c k) : RightR ver xs r w := .inr ⟨h, c, k, hr, hc, hf, hb⟩
theorem RightR.ver {ver : Int} {xs : List It} {w : World} {c : Int} (h : ¬ (ver = 3 ∨ ver = 4)) (hc : c ≠ 0) : RightR ver xs (eno c) w := RightR.no (k := none) (by unfold rightC; rw [decide_eq_false h]; rfl) rfl hc (fun h' => absurd h' h) ⟨fun i e => (by cases e), fun h' => absurd h' h⟩
theorem RightR.many {ver : Int} {xs : List It} {w : World} {c : Int} (h : ¬ xs.length ≤ 60) (hc : c ≠ 0) : RightR ver xs (eno c) w := RightR.no (k := none) (by unfold rightC; rw [decide_eq_false h]; simp) rfl hc (fun _ h' => absurd h' h) ⟨fun i e => (by cases e), fun _ h' => absurd h' h⟩
theorem RightR.item {ver : Int} {xs : List It} {w : World} {r : Value} {c : Int} {i : Nat} {x : It} (hx : xs[i]? = some x) (hn : ∀ (j : Nat) (y : It), j < i → xs[j]? = some y → oneB ver y = true) (ho : OneC ver x c) (hc : c ≠ 0) (hr : IsErr w r (some (c, some i))) : RightR ver xs r w := by
  have hb : oneB ver x = false := by
    cases h : oneB ver x with
    | false => rfl
    | true => exact absurd (ho.ok.2 h) hc
  have hlt : i < xs.length := (List.getElem?_eq_some_iff.1 hx).1
  refine RightR.no (k := some i) ?_ hr hc ?_ ⟨fun j e => by cases e; exact hlt, fun _ _ ha _ => by rw [ha x (List.mem_of_getElem? hx)] at hb; cases hb⟩
  · cases h : rightC ver xs with
    | false => rfl
    | true => rw [(rightC_iff.1 h).2.2.1 x (List.mem_of_getElem? hx)] at hb; cases hb
  · intro _ _ j y hy hj hyb
    rcases Nat.lt_trichotomy i j with h | h | h
    · rw [hj i x h hx] at hb; cases hb
    · subst h; rw [hx] at hy; cases hy; exact ho
    · rw [hn j y h hy] at hyb; cases hyb
theorem firstBad_all {ver : Int} {xs : List It} {c : Int} (h : ∀ x ∈ xs, oneB ver x = true) : FirstBad ver xs c := fun _ _ i x hx _ hb => by rw [h x (List.mem_of_getElem? hx)] at hb; cases hb
theorem RightR.most {ver : Int} {xs : List It} {w : World} {r : Value} {i : Nat} (ha : ∀ x ∈ xs, oneB ver x = true) (hi : i < xs.length) (hm : mostAt ver (xs.map It.n) i = false) (hr : IsErr w r (some (9, some i))) : RightR ver xs r w := by
  refine RightR.no (k := some i) ?_ hr (by decide) (firstBad_all ha) ⟨fun j e => by cases e; exact hi, fun _ _ _ _ => rfl⟩
  cases h : rightC ver xs with
  | false => rfl
  | true =>
    have := (rightC_iff.1 h).2.2.2.1
    unfold mostN at this
    rw [List.all_eq_true] at this
    rw [this i (List.mem_range.2 (by simpa using hi))] at hm; cases hm
theorem RightR.least {ver : Int} {xs : List It} {w : World} {c : Int} {e : Ent} (ha : ∀ x ∈ xs, oneB ver x = true) (hmo : ∀ i, i < xs.length → mostAt ver (xs.map It.n) i = true) (he : e ∈ tabT ver) (hm : (cntN e.name (xs.map It.n) : Int) < (ruleX ver e.name).2.1) (hc : c ≠ 0) : RightR ver xs (eno c) w := by
  refine RightR.no (k := none) ?_ rfl hc (firstBad_all ha) ⟨fun i e => (by cases e), fun _ _ _ hm => by
    have : mostN ver (xs.map It.n) = true := by unfold mostN; rw [List.all_eq_true]; intro i hi; exact hmo i (by simpa using hi)
    rw [this] at hm; cases hm⟩
  cases h : rightC ver xs with
  | false => rfl
  | true =>
    have := (rightC_iff.1 h).2.2.2.2
    unfold leastN at this
    rw [List.all_eq_true] at this
    have := this e he
    rw [decide_eq_true hm] at this; cases this
theorem RightR.yes {ver : Int} {xs : List It} {w : World} (hv : ver = 3 ∨ ver = 4) (hl : xs.length ≤ 60) (ha : ∀ x ∈ xs, oneB ver x = true) (hm : ∀ i, i < xs.length → mostAt ver (xs.map It.n) i = true) (hb : ∀ j (h : j < (tabT ver).length), ¬ ((cntN ((tabT ver)[j]).name (xs.map It.n) : Int) < (ruleX ver ((tabT ver)[j]).name).2.1)) : RightR ver xs .nilIface w := by
  refine .inl ⟨rightC_iff.2 ⟨hv, hl, ha, ?_, ?_⟩, rfl⟩
  · unfold mostN; rw [List.all_eq_true]; intro i hi; exact hm i (by simpa using hi)
  · unfold leastN; rw [List.all_eq_true]; intro e he
    obtain ⟨j, hj, rfl⟩ := List.getElem_of_mem he
    rw [decide_eq_false (hb j hj)]; rfl
theorem items_at {w : World} {v : Value} {xs : List It} (h : IsItems w v xs) (h0 : xs ≠ []) : ∃ b off cap, v = .slice (some ⟨b, off, none⟩) xs.length cap ∧ b < w.heap.size ∧ ∀ (i : Nat) (x : It), xs[i]? = some x → ∃ pv lv, ItAt w b (off + i * 15) x pv lv := by
  obtain ⟨a, cap, e, _, h⟩ := h
  obtain ⟨b, off, e2, hb, h⟩ := h h0
  exact ⟨b, off, cap, by rw [e, e2], hb, h⟩
theorem cntN_le (n : List UInt8) (ns : List (List UInt8)) : cntN n ns ≤ ns.length := List.length_filter_le _ _
theorem cntN_step {xs : List It} {k : Nat} {x : It} (hx : xs[k]? = some x) (n : List UInt8) : (cntN n ((xs.map It.n).take (k + 1)) : Int) = if n = upperL x.n then (cntN (upperL x.n) ((xs.map It.n).take k) : Int) + 1 else (cntN n ((xs.map It.n).take k) : Int) := by
  have e : (xs.map It.n).take (k + 1) = (xs.map It.n).take k ++ [x.n] := by
    rw [List.take_add_one, List.getElem?_map, hx]; rfl
  rw [e]
  unfold cntN
  rw [List.filter_append, List.length_append]
  by_cases h : n = upperL x.n
  · rw [if_pos h]; subst h; simp
  · rw [if_neg h]
    have : (upperL x.n == n) = false := beq_eq_false_iff_ne.2 (fun q => h q.symm)
    simp [this]
theorem mostAt_eq {ver : Int} {xs : List It} {k : Nat} {x : It} (hx : xs[k]? = some x) : mostAt ver (xs.map It.n) k = !(decide (0 < (ruleX ver x.n).2.2.1 ∧ (ruleX ver x.n).2.2.1 < (cntN (upperL x.n) ((xs.map It.n).take k) : Int) + 1)) := by
  unfold mostAt
  have e : (xs.map It.n)[k]? = some x.n := by rw [List.getElem?_map, hx]; rfl
  rw [e]
  simp only
  rw [cntN_step hx, if_pos rfl]
set_option maxRecDepth 100000 in
set_option maxHeartbeats 400000 in
theorem names_no (v : Int) (w : World) (h3 : v ≠ 3) (h4 : v ≠ 4) : Gives 35 #[.int .i64 v] w (.tuple #[.slice none 0 0, eno 1]) := by
  have b3 : (v != 3) = true := by simpa using h3
  have b4 : (v != 4) = true := by simpa using h4
  go_enter Tryz.func35, Tryz.ntmps35
  clear h3 h4
  go_wp2_with fail
  refine bodyPost_ret (v := .tuple #[.slice none 0 0, eno 1]) ?_ rfl ⟨rfl, ?_⟩
  · simp [results, Tryz.f35, go_sem]
  · exact (by repeat (first | exact G.refl _ | assumption | apply G.drew | apply G.drewN | apply G.alloc | refine G.trans ?_ (by assumption)))
theorem box2c {w : World} {b : Nat} {a0 a1 : Value} {t : TypeId} (h : w.heap[b]? = some (.cells #[a0, a1] t (0, 0))) : w.cell? ⟨b, 0, none⟩ = some a0 ∧ w.cell? ⟨b, 1, none⟩ = some a1 := by
  refine ⟨?_, ?_⟩ <;> (rw [cell_of_row w b _ _ _ _ h]; rfl)
set_option maxRecDepth 100000 in
set_option maxHeartbeats 8000000 in
theorem cardRight_far (ver : Int) (iv : Value) (xs : List It) (w : World) (h : IsItems w iv xs) (hl : xs.length ≤ 1000000) (hs : ∀ x ∈ xs, Sml x) (hR : RMem w) (hM : HasM w) (hE : LaidE w) : Makes 11 #[cardV ver iv] w (RightR ver xs) := by
  obtain ⟨w1, hw1⟩ : ∃ w1, w.alloc (.cells #[.int .i64 ver, iv] 35) = w1 := ⟨_, rfl⟩
  have HB := hid (show w1.heap[w.heap.size]? = some (.cells #[.int .i64 ver, iv] 35 (0, 0)) by rw [← hw1]; exact heap_alloc_new w _)
  have G1 := hid (show G w w1 by rw [← hw1]; exact (G.refl w).alloc _)
  have HIT := hid h
  have HS := hid hs
  have HRM := hid hR
  have HM := hid hM
  have HE := hid hE
  obtain ⟨ia, ic, rfl, hcap⟩ := h.len
  clear h hcap hs hR hM hE
  unfold cardV
  obtain ⟨c0, c1⟩ := box2c HB.out
  by_cases hv : ver = 3 ∨ ver = 4
  case neg =>
    have HN := hid hv
    have h3 : ver ≠ 3 := fun e => hv (.inl e)
    have h4 : ver ≠ 4 := fun e => hv (.inr e)
    clear hv
    go_enter Tryz.func11, Tryz.ntmps11
    go_wp2_with fail
    refine (names_no ver _ h3 h4).use ?_
    intro w2 g2
    clear h3 h4
    go_wp2_with fail
    go_ret
    exact ⟨_, rfl, RightR.ver HN.out (by decide), G1.out.trans g2⟩
  have HV := hid hv
  have hlen2 := tab_len ver
  have hlen25 := (tab_ok ver).2
  have NM := hid (fun W g => names_any ver W hv (HRM.out.grow g))
  have OF := hid (fun (s : List UInt8) W (g : G w W) (hs : s.length ≤ 1000000) => of_any s ver W hv hs (HRM.out.grow g))
  have ONE := hid (fun (x : It) pv lv W (g : G w W) (hx : x ∈ xs) (ho : ItOk W x pv lv) => one_any ver hv x pv lv W ho (HS.out x hx) (HRM.out.grow g) (HM.out.grow g) (HE.out.grow g))
  have HTO := hid (tab_ok ver).1
  clear hv
  go_enter Tryz.func11, Tryz.ntmps11
  go_wp2_with fail
  refine (NM.out w1 G1.out).mono ?_
  rintro e w2 ⟨u, rfl, hrow, hB⟩
  obtain ⟨g, cap, hu⟩ : ∃ g cap, u = .slice (some ⟨g, 0, none⟩) (tabT ver).length cap := by
    obtain ⟨n, hn⟩ : ∃ n, (tabT ver).length = n + 1 := ⟨(tabT ver).length - 1, by omega⟩
    rw [hn] at hrow ⊢
    exact ownsRow_succ hrow
  subst hu
  have hcell : ∀ j, (hj : j < (tabT ver).length) → w2.cell? ⟨g, j, none⟩ = some (.string (S ((tabT ver)[j]).name)) := fun j hj => by
    have := hrow.cells (g := g) rfl j (.string (S ((tabT ver)[j]).name)) (by simp [hj])
    have ea : (⟨g, 0, none⟩ : Addr).add j = ⟨g, j, none⟩ := by unfold Addr.add; split <;> simp_all
    rw [ea] at this
    exact this
  have hgl : g < w2.heap.size := World.block_lt_of_cell? _ _ (hcell 0 (by omega))
  have HC := hid hcell
  have g2 : G w1 w2 := hB
  have K2 := hid g2
  have HB2 := hid (row_up HB.out g2)
  have HGL := hid hgl
  clear hcell hrow hB g2 c0 c1 hgl
  obtain ⟨c0, c1⟩ := box2c HB2.out
  by_cases h60 : xs.length ≤ 60
  case neg =>
    have HN := hid h60
    have h60' : (60 : Int) < xs.length := by omega
    clear h60
    go_wp2_with fail
    go_ret
    exact ⟨_, rfl, RightR.many HN.out (by decide), G1.out.trans K2.out⟩
  have h60' : ¬ (60 : Int) < xs.length := by omega
  go_wp2_with fail
  clear c0 c1 h60'
  go_loopw [35] (fun i wr => ∃ k : Nat, k ≤ xs.length ∧ i = .int .i64 k ∧ (∀ (j : Nat) (y : It), j < k → xs[j]? = some y → oneB ver y = true) ∧ G w2 wr) (fun i _ => xs.length - (intOf i).toNat)
  case atStart => exact ⟨0, Nat.zero_le _, rfl, fun j _ h => by omega, G.refl _⟩
  case round =>
    obtain ⟨k, hk, rfl, hno, gr⟩ := hrel
    have KR := hid gr
    have GR := hid (G1.out.trans (K2.out.trans gr))
    have HB3 := hid (row_up HB2.out gr)
    have HNO := hid hno
    clear hno gr
    by_cases hlt2 : k < xs.length
    · obtain ⟨b, off, cap2, e, hb, hit⟩ := items_at (HIT.out.grow GR.out) (by rintro rfl; simp at hlt2)
      cases e
      have hx := List.getElem?_eq_getElem hlt2
      obtain ⟨x, hxe⟩ : ∃ x, xs[k] = x := ⟨_, rfl⟩
      rw [hxe] at hx
      obtain ⟨pv, lv, hat⟩ := hit k x hx
      obtain ⟨pa, pc, rfl⟩ := hat.ok.pv
      obtain ⟨la, lc, rfl⟩ := hat.ok.lv
      obtain ⟨k0, k1, k2, k3, k4, k5, k6, k7, k8, k9, k10, k11, k12, k13, k14⟩ := hat.e
      have HX := hid hx
      have HOK := hid hat.ok
      have hkl : (k : Int) < (xs.length : Int) := by omega
      have HBX := hid (row_up HB3.out ((G.refl wr).alloc (.cells (x.cells (.slice pa x.ps.length pc) (.slice la x.v.ps.length lc)).toArray 31)))
      clear hit hat hx hxe
      obtain ⟨c0, c1⟩ := box2c HBX.out
      simp only [It.cells] at c0 c1
      go_wp2_with fail
      refine (ONE.out x _ _ _ (GR.out.trans ((G.refl wr).alloc _)) (List.mem_of_getElem? HX.out) (HOK.out.grow ((G.refl wr).alloc _))).use ?_
      rintro r w4 ⟨c, rfl, ho⟩ g4
      have G4 := hid (GR.out.trans (((G.refl wr).alloc _).trans g4))
      have K4 := hid (KR.out.trans (((G.refl wr).alloc _).trans g4))
      clear k0 k1 k2 k3 k4 k5 k6 k7 k8 k9 k10 k11 k12 k13 k14 g4 c0 c1
      have HO := hid ho
      clear ho
      by_cases hc : c = 0
      · subst hc
        have HN2 := hid (show ∀ (j : Nat) (y : It), j < k + 1 → xs[j]? = some y → oneB ver y = true from fun j y hj hy => by
          rcases Nat.lt_or_ge j k with h1 | h1
          · exact HNO.out j y h1 hy
          · obtain rfl : j = k := by omega
            rw [HX.out] at hy; cases hy; exact HO.out.ok.1 rfl)
        go_wp2_with fail
        go_roundw
        case measure => simp [intOf]; omega
        case rel => exact ⟨k + 1, by omega, by go_num, HN2.out, K4.out⟩
      · have hc' : (c != 0) = true := by simpa using hc
        have HCN := hid hc
        clear hc
        go_wp2_with fail
        go_ret
        exact ⟨_, rfl, RightR.item HX.out HNO.out HO.out HCN.out (IsAt.new _ _ _ _), G4.out.alloc _⟩
    · obtain rfl : k = xs.length := by omega
      obtain ⟨wo, rfl⟩ : ∃ wo, wo = wr := ⟨_, rfl⟩
      have HALL := hid (show ∀ x ∈ xs, oneB ver x = true from fun x hx => by
        obtain ⟨j, hj, rfl⟩ := List.getElem_of_mem hx
        exact HNO.out j _ hj (List.getElem?_eq_getElem hj))
      obtain ⟨c0, c1⟩ := box2c HB3.out
      have e0 := (HB3.out)
      obtain ⟨wm, hwm⟩ : ∃ wm, wo.alloc (.map #[] 0) = wm := ⟨_, rfl⟩
      have KM := hid (show G w2 wm by rw [← hwm]; exact KR.out.alloc _)
      have GM := hid (show G w wm by rw [← hwm]; exact GR.out.alloc _)
      have HM0 := hid (show wm.heap[wo.heap.size]? = some (.map #[] 0) by rw [← hwm]; exact heap_alloc_new wo _)
      have HRW := hid (show G wo wm by rw [← hwm]; exact (G.refl wo).alloc _)
      have HBM := hid (row_up HB3.out HRW.out)
      clear c0 c1 e0
      obtain ⟨c0, c1⟩ := box2c HBM.out
      have hmm := @run_makeMap Tryz.prog
      go_wp2_with fail
      clear hmm
      clear c0 c1
      go_loopw [56] (fun i wr => ∃ k : Nat, k ≤ xs.length ∧ i = .int .i64 k ∧ (∃ es cl, wr.heap[wo.heap.size]? = some (.map es cl) ∧ CntEs es cl (fun n => (cntN n ((xs.map It.n).take k) : Int))) ∧ (∀ j, j < k → mostAt ver (xs.map It.n) j = true) ∧ G wo wr) (fun i _ => xs.length - (intOf i).toNat)
      case atStart => exact ⟨0, Nat.zero_le _, rfl, ⟨_, _, HM0.out, cnt_nil 0⟩, fun j h => by omega, HRW.out⟩
      case round =>
        obtain ⟨k, hk, rfl, ⟨es, cl, hmap, hcnt⟩, hno, gr⟩ := hrel
        have KQ := hid gr
        have GQ := hid (GR.out.trans gr)
        have HBQ := hid (row_up HB3.out gr)
        have HMO := hid hno
        have HMAP := hid hmap
        have HCNT := hid hcnt
        clear hno gr hmap hcnt
        by_cases hlt2 : k < xs.length
        · obtain ⟨b, off, cap2, e, hb, hit⟩ := items_at (HIT.out.grow GQ.out) (by rintro rfl; simp at hlt2)
          cases e
          have hx := List.getElem?_eq_getElem hlt2
          obtain ⟨x, hxe⟩ : ∃ x, xs[k] = x := ⟨_, rfl⟩
          rw [hxe] at hx
          obtain ⟨pv, lv, hat⟩ := hit k x hx
          obtain ⟨pa, pc, rfl⟩ := hat.ok.pv
          obtain ⟨la, lc, rfl⟩ := hat.ok.lv
          obtain ⟨k0, k1, k2, k3, k4, k5, k6, k7, k8, k9, k10, k11, k12, k13, k14⟩ := hat.e
          have HX := hid hx
          have hkl : (k : Int) < (xs.length : Int) := by omega
          have hnl := (HS.out x (List.mem_of_getElem? hx)).bounds.2.1
          clear hit hat hx hxe
          go_wp2_with fail
          refine (upper_any x.n _ (by omega)).use ?_
          intro w4 g4
          have GA := hid (((G.refl wr).alloc (.cells (x.cells (.slice pa x.ps.length pc) (.slice la x.v.ps.length lc)).toArray 31)).trans g4)
          clear k0 k1 k2 k3 k4 k5 k6 k7 k8 k9 k10 k11 k12 k13 k14 g4
          have hm4 := row_up HMAP.out GA.out
          obtain ⟨u, hu⟩ : ∃ u, u = upperL x.n := ⟨_, rfl⟩
          have lk := look_cnt hm4 HCNT.out u
          obtain ⟨a, ha⟩ : ∃ a : Nat, a = cntN u ((xs.map It.n).take k) := ⟨_, rfl⟩
          have hal : a ≤ 1000 := by
            rw [ha]
            have h1 := cntN_le u ((xs.map It.n).take k)
            rw [List.length_take, List.length_map] at h1
            omega
          rw [← ha] at lk
          obtain ⟨es', cl', pt, hcn⟩ := put_cnt hm4 HCNT.out u ((a : Int) + 1)
          obtain ⟨w5, hw5⟩ : ∃ w5, ({ w4 with heap := w4.heap.setIfInBounds wo.heap.size (.map es' cl') } : World) = w5 := ⟨_, rfl⟩
          have hgr5 := cnt_grown w4 wo.heap.size (.map es' cl')
          have HM5 := hid (cnt_heap hm4 (.map es' cl'))
          rw [hw5] at pt hgr5 HM5
          have K5 := hid (show G wo w5 from Below.grown (KQ.out.trans GA.out) hgr5 (Nat.le_trans KQ.out.size GA.out.size) (fun j hj => by cases hj; exact Nat.le_refl _))
          have G5 := hid (GR.out.trans K5.out)
          have HB5 := hid (row_up HB3.out K5.out)
          obtain ⟨r0, r1, r2, r3, hru⟩ : ∃ r0 r1 r2 r3, ruleX ver x.n = (r0, r1, r2, r3) := ⟨_, _, _, _, rfl⟩
          have OF1 := OF.out u w5 G5.out (by rw [hu, upperL_length]; omega)
          rw [show ruleOf (tabT ver) (upperL u) = ruleX ver x.n by rw [hu, upper_upper]; rfl, hru] at OF1
          have HOF := hid OF1
          have HRU := hid hru
          clear hw5 hgr5 hru OF1
          have HCN := hid hcn
          rw [← hu]
          have HU := hid hu
          have HA := hid ha
          have HM4 := hid hm4
          clear hcn hu ha hm4
          obtain ⟨c0, c1⟩ := box2c HB5.out
          go_wp2_with fail
          clear pt lk
          refine HOF.out.use ?_
          intro w6 g6
          have GL := hid (g6.alloc (.cells #[.int .i64 r0, .int .i64 r1, .int .i64 r2, .int .i64 r3] 53))
          have HM6 := hid (row_up HM5.out GL.out)
          have lk := look_cnt HM6.out HCN.out u
          simp only [if_true] at lk
          have HB6 := hid (row_up HB5.out GL.out)
          have K6 := hid (K5.out.trans GL.out)
          have G6 := hid (G5.out.trans GL.out)
          clear c0 c1 g6 HOF
          have HMA := hid (show mostAt ver (xs.map It.n) k = !(decide (0 < r2 ∧ r2 < (a : Int) + 1)) by rw [mostAt_eq HX.out, HRU.out, HA.out, HU.out])
          by_cases hbad : 0 < r2 ∧ r2 < (a : Int) + 1
          case pos =>
            have HNO := hid (show mostAt ver (xs.map It.n) k = false by rw [HMA.out, decide_eq_true hbad]; rfl)
            obtain ⟨b1, b2⟩ := hbad
            go_wp2_with fail
            go_ret
            exact ⟨_, rfl, RightR.most HALL.out hlt2 HNO.out (IsAt.newAt _ _ _ _ _ (by simp)), G6.out.alloc _⟩
          have HYES := hid (show mostAt ver (xs.map It.n) k = true by rw [HMA.out, decide_eq_false hbad]; rfl)
          have HCN2 := hid (show CntEs es' cl' (fun n => (cntN n ((xs.map It.n).take (k + 1)) : Int)) by
            have e : (fun n => (cntN n ((xs.map It.n).take (k + 1)) : Int)) = fun x => if x = u then (a : Int) + 1 else (cntN x ((xs.map It.n).take k) : Int) := by
              funext n
              rw [cntN_step HX.out, HA.out, HU.out]
            rw [e]; exact HCN.out)
          have HMO2 := hid (show ∀ j, j < k + 1 → mostAt ver (xs.map It.n) j = true from fun j hj => by
            rcases Nat.lt_or_ge j k with h1 | h1
            · exact HMO.out j h1
            · obtain rfl : j = k := by omega
              exact HYES.out)
          rcases (show ¬ 0 < r2 ∨ (0 < r2 ∧ ¬ r2 < (a : Int) + 1) by
            by_cases b1 : 0 < r2
            · exact .inr ⟨b1, fun b2 => hbad ⟨b1, b2⟩⟩
            · exact .inl b1) with b1 | ⟨b1, b2⟩
          all_goals
            clear hbad
            go_wp2_with fail
            go_roundw
            case measure => simp [intOf]; omega
            case rel => exact ⟨k + 1, by omega, by go_num, ⟨es', cl', HM6.out, HCN2.out⟩, HMO2.out, K6.out⟩
        · obtain rfl : k = xs.length := by omega
          obtain ⟨wp, rfl⟩ : ∃ wp, wp = wr := ⟨_, rfl⟩
          have HMOST := hid (show ∀ i, i < xs.length → mostAt ver (xs.map It.n) i = true from HMO.out)
          have HCNT2 := hid (show CntEs es cl (fun n => (cntN n (xs.map It.n) : Int)) by
            have := HCNT.out
            rwa [List.take_of_length_le (by simp)] at this)
          have KN := hid (KR.out.trans KQ.out)
          go_wp2_with fail
          go_loopw [93] (fun i wr => ∃ k : Nat, k ≤ (tabT ver).length ∧ i = .int .i64 k ∧ (∀ j (h : j < (tabT ver).length), j < k → (ruleX ver ((tabT ver)[j]).name).2.1 ≤ (cntN ((tabT ver)[j]).name (xs.map It.n) : Int)) ∧ G wp wr) (fun i _ => (tabT ver).length - (intOf i).toNat)
          case atStart => exact ⟨0, Nat.zero_le _, rfl, fun j _ h => by omega, G.refl _⟩
          case round =>
            obtain ⟨k, hk, rfl, hno, gr⟩ := hrel
            have HLO := hid hno
            have KW := hid gr
            have GW := hid (GQ.out.trans gr)
            have HBW := hid (row_up HBQ.out gr)
            have HMW := hid (row_up HMAP.out gr)
            clear hno gr
            by_cases hlt3 : k < (tabT ver).length
            · have hc0 := (KN.out.trans KW.out).cell (p := ⟨g, k, none⟩) HGL.out
              rw [HC.out k hlt3] at hc0
              have hem := List.getElem_mem hlt3
              have hoe := HTO.out _ hem
              simp only [entOk, Bool.and_eq_true, decide_eq_true_eq, beq_iff_eq] at hoe
              obtain ⟨e, he⟩ : ∃ e, (tabT ver)[k] = e := ⟨_, rfl⟩
              rw [he] at hc0 hem hoe
              have hel : e.name.length ≤ 1000000 := by have := hoe.2.2.2.2.2.2; omega
              obtain ⟨r0, r1, r2, r3, hru⟩ : ∃ r0 r1 r2 r3, ruleX ver e.name = (r0, r1, r2, r3) := ⟨_, _, _, _, rfl⟩
              have OF1 := OF.out e.name wr GW.out hel
              rw [show ruleOf (tabT ver) (upperL e.name) = ruleX ver e.name from rfl, hru] at OF1
              have HOF := hid OF1
              have HRU := hid hru
              have HEM := hid hem
              have HEK := hid he
              obtain ⟨c0, c1⟩ := box2c HBW.out
              have hkl : (k : Int) < ((tabT ver).length : Int) := by omega
              clear hoe hel hru OF1 hem he
              go_wp2_with fail
              refine HOF.out.use ?_
              intro w6 g6
              have GL := hid (g6.alloc (.cells #[.int .i64 r0, .int .i64 r1, .int .i64 r2, .int .i64 r3] 53))
              have HM6 := hid (row_up HMW.out GL.out)
              have lk := look_cnt HM6.out HCNT2.out e.name
              obtain ⟨a, ha⟩ : ∃ a : Nat, a = cntN e.name (xs.map It.n) := ⟨_, rfl⟩
              rw [← ha] at lk
              have HA := hid ha
              have K6 := hid (KW.out.trans GL.out)
              have G6 := hid (GW.out.trans GL.out)
              clear c0 c1 g6 HOF hc0 ha
              by_cases hbad : (a : Int) < r1
              · have HNO := hid (show (cntN e.name (xs.map It.n) : Int) < (ruleX ver e.name).2.1 by rw [HRU.out, ← HA.out]; exact hbad)
                go_wp2_with fail
                go_ret
                exact ⟨_, rfl, RightR.least HALL.out HMOST.out HEM.out HNO.out (by decide), G6.out⟩
              · have HN2 := hid (show ∀ j (h : j < (tabT ver).length), j < k + 1 → (ruleX ver ((tabT ver)[j]).name).2.1 ≤ (cntN ((tabT ver)[j]).name (xs.map It.n) : Int) from fun j h hj => by
                  rcases Nat.lt_or_ge j k with h1 | h1
                  · exact HLO.out j h h1
                  · obtain rfl : j = k := by omega
                    rw [HEK.out, HRU.out, ← HA.out]; simp only; omega)
                go_wp2_with fail
                go_roundw
                case measure => simp [intOf]; omega
                case rel => exact ⟨k + 1, by omega, by go_num, HN2.out, K6.out⟩
            · obtain rfl : k = (tabT ver).length := by omega
              go_wp2_with fail
              go_ret
              exact ⟨_, rfl, RightR.yes HV.out h60 HALL.out HMOST.out (fun j h => by have := HLO.out j h h; omega), GW.out⟩
theorem cardRight_any (ver : Int) (iv : Value) (xs : List It) (w : World) (h : IsItems w iv xs) (hl : xs.length ≤ 1000) (hs : ∀ x ∈ xs, Sml x) (hR : RMem w) (hM : HasM w) (hE : LaidE w) : Makes 11 #[cardV ver iv] w (RightR ver xs) :=
  cardRight_far ver iv xs w h (by omega) hs hR hM hE
end Go.Proofs.YtdmbhoagjjkogaaGreatDoor
