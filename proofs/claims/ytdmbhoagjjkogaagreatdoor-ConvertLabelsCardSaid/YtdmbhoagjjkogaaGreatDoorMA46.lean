/-
  Texts merged into one: PrefDel, ConvLabels, Joined.
-/
import Derived.Test.YtdmbhoagjjkogaaGreatDoorMFn
import Derived.Test.YtdmbhoagjjkogaaGreatDoorMA39
import Derived.Test.YtdmbhoagjjkogaaGreatDoorMA48
import Derived.Test.YtdmbhoagjjkogaaGreatDoorMA45
import Derived.Test.YtdmbhoagjjkogaaGreatDoorCardRight
import Derived.Test.YtdmbhoagjjkogaaGreatDoorMA53
import Derived.JoinedCond
namespace Go.Proofs.YtdmbhoagjjkogaaGreatDoor
open Go.RowKit
set_option linter.unusedVariables false
set_option linter.unusedSimpArgs false
def IxSt (q : List UInt8 → Bool) (xs : List (List UInt8)) (R : World → World → Prop) (w w1 : World) : Prop := (xs.findIdx? q = none ∧ G w w1) ∨ (∃ k, xs.findIdx? q = some k ∧ ∃ W, G w W ∧ R W w1)
set_option maxRecDepth 100000 in
set_option maxHeartbeats 4000000 in
theorem indexS_st (g : Nat) (lb : Array Value) (eg : ∀ args w, (callFunc g args).run Tryz.prog w = .ok (.enter g args) w) (q : List UInt8 → Bool) (v : Value) (xs : List (List UInt8)) (w : World) (R : World → World → Prop) (h : IsRow 1 w v xs.length (xs.flatMap cellsS)) (hl : xs.length ≤ 1000000)
    (hPf : ∀ W, G w W → ∀ x ∈ xs, q x = false → Gives g (#[valS x] ++ lb) W (.bool false)) (hPt : ∀ W, G w W → ∀ x ∈ xs, q x = true → Calls Tryz.prog g (#[valS x] ++ lb) W fun e w' => e = .returned (.bool true) ∧ R W w') :
    Calls Tryz.prog 40 #[v, .func (.func g) #[] lb] w fun e w1 => e = .returned (.int .i64 (findV (xs.findIdx? q))) ∧ IxSt q xs R w w1 := by
  have H := hid h
  have HPF := hid hPf
  have HPT := hid hPt
  obtain ⟨a, cap, rfl⟩ := h.len
  clear h hPf hPt
  go_enter Tryz.func40, Tryz.ntmps40
  go_wp2_with fail
  go_loopw [8] (fun i wr => ∃ k : Nat, k ≤ xs.length ∧ i = .int .i64 k ∧ (∀ j (h : j < xs.length), j < k → q xs[j] = false) ∧ G w wr) (fun i _ => xs.length - (intOf i).toNat)
  case atStart => exact ⟨0, Nat.zero_le _, rfl, fun j _ h => by omega, G.refl _⟩
  case round =>
    obtain ⟨k, hk, rfl, hn, gr⟩ := hrel
    have HN := hid hn
    have GR := hid gr
    clear hn gr
    by_cases hlt : k < xs.length
    · obtain ⟨_, _, hh⟩ := H.out.grow GR.out
      rcases hh with ⟨h0, _⟩ | ⟨b, off, cp, e, hb, _, hc⟩
      · omega
      cases e
      obtain ⟨x, hx⟩ : ∃ x, xs[k] = x := ⟨_, rfl⟩
      have hxk : xs[k]? = some x := by rw [List.getElem?_eq_getElem hlt, hx]
      have c0 : wr.cell? ⟨b, off + k, none⟩ = some (.string (S x)) := by
        have e1 := dflat_at cellsS_len hxk 0 (by omega)
        have e2 : k * 1 + 0 < (xs.flatMap cellsS).length := by rw [dflat_len cellsS_len]; omega
        have := hc _ e2
        rw [List.getElem?_eq_getElem e2] at e1
        have e3 := Option.some.inj e1
        rw [e3] at this
        simpa [Nat.add_assoc] using this
      have hmem : x ∈ xs := hx ▸ List.getElem_mem hlt
      have HX := hid hx
      clear hc hxk
      cases hq : q x with
      | true =>
        have CQ := hid (HPT.out wr GR.out x hmem hq)
        have HF : Hid (xs.findIdx? q = some k) := hid (by
          rw [List.findIdx?_eq_some_iff_getElem]
          exact ⟨hlt, by rw [HX.out]; exact hq, fun j hj => by rw [HN.out j (by omega) hj]; simp⟩)
        clear hq hx
        clear hmem
        go_wp2_with (go_at_fn g; refine CQ.out.mono ?_)
        rintro e w2 ⟨rfl, hr⟩
        have HRR := hid hr
        clear hr
        go_wp2_with fail
        go_ret
        exact ⟨ret_int (by rw [HF.out]; rfl), .inr ⟨k, HF.out, _, GR.out, HRR.out⟩⟩
      | false =>
        have CQ := hid (HPF.out wr GR.out x hmem hq)
        have HF : Hid (∀ j (h : j < xs.length), j < k + 1 → q xs[j] = false) := hid (fun j h hj => by
          rcases Nat.lt_or_ge j k with h1 | h1
          · exact HN.out j h h1
          · obtain rfl : j = k := by omega
            rw [HX.out]; exact hq)
        clear hq hx hmem
        go_wp2_with (go_at_fn g; refine CQ.out.use ?_)
        intro w2 g2
        have G2 : Hid (G w w2) := hid (GR.out.trans g2)
        clear g2
        go_wp2_with fail
        go_roundw
        case rel => exact ⟨k + 1, by omega, by go_num, HF.out, G2.out⟩
        case measure => simp [intOf]; omega
    · obtain rfl : k = xs.length := by omega
      have HF : Hid (xs.findIdx? q = none) := hid (by
        rw [List.findIdx?_eq_none_iff]
        intro x hx
        obtain ⟨j, hj, rfl⟩ := List.mem_iff_getElem.1 hx
        rw [HN.out j hj hj])
      go_wp2_with fail
      go_ret
      exact ⟨ret_int (by rw [HF.out]; rfl), .inl ⟨HF.out, GR.out⟩⟩
set_option maxRecDepth 100000 in
set_option maxHeartbeats 8000000 in
theorem deleteS_st (g : Nat) (lb : Array Value) (eg : ∀ args w, (callFunc g args).run Tryz.prog w = .ok (.enter g args) w) (q : List UInt8 → Bool) (base : Nat) (v : Value) (xs : List (List UInt8)) (w : World) (R : World → Prop) (h : w.ownsRow base 9 1 v xs.length (xs.flatMap cellsS)) (hl : xs.length ≤ 1000000)
    (hIX : Calls Tryz.prog 40 #[v, .func (.func g) #[] lb] w fun e w1 => e = .returned (.int .i64 (findV (xs.findIdx? q))) ∧ R w1)
    (hR : ∀ w1, R w1 → w1.ownsRow base 9 1 v xs.length (xs.flatMap cellsS) ∧ (∀ k, xs.findIdx? q = some k → AnsS g lb q xs w1 v.ownBlock)) :
    Calls Tryz.prog 110 #[v, .func (.func g) #[] lb] w fun e w' => ∃ u w1, R w1 ∧ e = .returned u ∧ w'.ownsRow base 9 1 u (xs.filter fun x => !q x).length ((xs.filter fun x => !q x).flatMap cellsS) ∧ w1.grownBy w' v.ownBlock ∧ u.ownBlock = v.ownBlock := by
  have HIX := hid hIX
  have HRR := hid hR
  obtain ⟨r, hr⟩ : ∃ r, xs.findIdx? q = r := ⟨_, rfl⟩
  rw [hr] at HIX
  have HR := hid hr
  clear hr hIX hR
  rcases h.2 with ⟨rfl, h0⟩ | ⟨b, cap, cur0, rfl, hb0, hg0, hn0, hm0, hs0, ht0⟩
  · have hx0 : xs = [] := List.eq_nil_of_length_eq_zero h0
    obtain rfl : r = none := by rw [← HR.out, hx0]; rfl
    have HX0 := hid hx0
    clear h hx0 h0
    go_enter Tryz.func110, Tryz.ntmps110
    go_wp2_with fail
    refine HIX.out.mono ?_
    rintro e w1 ⟨rfl, hr1⟩
    have HR1 := hid hr1
    clear hr1
    simp only [findV]
    go_wp2_with fail
    go_ret
    refine ⟨_, w1, HR1.out, rfl, ?_, mv_refl _ _, rfl⟩
    rw [HX0.out]
    exact ⟨rfl, .inl ⟨rfl, rfl⟩⟩
  clear hg0 hm0 hs0 ht0 hb0 hn0 h
  cases r with
  | none =>
    have HF : Hid ((xs.filter fun x => !q x) = xs) := hid (List.filter_eq_self.2 fun x hx => by have := List.findIdx?_eq_none_iff.1 HR.out x hx; simp [this])
    go_enter Tryz.func110, Tryz.ntmps110
    go_wp2_with fail
    refine HIX.out.mono ?_
    rintro e w1 ⟨rfl, hr1⟩
    have HR1 := hid hr1
    clear hr1
    simp only [findV]
    go_wp2_with fail
    go_ret
    refine ⟨_, w1, HR1.out, rfl, ?_, mv_refl _ _, rfl⟩
    rw [HF.out]
    exact (HRR.out w1 HR1.out).1
  | some i0 =>
    go_enter Tryz.func110, Tryz.ntmps110
    go_wp2_with fail
    refine HIX.out.mono ?_
    rintro e w ⟨rfl, hr1⟩
    have HR1 := hid hr1
    obtain ⟨hrow, hans⟩ := HRR.out w hr1
    have HP := hid (hans i0 HR.out)
    clear hans hr1
    simp only [findV]
    rcases hrow.2 with ⟨e, _⟩ | ⟨b', cap', cur, e, hb, hg, hn, hm, hs, ht⟩
    · cases e
    cases e
    clear hrow
    have h9 : cur.toList.length = cap * 1 := by rw [Array.length_toList]; exact hs
    have HC0 : Hid (cur.toList.take (xs.length * 1) = xs.flatMap cellsS ∧ xs.length * 1 ≤ cur.toList.length) := hid ⟨ht, by rw [h9]; exact Nat.mul_le_mul_right _ hn⟩
    clear h9
    have HD := hid (DelI.start (p := q) cellsS_len HC0.out.1 HR.out)
    have HB1 := hid (show BR w b 9 cur.toList w from ⟨mv_refl _ _, by simpa using hg⟩)
    have HSZ := hid (⟨hs, hb, hm⟩ : cur.size = cap * 1 ∧ base ≤ b ∧ cap ≤ maxLen)
    have hi0 : i0 < xs.length := by have := HR.out; rw [List.findIdx?_eq_some_iff_getElem] at this; exact this.1
    clear ht hg hs hm
    have hne : ((i0 : Int) == -1) = false := beq_eq_false_iff_ne.2 (by omega)
    go_wp2_with fail
    go_loopw [5, 6, 7] (fun s5 s6 _ wr => ∃ (i j : Nat) (cu : List Value), s5 = .int .i64 (i : Int) ∧ s6 = .int .i64 (j : Int) ∧ j ≤ xs.length ∧ BR w b 9 cu wr ∧ DelI q cellsS 1 xs cur.toList cu i j) (fun _ s6 _ _ => xs.length - (intOf s6).toNat)
    case atStart => exact ⟨i0, i0 + 1, cur.toList, rfl, by go_num, by omega, HB1.out, HD.out⟩
    case round =>
      obtain ⟨i, j, cu, rfl, rfl, hj, hB, hD⟩ := hrel
      have hij := hD.lt
      have HB2 := hid hB
      have HD2 := hid hD
      obtain ⟨hc0, hc1⟩ := HC0.out
      by_cases hlt : j < xs.length
      · obtain ⟨x, hx⟩ : ∃ x, xs[j] = x := ⟨_, rfl⟩
        have hxj : xs[j]? = some x := by rw [List.getElem?_eq_getElem hlt, hx]
        have hjl : j * 1 + 1 ≤ cur.toList.length := by omega
        have c0 := hB.cell (hD.cell cellsS_len hc0 hxj 0 (by omega))
        obtain ⟨u0, hu0⟩ := hD.has (by omega) (by omega) 0 (by omega)
        have d0 := hB.cell hu0
        have f0 := hB.fz (i * 1 + 0)
        simp only [cellsS, List.getElem?_cons_zero, List.getElem?_cons_succ, Nat.mul_one, Nat.add_zero] at c0 d0 f0
        have CL := hid (fun W (gW : G wr W) => HP.out W (mv_g hB.mv gW) x (hx ▸ List.getElem_mem hlt))
        have HX := hid hxj
        have HJL := hid hjl
        clear hx hxj hB hD hc0 hc1 hjl hu0
        have hltz : (j : Int) < (xs.length : Int) := by omega
        cases hq : q x with
        | false =>
          have CQ := CL.out wr (G.refl _)
          rw [hq] at CQ
          have HQ := hid hq
          clear hq
          have hbl := HB2.out.lt
          go_wp2_with (go_at_fn g; refine CQ.use ?_)
          intro w3 g3
          have HB3 := hid (HB2.out.grow g3)
          rw [← g3.cell (p := ⟨b, i, none⟩) hbl] at d0
          rw [← g3.below.frozen (p := ⟨b, i, none⟩) hbl] at f0
          clear g3 c0 CQ
          go_wp2_with fail
          go_roundw
          case rel => exact ⟨i + 1, j + 1, _, by go_num, by go_num, by omega, HB3.out.set i _, HD2.out.keep1 rfl HX.out HQ.out (by have := HJL.out; omega)⟩
          case measure => simp [intOf]; omega
        | true =>
          have CQ := CL.out wr (G.refl _)
          rw [hq] at CQ
          have HQ := hid hq
          clear hq
          go_wp2_with (go_at_fn g; refine CQ.use ?_)
          intro w3 g3
          have HB3 := hid (HB2.out.grow g3)
          clear g3 c0 CQ
          go_wp2_with fail
          go_roundw
          case rel => exact ⟨i, j + 1, _, rfl, by go_num, by omega, HB3.out, HD2.out.skip HX.out HQ.out⟩
          case measure => simp [intOf]; omega
      · obtain rfl : j = xs.length := by omega
        have hltz : ¬ (xs.length : Int) < (xs.length : Int) := by omega
        obtain ⟨i1, i2, i3, i4⟩ := info_parts infoS
        obtain ⟨cu2, W2, hrun, hB3, hl3, hlo3⟩ := run_clear_row (P := Tryz.prog) hB 23 9 (.string ⟨#[]⟩) 1 rfl (by omega) Tryz.underlying23 (fun w => by kernel_rfl) (by decide) i i xs.length (cap - i) (by omega) hij (by rw [hD.len]; exact hc1)
        have hcnt := hD.cnt
        have hlow := hD.low
        rw [List.take_length] at hcnt hlow
        have HL := hid (show w.grownBy W2 (some b) ∧ W2.ownsRow base 9 1 (.slice (some ⟨b, 0, none⟩) i cap) i ((xs.filter fun x => !q x).flatMap cellsS) from by
          refine ⟨hB3.mv, by rw [dflat_len cellsS_len, hcnt], .inr ⟨b, cap, cu2.toArray, rfl, HSZ.out.2.1, hB3.b, by omega, HSZ.out.2.2, ?_, ?_⟩⟩
          · have := HSZ.out.1
            rw [List.size_toArray, hl3, hD.len, Array.length_toList, this]
          · rw [List.toList_toArray, hlo3, hlow])
        have HN := hid hcnt
        clear hcnt hlow hlo3 hl3 hB3 hB hD hc0 hc1
        go_wp2_with fail
        go_ret
        refine ⟨_, _, HR1.out, rfl, ?_, HL.out.1, rfl⟩
        rw [HN.out]
        exact HL.out.2
end Go.Proofs.YtdmbhoagjjkogaaGreatDoor

namespace Go.Proofs.YtdmbhoagjjkogaaGreatDoor
open Go.RowKit
set_option linter.unusedVariables false
set_option linter.unusedSimpArgs false
theorem labels_none {xs : List It} (h : ∀ x ∈ xs, sameL x.n nLABEL = false) : labelsX xs = xs := by
  have key : ∀ (xs ys : List It), (∀ x ∈ xs, sameL x.n nLABEL = false) → xs.foldl labelS ys = ys ++ xs := by
    intro xs
    induction xs with
    | nil => intro ys _; simp
    | cons x xs ih =>
      intro ys h
      have e : labelS ys x = ys ++ [x] := by
        unfold labelS
        rw [if_neg (by rw [h x List.mem_cons_self]; rintro ⟨h, _⟩; cases h)]
      rw [List.foldl_cons, e, ih _ (fun y hy => h y (List.mem_cons_of_mem _ hy)), List.append_assoc]; rfl
  exact key xs [] h
set_option maxRecDepth 100000 in
set_option maxHeartbeats 4000000 in
theorem labels_plain (L : List Nat) (iv : Value) (xs : List It) (w : World) (h : IsItems (Wl L w) iv xs) (hl : xs.length ≤ 1000) (hs : ∀ x ∈ xs, x.n.length ≤ 1000000) (hn : ∀ x ∈ xs, sameL x.n nLABEL = false) : Makes 38 #[iv] w (fun r w' => ∃ ds, OwnR w.heap.size w' r xs.length ds ∧ ItRow (Wl L w') xs ds) := by
  have HIT := hid h
  have HS := hid hs
  have HN := hid hn
  obtain ⟨ia, ic, rfl, hcap⟩ := h.len
  clear h hcap hs hn
  obtain ⟨i0, hi, hz0, hz1, hz2⟩ := info_parts infoItem
  go_enter Tryz.func38, Tryz.ntmps38
  go_wp2_with fail
  go_loopw [3, 11] (fun ov i wr => ∃ (k : Nat) (ds : List Value), k ≤ xs.length ∧ i = .int .i64 k ∧ OwnR w.heap.size wr ov k ds ∧ ItRow (Wl L w) (xs.take k) ds ∧ G w wr) (fun _ i _ => xs.length - (intOf i).toNat)
  case atStart => exact ⟨0, [], Nat.zero_le _, rfl, World.ownsRow_nil _ _ _ _, rfl, G.refl _⟩
  case round =>
    obtain ⟨k, ds, hk, rfl, how, hir, gr⟩ := hrel
    have HOW := hid how
    have HIR := hid hir
    have GR := hid gr
    obtain ⟨oa, oc, hov⟩ := own_sl how
    subst hov
    clear how hir gr
    by_cases hlt : k < xs.length
    · obtain ⟨b, off, cap, e, hb, hit⟩ := items_at HIT.out (by rintro rfl; simp at hlt)
      cases e
      have hx := List.getElem?_eq_getElem hlt
      obtain ⟨x, hxe⟩ : ∃ x, xs[k] = x := ⟨_, rfl⟩
      rw [hxe] at hx
      obtain ⟨pv, lv, hat⟩ := hit k x hx
      have hsg : ItAt wr b (off + k * 15) x pv lv := ItAt.grow (w := w) ⟨fun j u hu => (Wl.sub L w).cell _ _ (hat.c j u hu), hat.ok.sub (Wl.sub L w)⟩ (by rw [Wl.size] at hb; exact hb) GR.out
      obtain ⟨pa, pc, rfl⟩ := hat.ok.pv
      obtain ⟨la, lc, rfl⟩ := hat.ok.lv
      obtain ⟨k0, k1, k2, k3, k4, k5, k6, k7, k8, k9, k10, k11, k12, k13, k14⟩ := hsg.e
      have HX := hid hx
      have HOK := hid hat.ok
      have hkl : (k : Int) < (xs.length : Int) := by omega
      have hnl := HS.out x (List.mem_of_getElem? hx)
      have SM := hid (fun W => same_any x.n nLABEL W (by omega) (by simp [nLABEL]))
      rw [HN.out x (List.mem_of_getElem? hx)] at SM
      unfold nLABEL at SM
      have HBX := hid (heap_alloc_new wr (.cells (x.cells (.slice pa x.ps.length pc) (.slice la x.v.ps.length lc)).toArray 31))
      clear hit hat hsg hx hxe
      go_wp2_with fail
      refine (SM.out _).use ?_
      intro w2 g2
      have HB2 := hid (row_up HBX.out g2)
      have G2 := hid (((G.refl wr).alloc (.cells (x.cells (.slice pa x.ps.length pc) (.slice la x.v.ps.length lc)).toArray 31)).trans g2)
      have HO2 := hid (OwnR.grow HOW.out G2.out)
      have hsz := GR.out.size
      have hsz2 := G2.out.size
      clear k0 k1 k2 k3 k4 k5 k6 k7 k8 k9 k10 k11 k12 k13 k14 g2
      obtain ⟨k0, k1, k2, k3, k4, k5, k6, k7, k8, k9, k10, k11, k12, k13, k14⟩ := box_item HB2.out
      go_wp2_with (at_builtin; refine wpList_append_own _ rfl _ _ 33 rfl w.heap.size 31 i0 _ 15 176 Tryz.underlying33 hi hz0 hz1 hz2 rfl (by decide) _ _ _ rfl (HO2.out.alloc _) ⟨w2.heap.size, 0, none⟩ 1 1 (x.cells (.slice pa x.ps.length pc) (.slice la x.v.ps.length lc)) rfl rfl (fun j u hu => by rw [addr_add, Nat.zero_add, cell_of_row _ _ j _ _ _ (heap_alloc_new w2 _)]; simpa [It.cells] using hu) HOK.out.one (by unfold maxLen; omega) (by omega) (by simp; omega) ?_; intro v' w3 hown' hgrow hnil)
      have hG3 : G w w3 := Below.grown ((GR.out.trans G2.out).alloc _) hgrow (by simp; omega) (fun j hj => (HO2.out.lt j hj).1)
      have HOW3 := hid (show OwnR w.heap.size w3 v' (k + 1) (ds ++ x.cells (.slice pa x.ps.length pc) (.slice la x.v.ps.length lc)) from hown')
      have HIR3 := hid (show ItRow (Wl L w) (xs.take (k + 1)) (ds ++ x.cells (.slice pa x.ps.length pc) (.slice la x.v.ps.length lc)) from by
        rw [List.take_add_one, HX.out]
        exact HIR.out.append (ItRow.single HOK.out))
      have HG3 := hid hG3
      clear hown' hgrow hnil hG3 k0 k1 k2 k3 k4 k5 k6 k7 k8 k9 k10 k11 k12 k13 k14
      go_wp2_with fail
      go_roundw
      case measure => simp [intOf]; omega
      case rel => exact ⟨k + 1, _, by omega, by go_num, HOW3.out, HIR3.out, HG3.out⟩
    · obtain rfl : k = xs.length := by omega
      have HIR2 := hid (show ItRow (Wl L w) xs ds from by have := HIR.out; rwa [List.take_length] at this)
      go_wp2_with fail
      go_ret
      exact ⟨_, rfl, ⟨ds, HOW.out, HIR2.out.grow (Wl.g GR.out)⟩, GR.out⟩
end Go.Proofs.YtdmbhoagjjkogaaGreatDoor

namespace Go.Proofs.YtdmbhoagjjkogaaGreatDoor
set_option linter.unusedVariables false
theorem and_of {a b : Bool} (h : a = true) (k : b = true) : (a && b) = true := by rw [h, k]; rfl
def jf0 (P : Program) (f : FuncId) (fn : Func) (s : ChangeSpec) (c : OpenClaim) : Bool := c.wf (OpenSpec.ofChange s)
def jf1 (P : Program) (f : FuncId) (fn : Func) (s : ChangeSpec) (c : OpenClaim) : Bool := laidOutB P
def jf2 (P : Program) (f : FuncId) (fn : Func) (s : ChangeSpec) (c : OpenClaim) : Bool := mapsRowed P
def jf3 (P : Program) (f : FuncId) (fn : Func) (s : ChangeSpec) (c : OpenClaim) : Bool := fn.params.all (P.readableRec ·)
def jf4 (P : Program) (f : FuncId) (fn : Func) (s : ChangeSpec) (c : OpenClaim) : Bool := namedTie P c.named s.vars
def jf5 (P : Program) (f : FuncId) (fn : Func) (s : ChangeSpec) (c : OpenClaim) : Bool := (c.stops == [])
def jf6 (P : Program) (f : FuncId) (fn : Func) (s : ChangeSpec) (c : OpenClaim) : Bool := (P.stops == [])
def jf7 (P : Program) (f : FuncId) (fn : Func) (s : ChangeSpec) (c : OpenClaim) : Bool := (c.knobs == [])
def jf8 (P : Program) (f : FuncId) (fn : Func) (s : ChangeSpec) (c : OpenClaim) : Bool := (P.stopKnobs == [])
def jf9 (P : Program) (f : FuncId) (fn : Func) (s : ChangeSpec) (c : OpenClaim) : Bool := (c.inPlace == P.inPlace f)
def jf10 (P : Program) (f : FuncId) (fn : Func) (s : ChangeSpec) (c : OpenClaim) : Bool := (c.unfollowed == P.unfollowed f)
def jf11 (P : Program) (f : FuncId) (fn : Func) (s : ChangeSpec) (c : OpenClaim) : Bool := (c.recurses == P.recurses f)
def jf12 (P : Program) (f : FuncId) (fn : Func) (s : ChangeSpec) (c : OpenClaim) : Bool := (c.named == P.varsNamed f)
def jf13 (P : Program) (f : FuncId) (fn : Func) (s : ChangeSpec) (c : OpenClaim) : Bool := (c.maps == (fn.params.toList ++ s.plain.varTypes P).any (P.mapsRec ·))
def jf14 (P : Program) (f : FuncId) (fn : Func) (s : ChangeSpec) (c : OpenClaim) : Bool := (c.ifaces == (fn.params.toList ++ s.plain.varTypes P).any (P.ifacesRec ·))
def jf15 (P : Program) (f : FuncId) (fn : Func) (s : ChangeSpec) (c : OpenClaim) : Bool := (c.mapsOut == P.mapsAmong fn.resultTypes.toList)
def jf16 (P : Program) (f : FuncId) (fn : Func) (s : ChangeSpec) (c : OpenClaim) : Bool := (c.loops == (fn.params.toList ++ s.plain.varTypes P).any (P.loopsFrom ·))
def jf17 (P : Program) (f : FuncId) (fn : Func) (s : ChangeSpec) (c : OpenClaim) : Bool := (c.wideKeys == (fn.params.toList ++ s.plain.varTypes P ++ fn.resultTypes.toList).any (P.wideKeysFrom ·))
def jf18 (P : Program) (f : FuncId) (fn : Func) (s : ChangeSpec) (c : OpenClaim) : Bool := s.vars.all (P.varReadable ·)
def jf19 (P : Program) (f : FuncId) (fn : Func) (s : ChangeSpec) (c : OpenClaim) : Bool := fn.resultTypes.all (fun t => P.readableRec t && decide (t < P.types.size))
def jf20 (P : Program) (f : FuncId) (fn : Func) (s : ChangeSpec) (c : OpenClaim) : Bool := (c.ifacesOut == fn.resultTypes.toList.any (P.ifacesRec ·))
def jf21 (P : Program) (f : FuncId) (fn : Func) (s : ChangeSpec) (c : OpenClaim) : Bool := (c.loopsOut == fn.resultTypes.toList.any (P.loopsFrom ·))
def jf22 (P : Program) (f : FuncId) (fn : Func) (s : ChangeSpec) (c : OpenClaim) : Bool := (c.plainKeys == P.plainKeys)
def jf23 (P : Program) (f : FuncId) (fn : Func) (s : ChangeSpec) (c : OpenClaim) : Bool := c.shortTexts.isNone
def jf24 (P : Program) (f : FuncId) (fn : Func) (s : ChangeSpec) (c : OpenClaim) : Bool := P.stopsHeard
def jf25 (P : Program) (f : FuncId) (fn : Func) (s : ChangeSpec) (c : OpenClaim) : Bool := P.mayEnter
def jf26 (P : Program) (f : FuncId) (fn : Func) (s : ChangeSpec) (c : OpenClaim) : Bool := (c.lifted == P.liftsFinal)
def jf27 (P : Program) (f : FuncId) (fn : Func) (s : ChangeSpec) (c : OpenClaim) : Bool := (P.make == some c.make)
def jf28 (P : Program) (f : FuncId) (fn : Func) (s : ChangeSpec) (c : OpenClaim) : Bool := (c.kinds == (if c.domain.isEmpty then [] else fn.params.toList.map fun t => match P.underlying t with | some (.int k) => some k | _ => none))
def jf29 (P : Program) (f : FuncId) (fn : Func) (s : ChangeSpec) (c : OpenClaim) : Bool := (c.pinned == c.pinnedBy)
def jf30 (P : Program) (f : FuncId) (fn : Func) (s : ChangeSpec) (c : OpenClaim) : Bool := (c.veiled == (fn.params.toList ++ s.plain.varTypes P ++ fn.resultTypes.toList).any (P.veiledRec ·))
def jf31 (P : Program) (f : FuncId) (fn : Func) (s : ChangeSpec) (c : OpenClaim) : Bool := c.veiledFits P fn.params.toList (fn.params.toList ++ s.plain.varTypes P ++ fn.resultTypes.toList)
theorem joined_of {P : Program} {f : FuncId} {fn : Func} {s : ChangeSpec} {c : OpenClaim} (h0 : jf0 P f fn s c = true) (h1 : jf1 P f fn s c = true) (h2 : jf2 P f fn s c = true) (h3 : jf3 P f fn s c = true) (h4 : jf4 P f fn s c = true) (h5 : jf5 P f fn s c = true) (h6 : jf6 P f fn s c = true) (h7 : jf7 P f fn s c = true) (h8 : jf8 P f fn s c = true) (h9 : jf9 P f fn s c = true) (h10 : jf10 P f fn s c = true) (h11 : jf11 P f fn s c = true) (h12 : jf12 P f fn s c = true) (h13 : jf13 P f fn s c = true) (h14 : jf14 P f fn s c = true) (h15 : jf15 P f fn s c = true) (h16 : jf16 P f fn s c = true) (h17 : jf17 P f fn s c = true) (h18 : jf18 P f fn s c = true) (h19 : jf19 P f fn s c = true) (h20 : jf20 P f fn s c = true) (h21 : jf21 P f fn s c = true) (h22 : jf22 P f fn s c = true) (h23 : jf23 P f fn s c = true) (h24 : jf24 P f fn s c = true) (h25 : jf25 P f fn s c = true) (h26 : jf26 P f fn s c = true) (h27 : jf27 P f fn s c = true) (h28 : jf28 P f fn s c = true) (h29 : jf29 P f fn s c = true) (h30 : jf30 P f fn s c = true) (h31 : jf31 P f fn s c = true) : joinedFacts P f fn s c = true := by
  exact and_of (and_of (and_of (and_of (and_of (and_of (and_of (and_of (and_of (and_of (and_of (and_of (and_of (and_of (and_of (and_of (and_of (and_of (and_of (and_of (and_of (and_of (and_of (and_of (and_of (and_of (and_of (and_of (and_of (and_of (and_of h0 h1) h2) h3) h4) h5) h6) h7) h8) h9) h10) h11) h12) h13) h14) h15) h16) h17) h18) h19) h20) h21) h22) h23) h24) h25) h26) h27) h28) h29) h30) h31
end Go.Proofs.YtdmbhoagjjkogaaGreatDoor
