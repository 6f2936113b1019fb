/-
  Texts merged into one: ConvLabels, CardLine, Uri2.
-/
import Derived.Test.YtfadckackdmbnaaGreatDoorMA51
import Derived.Test.YtfadckackdmbnaaGreatDoorMA54
import Derived.Test.YtfadckackdmbnaaGreatDoorMA56
import Derived.Test.YtfadckackdmbnaaGreatDoorMA61
import Derived.Test.YtfadckackdmbnaaGreatDoorMA53
import Derived.Test.YtfadckackdmbnaaGreatDoorCardOne
import Derived.Test.YtfadckackdmbnaaGreatDoorMA49
import Derived.Test.YtfadckackdmbnaaGreatDoorMA41
namespace Go.Proofs.YtfadckackdmbnaaGreatDoor
open Go.RowKit
set_option linter.unusedVariables false
set_option linter.unusedSimpArgs false
theorem labels_none {xs : List It} (h : ∀ x ∈ xs, sameL x.n nLABEL = false) : labelsX xs = xs := by
  have key : ∀ (xs ys : List It), (∀ x ∈ xs, sameL x.n nLABEL = false) → xs.foldl labelS ys = ys ++ xs := by
    intro xs
    induction xs with
    | nil => intro ys _; simp
    | cons x xs ih =>
      intro ys h
      have e : labelS ys x = ys ++ [x] := by
        unfold labelS
        rw [if_neg (by rw [h x List.mem_cons_self]; rintro ⟨h, _⟩; cases h)]
      rw [List.foldl_cons, e, ih _ (fun y hy => h y (List.mem_cons_of_mem _ hy)), List.append_assoc]; rfl
  exact key xs [] h
set_option maxRecDepth 100000 in
set_option maxHeartbeats 4000000 in
theorem labels_plain (L : List Nat) (iv : Value) (xs : List It) (w : World) (h : IsItems (Wl L w) iv xs) (hl : xs.length ≤ 1000) (hs : ∀ x ∈ xs, x.n.length ≤ 1000000) (hn : ∀ x ∈ xs, sameL x.n nLABEL = false) : Makes 57 #[iv] w (fun r w' => ∃ ds, OwnR w.heap.size w' r xs.length ds ∧ ItRow (Wl L w') xs ds) := by
  have HIT := hid h
  have HS := hid hs
  have HN := hid hn
  obtain ⟨ia, ic, rfl, hcap⟩ := h.len
  clear h hcap hs hn
  obtain ⟨i0, hi, hz0, hz1, hz2⟩ := info_parts infoItem
  go_enter Tryz.func57, Tryz.ntmps57
  go_wp2_with fail
  go_loopw [3, 11] (fun ov i wr => ∃ (k : Nat) (ds : List Value), k ≤ xs.length ∧ i = .int .i64 k ∧ OwnR w.heap.size wr ov k ds ∧ ItRow (Wl L w) (xs.take k) ds ∧ G w wr) (fun _ i _ => xs.length - (intOf i).toNat)
  case atStart => exact ⟨0, [], Nat.zero_le _, rfl, World.ownsRow_nil _ _ _ _, rfl, G.refl _⟩
  case round =>
    obtain ⟨k, ds, hk, rfl, how, hir, gr⟩ := hrel
    have HOW := hid how
    have HIR := hid hir
    have GR := hid gr
    obtain ⟨oa, oc, hov⟩ := own_sl how
    subst hov
    clear how hir gr
    by_cases hlt : k < xs.length
    · obtain ⟨b, off, cap, e, hb, hit⟩ := items_at HIT.out (by rintro rfl; simp at hlt)
      cases e
      have hx := List.getElem?_eq_getElem hlt
      obtain ⟨x, hxe⟩ : ∃ x, xs[k] = x := ⟨_, rfl⟩
      rw [hxe] at hx
      obtain ⟨pv, lv, hat⟩ := hit k x hx
      have hsg : ItAt wr b (off + k * 15) x pv lv := ItAt.grow (w := w) ⟨fun j u hu => (Wl.sub L w).cell _ _ (hat.c j u hu), hat.ok.sub (Wl.sub L w)⟩ (by rw [Wl.size] at hb; exact hb) GR.out
      obtain ⟨pa, pc, rfl⟩ := hat.ok.pv
      obtain ⟨la, lc, rfl⟩ := hat.ok.lv
      obtain ⟨k0, k1, k2, k3, k4, k5, k6, k7, k8, k9, k10, k11, k12, k13, k14⟩ := hsg.e
      have HX := hid hx
      have HOK := hid hat.ok
      have hkl : (k : Int) < (xs.length : Int) := by omega
      have hnl := HS.out x (List.mem_of_getElem? hx)
      have SM := hid (fun W => same_any x.n nLABEL W (by omega) (by simp [nLABEL]))
      rw [HN.out x (List.mem_of_getElem? hx)] at SM
      unfold nLABEL at SM
      have HBX := hid (heap_alloc_new wr (.cells (x.cells (.slice pa x.ps.length pc) (.slice la x.v.ps.length lc)).toArray 37))
      clear hit hat hsg hx hxe
      go_wp2_with fail
      refine (SM.out _).use ?_
      intro w2 g2
      have HB2 := hid (row_up HBX.out g2)
      have G2 := hid (((G.refl wr).alloc (.cells (x.cells (.slice pa x.ps.length pc) (.slice la x.v.ps.length lc)).toArray 37)).trans g2)
      have HO2 := hid (OwnR.grow HOW.out G2.out)
      have hsz := GR.out.size
      have hsz2 := G2.out.size
      clear k0 k1 k2 k3 k4 k5 k6 k7 k8 k9 k10 k11 k12 k13 k14 g2
      obtain ⟨k0, k1, k2, k3, k4, k5, k6, k7, k8, k9, k10, k11, k12, k13, k14⟩ := box_item HB2.out
      go_wp2_with (at_builtin; refine wpList_append_own _ rfl _ _ 25 rfl w.heap.size 37 i0 _ 15 176 Tryz.underlying25 hi hz0 hz1 hz2 rfl (by decide) _ _ _ rfl (HO2.out.alloc _) ⟨w2.heap.size, 0, none⟩ 1 1 (x.cells (.slice pa x.ps.length pc) (.slice la x.v.ps.length lc)) rfl rfl (fun j u hu => by rw [addr_add, Nat.zero_add, cell_of_row _ _ j _ _ _ (heap_alloc_new w2 _)]; simpa [It.cells] using hu) HOK.out.one (by unfold maxLen; omega) (by omega) (by simp; omega) ?_; intro v' w3 hown' hgrow hnil)
      have hG3 : G w w3 := Below.grown ((GR.out.trans G2.out).alloc _) hgrow (by simp; omega) (fun j hj => (HO2.out.lt j hj).1)
      have HOW3 := hid (show OwnR w.heap.size w3 v' (k + 1) (ds ++ x.cells (.slice pa x.ps.length pc) (.slice la x.v.ps.length lc)) from hown')
      have HIR3 := hid (show ItRow (Wl L w) (xs.take (k + 1)) (ds ++ x.cells (.slice pa x.ps.length pc) (.slice la x.v.ps.length lc)) from by
        rw [List.take_add_one, HX.out]
        exact HIR.out.append (ItRow.single HOK.out))
      have HG3 := hid hG3
      clear hown' hgrow hnil hG3 k0 k1 k2 k3 k4 k5 k6 k7 k8 k9 k10 k11 k12 k13 k14
      go_wp2_with fail
      go_roundw
      case measure => simp [intOf]; omega
      case rel => exact ⟨k + 1, _, by omega, by go_num, HOW3.out, HIR3.out, HG3.out⟩
    · obtain rfl : k = xs.length := by omega
      have HIR2 := hid (show ItRow (Wl L w) xs ds from by have := HIR.out; rwa [List.take_length] at this)
      go_wp2_with fail
      go_ret
      exact ⟨_, rfl, ⟨ds, HOW.out, HIR2.out.grow (Wl.g GR.out)⟩, GR.out⟩
end Go.Proofs.YtfadckackdmbnaaGreatDoor

namespace Go.Proofs.YtfadckackdmbnaaGreatDoor
open Go.RowKit
set_option linter.unusedVariables false
set_option linter.unusedSimpArgs false
def linPhi9 (x : It) (pv : Value) (ver : Int) (l : List UInt8)  (k : Nat) (v : Value) (W : World) : Prop :=
  match k with
  | 0 => v = .agg #[.string (S x.g), .string (S x.n), pv, .string (S x.v.text)]
  | 1 => v = .int .i64 ver
  | 2 => v = .bool (ver == 4)
  | 3 => v = .tuple #[.string (S l), .nilIface]
  | 4 => v = .string (S l)
  | 5 => v = .nilIface
  | _ => True
set_option maxRecDepth 100000 in
set_option maxHeartbeats 8000000 in
theorem line_any (ver : Int) (hv : ver = 3 ∨ ver = 4) (x : It) (pv lv : Value) (w : World) (h : ItOk w x pv lv) (hs : Sml x) (hR : RMem w) (hM : HasM w) (hE : LaidE w) (h1 : oneB ver x = true) : Gives 18 #[x.val pv lv, .int .i64 ver] w (.tuple #[.string (S (printW (ver == 4) (lnX x x.v.text))), .nilIface]) := by
  have hb := hs.bounds
  obtain ⟨h2, _, _, _, ho, _, _⟩ := one_iff.1 h1
  have hre := (line_ok h2 ho).1
  have LP0 : ∀ W, G w W → Gives 55 #[.agg #[.string (S x.g), .string (S x.n), pv, .string (S x.v.text)], .bool (ver == 4)] W (.tuple #[.string (S (printW (ver == 4) (lnX x x.v.text))), .nilIface]) := fun W g => by
    refine Calls.mono (linePrint_any x.g x.n x.v.text pv x.ps (ver == 4) W (h.p.grow g) hb.1 hb.2.1 hb.2.2.2.2.2 hb.2.2.1) ?_
    rintro e w' ⟨r, rfl, hr, hg⟩
    have hr2 : PrintP (ver == 4) (lnX x x.v.text) r w' := hr
    unfold PrintP at hr2
    rw [hre] at hr2
    simp only at hr2
    subst hr2
    exact ⟨rfl, hg⟩
  have ON := hid (fun W (g : G w W) => one_any ver hv x pv lv W (h.grow g) hs (hR.grow g) (hM.grow g) (hE.grow g))
  have PR := hid (fun W (g : G w W) => prop_any x pv lv ver W (h.grow g) hs (hM.grow g) (hE.grow g) ho)
  obtain ⟨l, hl⟩ : ∃ l, l = printW (ver == 4) (lnX x x.v.text) := ⟨_, rfl⟩
  rw [← hl] at LP0 ⊢
  obtain ⟨pa, pc, rfl⟩ := h.pv
  obtain ⟨la, lc, rfl⟩ := h.lv
  have LPW := hid LP0
  have H1 := hid h1
  clear LP0 h hb hs hR hM hE h1 h2 ho hre hl
  have ways : (ver != 3) = false ∨ ((ver != 3) = true ∧ (ver != 4) = false) := by rcases hv with rfl | rfl <;> simp
  clear hv
  rcases ways with b3 | ⟨b3, b4⟩
  all_goals
    go_enter Tryz.func18, Tryz.ntmps18
    go_wp2_with fail
    generalize hw1 : w.alloc _ = w1
    have HB := hid (show w1.heap[w.heap.size]? = some (.cells (x.cells (.slice pa x.ps.length pc) (.slice la x.v.ps.length lc)).toArray 37 (0, 0)) by rw [← hw1]; exact heap_alloc_new w _)
    have G1 := hid (show G w w1 by rw [← hw1]; exact (G.refl w).alloc _)
    clear hw1
    refine (ON.out w1 G1.out).use ?_
    rintro r w2 ⟨c, rfl, hoc⟩ g2
    obtain rfl : c = 0 := hoc.ok.2 H1.out
    have G2 := hid (G1.out.trans g2)
    have HB2 := hid (row_up HB.out g2)
    clear hoc g2
    obtain ⟨q0, q1, q2, q3, q4, q5, q6, q7, q8, q9, q10, q11, q12, q13, q14⟩ := box_item HB2.out
    go_wp2_with fail
    refine (PR.out w2 G2.out).use ?_
    intro wb gb
    clear q0 q1 q2 q3 q4 q5 q6 q7 q8 q9 q10 q11 q12 q13 q14
    go_wp2_with fail
    generalize hw9 : wb.alloc _ = w9
    have HP4 := hid (show w9.heap[wb.heap.size]? = some (.cells #[.string (S x.g), .string (S x.n), .slice pa x.ps.length pc, .string (S x.v.text)] 83 (0, 0)) by rw [← hw9]; exact heap_alloc_new wb _)
    have G9 := hid (show G w w9 by rw [← hw9]; exact G2.out.trans (gb.alloc _))
    have LP := hid (fun W (g : G w9 W) => LPW.out W (G9.out.trans g))
    clear hw9 gb
    refine wp_region_any (by kernel_rfl) ?_
    refine wpAny_veiled (E := #[false, false, false, false, false, false, false, false]) G 6 (linPhi9 x (.slice pa x.ps.length pc) ver l) [some [], some [], some [(1, 33)], some [(0, 32), (2, 34), (2, 34)], some [(3, 35)], some [(3, 35)], none, none] [(0, 32), (1, 33), (2, 34), (3, 35), (4, 36), (5, 37)] _ (by kernel_rfl) (by decide) (by kernel_rfl) (by kernel_rfl) rfl G.refl (fun _ _ _ => G.trans) (w0 := w9) ((G.refl w9).drew) ?_ ?_ ?_
    · intro k v W W' g h
      match k, h with
      | 0, h => exact h
      | 1, h => exact h
      | 2, h => exact h
      | 3, h => exact h
      | 4, h => exact h
      | 5, h => exact h
      | n + 6, h => trivial
    · refine gAll_some (fun vals W g d => ?_) <| gAll_some (fun vals W g d => ?_) <| gAll_some (fun vals W g d => ?_) <| gAll_some (fun vals W g d => ?_) <| gAll_some (fun vals W g d => ?_) <| gAll_some (fun vals W g d => ?_) <| gAll_none <| gAll_none gAll_nil
      · refine gOp_one rfl rfl rfl fun K hK => ?_
        simp only [gFr] at hK ⊢
        obtain ⟨k0, k1, k2, k3⟩ := box4c (row_up HP4.out g)
        go_simp
        exact hK _ _ (G.refl _) rfl
      · refine gOp_one rfl rfl rfl fun K hK => ?_
        simp only [gFr] at hK ⊢
        go_simp
        exact hK _ _ (G.refl _) rfl
      · obtain ⟨d1, _⟩ := d
        change vals 1 = _ at d1
        refine gOp_one rfl rfl rfl fun K hK => ?_
        simp only [gFr, d1] at hK ⊢
        go_simp
        refine (carets_any ver W).use ?_
        intro W' hg
        exact hK _ _ hg rfl
      · obtain ⟨d0, d2, _, _⟩ := d
        change vals 0 = _ at d0
        change vals 2 = _ at d2
        refine gOp_one rfl rfl rfl fun K hK => ?_
        simp only [gFr, d0, d2] at hK ⊢
        go_simp
        refine (LP.out W g).use ?_
        intro W' hg
        exact hK _ _ hg rfl
      · obtain ⟨d3, _⟩ := d
        change vals 3 = _ at d3
        refine gOp_one rfl rfl rfl fun K hK => ?_
        simp only [gFr, d3] at hK ⊢
        go_simp
        exact hK _ _ (G.refl _) rfl
      · obtain ⟨d3, _⟩ := d
        change vals 3 = _ at d3
        refine gOp_one rfl rfl rfl fun K hK => ?_
        simp only [gFr, d3] at hK ⊢
        go_simp
        exact hK _ _ (G.refl _) rfl
    · intro vals W g d
      simp only [gFacts_cons, gFacts_nil] at d
      obtain ⟨d0, d1, d2, d3, d4, d5, _⟩ := d
      change vals 0 = _ at d0
      change vals 1 = _ at d1
      change vals 2 = _ at d2
      change vals 3 = _ at d3
      change vals 4 = _ at d4
      change vals 5 = _ at d5
      have GW := hid (G9.out.trans g)
      refine ⟨?_⟩
      show wpList _ _ _ [_, _] _ _
      simp only [gFr, d0, d1, d2, d3, d4, d5]
      clear d0 d1 d2 d3 d4 d5
      go_wp2_with fail
      refine bodyPost_ret (v := .tuple #[.string (S l), .nilIface]) ?_ rfl ⟨rfl, GW.out⟩
      simp only [results, Tryz.f18]
      go_simp
end Go.Proofs.YtfadckackdmbnaaGreatDoor

namespace Go.Proofs.YtfadckackdmbnaaGreatDoor
open Go.RowKit
set_option linter.unusedVariables false
set_option linter.unusedSimpArgs false
@[go_sem] theorem as_at (v : Value) (w : World) : (Instr.typeAssert (.iface 78 v) 39 78 true).run Tryz.prog w = .ok (.tuple #[v, .bool true]) w := by kernel_rfl
def IsData (l k r : List UInt8) : Prop := l = dataP ++ k ++ base64P ++ 44 :: r ∧ mediaB k = true
theorem media_44 {k : List UInt8} (h : mediaB k = true) : 44 ∉ k := by
  intro m
  have := List.all_eq_true.1 h 44 m
  simp [mediaP] at this
theorem IsData.head {k : List UInt8} (h : mediaB k = true) : (44 : UInt8) ∉ dataP ++ k ++ base64P := by
  have := media_44 h
  simp [dataP, base64P, this]
theorem IsData.unique {l k r k' r' : List UInt8} (h : IsData l k r) (h' : IsData l k' r') : k = k' ∧ r = r' := by
  obtain ⟨e, m⟩ := h
  obtain ⟨e', m'⟩ := h'
  rw [e] at e'
  obtain ⟨h1, h2⟩ := first_unique e' (IsData.head m) (IsData.head m')
  refine ⟨?_, h2⟩
  rw [List.append_assoc, List.append_assoc] at h1
  have h3 := List.append_cancel_left h1
  exact List.append_cancel_right h3
def UndPost (l : List UInt8) (v : Value) (w' : World) : Prop :=
  ((¬ ∃ k r, IsData l k r) ∧ v = .tuple #[.string (S []), .string (S []), eno 3]) ∨
  (∃ k r, IsData l k r ∧ r.length % 4 = 0 ∧ ∃ b, b64D r = .ok b ∧ v = .tuple #[.string (S k), .string (S b), .nilIface]) ∨
  (∃ k r, IsData l k r ∧ ∃ c p, (if r.length % 4 ≠ 0 then c = 7 ∧ p = r.length else c = 3 ∧ b64D r = .error p) ∧ ∃ e, v = .tuple #[.string (S []), .string (S []), e] ∧ IsAt w' e c (p + (k.length + 13)))
theorem UndPost.none {l : List UInt8} {w' : World} (h : ¬ ∃ k r, IsData l k r) : UndPost l (.tuple #[.string (S []), .string (S []), eno 3]) w' := .inl ⟨h, rfl⟩
theorem cutPrefix_yes (l p r : List UInt8) (w : World) (h : l = p ++ r) : Pure 60 #[.string (S l), .string (S p)] w (.tuple #[.string (S r), .bool true]) := by
  have := cutPrefix_any l p w
  have hp : hasP l p = true := by rw [h]; exact hasP_append p r
  rw [hp, if_pos rfl, h] at this
  rw [h]
  simpa using this
theorem cutPrefix_no (l p : List UInt8) (w : World) (h : ¬ ∃ r, l = p ++ r) : Pure 60 #[.string (S l), .string (S p)] w (.tuple #[.string (S l), .bool false]) := by
  have := cutPrefix_any l p w
  have hp : hasP l p = false := by
    cases e : hasP l p with
    | false => rfl
    | true => exact absurd ⟨_, hasP_eq e⟩ h
  rw [hp, if_neg (by simp)] at this
  exact this
theorem cutSuffix_yes (l p r : List UInt8) (w : World) (hl : l.length ≤ 140737488351328) (h : l = r ++ p) : Pure 81 #[.string (S l), .string (S p)] w (.tuple #[.string (S r), .bool true]) := by
  have := cutSuffix_any l p w hl
  have hp : hasE l p = true := by rw [h]; exact hasE_append r p
  rw [hp, if_pos rfl] at this
  have e : l.take (l.length - p.length) = r := by rw [h]; simp
  rwa [e] at this
theorem cutSuffix_no (l p : List UInt8) (w : World) (hl : l.length ≤ 140737488351328) (h : ¬ ∃ r, l = r ++ p) : Pure 81 #[.string (S l), .string (S p)] w (.tuple #[.string (S l), .bool false]) := by
  have := cutSuffix_any l p w hl
  have hp : hasE l p = false := by
    cases e : hasE l p with
    | false => rfl
    | true => exact absurd ⟨_, hasE_eq e⟩ h
  rw [hp, if_neg (by simp)] at this
  exact this
set_option maxRecDepth 100000 in
set_option maxHeartbeats 1000000 in
theorem und_a1 (l r : List UInt8) (w : World) (hn : Hid (44 ∉ l)) (hr : Hid (l = dataP ++ r)) (H : Hid (¬ ∃ k r, IsData l k r)) : Makes 45 #[.string (S (l))] w (UndPost (l)) := by
  go_enter Tryz.func45, Tryz.ntmps45
  go_wp2_with fail
  refine (cut_none_any l 44 hn.out _).use ?_; intro w1 g1
  go_wp2_with fail
  refine (cutPrefix_yes l dataP r _ hr.out).use ?_
  go_wp2_with fail
  go_ret3
  exact ⟨_, rfl, UndPost.none H.out, g1⟩
set_option maxRecDepth 100000 in
set_option maxHeartbeats 1000000 in
theorem und_a2 (l : List UInt8) (w : World) (hn : Hid (44 ∉ l)) (hr : Hid (¬ ∃ r, l = dataP ++ r)) (H : Hid (¬ ∃ k r, IsData l k r)) : Makes 45 #[.string (S (l))] w (UndPost (l)) := by
  go_enter Tryz.func45, Tryz.ntmps45
  go_wp2_with fail
  refine (cut_none_any l 44 hn.out _).use ?_; intro w1 g1
  go_wp2_with fail
  refine (cutPrefix_no l dataP _ hr.out).use ?_
  go_wp2_with fail
  go_ret3
  exact ⟨_, rfl, UndPost.none H.out, g1⟩
set_option maxRecDepth 100000 in
set_option maxHeartbeats 1000000 in
theorem und_b (a r : List UInt8) (w : World) (hl : a.length + 1 + r.length ≤ 1099511627776) (ha : Hid (44 ∉ a)) (hp : Hid (¬ ∃ m, a = dataP ++ m)) (H : Hid (¬ ∃ k r', IsData (a ++ 44 :: r) k r')) : Makes 45 #[.string (S (a ++ 44 :: r))] w (UndPost (a ++ 44 :: r)) := by
  go_enter Tryz.func45, Tryz.ntmps45
  go_wp2_with fail
  refine (cut_some_any a r 44 ha.out _ (by omega)).use ?_; intro w1 g1
  go_wp2_with fail
  refine (cutPrefix_no a dataP _ hp.out).use ?_
  go_wp2_with fail
  go_ret3
  exact ⟨_, rfl, UndPost.none H.out, g1⟩
set_option maxRecDepth 100000 in
set_option maxHeartbeats 1000000 in
theorem und_c (a r : List UInt8) (w : World) (hl : a.length + 1 + r.length ≤ 1099511627776) (ha : Hid (44 ∉ a)) (m : List UInt8) (hml : m.length ≤ a.length) (hm : Hid (a = dataP ++ m)) (hp : Hid (¬ ∃ k, m = k ++ base64P)) (H : Hid (¬ ∃ k r', IsData (a ++ 44 :: r) k r')) : Makes 45 #[.string (S (a ++ 44 :: r))] w (UndPost (a ++ 44 :: r)) := by
  go_enter Tryz.func45, Tryz.ntmps45
  go_wp2_with fail
  refine (cut_some_any a r 44 ha.out _ (by omega)).use ?_; intro w1 g1
  go_wp2_with fail
  refine (cutPrefix_yes a dataP m _ hm.out).use ?_
  go_wp2_with fail
  refine (cutSuffix_no m base64P _ (by omega) hp.out).use ?_
  go_wp2_with fail
  go_ret3
  exact ⟨_, rfl, UndPost.none H.out, g1⟩
set_option maxRecDepth 100000 in
set_option maxHeartbeats 1000000 in
theorem und_d (a r : List UInt8) (w : World) (hl : a.length + 1 + r.length ≤ 1099511627776) (ha : Hid (44 ∉ a)) (m : List UInt8) (hml : m.length ≤ a.length) (hm : Hid (a = dataP ++ m)) (k : List UInt8) (hkl : k.length ≤ m.length) (hk : Hid (m = k ++ base64P)) (hmb : Hid (mediaB k = false)) (H : Hid (¬ ∃ k r', IsData (a ++ 44 :: r) k r')) : Makes 45 #[.string (S (a ++ 44 :: r))] w (UndPost (a ++ 44 :: r)) := by
  go_enter Tryz.func45, Tryz.ntmps45
  go_wp2_with fail
  refine (cut_some_any a r 44 ha.out _ (by omega)).use ?_; intro w1 g1
  go_wp2_with fail
  refine (cutPrefix_yes a dataP m _ hm.out).use ?_
  go_wp2_with fail
  refine (cutSuffix_yes m base64P k _ (by omega) hk.out).use ?_
  go_wp2_with fail
  refine (media_any k _ (by omega)).use ?_
  rw [hmb.out]
  go_wp2_with fail
  go_ret3
  exact ⟨_, rfl, UndPost.none H.out, g1⟩
set_option maxRecDepth 100000 in
set_option maxHeartbeats 1000000 in
theorem und_e (a r : List UInt8) (w : World) (hl : a.length + 1 + r.length ≤ 1099511627776) (ha : Hid (44 ∉ a)) (m : List UInt8) (hml : m.length ≤ a.length) (hm : Hid (a = dataP ++ m)) (k : List UInt8) (hkl : k.length ≤ m.length) (hk : Hid (m = k ++ base64P)) (hmb : Hid (mediaB k = true)) (HD : Hid (IsData (a ++ 44 :: r) k r)) (bs : List UInt8) (h4 : Hid (r.length % 4 = 0)) (hd : Hid (b64D r = .ok bs)) : Makes 45 #[.string (S (a ++ 44 :: r))] w (UndPost (a ++ 44 :: r)) := by
  go_enter Tryz.func45, Tryz.ntmps45
  go_wp2_with fail
  refine (cut_some_any a r 44 ha.out _ (by omega)).use ?_; intro w1 g1
  go_wp2_with fail
  refine (cutPrefix_yes a dataP m _ hm.out).use ?_
  go_wp2_with fail
  refine (cutSuffix_yes m base64P k _ (by omega) hk.out).use ?_
  go_wp2_with fail
  refine (media_any k _ (by omega)).use ?_
  rw [hmb.out]
  go_wp2_with fail
  refine (decode_ok r bs _ (by omega) h4.out hd.out).use ?_; intro w2 g2
  go_wp2_with fail
  go_ret3
  exact ⟨_, rfl, .inr (.inl ⟨k, r, HD.out, h4.out, bs, hd.out, rfl⟩), g1.trans g2⟩
set_option maxRecDepth 100000 in
set_option maxHeartbeats 1000000 in
theorem und_f (a r : List UInt8) (w : World) (hl : a.length + 1 + r.length ≤ 1099511627776) (ha : Hid (44 ∉ a)) (m : List UInt8) (hml : m.length ≤ a.length) (hm : Hid (a = dataP ++ m)) (k : List UInt8) (hkl : k.length ≤ m.length) (hk : Hid (m = k ++ base64P)) (hmb : Hid (mediaB k = true)) (HD : Hid (IsData (a ++ 44 :: r) k r)) (hal : a.length = k.length + 12) (c : Int) (p : Nat) (hple : p ≤ r.length) (hcp : Hid (if r.length % 4 ≠ 0 then c = 7 ∧ p = r.length else c = 3 ∧ b64D r = .error p)) : Makes 45 #[.string (S (a ++ 44 :: r))] w (UndPost (a ++ 44 :: r)) := by
  go_enter Tryz.func45, Tryz.ntmps45
  go_wp2_with fail
  refine (cut_some_any a r 44 ha.out _ (by omega)).use ?_; intro w1 g1
  go_wp2_with fail
  refine (cutPrefix_yes a dataP m _ hm.out).use ?_
  go_wp2_with fail
  refine (cutSuffix_yes m base64P k _ (by omega) hk.out).use ?_
  go_wp2_with fail
  refine (media_any k _ (by omega)).use ?_
  rw [hmb.out]
  go_wp2_with fail
  refine (decode_bad r c p _ (by omega) hcp.out).use ?_
  rintro v w2 ⟨b, rfl, hb0, hb1, hbl⟩ g2
  go_wp2_with fail
  go_region
  go_wp2_with fail
  go_ret3
  refine ⟨_, rfl, .inr (.inr ⟨k, r, HD.out, c, p, hcp.out, _, rfl, ?_⟩), ((g1.trans g2).alloc _).drew⟩
  have e : (((p : Int) + ((k.length : Int) + 13)) : Int) = (p : Int) + ((k.length : Int) + 12) + 1 := by omega
  rw [e]
  exact (IsAt.new w2 80 c ((p : Int) + ((k.length : Int) + 12) + 1)).grow (G.refl _).drew
theorem undata_any (l : List UInt8) (w : World) (hl : l.length ≤ 1099511627776) : Makes 45 #[.string (S l)] w (UndPost l) := by
  rcases first_split l 44 with hn | ⟨a, r, hs, ha⟩
  · have H : Hid (¬ ∃ k r, IsData l k r) := hid (by rintro ⟨k, r, h, -⟩; exact hn (by rw [h]; simp))
    by_cases hp : ∃ r, l = dataP ++ r
    · obtain ⟨r, hr⟩ := hp
      exact und_a1 l r w hn hr H
    · exact und_a2 l w hn hp H
  have hlen : a.length + 1 + r.length ≤ 1099511627776 := by rw [hs] at hl; simp at hl; omega
  by_cases hp : ∃ m, a = dataP ++ m
  case neg =>
    have H : Hid (¬ ∃ k r, IsData l k r) := hid (by
      rintro ⟨k, r', h, hm⟩
      rw [hs] at h
      exact hp ⟨k ++ base64P, by rw [(first_unique h ha (IsData.head hm)).1]; simp⟩)
    subst hs
    exact und_b a r w hlen ha hp H
  obtain ⟨m, hm⟩ := hp
  have hml : m.length ≤ a.length := by rw [hm]; simp
  by_cases hp : ∃ k, m = k ++ base64P
  case neg =>
    have H : Hid (¬ ∃ k r, IsData l k r) := hid (by
      rintro ⟨k, r', h, hk⟩
      rw [hs] at h
      have := (first_unique h ha (IsData.head hk)).1
      rw [hm, List.append_assoc] at this
      exact hp ⟨k, List.append_cancel_left this⟩)
    subst hs
    exact und_c a r w hlen ha m hml hm hp H
  obtain ⟨k, hk⟩ := hp
  have hkl : k.length ≤ m.length := by rw [hk]; simp
  have hal : a.length = k.length + 12 := by rw [hm, hk]; simp [dataP, base64P]
  cases hmb : mediaB k with
  | false =>
    have H : Hid (¬ ∃ k r, IsData l k r) := hid (by
      rintro ⟨k', r', h, hk'⟩
      rw [hs] at h
      have := (first_unique h ha (IsData.head hk')).1
      rw [hm, hk, List.append_assoc] at this
      have := List.append_cancel_right (List.append_cancel_left this)
      rw [this, hk'] at hmb; cases hmb)
    subst hs
    exact und_d a r w hlen ha m hml hm k hkl hk hmb H
  | true =>
  have HD : Hid (IsData l k r) := hid ⟨by rw [hs, hm, hk]; simp, hmb⟩
  have hgood : (r.length % 4 = 0 ∧ ∃ bs, b64D r = .ok bs) ∨ ∃ c : Int, ∃ p : Nat, (if r.length % 4 ≠ 0 then c = 7 ∧ p = r.length else c = 3 ∧ b64D r = .error p) := by
    by_cases h4 : r.length % 4 = 0
    · cases hd : b64D r with
      | ok bs => exact .inl ⟨h4, bs, rfl⟩
      | error p => exact .inr ⟨3, p, by rw [if_neg (by omega)]; exact ⟨rfl, rfl⟩⟩
    · exact .inr ⟨7, r.length, by rw [if_pos h4]; exact ⟨rfl, rfl⟩⟩
  rcases hgood with ⟨h4, bs, hd⟩ | ⟨c, p, hcp⟩
  · subst hs
    exact und_e a r w hlen ha m hml hm k hkl hk hmb HD bs h4 hd
  · have hple : p ≤ r.length := by
      split at hcp
      · omega
      · exact decL_err_le r p hcp.2
    subst hs
    exact und_f a r w hlen ha m hml hm k hkl hk hmb HD hal c p hple hcp
end Go.Proofs.YtfadckackdmbnaaGreatDoor
