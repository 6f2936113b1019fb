/-
  Texts merged into one: CardLine, Turned, CardBox, UpAny.
-/
import Derived.Test.YtdmbhoagjjkogaaGreatDoorCardOne
import Derived.Test.YtdmbhoagjjkogaaGreatDoorMA49
import Derived.Test.YtdmbhoagjjkogaaGreatDoorMA55
import Derived.Test.YtdmbhoagjjkogaaGreatDoorMA37
import Derived.Test.YtdmbhoagjjkogaaGreatDoorMA53
import Derived.Test.YtdmbhoagjjkogaaGreatDoorConvLabels2
namespace Go.Proofs.YtdmbhoagjjkogaaGreatDoor
open Go.RowKit
set_option linter.unusedVariables false
set_option linter.unusedSimpArgs false
def linPhi9 (x : It) (pv : Value) (ver : Int) (l : List UInt8)  (k : Nat) (v : Value) (W : World) : Prop :=
  match k with
  | 0 => v = .agg #[.string (S x.g), .string (S x.n), pv, .string (S x.v.text)]
  | 1 => v = .int .i64 ver
  | 2 => v = .bool (ver == 4)
  | 3 => v = .tuple #[.string (S l), .nilIface]
  | 4 => v = .string (S l)
  | 5 => v = .nilIface
  | _ => True
set_option maxRecDepth 100000 in
set_option maxHeartbeats 8000000 in
theorem line_any (ver : Int) (hv : ver = 3 ∨ ver = 4) (x : It) (pv lv : Value) (w : World) (h : ItOk w x pv lv) (hs : Sml x) (hR : RMem w) (hM : HasM w) (hE : LaidE w) (h1 : oneB ver x = true) : Gives 33 #[x.val pv lv, .int .i64 ver] w (.tuple #[.string (S (printW (ver == 4) (lnX x x.v.text))), .nilIface]) := by
  have hb := hs.bounds
  obtain ⟨h2, _, _, _, ho, _, _⟩ := one_iff.1 h1
  have hre := (line_ok h2 ho).1
  have LP0 : ∀ W, G w W → Gives 58 #[.agg #[.string (S x.g), .string (S x.n), pv, .string (S x.v.text)], .bool (ver == 4)] W (.tuple #[.string (S (printW (ver == 4) (lnX x x.v.text))), .nilIface]) := fun W g => by
    refine Calls.mono (linePrint_any x.g x.n x.v.text pv x.ps (ver == 4) W (h.p.grow g) hb.1 hb.2.1 hb.2.2.2.2.2 hb.2.2.1) ?_
    rintro e w' ⟨r, rfl, hr, hg⟩
    have hr2 : PrintP (ver == 4) (lnX x x.v.text) r w' := hr
    unfold PrintP at hr2
    rw [hre] at hr2
    simp only at hr2
    subst hr2
    exact ⟨rfl, hg⟩
  have ON := hid (fun W (g : G w W) => one_any ver hv x pv lv W (h.grow g) hs (hR.grow g) (hM.grow g) (hE.grow g))
  have PR := hid (fun W (g : G w W) => prop_any x pv lv ver W (h.grow g) hs (hM.grow g) (hE.grow g) ho)
  obtain ⟨l, hl⟩ : ∃ l, l = printW (ver == 4) (lnX x x.v.text) := ⟨_, rfl⟩
  rw [← hl] at LP0 ⊢
  obtain ⟨pa, pc, rfl⟩ := h.pv
  obtain ⟨la, lc, rfl⟩ := h.lv
  have LPW := hid LP0
  have H1 := hid h1
  clear LP0 h hb hs hR hM hE h1 h2 ho hre hl
  have ways : (ver != 3) = false ∨ ((ver != 3) = true ∧ (ver != 4) = false) := by rcases hv with rfl | rfl <;> simp
  clear hv
  rcases ways with b3 | ⟨b3, b4⟩
  all_goals
    go_enter Tryz.func33, Tryz.ntmps33
    go_wp2_with fail
    generalize hw1 : w.alloc _ = w1
    have HB := hid (show w1.heap[w.heap.size]? = some (.cells (x.cells (.slice pa x.ps.length pc) (.slice la x.v.ps.length lc)).toArray 31 (0, 0)) by rw [← hw1]; exact heap_alloc_new w _)
    have G1 := hid (show G w w1 by rw [← hw1]; exact (G.refl w).alloc _)
    clear hw1
    refine (ON.out w1 G1.out).use ?_
    rintro r w2 ⟨c, rfl, hoc⟩ g2
    obtain rfl : c = 0 := hoc.ok.2 H1.out
    have G2 := hid (G1.out.trans g2)
    have HB2 := hid (row_up HB.out g2)
    clear hoc g2
    obtain ⟨q0, q1, q2, q3, q4, q5, q6, q7, q8, q9, q10, q11, q12, q13, q14⟩ := box_item HB2.out
    go_wp2_with fail
    refine (PR.out w2 G2.out).use ?_
    intro wb gb
    clear q0 q1 q2 q3 q4 q5 q6 q7 q8 q9 q10 q11 q12 q13 q14
    go_wp2_with fail
    generalize hw9 : wb.alloc _ = w9
    have HP4 := hid (show w9.heap[wb.heap.size]? = some (.cells #[.string (S x.g), .string (S x.n), .slice pa x.ps.length pc, .string (S x.v.text)] 95 (0, 0)) by rw [← hw9]; exact heap_alloc_new wb _)
    have G9 := hid (show G w w9 by rw [← hw9]; exact G2.out.trans (gb.alloc _))
    have LP := hid (fun W (g : G w9 W) => LPW.out W (G9.out.trans g))
    clear hw9 gb
    refine wp_region_any (by kernel_rfl) ?_
    refine wpAny_veiled (E := #[false, false, false, false, false, false, false, false]) G 6 (linPhi9 x (.slice pa x.ps.length pc) ver l) [some [], some [], some [(1, 33)], some [(0, 32), (2, 34), (2, 34)], some [(3, 35)], some [(3, 35)], none, none] [(0, 32), (1, 33), (2, 34), (3, 35), (4, 36), (5, 37)] _ (by kernel_rfl) (by decide) (by kernel_rfl) (by kernel_rfl) rfl G.refl (fun _ _ _ => G.trans) (w0 := w9) ((G.refl w9).drew) ?_ ?_ ?_
    · intro k v W W' g h
      match k, h with
      | 0, h => exact h
      | 1, h => exact h
      | 2, h => exact h
      | 3, h => exact h
      | 4, h => exact h
      | 5, h => exact h
      | n + 6, h => trivial
    · refine gAll_some (fun vals W g d => ?_) <| gAll_some (fun vals W g d => ?_) <| gAll_some (fun vals W g d => ?_) <| gAll_some (fun vals W g d => ?_) <| gAll_some (fun vals W g d => ?_) <| gAll_some (fun vals W g d => ?_) <| gAll_none <| gAll_none gAll_nil
      · refine gOp_one rfl rfl rfl fun K hK => ?_
        simp only [gFr] at hK ⊢
        obtain ⟨k0, k1, k2, k3⟩ := box4c (row_up HP4.out g)
        go_simp
        exact hK _ _ (G.refl _) rfl
      · refine gOp_one rfl rfl rfl fun K hK => ?_
        simp only [gFr] at hK ⊢
        go_simp
        exact hK _ _ (G.refl _) rfl
      · obtain ⟨d1, _⟩ := d
        change vals 1 = _ at d1
        refine gOp_one rfl rfl rfl fun K hK => ?_
        simp only [gFr, d1] at hK ⊢
        go_simp
        refine (carets_any ver W).use ?_
        intro W' hg
        exact hK _ _ hg rfl
      · obtain ⟨d0, d2, _, _⟩ := d
        change vals 0 = _ at d0
        change vals 2 = _ at d2
        refine gOp_one rfl rfl rfl fun K hK => ?_
        simp only [gFr, d0, d2] at hK ⊢
        go_simp
        refine (LP.out W g).use ?_
        intro W' hg
        exact hK _ _ hg rfl
      · obtain ⟨d3, _⟩ := d
        change vals 3 = _ at d3
        refine gOp_one rfl rfl rfl fun K hK => ?_
        simp only [gFr, d3] at hK ⊢
        go_simp
        exact hK _ _ (G.refl _) rfl
      · obtain ⟨d3, _⟩ := d
        change vals 3 = _ at d3
        refine gOp_one rfl rfl rfl fun K hK => ?_
        simp only [gFr, d3] at hK ⊢
        go_simp
        exact hK _ _ (G.refl _) rfl
    · intro vals W g d
      simp only [gFacts_cons, gFacts_nil] at d
      obtain ⟨d0, d1, d2, d3, d4, d5, _⟩ := d
      change vals 0 = _ at d0
      change vals 1 = _ at d1
      change vals 2 = _ at d2
      change vals 3 = _ at d3
      change vals 4 = _ at d4
      change vals 5 = _ at d5
      have GW := hid (G9.out.trans g)
      refine ⟨?_⟩
      show wpList _ _ _ [_, _] _ _
      simp only [gFr, d0, d1, d2, d3, d4, d5]
      clear d0 d1 d2 d3 d4 d5
      go_wp2_with fail
      refine bodyPost_ret (v := .tuple #[.string (S l), .nilIface]) ?_ rfl ⟨rfl, GW.out⟩
      simp only [results, Tryz.f33]
      go_simp
end Go.Proofs.YtdmbhoagjjkogaaGreatDoor

namespace Go.Proofs.YtdmbhoagjjkogaaGreatDoor
open Go.RowKit
set_option linter.unusedVariables false
set_option linter.unusedSimpArgs false
theorem up_plain (ver : Int) (iv : Value) (xs : List It) (w : World) (h : IsItems w iv xs) (hl : xs.length ≤ 1000) (hs : ∀ x ∈ xs, Sml x) (hR : RMem w) (hM : HasM w) (hE : LaidE w) (hnl : ∀ x ∈ xs, sameL x.n nLABEL = false) (hnm : ∀ x ∈ xs, plainN (upperL x.n) = true ∨ bigN (upperL x.n) = true)
    (hs1 : ∀ x ∈ xs, Sml ⟨x.g, x.n, prefersL x.ps, x.v⟩) (hne : ∀ x ∈ xs, ∀ p ∈ prefersL x.ps, p.2 ≠ []) (hs2 : ∀ x ∈ xs, Sml (oneX x).1) : Makes 12 #[cardV ver iv] w (fun r w' => UpR ver xs r w') := by
  have el := labels_none hnl
  refine up_gen ver iv xs w h hl hs hR hM hE (fun L W g hX => ?_) (fun x hx L W pv lv hX ho => ?_) (by rw [el]; exact hl) (fun x hx => hs2 x (by rw [el] at hx; exact hx))
  · rw [el]
    exact labels_plain L iv xs W (h.grow (Wl.of g (fun X hx => (hX X hx).1))) hl (fun x hx => by have := (hs x hx).bounds.2.1; omega) hnl
  · rw [el] at hx
    rcases hnm x hx with hp | hb
    · exact one_plain L x pv lv W hX ho (hs x hx) (hs1 x hx) (hne x hx) hp
    · exact one_big L x pv lv W hX ho (hs x hx) (hs1 x hx) (hne x hx) hb
def phIt : It := ⟨[], [80, 72, 79, 84, 79], [([69, 78, 67, 79, 68, 73, 78, 71], [[98]]), ([84, 89, 80, 69], [[74, 80, 69, 71], [112, 114, 101, 102]])], ⟨8, [84, 87, 69, 61], [], St0, 0⟩⟩
def phXs : List It := annXs ++ [phIt]
def phT : List UInt8 := [100, 97, 116, 97, 58, 105, 109, 97, 103, 101, 47, 106, 112, 101, 103, 59, 98, 97, 115, 101, 54, 52, 44, 84, 87, 69, 61]
def phY : It := ⟨[], [80, 72, 79, 84, 79], [([80, 82, 69, 70], [[49]])], ⟨4, phT, [], St0, 0⟩⟩
theorem ph_right : rightC 3 phXs = true := by decide +kernel
theorem ph_one : (labelsX phXs).all (fun x => (oneX x).2) = true := by decide +kernel
theorem ph_map : (labelsX phXs).map (fun x => (oneX x).1) = annXs ++ [phY] := by kernel_rfl
theorem ph_right4 : rightC 4 (annXs ++ [phY]) = true := by decide +kernel
theorem ph_up : upX phXs = some (annXs ++ [phY]) := by
  unfold upX
  rw [if_pos ph_right, if_pos ph_one, ph_map, if_pos ph_right4]
theorem ph_line : printW ((4 : Int) == 4) (lnX phY phY.v.text) = [80, 72, 79, 84, 79, 59, 80, 82, 69, 70, 61, 49, 58] ++ phT := by decide +kernel
theorem ph_all {P : It → Prop} (h1 : P annFN) (h2 : P annN) (h3 : P phIt) : ∀ x ∈ phXs, P x := by
  intro x hx
  simp only [phXs, annXs, List.mem_append, List.mem_cons, List.mem_nil_iff, or_false] at hx
  rcases hx with (rfl | rfl) | rfl
  · exact h1
  · exact h2
  · exact h3
theorem ph_sml : ∀ x ∈ phXs, Sml x := ph_all ⟨by decide, by decide, by decide⟩ ⟨by decide, by decide, by decide⟩ ⟨by decide, by decide, by decide⟩
theorem ph_sml1 : ∀ x ∈ phXs, Sml ⟨x.g, x.n, prefersL x.ps, x.v⟩ := ph_all ⟨by decide +kernel, by decide, by decide⟩ ⟨by decide +kernel, by decide, by decide⟩ ⟨by decide +kernel, by decide, by decide⟩
theorem ph_sml2 : ∀ x ∈ phXs, Sml (oneX x).1 := ph_all ⟨by decide +kernel, by decide +kernel, by decide +kernel⟩ ⟨by decide +kernel, by decide +kernel, by decide +kernel⟩ ⟨by decide +kernel, by decide +kernel, by decide +kernel⟩
theorem ph_ne : ∀ x ∈ phXs, ∀ p ∈ prefersL x.ps, p.2 ≠ [] := ph_all (by decide +kernel) (by decide +kernel) (by decide +kernel)
theorem ph_nl : ∀ x ∈ phXs, sameL x.n nLABEL = false := ph_all (by decide +kernel) (by decide +kernel) (by decide +kernel)
theorem ph_nm : ∀ x ∈ phXs, plainN (upperL x.n) = true ∨ bigN (upperL x.n) = true := ph_all (by decide +kernel) (by decide +kernel) (by decide +kernel)
theorem phY_sml : Sml phY := ⟨by decide +kernel, by decide, by decide⟩
theorem phY_one : oneB 4 phY = true := (rightC_iff.1 ph_right4).2.2.1 phY (by simp)
set_option maxRecDepth 100000 in
set_option maxHeartbeats 4000000 in
theorem turned_any (w : World) (hR : RMem w) (hM : HasM w) (hE : LaidE w) : Gives 7 #[] w (.bool true) := by
  have AN := hid (ann_any 3 w)
  have HR := hid hR
  have HM := hid hM
  have HE := hid hE
  clear hR hM hE
  go_enter Tryz.func7, Tryz.ntmps7
  go_wp2_with fail
  refine AN.out.use ?_
  rintro v w1 ⟨u, rfl, hit, b, c, rfl⟩ g1
  have HIT := hid hit
  have G1 := hid g1
  clear hit g1
  unfold cardV
  go_wp2_with fail
  generalize hw2 : ((w1.alloc _).alloc _).alloc _ = w2
  have hA1 : w2.heap[w1.heap.size]? = some (.cells #[.string (S [98])] 9 (0, 0)) := by rw [← hw2, Lib.alloc_old _ _ _ (by simp; omega), Lib.alloc_old _ _ _ (by simp)]; exact heap_alloc_new w1 _
  have hA2 : w2.heap[w1.heap.size + 1]? = some (.cells #[.string (S [74, 80, 69, 71]), .string (S [112, 114, 101, 102])] 9 (0, 0)) := by rw [← hw2, Lib.alloc_old _ _ _ (by simp)]; exact new_2 w1 _ _
  have hA3 : w2.heap[w1.heap.size + 2]? = some (.cells #[.string (S [69, 78, 67, 79, 68, 73, 78, 71]), .slice (some ⟨w1.heap.size, 0, none⟩) 1 1, .string (S [84, 89, 80, 69]), .slice (some ⟨w1.heap.size + 1, 0, none⟩) 2 2] 46 (0, 0)) := by rw [← hw2]; exact new_at _ _ _ (by simp)
  have G12 := hid (show G w1 w2 by rw [← hw2]; exact ((((G.refl w1).alloc _).alloc _).alloc _))
  clear hw2
  have hs1 : IsStrs w2 (.slice (some ⟨w1.heap.size, 0, none⟩) 1 1) [[98]] := IsStrs.one1 (by rw [cell_of_row w2 _ 0 _ _ _ hA1]; rfl)
  have hs2 : IsStrs w2 (.slice (some ⟨w1.heap.size + 1, 0, none⟩) 2 2) [[74, 80, 69, 71], [112, 114, 101, 102]] := by
    refine ⟨⟨rfl, by intro v hv; simp at hv; rcases hv with rfl | rfl <;> rfl, .inr ⟨_, 0, 2, rfl, lt_of_row hA2, by simp, fun j hj => ?_⟩⟩, Nat.le_refl _⟩
    match j, hj with
    | 0, _ => rw [cell_of_row w2 _ _ _ _ _ hA2]; rfl
    | 1, _ => rw [cell_of_row w2 _ _ _ _ _ hA2]; rfl
    | n + 2, hj => exact absurd hj (by simp only [List.length_map, List.length_cons, List.length_nil]; omega)
  have hok : ItOk w2 phIt (.slice (some ⟨w1.heap.size + 2, 0, none⟩) 2 2) (.slice none 0 0) := by
    refine ⟨⟨_, _, rfl, Nat.le_refl _, fun _ => ⟨_, 0, rfl, lt_of_row hA3, fun i p hp => ?_⟩⟩, ⟨[], ⟨rfl, by simp, .inl ⟨rfl, .inl rfl⟩⟩, Nat.le_refl _, by simp [phIt]⟩, .inr ⟨_, _, _, rfl⟩, by decide, by decide⟩
    match i, hp with
    | 0, hp => cases hp; exact ⟨_, by rw [cell_of_row w2 _ _ _ _ _ hA3]; rfl, by rw [cell_of_row w2 _ _ _ _ _ hA3]; rfl, hs1⟩
    | 1, hp => cases hp; exact ⟨_, by rw [cell_of_row w2 _ _ _ _ _ hA3]; rfl, by rw [cell_of_row w2 _ _ _ _ _ hA3]; rfl, hs2⟩
    | n + 2, hp => simp [phIt] at hp
  obtain ⟨cs, hlies, hrow⟩ := (HIT.out.grow G12.out).lies
  have WT := hid (show Makes 9 #[.agg #[.int .i64 3, .slice (some b) 2 c], .agg #[.string ⟨#[]⟩, .string ⟨#[80, 72, 79, 84, 79]⟩, .slice (some ⟨w1.heap.size + 2, 0, none⟩) 2 2, .int .i64 8, .string ⟨#[84, 87, 69, 61]⟩, .slice none 0 0, .int .i64 0, .int .i64 0, .int .i64 0, .int .i64 0, .int .i64 0, .int .i64 0, .bool false, .int .i64 0, .int .i64 0]] w2 (fun v w' => ∃ u, v = cardV 3 u ∧ OwnR (w2.heap.size + 1) w' u 3 (cs ++ phIt.cells (.slice (some ⟨w1.heap.size + 2, 0, none⟩) 2 2) (.slice none 0 0))) from
    with_any 3 (.slice (some b) 2 c) 2 cs phIt (.slice (some ⟨w1.heap.size + 2, 0, none⟩) 2 2) (.slice none 0 0) w2 hlies (.inr ⟨_, _, _, rfl⟩) hok (by decide))
  have HOK := hid hok
  have HROW := hid hrow
  have G2 := hid (G1.out.trans G12.out)
  clear hlies hrow hok hs1 hs2 hA1 hA2 hA3
  refine WT.out.use ?_
  rintro v w3 ⟨u2, rfl, how⟩ g3
  have hr3 : ItRow w3 phXs (cs ++ phIt.cells (.slice (some ⟨w1.heap.size + 2, 0, none⟩) 2 2) (.slice none 0 0)) := ((HROW.out.grow g3).append (ItRow.single (HOK.out.grow g3)))
  have HI3 := hid (show IsItems w3 u2 phXs from (OwnR.lies how hr3.one).items hr3)
  obtain ⟨a2, c2, rfl⟩ := own_sl how
  have G3 := hid (G2.out.trans g3)
  clear how hr3 g3 WT HROW HOK
  unfold cardV
  have UPC := hid (fun W (g : G w3 W) => up_plain 3 (.slice a2 3 c2) phXs W (HI3.out.grow g) (by decide) ph_sml (HR.out.grow (G3.out.trans g)) (HM.out.grow (G3.out.trans g)) (HE.out.grow (G3.out.trans g)) ph_nl ph_nm ph_sml1 ph_ne ph_sml2)
  unfold cardV at UPC
  go_wp2_with fail
  refine (UPC.out _ ((G.refl w3).alloc _)).use ?_
  rintro r w5 hr g5
  rcases hr with ⟨_, ys, u3, hup, rfl, hiy, hfrm⟩ | ⟨hn, _⟩
  case inr => exact absurd ⟨rfl, _, ph_up⟩ hn
  rw [ph_up] at hup
  cases hup
  obtain ⟨ua, uc, hu3, _⟩ := hiy.len
  obtain rfl : u3 = .slice ua 3 uc := hu3
  have HIY := hid hiy
  have G5 := hid (G3.out.trans (((G.refl w3).alloc (.cells #[.int .i64 3, .slice a2 3 c2] 35)).trans g5))
  clear hiy hfrm g5 UPC
  unfold cardV
  have G6 := hid ((G.refl w5).alloc (.cells #[.int .i64 4, .slice ua 3 uc] 35))
  have HD := hid (heap_alloc_new w5 (.cells #[.int .i64 4, .slice ua 3 uc] 35))
  obtain ⟨b2, off, cap2, e, hb2, hit⟩ := items_at (HIY.out.grow G6.out) (by decide)
  obtain ⟨pv, lv, hat⟩ := hit 2 phY rfl
  simp only [Value.slice.injEq] at e
  obtain ⟨rfl, hlen, rfl⟩ := e
  clear hlen
  obtain ⟨pa, pc, rfl⟩ := hat.ok.pv
  obtain ⟨la, lc, rfl⟩ := hat.ok.lv
  obtain ⟨l, hl⟩ : ∃ l, l = printW ((4 : Int) == 4) (lnX phY phY.v.text) := ⟨_, rfl⟩
  have LN := line_any 4 (.inr rfl) phY _ _ _ hat.ok phY_sml (HR.out.grow (G5.out.trans G6.out)) (HM.out.grow (G5.out.trans G6.out)) (HE.out.grow (G5.out.trans G6.out)) phY_one
  rw [← hl] at LN
  have hlit : (l == [80, 72, 79, 84, 79, 59, 80, 82, 69, 70, 61, 49, 58, 100, 97, 116, 97, 58, 105, 109, 97, 103, 101, 47, 106, 112, 101, 103, 59, 98, 97, 115, 101, 54, 52, 44, 84, 87, 69, 61]) = true := by rw [hl, ph_line]; decide
  obtain ⟨y, hy⟩ : ∃ y, y = phY := ⟨_, rfl⟩
  rw [← hy] at hat LN
  have LNN := hid LN
  obtain ⟨k0, k1, k2, k3, k4, k5, k6, k7, k8, k9, k10, k11, k12, k13, k14⟩ := hat.e
  clear hit hat hl LN hy
  obtain ⟨d0, d1⟩ := box2c HD.out
  simp only [Nat.reduceMul] at k0 k1 k2 k3 k4 k5 k6 k7 k8 k9 k10 k11 k12 k13 k14
  go_wp2_with fail
  refine LNN.out.use ?_
  intro w7 g7
  obtain ⟨d0', d1'⟩ := box2c (row_up HD.out g7)
  clear d0 d1 k0 k1 k2 k3 k4 k5 k6 k7 k8 k9 k10 k11 k12 k13 k14
  go_wp2_with fail
  go_ret
  exact ⟨rfl, (G5.out.trans G6.out).trans g7⟩
end Go.Proofs.YtdmbhoagjjkogaaGreatDoor

namespace Go.Proofs.YtdmbhoagjjkogaaGreatDoor
open Go.RowKit
set_option linter.unusedVariables false
set_option linter.unusedSimpArgs false
def IsZc (W : World) (Y : Nat) : Prop := W.heap[Y]? = some (.cells #[.int .i64 0, .slice none 0 0] 35 (0, 0))
def ItFree (hs : Nat) (W : World) (v : Value) (xs : List It) : Prop := IsItems W v xs ∧ ∀ Y, hs ≤ Y → IsZc W Y → IsItems (Wo Y W) v xs
theorem IsZc.lt {W : World} {Y : Nat} (h : IsZc W Y) : Y < W.heap.size := (Array.getElem?_eq_some_iff.1 h).1
theorem IsZc.grow {W W' : World} {Y : Nat} (h : IsZc W Y) (g : G W W') : IsZc W' Y := row_up h g
theorem IsZc.back {W W' : World} {Y : Nat} (g : G W W') (hl : Y < W.heap.size) (h : IsZc W' Y) : IsZc W Y := (g.below.block Y hl).symm.trans h
theorem ItFree.grow {hs : Nat} {W W' : World} {v : Value} {xs : List It} (h : ItFree hs W v xs) (g : G W W') : ItFree hs W' v xs := by
  refine ⟨h.1.grow g, fun Y hY hz => ?_⟩
  by_cases hl : Y < W.heap.size
  · exact (h.2 Y hY (hz.back g hl)).grow (Wo.g g)
  · exact h.1.grow (Wo.of g (by omega))
theorem zc_no {W : World} {Y b : Nat} {c : Array Value} {t : TypeId} {f : Nat × Nat} (h : IsZc W Y) (hb : W.heap[b]? = some (.cells c t f)) (ht : t ≠ 35) : b ≠ Y := by
  rintro rfl
  unfold IsZc at h
  rw [h] at hb
  cases hb
  exact ht rfl
theorem AnnAt.zc {m Y : Nat} {W : World} (h : AnnAt m W) (hz : IsZc W Y) : Y < m + 1 ∨ m + 8 ≤ Y := by
  have h1 := zc_no hz h.e1 (by decide)
  have h2 := zc_no hz h.e2 (by decide)
  have h3 := zc_no hz h.e3 (by decide)
  have h4 := zc_no hz h.e4 (by decide)
  have h5 := zc_no hz h.e5 (by decide)
  have h6 := zc_no hz h.e6 (by decide)
  have h7 := zc_no hz h.e7 (by decide)
  omega
theorem own_zc {w : World} {Y base : Nat} {t : TypeId} {k n : Nat} {v : Value} {cs : List Value} (h : w.ownsRow base t k v n cs) (hz : IsZc w Y) (ht : t ≠ 35) : (Wo Y w).ownsRow base t k v n cs := by
  refine ⟨h.1, ?_⟩
  rcases h.2 with e | ⟨g, cap, cur, e, hb, hg, r⟩
  · exact .inl e
  · exact .inr ⟨g, cap, cur, e, hb, by rw [Wo.other Y w g (zc_no hz hg ht)]; exact hg, r⟩
theorem zc_put {hs Y : Nat} {W : World} {a : Value} {xs : List It} {u1 u2 : Value} (h : ItFree hs W a xs) (hY : hs ≤ Y) (hz : IsZc W Y) : IsItems ((W.setCell ⟨Y, 0, none⟩ u1).setCell ⟨Y, 1, none⟩ u2) a xs := by
  refine IsItems.sub0 (w := Wo Y W) (h.2 Y hY hz) ?_
  have e : Wo Y ((W.setCell ⟨Y, 0, none⟩ u1).setCell ⟨Y, 1, none⟩ u2) = Wo Y W := by rw [Wo.set, Wo.set]
  rw [← e]
  exact Wo.sub Y _
end Go.Proofs.YtdmbhoagjjkogaaGreatDoor

namespace Go.Proofs.YtdmbhoagjjkogaaGreatDoor
open Go.RowKit
set_option linter.unusedVariables false
set_option linter.unusedSimpArgs false
theorem cone_any (L : List Nat) (x : It) (pv lv : Value) (w : World) (hX : ∀ X ∈ L, X < w.heap.size) (h : ItOk (Wl L w) x pv lv) (hs : Sml x) (hs2 : Sml ⟨x.g, x.n, prefersL x.ps, x.v⟩) (hne : ∀ p ∈ prefersL x.ps, p.2 ≠ []) : Makes 39 #[x.val pv lv] w (fun r w' => ItB (Wl L w') r (oneX x)) := by
  by_cases hb : bigN (upperL x.n) = true
  · exact one_big L x pv lv w hX h hs hs2 hne hb
  by_cases ho : otherN (upperL x.n) = true
  · exact one_old L x pv lv w hX h hs hs2 hne ho
  by_cases hg : upperL x.n = nGEO
  · exact one_geo L x pv lv w hX h hs hs2 hne hg
  by_cases ht : upperL x.n = nTZ
  · exact one_tz L x pv lv w hX h hs hs2 hne ht
  by_cases hu : upperL x.n = nUID
  · exact one_uid L x pv lv w hX h hs hs2 hne hu
  refine one_plain L x pv lv w hX h hs hs2 hne ?_
  unfold plainN
  rw [Bool.not_eq_true] at hb ho
  rw [hb, ho]
  simp [hg, ht, hu]
theorem sml_lsml {x : It} (h : Sml x) : LSml x := ⟨h.bounds.2.1, sml_names h, by have := sml_count h; omega, fun _ => sml_count h⟩
theorem labels_len (xs : List It) : (labelsX xs).length ≤ xs.length := by
  have key : ∀ (xs ys : List It), (xs.foldl labelS ys).length ≤ ys.length + xs.length := by
    intro xs
    induction xs with
    | nil => intro ys; simp
    | cons x xs ih =>
      intro ys
      rw [List.foldl_cons]
      have h1 := ih (labelS ys x)
      have h2 : (labelS ys x).length ≤ ys.length + 1 := by
        unfold labelS
        split
        · split
          · split
            · split
              · rw [List.length_set]; omega
              · simp
            · simp
          · simp
        · simp
      simp only [List.length_cons]
      omega
  have := key xs []
  unfold labelsX
  simpa using this
theorem up_any (ver : Int) (iv : Value) (xs : List It) (w : World) (h : IsItems w iv xs) (hl : xs.length ≤ 1000) (hs : ∀ x ∈ xs, Sml x) (hR : RMem w) (hM : HasM w) (hE : LaidE w) (hs1 : ∀ x ∈ labelsX xs, Sml x) (hs2 : ∀ x ∈ labelsX xs, Sml ⟨x.g, x.n, prefersL x.ps, x.v⟩) (hne : ∀ x ∈ labelsX xs, ∀ p ∈ prefersL x.ps, p.2 ≠ []) (hs3 : ∀ x ∈ labelsX xs, Sml (oneX x).1) : Makes 12 #[cardV ver iv] w (fun r w' => UpR ver xs r w') :=
  up_gen ver iv xs w h hl hs hR hM hE (fun L W g hX => labels_any L iv xs W (fun X hx => (hX X hx).2) (h.grow (Wl.of g (fun X hx => (hX X hx).1))) hl (fun x hx => sml_lsml (hs x hx)))
    (fun x hx L W pv lv hX ho => cone_any L x pv lv W hX ho (hs1 x hx) (hs2 x hx) (hne x hx)) (Nat.le_trans (labels_len xs) hl) hs3
end Go.Proofs.YtdmbhoagjjkogaaGreatDoor
