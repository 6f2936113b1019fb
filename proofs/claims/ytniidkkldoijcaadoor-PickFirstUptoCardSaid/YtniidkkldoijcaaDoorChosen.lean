/-
  THE FACT chosen: which is preferred.
-/
import Derived.Test.YtniidkkldoijcaaDoorBest
import Derived.Test.YtniidkkldoijcaaDoorMItems
import Derived.Test.YtniidkkldoijcaaDoorAnn
import Derived.Test.YtniidkkldoijcaaDoorWith
import Derived.Test.YtniidkkldoijcaaDoorChosenPlain
namespace Go.Proofs.YtniidkkldoijcaaDoor
open Go.RowKit Stab
set_option linter.unusedVariables false
set_option linter.unusedSimpArgs false

/-- behind k rounds: the box of the card, the row of texts -/
structure ChI (w1 wr : World) (k : Nat) (u : Value) (cs : List Value) : Prop where
  g : G w1 wr
  c : wr.heap[w1.heap.size]? = some (.cells #[.int .i64 4, u] 24 (0, 0))
  r : wr.heap[w1.heap.size + 1]? = some (.cells #[.string (S []), .string (S [55]), .string (S [50])] 9 (0, 0))
  l : Lies (Wo w1.heap.size wr) u (2 + k) cs
  it : ItRow (Wo w1.heap.size wr) (annXs ++ tels.take k) cs
  f : ∃ a c, u = .slice (some a) (2 + k) c
theorem ChI.step {w1 wr wx w2 : World} {k : Nat} {u u2 : Value} {cs : List Value} {p : List UInt8} {pv : Value} (hI : ChI w1 wr k u cs) (hp : telP[k]? = some p) (gx : G wr wx) (hx : ItOk (Wo w1.heap.size wx) (tel p) pv (.slice none 0 0)) (ho : OwnR (wx.heap.size + 1) w2 u2 (2 + k + 1) (cs ++ (tel p).cells pv (.slice none 0 0))) (g2 : G wx w2) :
    ChI w1 ((w2.setCell ⟨w1.heap.size, 0, none⟩ (.int .i64 4)).setCell ⟨w1.heap.size, 1, none⟩ u2) (k + 1) u2 (cs ++ (tel p).cells pv (.slice none 0 0)) := by
  have hlt : w1.heap.size < wr.heap.size := (Array.getElem?_eq_some_iff.1 hI.c).1
  have gg := gx.trans g2
  have hC := (gg.below.block _ hlt).trans hI.c
  have hR := (gg.below.block _ (Array.getElem?_eq_some_iff.1 hI.r).1).trans hI.r
  refine ⟨?_, ?_, ?_, ?_, ?_, ?_⟩
  · exact Below.setCell (Below.setCell (hI.g.trans gg) (Nat.le_refl _) _) (Nat.le_refl _) _
  · exact heap_setCell_same _ _ 1 _ _ u2 (heap_setCell_same _ _ 0 _ _ (.int .i64 4) hC)
  · rw [Below.heap_setCell _ _ _ _ (by simp only; omega), Below.heap_setCell _ _ _ _ (by simp only; omega)]
    exact hR
  · rw [Wo.set, Wo.set]
    refine OwnR.lies (OwnR.wo ho (by have := gx.size; omega)) fun v hv => ?_
    rcases List.mem_append.1 hv with hv | hv
    · exact hI.it.one v hv
    · exact hx.one v hv
  · rw [Wo.set, Wo.set]
    have e : annXs ++ tels.take (k + 1) = (annXs ++ tels.take k) ++ [tel p] := by
      rw [List.take_add_one]
      unfold tels
      rw [List.getElem?_map, hp]
      simp
    rw [e]
    exact (hI.it.grow (Wo.g gg)).append (ItRow.single (hx.grow (Wo.g g2)))
  · rcases ho.2 with ⟨_, h0⟩ | ⟨b, cap, cur, e, _⟩
    · omega
    · exact ⟨_, _, e⟩
/-- an item without parameters, one with -/
theorem tel_ok0 (W : World) : ItOk W (tel []) (.slice none 0 0) (.slice none 0 0) :=
  ⟨⟨_, _, rfl, Nat.le_refl _, fun h => absurd rfl h⟩, ⟨[], ⟨rfl, by simp, .inl ⟨rfl, .inl rfl⟩⟩, Nat.le_refl _, by simp [tel]⟩, .inl rfl, by simp [tel, St0], by simp [tel]⟩
theorem tel_ok1 {W : World} {p : List UInt8} {b1 b2 : Nat} (hp : p ≠ []) (h1 : W.heap[b1]? = some (.cells #[.string (S p)] 9 (0, 0))) (h2 : W.heap[b2]? = some (.cells #[.string (S prefW), .slice (some ⟨b1, 0, none⟩) 1 1] 52 (0, 0))) :
    ItOk W (tel p) (.slice (some ⟨b2, 0, none⟩) 1 1) (.slice none 0 0) := by
  have hps : (tel p).ps = [(prefW, [p])] := by unfold tel; simp [hp]
  refine ⟨?_, ⟨[], ⟨rfl, by simp, .inl ⟨rfl, .inl rfl⟩⟩, Nat.le_refl _, by simp [tel]⟩, .inr ⟨_, _, _, rfl⟩, by simp [tel, St0], by simp [tel]⟩
  rw [hps]
  refine ⟨_, _, rfl, Nat.le_refl _, fun _ => ⟨b2, 0, rfl, (Array.getElem?_eq_some_iff.1 h2).1, fun i q hq => ?_⟩⟩
  match i, hq with
  | 0, hq =>
    cases hq
    exact ⟨_, (cell_of_row W b2 0 _ _ _ h2).trans rfl, (cell_of_row W b2 1 _ _ _ h2).trans rfl, OneS.strs ⟨_, rfl, h1⟩⟩
  | n + 1, hq => simp at hq
set_option maxRecDepth 100000 in
set_option maxHeartbeats 4000000 in
theorem chosen_any (w : World) (hM : RMem w) : Gives 8 #[] w (.bool true) := by
  have HM := hid hM
  clear hM
  go_enter Tryd.func8, Tryd.ntmps8
  go_wp2_with fail
  refine (ann_any 4 _).use ?_
  rintro v w1 ⟨u, rfl, hu, b, c, rfl⟩ g1
  have HU := hid hu
  have G1 := hid g1
  clear hu g1
  unfold cardV
  go_wp2_with fail
  go_loopw [8] (fun i wr => ∃ k : Nat, k ≤ 3 ∧ i = .int .i64 k ∧ ∃ u cs, ChI w1 wr k u cs) (fun i _ => 3 - (intOf i).toNat)
  case atStart =>
    obtain ⟨cs, hl, hr⟩ := HU.out.lies
    have hg : G w1 (Wo w1.heap.size ((w1.alloc (.cells #[.int .i64 4, .slice (some b) 2 c] 24)).alloc (.cells #[.string { data := #[] }, .string { data := #[55] }, .string { data := #[50] }] 9))) := Wo.of (((G.refl _).alloc _).alloc _) (Nat.le_refl _)
    exact ⟨0, by omega, rfl, _, cs, ((G.refl _).alloc _).alloc _, by rw [Lib.alloc_old _ _ _ (by simp)]; exact heap_alloc_new w1 _, new_at _ _ _ (by simp), hl.grow hg, hr.grow hg, _, _, rfl⟩
  case round =>
    obtain ⟨k, hk, rfl, u, cs, hI⟩ := hrel
    have HI := hid hI
    obtain ⟨ua, uc, rfl⟩ := hI.f
    have c0 : wr.cell? ⟨w1.heap.size, 0, none⟩ = some (.int .i64 4) := (cell_of_row wr _ 0 _ _ _ hI.c).trans rfl
    have c1 : wr.cell? ⟨w1.heap.size, 1, none⟩ = some (.slice (some ua) (2 + k) uc) := (cell_of_row wr _ 1 _ _ _ hI.c).trans rfl
    have r0 : wr.cell? ⟨w1.heap.size + 1, 0, none⟩ = some (.string (S [])) := (cell_of_row wr _ 0 _ _ _ hI.r).trans rfl
    have r1 : wr.cell? ⟨w1.heap.size + 1, 1, none⟩ = some (.string (S [55])) := (cell_of_row wr _ 1 _ _ _ hI.r).trans rfl
    have r2 : wr.cell? ⟨w1.heap.size + 1, 2, none⟩ = some (.string (S [50])) := (cell_of_row wr _ 2 _ _ _ hI.r).trans rfl
    have hlt : w1.heap.size + 1 < wr.heap.size := (Array.getElem?_eq_some_iff.1 hI.r).1
    have hlt0 : w1.heap.size < wr.heap.size := by omega
    have hlt1 : w1.heap.size < wr.heap.size + 1 := by omega
    have hlt2 : w1.heap.size < wr.heap.size + 1 + 1 := by omega
    clear hI
    rcases (show k = 0 ∨ k = 1 ∨ k = 2 ∨ k = 3 by omega) with rfl | rfl | rfl | rfl
    · go_wp2_with fail
      have gx := (G.refl wr).alloc (.cells #[.string (S []), .string (S [84, 69, 76]), .slice none 0 0, .int .i64 1, .string (S []), .slice none 0 0, .int .i64 0, .int .i64 0, .int .i64 0, .int .i64 0, .int .i64 0, .int .i64 0, .bool false, .int .i64 0, .int .i64 0] 32)
      refine (with_any 4 (.slice (some ua) (2 + 0) uc) (2 + 0) cs (tel []) (.slice none 0 0) (.slice none 0 0) _ ((HI.out.l.sub (Wo.sub _ _)).grow gx) (.inr ⟨_, _, _, rfl⟩) (tel_ok0 _) (by omega)).use ?_
      rintro v w2 ⟨u2, rfl, ho⟩ g2
      unfold cardV
      have hst := ChI.step HI.out (show telP[0]? = some [] from rfl) gx (tel_ok0 _) ho g2
      obtain ⟨a2, c2, rfl⟩ := hst.f
      have HST := hid hst
      have hC2 := ((gx.trans g2).below.block _ hlt0).trans HI.out.c
      obtain ⟨z0, y0, z1, y1, _, _⟩ := box_filled hC2 (.int .i64 4) (.slice (some a2) (2 + 0 + 1) c2)
      clear hst hC2 g2 gx ho
      go_wp2_with fail
      go_roundw
      case measure => simp [intOf]
      case rel => exact ⟨0 + 1, by omega, by go_num, _, _, HST.out⟩
    · go_wp2_with fail
      have gx := (((G.refl wr).alloc (.cells #[.string (S []), .string (S [84, 69, 76]), .slice (some ⟨wr.heap.size + 1 + 1, 0, none⟩) 1 1, .int .i64 1, .string (S [55]), .slice none 0 0, .int .i64 0, .int .i64 0, .int .i64 0, .int .i64 0, .int .i64 0, .int .i64 0, .bool false, .int .i64 0, .int .i64 0] 32)).alloc (.cells #[.string (S [55])] 9)).alloc (.cells #[.string (S prefW), .slice (some ⟨wr.heap.size + 1, 0, none⟩) 1 1] 52)
      show Calls Tryd.prog 12 #[cardV 4 (.slice (some ua) (2 + 1) uc), (tel [55]).val (.slice (some ⟨wr.heap.size + 1 + 1, 0, none⟩) 1 1) (.slice none 0 0)] (((wr.alloc (.cells #[.string (S []), .string (S [84, 69, 76]), .slice (some ⟨wr.heap.size + 1 + 1, 0, none⟩) 1 1, .int .i64 1, .string (S [55]), .slice none 0 0, .int .i64 0, .int .i64 0, .int .i64 0, .int .i64 0, .int .i64 0, .int .i64 0, .bool false, .int .i64 0, .int .i64 0] 32)).alloc (.cells #[.string (S [55])] 9)).alloc (.cells #[.string (S prefW), .slice (some ⟨wr.heap.size + 1, 0, none⟩) 1 1] 52)) _
      generalize hwx : (((wr.alloc (.cells #[.string (S []), .string (S [84, 69, 76]), .slice (some ⟨wr.heap.size + 1 + 1, 0, none⟩) 1 1, .int .i64 1, .string (S [55]), .slice none 0 0, .int .i64 0, .int .i64 0, .int .i64 0, .int .i64 0, .int .i64 0, .int .i64 0, .bool false, .int .i64 0, .int .i64 0] 32)).alloc (.cells #[.string (S [55])] 9)).alloc (.cells #[.string (S prefW), .slice (some ⟨wr.heap.size + 1, 0, none⟩) 1 1] 52)) = wx at gx ⊢
      have hx : ∀ C, C < wr.heap.size → ItOk (Wo C wx) (tel [55]) (.slice (some ⟨wr.heap.size + 1 + 1, 0, none⟩) 1 1) (.slice none 0 0) := fun C hC => tel_ok1 (b1 := wr.heap.size + 1) (by simp) (by rw [Wo.other _ _ _ (by omega), ← hwx, Lib.alloc_old _ _ _ (by simp)]; exact new_at _ _ _ (by simp)) (by rw [Wo.other _ _ _ (by omega), ← hwx]; exact new_at _ _ _ (by simp))
      refine (with_any 4 (.slice (some ua) (2 + 1) uc) (2 + 1) cs (tel [55]) _ (.slice none 0 0) _ ((HI.out.l.sub (Wo.sub _ _)).grow gx) (.inr ⟨_, _, _, rfl⟩) ((hx _ hlt0).sub (Wo.sub _ _)) (by omega)).use ?_
      rintro v w2 ⟨u2, rfl, ho⟩ g2
      unfold cardV
      have hst := ChI.step HI.out (show telP[1]? = some [55] from rfl) gx (hx _ hlt0) ho g2
      obtain ⟨a2, c2, rfl⟩ := hst.f
      have HST := hid hst
      have hC2 := ((gx.trans g2).below.block _ hlt0).trans HI.out.c
      obtain ⟨z0, y0, z1, y1, _, _⟩ := box_filled hC2 (.int .i64 4) (.slice (some a2) (2 + 1 + 1) c2)
      clear hx hwx hst hC2 g2 gx ho
      go_wp2_with fail
      go_roundw
      case measure => simp [intOf]
      case rel => exact ⟨1 + 1, by omega, by go_num, _, _, HST.out⟩
    · go_wp2_with fail
      have gx := (((G.refl wr).alloc (.cells #[.string (S []), .string (S [84, 69, 76]), .slice (some ⟨wr.heap.size + 1 + 1, 0, none⟩) 1 1, .int .i64 1, .string (S [50]), .slice none 0 0, .int .i64 0, .int .i64 0, .int .i64 0, .int .i64 0, .int .i64 0, .int .i64 0, .bool false, .int .i64 0, .int .i64 0] 32)).alloc (.cells #[.string (S [50])] 9)).alloc (.cells #[.string (S prefW), .slice (some ⟨wr.heap.size + 1, 0, none⟩) 1 1] 52)
      show Calls Tryd.prog 12 #[cardV 4 (.slice (some ua) (2 + 2) uc), (tel [50]).val (.slice (some ⟨wr.heap.size + 1 + 1, 0, none⟩) 1 1) (.slice none 0 0)] (((wr.alloc (.cells #[.string (S []), .string (S [84, 69, 76]), .slice (some ⟨wr.heap.size + 1 + 1, 0, none⟩) 1 1, .int .i64 1, .string (S [50]), .slice none 0 0, .int .i64 0, .int .i64 0, .int .i64 0, .int .i64 0, .int .i64 0, .int .i64 0, .bool false, .int .i64 0, .int .i64 0] 32)).alloc (.cells #[.string (S [50])] 9)).alloc (.cells #[.string (S prefW), .slice (some ⟨wr.heap.size + 1, 0, none⟩) 1 1] 52)) _
      generalize hwx : (((wr.alloc (.cells #[.string (S []), .string (S [84, 69, 76]), .slice (some ⟨wr.heap.size + 1 + 1, 0, none⟩) 1 1, .int .i64 1, .string (S [50]), .slice none 0 0, .int .i64 0, .int .i64 0, .int .i64 0, .int .i64 0, .int .i64 0, .int .i64 0, .bool false, .int .i64 0, .int .i64 0] 32)).alloc (.cells #[.string (S [50])] 9)).alloc (.cells #[.string (S prefW), .slice (some ⟨wr.heap.size + 1, 0, none⟩) 1 1] 52)) = wx at gx ⊢
      have hx : ∀ C, C < wr.heap.size → ItOk (Wo C wx) (tel [50]) (.slice (some ⟨wr.heap.size + 1 + 1, 0, none⟩) 1 1) (.slice none 0 0) := fun C hC => tel_ok1 (b1 := wr.heap.size + 1) (by simp) (by rw [Wo.other _ _ _ (by omega), ← hwx, Lib.alloc_old _ _ _ (by simp)]; exact new_at _ _ _ (by simp)) (by rw [Wo.other _ _ _ (by omega), ← hwx]; exact new_at _ _ _ (by simp))
      refine (with_any 4 (.slice (some ua) (2 + 2) uc) (2 + 2) cs (tel [50]) _ (.slice none 0 0) _ ((HI.out.l.sub (Wo.sub _ _)).grow gx) (.inr ⟨_, _, _, rfl⟩) ((hx _ hlt0).sub (Wo.sub _ _)) (by omega)).use ?_
      rintro v w2 ⟨u2, rfl, ho⟩ g2
      unfold cardV
      have hst := ChI.step HI.out (show telP[2]? = some [50] from rfl) gx (hx _ hlt0) ho g2
      obtain ⟨a2, c2, rfl⟩ := hst.f
      have HST := hid hst
      have hC2 := ((gx.trans g2).below.block _ hlt0).trans HI.out.c
      obtain ⟨z0, y0, z1, y1, _, _⟩ := box_filled hC2 (.int .i64 4) (.slice (some a2) (2 + 2 + 1) c2)
      clear hx hwx hst hC2 g2 gx ho
      go_wp2_with fail
      go_roundw
      case measure => simp [intOf]
      case rel => exact ⟨2 + 1, by omega, by go_num, _, _, HST.out⟩
    · have HIT := hid ((HI.out.l.items HI.out.it).sub0 (Wo.sub _ _))
      have GR := hid (G1.out.trans HI.out.g)
      have HMR := hid (HM.out.grow GR.out)
      clear r0 r1 r2 hlt hlt0 hlt1 hlt2
      go_wp2_with fail
      refine (all_any 4 _ (annXs ++ tels) [116, 101, 108] wr HIT.out fine_tels (by simp) HMR.out).use ?_
      rintro v w2 ⟨l, hl, ho⟩ g2
      rw [idx_tel] at hl
      obtain rfl := sorted_unique hl sorted_tels
      have hn := ho.nums
      have G2 := hid g2
      obtain ⟨va, vc, rfl, _⟩ := hn
      have HN := hid ho.nums
      have hC := (g2.below.block _ (Array.getElem?_eq_some_iff.1 HI.out.c).1).trans HI.out.c
      have d0 : w2.cell? ⟨w1.heap.size, 0, none⟩ = some (.int .i64 4) := (cell_of_row w2 _ 0 _ _ _ hC).trans rfl
      have d1 : w2.cell? ⟨w1.heap.size, 1, none⟩ = some (.slice (some ua) (2 + 3) uc) := (cell_of_row w2 _ 1 _ _ _ hC).trans rfl
      have HCC := hid hC
      clear hl ho g2 c0 c1 hC
      go_wp2_with fail
      have hrow : IsNums (w2.alloc (.cells #[.int .i64 4, .int .i64 3, .int .i64 2] 3)) (.slice (some ⟨w2.heap.size, 0, none⟩) 3 3) [4, 3, 2] :=
        ⟨_, _, rfl, Nat.le_refl _, fun _ => ⟨_, 0, rfl, by simp, fun i x hx => by rw [cell_of_row _ _ _ _ _ _ (heap_alloc_new w2 _), Nat.zero_add]; match i, hx with | 0, hx => cases hx; rfl | 1, hx => cases hx; rfl | 2, hx => cases hx; rfl | n + 3, hx => simp at hx⟩⟩
      refine (equal_ints (xs := [4, 3, 2]) (ys := [4, 3, 2]) (HN.out.grow ((G.refl _).alloc _)) hrow (by decide) (by decide)).use ?_
      intro w3 g3
      have G3 := hid (((G.refl w2).alloc _).trans g3)
      have e0 := (G3.out.cell (p := ⟨w1.heap.size, 0, none⟩) (Array.getElem?_eq_some_iff.1 HCC.out).1).trans d0
      have e1 := (G3.out.cell (p := ⟨w1.heap.size, 1, none⟩) (Array.getElem?_eq_some_iff.1 HCC.out).1).trans d1
      have GW3 := hid (G2.out.trans G3.out)
      have hlt := Nat.lt_of_lt_of_le (Array.getElem?_eq_some_iff.1 HCC.out).1 G3.out.size
      clear d0 d1 g3 hrow
      go_wp2_with fail
      refine (best_any 4 _ (annXs ++ tels) [84, 69, 76] w3 (HIT.out.grow GW3.out) fine_tels (by simp) (HMR.out.grow GW3.out)).use ?_
      rintro v w4 ⟨l, hl, rfl⟩ g4
      rw [idx_TEL] at hl
      obtain rfl := sorted_unique hl sorted_tels
      have f0 := (g4.cell (p := ⟨w1.heap.size, 0, none⟩) hlt).trans e0
      have f1 := (g4.cell (p := ⟨w1.heap.size, 1, none⟩) hlt).trans e1
      have GW4 := hid (GW3.out.trans g4)
      clear hl g4 e0 e1
      simp only [bestL, List.headD_cons]
      go_wp2_with fail
      refine (best_any 4 _ (annXs ++ tels) [85, 82, 76] w4 (HIT.out.grow GW4.out) fine_tels (by simp) (HMR.out.grow GW4.out)).use ?_
      rintro v w5 ⟨l, hl, rfl⟩ g5
      rw [idx_URL] at hl
      obtain rfl : l = [] := hl.1.eq_nil
      have GW5 := hid (GW4.out.trans g5)
      clear hl g5 f0 f1
      simp only [bestL, List.headD_nil]
      go_wp2_with fail
      go_ret
      exact ⟨rfl, GR.out.trans GW5.out⟩

end Go.Proofs.YtniidkkldoijcaaDoor
