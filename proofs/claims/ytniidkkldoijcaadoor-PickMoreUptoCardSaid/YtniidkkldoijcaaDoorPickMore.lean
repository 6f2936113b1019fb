/-
  The law PickMore walked.
-/
import Derived.Test.YtniidkkldoijcaaDoorPickMorePlain
import Derived.Test.YtniidkkldoijcaaDoorChosen
import Derived.Test.YtniidkkldoijcaaDoorNameF
import Derived.Test.YtniidkkldoijcaaDoorOpenItem
import Derived.Test.YtniidkkldoijcaaDoorVeil
namespace Go.Proofs.YtniidkkldoijcaaDoor
open Go.RowKit Stab
set_option linter.unusedVariables false
set_option linter.unusedSimpArgs false

/-- a card's box, an item's box -/
structure Boxes (W : World) (C : Nat) (ver : Int) (iv : Value) (x : It) (pv lv : Value) : Prop where
  c : W.heap[C]? = some (.cells #[.int .i64 ver, iv] 24 (0, 0))
  x : W.heap[C + 1]? = some (.cells (x.cells pv lv).toArray 32 (0, 0))
theorem Boxes.grow {W W' : World} {C : Nat} {ver : Int} {iv : Value} {x : It} {pv lv : Value} (h : Boxes W C ver iv x pv lv) (g : G W W') : Boxes W' C ver iv x pv lv :=
  ⟨(g.below.block _ (Array.getElem?_eq_some_iff.1 h.c).1).trans h.c, (g.below.block _ (Array.getElem?_eq_some_iff.1 h.x).1).trans h.x⟩
theorem Boxes.e {W : World} {C : Nat} {ver : Int} {iv : Value} {x : It} {pv lv : Value} (h : Boxes W C ver iv x pv lv) : W.cell? ⟨C, 0, none⟩ = some (.int .i64 ver) ∧ W.cell? ⟨C, 1, none⟩ = some iv :=
  ⟨(cell_of_row W C 0 _ _ _ h.c).trans rfl, (cell_of_row W C 1 _ _ _ h.c).trans rfl⟩
theorem Boxes.it {W : World} {C : Nat} {ver : Int} {iv : Value} {x : It} {pv lv : Value} (h : Boxes W C ver iv x pv lv) (hx : ItOk W x pv lv) : ItAt W (C + 1) 0 x pv lv :=
  ⟨fun j u hu => by rw [Nat.zero_add, cell_of_row W _ j _ _ _ h.x]; simpa using hu, hx⟩
/-- a card with one item more -/
def Plus (W : World) (ver : Int) (xs : List It) (x : It) (v : Value) : Prop := ∃ u, v = cardV ver u ∧ IsItems W u (xs ++ [x]) ∧ ∃ a c, u = .slice (some a) (xs ++ [x]).length c
theorem Plus.grow {W W' : World} {ver : Int} {xs : List It} {x : It} {v : Value} (h : Plus W ver xs x v) (g : G W W') : Plus W' ver xs x v := by
  obtain ⟨u, e, h, f⟩ := h
  exact ⟨u, e, h.grow g, f⟩
theorem plus_any (ver : Int) (iv : Value) (xs : List It) (x : It) (pv lv : Value) (W : World) (h : IsItems W iv xs) (hf : iv = .slice none 0 0 ∨ ∃ a n c, iv = .slice (some a) n c) (hx : ItOk W x pv lv) (hl : xs.length ≤ 1000) :
    Makes 12 #[cardV ver iv, x.val pv lv] W (fun v w' => Plus w' ver xs x v) := by
  obtain ⟨cs, h1, h2⟩ := h.lies
  refine (with_any ver iv xs.length cs x pv lv W h1 hf hx hl).mono ?_
  rintro v w' g ⟨u, rfl, ho⟩
  have hone : ∀ u ∈ cs ++ x.cells pv lv, u.oneCell' = true := fun v hv => by
    rcases List.mem_append.1 hv with hv | hv
    · exact h2.one v hv
    · exact hx.one v hv
  refine ⟨u, rfl, ?_, ?_⟩
  · have := ho.lies hone
    exact Lies.items (xs := xs ++ [x]) (by rw [List.length_append]; exact this) ((h2.grow g).append (ItRow.single (hx.grow g)))
  · rcases ho.2 with ⟨_, h0⟩ | ⟨b, cap, cur, e, _⟩
    · omega
    · exact ⟨_, _, by rw [List.length_append]; exact e⟩
/-- what the operations of 'a, b := All(c, s), All(with(c, x), s)' hold -/
def morePhi (ver : Int) (iv : Value) (xs : List It) (s : List UInt8) (x : It) (pv lv : Value) (k : Nat) (v : Value) (W : World) : Prop :=
  match k with
  | 0 => v = .agg #[.int .i64 ver, iv]
  | 1 => v = .string (S s)
  | 2 => ∃ l, Sorted (keyL xs) (idxL (ofName s) xs) l ∧ OwnN W 0 v l
  | 3 => v = .agg #[.int .i64 ver, iv]
  | 4 => v = x.val pv lv
  | 5 => Plus W ver xs x v
  | 6 => v = .string (S s)
  | _ => True
/-- what the operations of 'Equal(a, b) && Best(c, s) == Best(with(c, x), s)' hold -/
def morePsi (av bv : Value) (ver : Int) (iv : Value) (xs : List It) (s : List UInt8) (x : It) (pv lv : Value) (k : Nat) (v : Value) (W : World) : Prop :=
  match k with
  | 0 => v = av
  | 1 => v = bv
  | 2 => v = .bool true
  | 3 => v = .bool true
  | 4 => v = .agg #[.int .i64 ver, iv]
  | 5 => v = .string (S s)
  | 6 => BestP xs s v
  | 7 => v = .agg #[.int .i64 ver, iv]
  | 8 => v = x.val pv lv
  | 9 => Plus W ver xs x v
  | 10 => v = .string (S s)
  | _ => True
set_option maxRecDepth 100000 in
set_option maxHeartbeats 20000000 in
theorem pickMore_walk (ver : Int) (iv : Value) (xs : List It) (s : List UInt8) (x : It) (pv lv : Value) (w : World) (h : IsItems w iv xs) (hf : iv = .slice none 0 0 ∨ ∃ a n c, iv = .slice (some a) n c) (hl : xs.length ≤ 1048576) (hL : ∀ y ∈ xs, lenI y ≤ 1048576) (hs : s.length ≤ 140737488351232) (hx : ItOk w x pv lv) (hxl : lenI x ≤ 1048576) (hM : RMem w) :
    Gives 3 #[cardV ver iv, .string (S s), x.val pv lv] w (.bool true) := by
  have HF := hid hf
  have HX := hid hx
  have HI := hid h
  have HM := hid hM
  have HL := hid (fun y hy => lim_of (hL y hy))
  have HXL := hid (lim_of hxl)
  obtain ⟨pa, pc, rfl⟩ := hx.pv
  obtain ⟨la, lc, rfl⟩ := hx.lv
  obtain ⟨ia, ic, rfl, _⟩ := h.len
  clear hf hx h hM hL hxl
  unfold cardV
  go_enter Tryd.func3, Tryd.ntmps3
  go_wp2_with fail
  generalize hw5 : (World.alloc (World.alloc w _) _) = w5
  have hB : Boxes w5 w.heap.size ver (.slice ia xs.length ic) x (.slice pa x.ps.length pc) (.slice la x.v.ps.length lc) := by
    rw [← hw5]
    exact ⟨by rw [Lib.alloc_old _ _ _ (by simp)]; exact heap_alloc_new w _, new_at _ _ _ (by simp)⟩
  have g5 : G w w5 := by rw [← hw5]; exact ((G.refl w).alloc _).alloc _
  clear hw5
  refine (chosen_any w5 (HM.out.grow g5)).use ?_
  intro w6 g6
  have HB := hid (hB.grow g6)
  have HG := hid (g5.trans g6)
  clear g5 g6 hB
  go_wp2_with fail
  refine (lettered_any w6).use ?_
  intro w7 g7
  have HB := hid (HB.out.grow g7)
  have HG := hid (HG.out.trans g7)
  clear g7
  obtain ⟨c0, c1⟩ := HB.out.e
  go_wp2_with fail
  have hbg := big_any ver _ xs w7 (HI.out.grow HG.out) (HL.out) hl
  obtain ⟨t1, ht1⟩ : ∃ t, bigC xs = t := ⟨_, rfl⟩
  rw [ht1] at hbg
  have HT1 := hid ht1
  refine hbg.use ?_
  clear hbg ht1
  intro w8 g8
  have HB := hid (HB.out.grow g8)
  have HG := hid (HG.out.trans g8)
  clear g8 c0 c1
  cases t1 with
  | true =>
    go_wp2_with fail
    go_ret
    exact ⟨rfl, HG.out⟩
  | false =>
  obtain ⟨k0, k1, k2, k3, k4, k5, k6, k7, k8, k9, k10, k11, k12, k13, k14⟩ := (HB.out.it (HX.out.grow HG.out)).e
  go_wp2_with fail
  have hone : IsItems (w8.alloc (.cells (x.cells (.slice pa x.ps.length pc) (.slice la x.v.ps.length lc)).toArray 32)) (.slice (some ⟨w8.heap.size, 0, none⟩) 1 1) [x] :=
    items_of_cells (ItRow.single (HX.out.grow (HG.out.alloc _))) (by simp) (fun j u hu => by rw [Nat.zero_add, cell_of_row _ _ j _ _ _ (heap_alloc_new w8 _)]; simpa using hu) (Nat.le_refl _)
  have hbg := big_any 0 _ [x] _ hone (fun y hy => by rw [List.mem_singleton.1 hy]; exact HXL.out) (by simp)
  obtain ⟨t2, ht2⟩ : ∃ t, bigC [x] = t := ⟨_, rfl⟩
  rw [ht2] at hbg
  have HT2 := hid ht2
  refine hbg.use ?_
  clear hbg ht2 hone
  intro w9 g9
  have HB := hid (HB.out.grow (((G.refl _).alloc _).trans g9))
  have HG := hid (HG.out.trans (((G.refl _).alloc _).trans g9))
  clear g9 k0 k1 k2 k3 k4 k5 k6 k7 k8 k9 k10 k11 k12 k13 k14
  cases t2 with
  | true =>
    go_wp2_with fail
    go_ret
    exact ⟨rfl, HG.out⟩
  | false =>
  by_cases hsl : 100 < s.length
  · have hsi : (100 : Int) < (s.length : Int) := by omega
    go_wp2_with fail
    go_ret
    exact ⟨rfl, HG.out⟩
  have hsi : ¬ (100 : Int) < (s.length : Int) := by omega
  have HFI := hid (fine_small HT1.out)
  go_wp2_with fail
  refine wp_region_any (by kernel_rfl) ?_
  refine wpAny_veiled (E := #[false, false, false, false, false, false, false, false, false, false]) G 7 (morePhi ver (.slice ia xs.length ic) xs s x (.slice pa x.ps.length pc) (.slice la x.v.ps.length lc)) [some [], some [], some [(0, 28), (1, 29)], some [], some [], some [(3, 31), (4, 32)], some [], none, none, none] [(0, 28), (1, 29), (2, 30), (3, 31), (4, 32), (5, 33), (6, 34)] _ (by kernel_rfl) (by decide) (by kernel_rfl) (by kernel_rfl) rfl G.refl (fun _ _ _ => G.trans) (w0 := w9) ((G.refl w9).drew) ?_ ?_ ?_
  · intro k v W W' g h
    match k, h with
    | 0, h => exact h
    | 1, h => exact h
    | 2, ⟨l, h1, h2⟩ => exact ⟨l, h1, h2.grow g⟩
    | 3, h => exact h
    | 4, h => exact h
    | 5, h => exact Plus.grow h g
    | 6, h => exact h
    | n + 7, h => trivial
  · refine ⟨fun vals W g d => ?_, ⟨fun vals W g d => ?_, ⟨fun vals W g d => ?_, ⟨fun vals W g d => ?_, ⟨fun vals W g d => ?_, ⟨fun vals W g d => ?_, ⟨fun vals W g d => ?_, trivial⟩⟩⟩⟩⟩⟩⟩
    · refine gOp_one rfl rfl rfl fun K hK => ?_
      simp only [gFr] at hK ⊢
      obtain ⟨c0, c1⟩ := (HB.out.grow g).e
      go_simp
      exact hK _ _ (G.refl _) rfl
    · refine gOp_one rfl rfl rfl fun K hK => ?_
      simp only [gFr] at hK ⊢
      go_simp
      exact hK _ _ (G.refl _) rfl
    · refine gOp_one rfl rfl rfl fun K hK => ?_
      obtain ⟨d0, d1, _⟩ := d
      change vals 0 = _ at d0
      change vals 1 = _ at d1
      simp only [gFr, d0, d1] at hK ⊢
      go_simp
      refine (all_any ver _ xs s W (HI.out.grow (HG.out.trans g)) HFI.out (by omega) (HM.out.grow (HG.out.trans g))).use ?_
      rintro v W' ⟨l, h1, h2⟩ hg
      exact hK _ _ hg ⟨l, h1, h2.mono (Nat.zero_le _)⟩
    · refine gOp_one rfl rfl rfl fun K hK => ?_
      simp only [gFr] at hK ⊢
      obtain ⟨c0, c1⟩ := (HB.out.grow g).e
      go_simp
      exact hK _ _ (G.refl _) rfl
    · refine gOp_one rfl rfl rfl fun K hK => ?_
      simp only [gFr] at hK ⊢
      obtain ⟨k0, k1, k2, k3, k4, k5, k6, k7, k8, k9, k10, k11, k12, k13, k14⟩ := ((HB.out.grow g).it (HX.out.grow (HG.out.trans g))).e
      go_simp
      exact hK _ _ (G.refl _) rfl
    · refine gOp_one rfl rfl rfl fun K hK => ?_
      obtain ⟨d0, d1, _⟩ := d
      change vals 3 = _ at d0
      change vals 4 = _ at d1
      simp only [gFr, d0, d1] at hK ⊢
      go_simp
      refine (plus_any ver _ xs x _ _ W (HI.out.grow (HG.out.trans g)) HF.out (HX.out.grow (HG.out.trans g)) (by have := (bigC_small HT1.out).1; omega)).use ?_
      intro v W' h1 hg
      exact hK _ _ hg h1
    · refine gOp_one rfl rfl rfl fun K hK => ?_
      simp only [gFr] at hK ⊢
      go_simp
      exact hK _ _ (G.refl _) rfl
  · intro vals W g d
    simp only [gFacts_cons, gFacts_nil] at d
    obtain ⟨d0, d1, ⟨a, ha, hao⟩, d3, d4, d5, d6, _⟩ := d
    change vals 0 = _ at d0
    change vals 1 = _ at d1
    change OwnN W 0 (vals 2) a at hao
    change vals 3 = _ at d3
    change vals 4 = _ at d4
    change vals 6 = _ at d6
    obtain ⟨u, hu, hui, ua, uc, huf⟩ := d5
    change vals 5 = _ at hu
    subst huf
    have HB := hid (HB.out.grow g)
    have HG := hid (HG.out.trans g)
    refine ⟨?_⟩
    show wpList _ _ _ [_, _, _] _ _
    simp only [gFr, d0, d1, d3, d4, d6, hu]
    clear d0 d1 d3 d4 d6 hu
    have hall := all_any ver _ (xs ++ [x]) s W hui (fine_plus HFI.out HT1.out HT2.out) (by omega) (HM.out.grow HG.out)
    have HA := hid ha
    have HAO := hid hao
    unfold cardV at hall ⊢
    simp only [List.length_append, List.length_singleton] at hall
    have HALL := hid hall
    have hui2 := hui
    simp only [List.length_append, List.length_singleton] at hui2
    have HUI := hid hui2
    obtain ⟨aa, ac, hv2, _⟩ := hao.nums
    rw [hv2] at HAO ⊢
    clear ha hao hui hall hui2 hv2
    go_wp2_with fail
    refine HALL.out.use ?_
    rintro v w11 ⟨lb, hb, hbo⟩ g11
    have HB := hid (HB.out.grow g11)
    have HG := hid (HG.out.trans g11)
    have HAO := hid (HAO.out.grow g11)
    have HUI := hid (HUI.out.grow g11)
    have HBO := hid hbo
    have HLB := hid hb
    obtain ⟨ba, bc, rfl, _⟩ := hbo.nums
    have k1 := (HB.out.it (HX.out.grow HG.out)).e.2.1
    have hxn := HXL.out.n
    obtain ⟨c0, c1⟩ := HB.out.e
    clear hb hbo g11 HALL
    go_wp2_with fail
    refine (same_any x.n s _ (by omega) (by omega)).use ?_
    intro w12 g12
    have HB := hid (HB.out.grow g12)
    have HG := hid (HG.out.trans g12)
    have HAO := hid (HAO.out.grow g12)
    have HBO := hid (HBO.out.grow g12)
    have HUI := hid (HUI.out.grow g12)
    obtain ⟨c0, c1⟩ := HB.out.e
    clear g12 k1
    have hal := all_len HA.out
    have hbl := all_len HLB.out
    obtain ⟨t3, ht3⟩ : ∃ t, sameL x.n s = t := ⟨_, rfl⟩
    rw [ht3]
    have h40 := (bigC_small HT1.out).1
    cases t3 with
    | true =>
      obtain ⟨e1, e2⟩ := more_same ht3 HA.out HLB.out
      have e3 : (lb.length : Int) = (a.length : Int) + 1 := by omega
      have E2 := hid e2
      clear e2 ht3 hbl
      rw [e1]
      go_wp2_with fail
      have hbn : IsNums w12 (.slice ba (a.length + 1) bc) lb := by rw [← e1]; exact HBO.out.nums
      refine (contains_ints (y := (xs.length : Int)) hbn (by omega)).use ?_
      intro w13 g13
      have HG := hid (HG.out.trans g13)
      rw [decide_eq_true E2.out]
      clear g13 c0 c1
      go_wp2_with fail
      go_ret
      exact ⟨rfl, HG.out⟩
    | false =>
      obtain rfl := more_other ht3 HA.out HLB.out
      have HPLUS := HUI
      have hale : a.length ≤ 9223372036854775807 := by omega
      clear ht3 hbl
      go_wp2_with fail
      refine wp_region_any (by kernel_rfl) ?_
      refine wpAny_veiled (E := #[false, false, false, false, false, false, false, false, false, false, false, false, false, false, false]) G 11 (morePsi (.slice aa a.length ac) (.slice ba a.length bc) ver (.slice ia xs.length ic) xs s x (.slice pa x.ps.length pc) (.slice la x.v.ps.length lc)) [some [], some [], some [(0, 53), (1, 54)], some [(2, 55), (2, 55)], some [(3, 56)], some [(3, 56)], some [(4, 57), (5, 58), (3, 56), (3, 56)], some [(3, 56)], some [(3, 56)], some [(7, 60), (8, 61), (3, 56)], some [(3, 56)], none, none, none, none] [(0, 53), (1, 54), (2, 55), (3, 56), (4, 57), (5, 58), (6, 59), (7, 60), (8, 61), (9, 62), (10, 63)] _ (by kernel_rfl) (by decide) (by kernel_rfl) (by kernel_rfl) rfl G.refl (fun _ _ _ => G.trans) (w0 := w12) ((G.refl w12).drew) ?_ ?_ ?_
      · intro k v W W' g h
        match k, h with
        | 0, h => exact h
        | 1, h => exact h
        | 2, h => exact h
        | 3, h => exact h
        | 4, h => exact h
        | 5, h => exact h
        | 6, h => exact h
        | 7, h => exact h
        | 8, h => exact h
        | 9, h => exact Plus.grow h g
        | 10, h => exact h
        | n + 11, h => trivial
      · refine gAll_some (fun vals W g d => ?_) <| gAll_some (fun vals W g d => ?_) <| gAll_some (fun vals W g d => ?_) <| gAll_some (fun vals W g d => ?_) <| gAll_some (fun vals W g d => ?_) <| gAll_some (fun vals W g d => ?_) <| gAll_some (fun vals W g d => ?_) <| gAll_some (fun vals W g d => ?_) <| gAll_some (fun vals W g d => ?_) <| gAll_some (fun vals W g d => ?_) <| gAll_some (fun vals W g d => ?_) <| gAll_none <| gAll_none <| gAll_none <| gAll_none gAll_nil
        · refine gOp_one rfl rfl rfl fun K hK => ?_
          simp only [gFr] at hK ⊢
          go_simp
          exact hK _ _ (G.refl _) rfl
        · refine gOp_one rfl rfl rfl fun K hK => ?_
          simp only [gFr] at hK ⊢
          go_simp
          exact hK _ _ (G.refl _) rfl
        · refine gOp_one rfl rfl rfl fun K hK => ?_
          obtain ⟨d0, d1, _⟩ := d
          change vals 0 = _ at d0
          change vals 1 = _ at d1
          simp only [gFr, d0, d1] at hK ⊢
          go_simp
          refine (equal_ints (HAO.out.grow g).nums (HBO.out.grow g).nums hale hale).use ?_
          intro W' hg
          exact hK _ _ hg (by show Value.bool _ = _; simp)
        · refine gOp_one rfl rfl rfl fun K hK => ?_
          obtain ⟨d0, _⟩ := d
          change vals 2 = _ at d0
          simp only [gFr, d0] at hK ⊢
          go_simp
          exact hK _ _ (G.refl _) rfl
        · obtain ⟨d0, _⟩ := d
          change vals 3 = _ at d0
          refine gOp_yes2 (t := 57) (g := 3) (tg := 56) rfl rfl (by decide) (by decide) rfl d0 rfl rfl fun K hK => ?_
          simp only [gFr, d0] at hK ⊢
          obtain ⟨c0, c1⟩ := (HB.out.grow g).e
          go_simp
          exact hK _ _ (G.refl _) rfl
        · obtain ⟨d0, _⟩ := d
          change vals 3 = _ at d0
          refine gOp_yes2 (t := 58) (g := 3) (tg := 56) rfl rfl (by decide) (by decide) rfl d0 rfl rfl fun K hK => ?_
          simp only [gFr, d0] at hK ⊢
          go_simp
          exact hK _ _ (G.refl _) rfl
        · obtain ⟨d4, d5, d0, _⟩ := d
          change vals 3 = _ at d0
          change vals 4 = _ at d4
          change vals 5 = _ at d5
          refine gOp_yes2 (t := 59) (g := 3) (tg := 56) rfl rfl (by decide) (by decide) rfl d0 rfl rfl fun K hK => ?_
          simp only [gFr, d0, d4, d5] at hK ⊢
          go_simp
          refine (best_any ver _ xs s W (HI.out.grow (HG.out.trans g)) HFI.out (by omega) (HM.out.grow (HG.out.trans g))).use ?_
          intro v W' h1 hg
          exact hK _ _ hg h1
        · obtain ⟨d0, _⟩ := d
          change vals 3 = _ at d0
          refine gOp_yes2 (t := 60) (g := 3) (tg := 56) rfl rfl (by decide) (by decide) rfl d0 rfl rfl fun K hK => ?_
          simp only [gFr, d0] at hK ⊢
          obtain ⟨c0, c1⟩ := (HB.out.grow g).e
          go_simp
          exact hK _ _ (G.refl _) rfl
        · obtain ⟨d0, _⟩ := d
          change vals 3 = _ at d0
          refine gOp_yes2 (t := 61) (g := 3) (tg := 56) rfl rfl (by decide) (by decide) rfl d0 rfl rfl fun K hK => ?_
          simp only [gFr, d0] at hK ⊢
          obtain ⟨k0, k1, k2, k3, k4, k5, k6, k7, k8, k9, k10, k11, k12, k13, k14⟩ := ((HB.out.grow g).it (HX.out.grow (HG.out.trans g))).e
          go_simp
          exact hK _ _ (G.refl _) rfl
        · obtain ⟨d7, d8, d0, _⟩ := d
          change vals 3 = _ at d0
          change vals 7 = _ at d7
          change vals 8 = _ at d8
          refine gOp_yes2 (t := 62) (g := 3) (tg := 56) rfl rfl (by decide) (by decide) rfl d0 rfl rfl fun K hK => ?_
          simp only [gFr, d0, d7, d8] at hK ⊢
          go_simp
          refine (plus_any ver _ xs x _ _ W (HI.out.grow (HG.out.trans g)) HF.out (HX.out.grow (HG.out.trans g)) (by omega)).use ?_
          intro v W' h1 hg
          exact hK _ _ hg h1
        · obtain ⟨d0, _⟩ := d
          change vals 3 = _ at d0
          refine gOp_yes2 (t := 63) (g := 3) (tg := 56) rfl rfl (by decide) (by decide) rfl d0 rfl rfl fun K hK => ?_
          simp only [gFr, d0] at hK ⊢
          go_simp
          exact hK _ _ (G.refl _) rfl
      · intro vals W g d
        simp only [gFacts_cons, gFacts_nil] at d
        obtain ⟨d0, d1, d2, d3, d4, d5, d6, d7, d8, d9, d10, _⟩ := d
        change vals 0 = _ at d0
        change vals 1 = _ at d1
        change vals 2 = _ at d2
        change vals 3 = _ at d3
        change vals 4 = _ at d4
        change vals 5 = _ at d5
        obtain ⟨l1, hl1, d6⟩ : BestP xs s (vals 6) := d6
        change vals 7 = _ at d7
        change vals 8 = _ at d8
        change vals 10 = _ at d10
        obtain ⟨u, hu, hui, ua', uc', huf⟩ := d9
        change vals 9 = _ at hu
        subst huf
        have HG := hid (HG.out.trans g)
        refine ⟨?_⟩
        show wpList _ _ _ [_, _, _, _] _ _
        simp only [gFr, d0, d1, d2, d3, d4, d5, d6, d7, d8, hu, d10]
        clear d0 d1 d2 d3 d4 d5 d6 d7 d8 hu d10
        have hall := best_any ver _ (xs ++ [x]) s W hui (fine_plus HFI.out HT1.out HT2.out) (by omega) (HM.out.grow HG.out)
        unfold cardV at hall ⊢
        simp only [List.length_append, List.length_singleton] at hall ⊢
        have HALL := hid hall
        obtain rfl := sorted_unique hl1 HA.out
        clear hui hall c0 c1 hl1
        go_wp2_with fail
        refine HALL.out.use ?_
        rintro v w14 ⟨l2, hl2, rfl⟩ g14
        have HG := hid (HG.out.trans g14)
        obtain rfl := sorted_unique hl2 HLB.out
        clear hl2 g14
        go_wp2_with fail
        go_ret
        exact ⟨rfl, HG.out⟩

end Go.Proofs.YtniidkkldoijcaaDoor
