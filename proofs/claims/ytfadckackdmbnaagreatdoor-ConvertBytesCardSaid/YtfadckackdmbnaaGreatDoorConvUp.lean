/-
  CONTRACT of convert.Up, out of those of labels and one.
-/
import Derived.Test.YtfadckackdmbnaaGreatDoorMA52
import Derived.Test.YtfadckackdmbnaaGreatDoorMA47
import Derived.Test.YtfadckackdmbnaaGreatDoorMA61
import Derived.Deep.AppendLies
namespace Go.Proofs.YtfadckackdmbnaaGreatDoor
open Go.RowKit
set_option linter.unusedVariables false
set_option linter.unusedSimpArgs false
def blkL (v : Value) : List Nat := match v.ownBlock with | none => [] | some b => [b]
def UpR (ver : Int) (xs : List It) (r : Value) (w : World) : Prop :=
  (ver = 3 ∧ ∃ ys u, upX xs = some ys ∧ r = .tuple #[cardV 4 u, .nilIface] ∧ IsItems w u ys ∧ Frm u) ∨
  ((¬ (ver = 3 ∧ ∃ ys, upX xs = some ys)) ∧ ∃ t e, r = .tuple #[cardV 0 (.slice none 0 0), .iface t e] ∧ ∃ c k, IsErr w (.iface t e) (some (c, k)) ∧ c ≠ 0 ∧ (rightC ver xs = true → ver ≠ 3 → c = 6) ∧ (rightC ver xs = true → ver = 3 → c = 13) ∧ (rightC ver xs = false → FirstBad ver xs c))
def woC (C : Option Nat) (w : World) : World := match C with | none => w | some b => Wo b w
theorem Sub.app {w w' : World} {C : Option Nat} {g : Nat} (m : w.grownBy w' C) (hg : C = some g ∨ w.heap.size ≤ g) : Sub (woC C w) (Wo g w') := by
  have key : ∀ (p : Addr) (u : Value), p.block ≠ g → C ≠ some p.block → w.cell? p = some u → (Wo g w').cell? p = some u := fun p u h1 h2 e => by
    rw [World.cell?_of_block (Wo.other g w' _ h1), World.cell?_of_block (m.block p.block (World.block_lt_of_cell? _ _ e) (fun q => h2 q.symm))]
    exact e
  cases C with
  | none =>
    show Sub w (Wo g w')
    refine ⟨by rw [Wo.size]; exact m.size, fun p u e => key p u ?_ (by simp) e⟩
    have : p.block < w.heap.size := World.block_lt_of_cell? w p e
    rcases hg with h | h
    · cases h
    · omega
  | some b =>
    show Sub (Wo b w) (Wo g w')
    refine ⟨by rw [Wo.size, Wo.size]; exact m.size, fun p u e => ?_⟩
    have h1 := Wo.not e
    have e2 := Wo.cell b w p u e
    have h2 := World.block_lt_of_cell? _ _ e2
    refine key p u ?_ (fun q => h1 (Option.some.inj q).symm) e2
    rcases hg with h | h
    · cases h; exact h1
    · omega
theorem blk_wl (v : Value) (w : World) : Wl (blkL v) w = woC v.ownBlock w := by
  unfold blkL woC
  cases v.ownBlock <;> rfl
theorem ret_card {fn : Func} {Q : Ending → World → Prop} {a : Act} {WF : World} {X s t : Nat} {c0 c1 e : Value} (hres : fn.results = #[.cell s 27, .tmp t]) (hp : a.tmps.getD s undef = .pointer (some ⟨X, 0, none⟩)) (hb : a.tmps.getD t undef = e) (hd : a.defers = []) (hrow : WF.heap[X]? = some (.cells #[c0, c1] 27 (0, 0))) (hQ : Q (.returned (.tuple #[.agg #[c0, c1], e])) WF) : bodyPost Tryz.prog fn Q .ret a WF := by
  obtain ⟨e0, e1⟩ := box2c hrow
  refine bodyPost_ret (v := .tuple #[.agg #[c0, c1], e]) ?_ hd hQ
  have hp2 : a.tmps[s]?.getD undef = .pointer (some ⟨X, 0, none⟩) := by simpa using hp
  have hb2 : a.tmps[t]?.getD undef = e := by simpa using hb
  simp only [results, hres]
  go_simp
theorem put2c {W : World} {X : Nat} {a0 a1 b0 b1 : Value} {T : TypeId} (h : W.heap[X]? = some (.cells #[a0, a1] T (0, 0))) : ((W.setCell ⟨X, 0, none⟩ b0).setCell ⟨X, 1, none⟩ b1).heap[X]? = some (.cells #[b0, b1] T (0, 0)) := by
  simp [World.setCell, Array.getElem?_modify, h]
theorem own_set {w : World} {base : Nat} {t : TypeId} {k n i X : Nat} {v u : Value} {cs : List Value} (h : w.ownsRow base t k v n cs) (hX : X < base) : (w.setCell ⟨X, i, none⟩ u).ownsRow base t k v n cs := h.kept (mv_set w X i u) (row_under h hX)
structure UpS (w1 wo wr : World) (L : List Nat) (O : Nat) (ov : Value) (ys : List It) (ds : List Value) : Prop where
  box : wr.heap[O]? = some (.cells #[.int .i64 4, ov] 27 (0, 0))
  own : OwnR wo.heap.size wr ov ys.length ds
  row : ItRow (Wl (blkL ov ++ L) wr) ys ds
  g : G w1 wr
theorem blkL_lt {w : World} {base : Nat} {v : Value} {n : Nat} {cs : List Value} (h : OwnR base w v n cs) : ∀ X ∈ blkL v, X < w.heap.size ∧ base ≤ X := fun X hx => by
  unfold blkL at hx
  cases hv : v.ownBlock with
  | none => rw [hv] at hx; cases hx
  | some b =>
    rw [hv] at hx
    have := List.mem_singleton.1 hx
    subst this
    exact ⟨(h.lt _ hv).2, (h.lt _ hv).1⟩
theorem Wl.app : ∀ (A B : List Nat) (w : World), Wl (A ++ B) w = Wl B (Wl A w)
  | [], B, w => rfl
  | X :: A, B, w => Wl.app A B (Wo X w)
theorem Wl.of {w w' : World} (h : G w w') : ∀ {L : List Nat}, (∀ X ∈ L, w.heap.size ≤ X) → G w (Wl L w') := by
  intro L
  induction L generalizing w' with
  | nil => intro _; exact h
  | cons X L ih => intro hX; exact ih (Wo.of h (hX X List.mem_cons_self)) (fun Y hY => hX Y (List.mem_cons_of_mem _ hY))
theorem Wl.notin {p : Addr} {u : Value} : ∀ {L : List Nat} {w : World}, (Wl L w).cell? p = some u → ∀ X ∈ L, p.block ≠ X
  | [], _, _, X, h => by cases h
  | Y :: L, w, e, X, h => by
    rcases List.mem_cons.1 h with rfl | h
    · exact Wo.not ((Wl.sub L _).cell _ _ e)
    · exact Wl.notin (L := L) (w := Wo Y w) e X h
theorem Wl.step {w w' : World} {L A : List Nat} {O : Nat} (m : w.grownBy w' (some O)) (hO : O ∈ L) (hA : ∀ X ∈ A, w.heap.size ≤ X) : Sub (Wl L w) (Wl (A ++ L) w') := ⟨by rw [Wl.size, Wl.size]; exact m.size, fun p u e => by
  have h1 := Wl.notin e
  have e2 := (Wl.sub L w).cell p u e
  have h2 := World.block_lt_of_cell? w p e2
  rw [World.cell?_of_block (Wl.other (L := A ++ L) (w := w') (fun X hX => by
    rcases List.mem_append.1 hX with h | h
    · have := hA X h; omega
    · exact h1 X h)), World.cell?_of_block (m.block p.block h2 (fun q => h1 O hO (Option.some.inj q)))]
  exact e2⟩
theorem IsErr.put {w : World} {v : Value} {c : Int} {k : Option Nat} {X : Nat} {a0 : Value} {s : Option Addr} {n cp : Nat} {T : TypeId} (h : IsErr w v (some (c, k))) (hX : w.heap[X]? = some (.cells #[a0, .slice s n cp] T (0, 0))) (b0 b1 : Value) : IsErr ((w.setCell ⟨X, 0, none⟩ b0).setCell ⟨X, 1, none⟩ b1) v (some (c, k)) := by
  cases k with
  | none => exact h
  | some k =>
    obtain ⟨b, e, h0, h1, h2⟩ := h
    have hne : b ≠ X := by
      rintro rfl
      rw [cell_of_row w b 1 _ _ _ hX] at h1
      cases h1
    have far : ∀ (w : World) (i j : Nat) (v : Value), (w.setCell ⟨X, i, none⟩ v).cell? ⟨b, j, none⟩ = w.cell? ⟨b, j, none⟩ := fun w i j v => World.cell?_setCell_other _ _ _ _ (by intro e; injection e with e; exact hne e.symm)
    exact ⟨b, e, by rw [far, far]; exact h0, by rw [far, far]; exact h1, by simpa using h2⟩
theorem UpR.no13 {xs : List It} {w : World} {k : Option Nat} {t : TypeId} {e : Value} (hok : rightC 3 xs = true) (hf : upX xs = none) (he : IsErr w (.iface t e) (some (13, k))) : UpR 3 xs (.tuple #[cardV 0 (.slice none 0 0), .iface t e]) w :=
  .inr ⟨(by rintro ⟨_, ys, hy⟩; rw [hf] at hy; cases hy), t, e, rfl, 13, k, he, by decide, fun _ h => absurd rfl h, fun _ _ => rfl, fun h => (by rw [hok] at h; cases h)⟩
theorem upX_fail {xs : List It} {i : Nat} {x : It} (hx : (labelsX xs)[i]? = some x) (hb : (oneX x).2 = false) : upX xs = none := by
  unfold upX
  split
  · rw [if_neg]
    rw [Bool.not_eq_true, List.all_eq_false]
    exact ⟨x, List.mem_of_getElem? hx, by rw [hb]; decide⟩
  · rfl
theorem OwS.gr {w w' : World} {base : Nat} {v : Value} {n : Nat} {cs : List Value} (h : OwnR base w v n cs) (g : G w w') : OwnR base w' v n cs := own_grow h g
set_option maxRecDepth 100000 in
set_option maxHeartbeats 16000000 in
theorem up_gen (ver : Int) (iv : Value) (xs : List It) (w : World) (h : IsItems w iv xs) (hl : xs.length ≤ 1000) (hs : ∀ x ∈ xs, Sml x) (hR : RMem w) (hM : HasM w) (hE : LaidE w)
    (hLB : ∀ (L : List Nat) (W : World), G w W → (∀ X ∈ L, w.heap.size ≤ X ∧ X < W.heap.size) → Makes 57 #[iv] W (fun r w' => ∃ ds, OwnR W.heap.size w' r (labelsX xs).length ds ∧ ItRow (Wl L w') (labelsX xs) ds))
    (hON : ∀ x ∈ labelsX xs, ∀ (L : List Nat) (W : World) (pv lv : Value), (∀ X ∈ L, X < W.heap.size) → ItOk (Wl L W) x pv lv → Makes 58 #[x.val pv lv] W (fun r w' => ItB (Wl L w') r (oneX x)))
    (hll : (labelsX xs).length ≤ 1000) (hs2 : ∀ x ∈ labelsX xs, Sml (oneX x).1) : Makes 19 #[cardV ver iv] w (fun r w' => UpR ver xs r w') := by
  have RT := hid (fun W (g : G w W) => cardRight_any ver iv xs W (h.grow g) hl hs (hR.grow g) (hM.grow g) (hE.grow g))
  have RT2 := hid (fun W ov ys (g : G w W) (hi : IsItems W ov ys) (h1 : ys.length ≤ 1000) (h2 : ∀ y ∈ ys, Sml y) => cardRight_any 4 ov ys W hi h1 h2 (hR.grow g) (hM.grow g) (hE.grow g))
  have LB := hid hLB
  have ON := hid hON
  have HS2 := hid hs2
  obtain ⟨ia, ic, rfl, _⟩ := h.len
  obtain ⟨i0, hi, hz0, hz1, hz2⟩ := info_parts infoItem
  unfold cardV at RT RT2
  clear h hs hR hM hE hLB hON hs2
  unfold cardV
  go_enter Tryz.func19, Tryz.ntmps19
  go_wp2_with fail
  generalize hw0 : (w.alloc _).alloc _ = w0
  have HB0 := hid (show w0.heap[w.heap.size]? = some (.cells #[.int .i64 ver, .slice ia xs.length ic] 27 (0, 0)) by rw [← hw0, Lib.alloc_old _ _ _ (by simp)]; exact heap_alloc_new w _)
  have HX0 := hid (show w0.heap[w.heap.size + 1]? = some (.cells #[.int .i64 0, .slice none 0 0] 27 (0, 0)) by rw [← hw0]; exact new_2 _ _ _)
  have G0 := hid (show G w w0 by rw [← hw0]; exact ((G.refl w).alloc _).alloc _)
  clear hw0
  refine (RT.out w0 G0.out).use ?_
  intro r w1 hr g1
  have HB1 := hid (row_up HB0.out g1)
  have HX1 := hid (row_up HX0.out g1)
  have G1 := hid (G0.out.trans g1)
  clear g1
  obtain ⟨x0, x1⟩ := box2c HX1.out
  have fx := fun i => Lib.frozen_of_heap HX1.out i
  rcases hr with ⟨hok, rfl⟩ | ⟨hno, c, k, he, hc, hfb⟩
  case inr =>
    have HNO := hid hno
    have HE := hid he
    have HC := hid hc
    have HFB := hid hfb
    obtain ⟨t, e, rfl⟩ := IsErr.iface he
    clear hno he hc hfb
    go_wp2_with fail
    refine ret_card rfl rfl rfl rfl (put2c HX1.out) ⟨_, rfl, ?_, g_set (g_set G1.out (by omega)) (by omega)⟩
    refine .inr ⟨fun ⟨e3, ys, hy⟩ => ?_, _, _, rfl, c, k, IsErr.put HE.out HX1.out _ _, HC.out, fun h => absurd h (by rw [HNO.out]; decide), fun h => absurd h (by rw [HNO.out]; decide), fun _ => HFB.out⟩
    subst e3
    unfold upX at hy
    rw [if_neg (by rw [HNO.out]; decide)] at hy
    cases hy
  have HOK := hid hok
  clear hok
  by_cases hv : ver = 3
  case neg =>
    have bv : (ver != 3) = true := by simpa using hv
    have HV := hid hv
    obtain ⟨c0, c1⟩ := box2c HB1.out
    clear hv
    go_wp2_with fail
    exact ret_card rfl rfl rfl rfl (put2c HX1.out) ⟨_, rfl, .inr ⟨fun ⟨e3, _⟩ => HV.out e3, _, _, rfl, 6, none, rfl, by decide, fun _ _ => rfl, fun _ e3 => absurd e3 HV.out, fun h => absurd HOK.out (by rw [h]; decide)⟩, g_set (g_set G1.out (by omega)) (by omega)⟩
  subst hv
  have hb2 := row_up HB1.out ((G.refl w1).alloc (.cells #[.int .i64 4, .slice none 0 0] 27))
  have hxo := lt_of_row HX1.out
  obtain ⟨c0, c1⟩ := box2c HB1.out
  obtain ⟨c0', c1'⟩ := box2c hb2
  go_wp2_with fail
  clear c0' c1' hb2 c0 c1
  generalize hw2 : w1.alloc _ = w2
  have HO2 := hid (show w2.heap[w1.heap.size]? = some (.cells #[.int .i64 4, .slice none 0 0] 27 (0, 0)) by rw [← hw2]; exact heap_alloc_new w1 _)
  have G12 := hid (show G w1 w2 by rw [← hw2]; exact (G.refl w1).alloc _)
  have G2 := hid (G1.out.trans G12.out)
  have HX2 := hid (row_up HX1.out G12.out)
  have LBB := hid (LB.out [w.heap.size + 1, w1.heap.size] w2 G2.out (fun X hX => by
    have := lt_of_row HX2.out
    have := lt_of_row HO2.out
    have := G1.out.size
    simp at hX
    rcases hX with rfl | rfl <;> omega))
  clear hw2 x0 x1 fx
  refine LBB.out.use ?_
  rintro r w3 ⟨ds0, how, hir⟩ g3
  obtain ⟨ra, rc, rfl⟩ := own_sl how
  have hXL : ∀ X ∈ [w.heap.size + 1, w1.heap.size], X < w2.heap.size := fun X hX => by
    have := lt_of_row HX2.out
    have := lt_of_row HO2.out
    simp at hX
    rcases hX with rfl | rfl <;> omega
  have HXL := hid hXL
  have LI := hid (show IsItems (Wl [w.heap.size + 1, w1.heap.size] w3) (.slice ra (labelsX xs).length rc) (labelsX xs) from (OwnR.lies (Wl.own how hXL) hir.one).items hir)
  have G3 := hid (G2.out.trans g3)
  have HX3 := hid (row_up HX2.out g3)
  have HO3 := hid (row_up HO2.out g3)
  have K3 := hid (G12.out.trans g3)
  obtain ⟨ls, hls⟩ : ∃ ls, ls = labelsX xs := ⟨_, rfl⟩
  rw [← hls] at LI hll ON HS2 ⊢
  have HLS := hid hls
  have hs3 := g3.size
  clear how hir g3 hls LBB LB hXL RT
  go_wp2_with fail
  go_loopw [26] (fun i wr => ∃ (k : Nat) (ys : List It) (ds : List Value) (ov : Value), k ≤ ls.length ∧ i = .int .i64 k ∧ ys = (ls.take k).map (fun x => (oneX x).1) ∧ (∀ (j : Nat) (x : It), j < k → ls[j]? = some x → (oneX x).2 = true) ∧ UpS w1 w3 wr [w.heap.size + 1, w1.heap.size] w1.heap.size ov ys ds ∧ w3.grownBy wr (some w1.heap.size)) (fun i _ => ls.length - (intOf i).toNat)
  case atStart => exact ⟨0, [], [], .slice none 0 0, Nat.zero_le _, rfl, rfl, fun j x h => by omega, ⟨HO3.out, World.ownsRow_nil _ _ _ _, rfl, K3.out⟩, mv_refl _ _⟩
  case round =>
    obtain ⟨k, ys, ds, ov, hk, rfl, hys, hok, hst, hm⟩ := hrel
    have HYS := hid hys
    have HKO := hid hok
    have HST := hid hst
    have HMV := hid hm
    obtain ⟨oa, oc, rfl⟩ := own_sl hst.own
    have hyl : ys.length = k := by rw [hys, List.length_map, List.length_take]; omega
    have hbl := blkL_lt hst.own
    have hA : ∀ X ∈ blkL (.slice oa ys.length oc), w3.heap.size ≤ X := fun X hX => (hbl X hX).2
    have hw3 := lt_of_row HX3.out
    have HXR := hid (show wr.heap[w.heap.size + 1]? = some (.cells #[.int .i64 0, .slice none 0 0] 27 (0, 0)) from (hm.block _ hw3 (fun e => by have := Option.some.inj e; omega)).trans HX3.out)
    have HOR := hid hst.box
    have hm3 := hm.size
    have hor := lt_of_row HO3.out
    have HLT := hid (show ∀ X ∈ blkL (.slice oa ys.length oc) ++ [w.heap.size + 1, w1.heap.size], X < wr.heap.size from fun X hX => by
      rcases List.mem_append.1 hX with h | h
      · exact (hbl X h).1
      · have := lt_of_row HXR.out
        have := lt_of_row HOR.out
        simp at h
        rcases h with rfl | rfl <;> omega)
    have LIR := hid (LI.out.sub0 (Wl.step hm (by simp) hA))
    have HAA := hid hA
    clear hys hok hst hm hbl hA
    by_cases hlt : k < ls.length
    · obtain ⟨b, off, cap, e, hb, hit⟩ := items_at LIR.out (by rintro rfl; simp at hlt)
      cases e
      have hx := List.getElem?_eq_getElem hlt
      obtain ⟨x, hxe⟩ : ∃ x, ls[k] = x := ⟨_, rfl⟩
      rw [hxe] at hx
      obtain ⟨pv, lv, hat⟩ := hit k x hx
      have hsg : ItAt wr b (off + k * 15) x pv lv := ⟨fun j u hu => (Wl.sub _ wr).cell _ _ (hat.c j u hu), hat.ok.sub (Wl.sub _ wr)⟩
      obtain ⟨pa, pc, rfl⟩ := hsg.ok.pv
      obtain ⟨la, lc, rfl⟩ := hsg.ok.lv
      obtain ⟨k0, k1, k2, k3, k4, k5, k6, k7, k8, k9, k10, k11, k12, k13, k14⟩ := hsg.e
      have HX := hid hx
      have hkl : (k : Int) < (ls.length : Int) := by omega
      have GA := hid ((G.refl wr).alloc (.cells (x.cells (.slice pa x.ps.length pc) (.slice la x.v.ps.length lc)).toArray 37))
      have ONE := hid (ON.out x (List.mem_of_getElem? hx) (blkL (.slice oa ys.length oc) ++ [w.heap.size + 1, w1.heap.size]) (wr.alloc (.cells (x.cells (.slice pa x.ps.length pc) (.slice la x.v.ps.length lc)).toArray 37)) (.slice pa x.ps.length pc) (.slice la x.v.ps.length lc) (fun X hX => Nat.lt_of_lt_of_le (HLT.out X hX) GA.out.size) (hat.ok.wo GA.out))
      have hsy := HS2.out x (List.mem_of_getElem? hx)
      clear hit hat hsg hx hxe
      go_wp2_with fail
      refine ONE.out.use ?_
      rintro r w4 ⟨ypv, ylv, rfl, hyo⟩ g4
      have HYO := hid hyo
      obtain ⟨y, hy⟩ : ∃ y, y = oneX x := ⟨_, rfl⟩
      rw [← hy] at HYO hyo ⊢
      obtain ⟨y, yb⟩ := y
      simp only at hyo HYO ⊢
      have HY := hid hy
      obtain ⟨pa4, pc4, rfl⟩ := hyo.un.pv
      obtain ⟨la4, lc4, rfl⟩ := hyo.un.lv
      have G4 := hid (GA.out.trans g4)
      clear hyo hy g4 k0 k1 k2 k3 k4 k5 k6 k7 k8 k9 k10 k11 k12 k13 k14 ONE hsy
      have GY := hid (G4.out.alloc (.cells (y.cells (.slice pa4 y.ps.length pc4) (.slice la4 y.v.ps.length lc4)).toArray 37))
      cases yb with
      | false =>
        have GZ := hid (GY.out.alloc (.cells #[.int .i64 13, .int .i64 k] 80))
        have hxz := row_up HXR.out GZ.out
        have HXZ := hid hxz
        obtain ⟨x0, x1⟩ := box2c hxz
        have fx := fun i => Lib.frozen_of_heap hxz i
        have HFL := hid (show upX xs = none from upX_fail (by rw [← HLS.out]; exact HX.out) (by rw [← HY.out]))
        have HGW := hid (show G w wr from G1.out.trans HST.out.g)
        clear hxz
        simp only [It.cells] at x0 x1 fx
        go_wp2_with fail
        refine ret_card rfl rfl rfl rfl (put2c HXZ.out) ⟨_, rfl, UpR.no13 (k := some k) HOK.out HFL.out (IsErr.put ?_ HXZ.out _ _), g_set (g_set (HGW.out.trans GZ.out) (by omega)) (by omega)⟩
        exact IsAt.newAt _ _ _ _ _ (by simp)
      | true =>
        have hoz := row_up HOR.out GY.out
        obtain ⟨o0, o1⟩ := box2c hoz
        obtain ⟨n, hn⟩ : ∃ n, n = ys.length := ⟨_, rfl⟩
        have hn1 : n ≤ 1000 := by omega
        have HSTO := HST.out.own
        have HSTB := HST.out.box
        have HSTR := HST.out.row
        rw [← hn] at HSTO HSTB HSTR o1
        have SO := hid HSTO
        have SR := hid HSTR
        have SB := hid HSTB
        have SG := hid HST.out.g
        have HN := hid hn
        have hbs : w3.heap.size ≤ w4.heap.size := Nat.le_trans hm3 G4.out.size
        clear hoz hn HSTO HSTB HSTR
        simp only [It.cells] at o0 o1
        go_wp2_with (at_builtin; refine wpList_append_lies _ rfl _ _ 25 rfl w3.heap.size 37 i0 _ 15 176 Tryz.underlying25 hi hz0 hz1 hz2 rfl (by decide) _ _ _ rfl (OwnR.grow SO.out (GY.out.alloc _)) ⟨w4.heap.size + 1, 0, none⟩ 1 1 (y.cells (.slice pa4 y.ps.length pc4) (.slice la4 y.v.ps.length lc4)) rfl rfl (fun j u hu => by rw [addr_add, Nat.zero_add, cell_of_row _ _ j _ _ _ (new_2 w4 _ _)]; simpa [It.cells] using hu) HYO.out.un.one (by omega) (by unfold maxLen; omega) (by omega) (by simp; omega) _ rfl ?_; intro g cap w7 hown' hgrow hg hglt; have hoz7 := (hgrow.block w1.heap.size (lt_of_row (row_up SB.out (GY.out.alloc _))) (fun e => by have := (SO.out.lt _ e.symm).1; omega)).trans (row_up SB.out (GY.out.alloc _)); have o17 := (box2c hoz7).2; have f17 := Lib.frozen_of_heap hoz7 1)
        have W6G := hid (GY.out.alloc (.cells (y.cells (.slice pa4 y.ps.length pc4) (.slice la4 y.v.ps.length lc4)).toArray 37))
        have hrow7 : ItRow (Wl (g :: [w.heap.size + 1, w1.heap.size]) w7) (ys ++ [y]) (ds ++ y.cells (.slice pa4 y.ps.length pc4) (.slice la4 y.v.ps.length lc4)) := by
          have hsub := Wl.mono (L := [w.heap.size + 1, w1.heap.size]) (Sub.app (C := (Value.slice oa n oc).ownBlock) hgrow (g := g) (by rcases hg with h | h; (· exact .inl h); exact .inr (by rw [h]; exact Nat.le_refl _)))
          rw [← blk_wl, ← Wl.app] at hsub
          have hyo2 := HYO.out
          rw [← HN.out] at hyo2
          refine ItRow.append ((SR.out.grow (Wl.g W6G.out)).sub hsub) (ItRow.single ((hyo2.grow (Wl.g ?_)).sub hsub))
          exact (((G.refl w4).alloc _).alloc _)
        have hmv8 : w3.grownBy (w7.setCell ⟨w1.heap.size, 1, none⟩ (.slice (some ⟨g, 0, none⟩) (n + 1) cap)) (some w1.heap.size) := mv_st (mv_own (mv_g HMV.out W6G.out) hgrow (fun j hj => .inr (SO.out.lt j hj).1))
        have hg8 : G w1 (w7.setCell ⟨w1.heap.size, 1, none⟩ (.slice (some ⟨g, 0, none⟩) (n + 1) cap)) := g_set (Below.grown (SG.out.trans W6G.out) hgrow (SG.out.trans W6G.out).size (fun j hj => by have := (SO.out.lt j hj).1; have := K3.out.size; omega)) (Nat.le_refl _)
        have hown8 := hown'.kept (mv_set w7 w1.heap.size 1 (.slice (some ⟨g, 0, none⟩) (n + 1) cap)) (row_under hown' hor)
        have hups : UpS w1 w3 (w7.setCell ⟨w1.heap.size, 1, none⟩ (.slice (some ⟨g, 0, none⟩) (n + 1) cap)) [w.heap.size + 1, w1.heap.size] w1.heap.size (.slice (some ⟨g, 0, none⟩) (n + 1) cap) (ys ++ [y]) (ds ++ y.cells (.slice pa4 y.ps.length pc4) (.slice la4 y.v.ps.length lc4)) := by
          refine ⟨put2p hoz7, ?_, ?_, hg8⟩
          · rw [List.length_append, ← HN.out]; exact hown8
          · show ItRow (Wl (g :: [w.heap.size + 1, w1.heap.size]) _) _ _
            rw [Wl.setm (by simp)]
            exact hrow7
        have HUPS := hid hups
        have HM8 := hid hmv8
        have HYS2 := hid (show ys ++ [y] = (ls.take (k + 1)).map (fun x => (oneX x).1) by
          rw [List.take_add_one, HX.out, List.map_append, HYS.out]
          simp [← HY.out])
        have HKO2 := hid (show ∀ (j : Nat) (x : It), j < k + 1 → ls[j]? = some x → (oneX x).2 = true from fun j z hj hz => by
          rcases Nat.lt_or_ge j k with h1 | h1
          · exact HKO.out j z h1 hz
          · obtain rfl : j = k := by omega
            rw [HX.out] at hz; cases hz; rw [← HY.out])
        clear hown' hgrow hg hglt hrow7 hmv8 hg8 hown8 hups
        go_wp2_with fail
        go_roundw
        case measure => simp [intOf]; omega
        case rel => exact ⟨k + 1, _, _, _, by omega, by go_num, HYS2.out, HKO2.out, HUPS.out, HM8.out⟩
    · obtain rfl : k = ls.length := by omega
      have hyl1 : ys.length ≤ 1000 := by omega
      clear hyl
      have HYF := hid (show ys = ls.map (fun x => (oneX x).1) by have := HYS.out; rwa [List.take_length] at this)
      have HIY := hid (show IsItems wr (.slice oa ys.length oc) ys from (OwnR.lies HST.out.own HST.out.row.one).items (HST.out.row.sub (Wl.sub _ wr)))
      have HGW := hid (show G w wr from G1.out.trans HST.out.g)
      have RR := hid (RT2.out wr (.slice oa ys.length oc) ys HGW.out HIY.out hyl1 (fun y hy => by
        rw [HYF.out] at hy
        obtain ⟨x, hx, rfl⟩ := List.mem_map.1 hy
        exact HS2.out x hx))
      have HALL := hid (show (labelsX xs).all (fun x => (oneX x).2) = true by
        rw [List.all_eq_true, ← HLS.out]
        intro x hx
        obtain ⟨j, hj, rfl⟩ := List.getElem_of_mem hx
        exact HKO.out j _ hj (List.getElem?_eq_getElem hj))
      obtain ⟨o0, o1⟩ := box2c HOR.out
      go_wp2_with fail
      refine RR.out.use ?_
      intro r w5 hr g5
      have HX5 := hid (row_up HXR.out g5)
      have HO5 := hid (row_up HOR.out g5)
      have G5 := hid (HGW.out.trans g5)
      have GS := hid g5
      clear o0 o1 g5
      obtain ⟨o0, o1⟩ := box2c HO5.out
      obtain ⟨x0, x1⟩ := box2c HX5.out
      have fx := fun i => Lib.frozen_of_heap HX5.out i
      rcases hr with ⟨hyes, rfl⟩ | ⟨hno, c, kk, he, hc, _⟩
      · have HUX := hid (show upX xs = some ys by
          unfold upX
          rw [if_pos HOK.out, if_pos HALL.out, ← HLS.out, ← HYF.out, if_pos hyes])
        clear hyes
        go_wp2_with fail
        refine ret_card rfl rfl rfl rfl (put2c HX5.out) ⟨_, rfl, .inl ⟨rfl, ys, .slice oa ys.length oc, HUX.out, rfl, ?_, own_frm HST.out.own⟩, g_set (g_set G5.out (by omega)) (by omega)⟩
        have ho5 := OwnR.grow HST.out.own GS.out
        have hr5 := HST.out.row.grow (Wl.g GS.out)
        refine (OwnR.lies (own_set (own_set ho5 (by omega)) (by omega)) hr5.one).items (ItRow.sub (Wl.sub (blkL (.slice oa ys.length oc) ++ [w.heap.size + 1, w1.heap.size]) _) ?_)
        rw [Wl.setm (by simp), Wl.setm (by simp)]
        exact hr5
      · have HFX := hid (show upX xs = none by
          unfold upX
          rw [if_pos HOK.out, if_pos HALL.out, ← HLS.out, ← HYF.out, if_neg (by rw [hno]; decide)])
        obtain ⟨t, e, rfl⟩ := IsErr.iface he
        clear hno he hc
        go_wp2_with fail
        exact ret_card rfl rfl rfl rfl (put2c HX5.out) ⟨_, rfl, UpR.no13 (k := none) HOK.out HFX.out rfl, g_set (g_set G5.out (by omega)) (by omega)⟩
end Go.Proofs.YtfadckackdmbnaaGreatDoor
