/-
  Texts merged into one: ConvRow, CardLemmas, With, DoorW, DoorR, DoorE, AnnOne.
-/
import Derived.Test.YtfadckackdmbnaaGreatDoorMA51
import Derived.Test.YtfadckackdmbnaaGreatDoorMA56
import Derived.Test.YtfadckackdmbnaaGreatDoorMA58
import Derived.Test.YtfadckackdmbnaaGreatDoorMVeil
import Derived.Deep.AppendLies
import Derived.Test.YtfadckackdmbnaaGreatDoorRows
import Derived.ChangeSame
import Derived.ChangeVars
import Derived.JoinedOf
import Derived.RowKit
import Derived.RowKitTokens
import Derived.LaidLaws
import Derived.LaidHandle
import Derived.Stop.Joined
import Derived.Lib.LaidU8
import Derived.Test.YtfadckackdmbnaaGreatDoorMRules
import Derived.Test.YtfadckackdmbnaaGreatDoorMTell
namespace Go.Proofs.YtfadckackdmbnaaGreatDoor
open Go.RowKit
set_option linter.unusedVariables false
set_option linter.unusedSimpArgs false
def Frm (v : Value) : Prop := v = .slice none 0 0 ∨ ∃ a n c, v = .slice (some a) n c
theorem own_frm {w : World} {base : Nat} {t : TypeId} {k n : Nat} {v : Value} {cs : List Value} (h : w.ownsRow base t k v n cs) : Frm v := by
  rcases h.2 with ⟨e, _⟩ | ⟨g, cap, cur, e, _⟩
  · exact .inl e
  · exact .inr ⟨_, _, _, e⟩
theorem own_sl {w : World} {base : Nat} {t : TypeId} {k n : Nat} {v : Value} {cs : List Value} (h : w.ownsRow base t k v n cs) : ∃ a c, v = .slice a n c := by
  rcases h.2 with ⟨e, h0⟩ | ⟨g, cap, cur, e, _⟩
  · exact ⟨none, 0, by rw [e, h0]⟩
  · exact ⟨_, _, e⟩
theorem own_succ {w : World} {base : Nat} {t : TypeId} {k n : Nat} {v : Value} {cs : List Value} (h : w.ownsRow base t k v (n + 1) cs) : ∃ g cap, v = .slice (some ⟨g, 0, none⟩) (n + 1) cap := by
  rcases h.2 with ⟨_, h0⟩ | ⟨g, cap, cur, e, _⟩
  · omega
  · exact ⟨g, cap, e⟩
structure PmR (w : World) (u : Value) (ps : List Pm) : Prop where
  p : IsParams w u ps
  f : Frm u
theorem PmR.grow {w w' : World} {u : Value} {ps : List Pm} (h : PmR w u ps) (g : G w w') : PmR w' u ps := ⟨h.p.grow g, h.f⟩
theorem PmR.sub {w w' : World} {u : Value} {ps : List Pm} (h : PmR w u ps) (g : Sub w w') : PmR w' u ps := ⟨h.p.sub g, h.f⟩
theorem Sub.refl (w : World) : Sub w w := ⟨Nat.le_refl _, fun _ _ h => h⟩
theorem Sub.trans {a b c : World} (h : Sub a b) (k : Sub b c) : Sub a c := ⟨Nat.le_trans h.size k.size, fun p u e => k.cell p u (h.cell p u e)⟩
theorem Wo.not {C : Nat} {w : World} {p : Addr} {u : Value} (h : (Wo C w).cell? p = some u) : p.block ≠ C := by
  intro hb
  unfold World.cell? at h
  by_cases hl : C < w.heap.size
  · have : (Wo C w).heap[p.block]? = some (.cells #[] 0 (0, 0)) := by rw [hb]; unfold Wo; simp [hl]
    rw [this] at h
    simp at h
  · have : (Wo C w).heap[p.block]? = none := by rw [hb]; exact Array.getElem?_eq_none (by rw [Wo.size]; omega)
    rw [this] at h
    simp at h
theorem Sub.wo {a b : World} (h : Sub a b) (C : Nat) : Sub (Wo C a) (Wo C b) := ⟨by rw [Wo.size, Wo.size]; exact h.size, fun p u e => by
  have hn := Wo.not e
  rw [World.cell?_of_block (Wo.other C b _ hn)]
  exact h.cell p u (Wo.cell C a p u e)⟩
def Wl : List Nat → World → World
  | [], w => w
  | X :: L, w => Wl L (Wo X w)
theorem Wl.size : ∀ (L : List Nat) (w : World), (Wl L w).heap.size = w.heap.size
  | [], w => rfl
  | X :: L, w => (Wl.size L _).trans (Wo.size X w)
theorem Wl.g {w w' : World} (h : G w w') : ∀ {L : List Nat}, G (Wl L w) (Wl L w') := by
  intro L
  induction L generalizing w w' with
  | nil => exact h
  | cons X L ih => exact ih (Wo.g h)
theorem Wl.sub : ∀ (L : List Nat) (w : World), Sub (Wl L w) w
  | [], w => Sub.refl w
  | X :: L, w => (Wl.sub L _).trans (Wo.sub X w)
theorem Wl.mono {a b : World} (h : Sub a b) : ∀ {L : List Nat}, Sub (Wl L a) (Wl L b) := by
  intro L
  induction L generalizing a b with
  | nil => exact h
  | cons X L ih => exact ih (h.wo X)
theorem Wl.tail (X : Nat) (L : List Nat) (w : World) : Sub (Wl (X :: L) w) (Wl L w) := Wl.mono (Wo.sub X w)
theorem Wl.own {base : Nat} {t : TypeId} {k n : Nat} {v : Value} {cs : List Value} : ∀ {L : List Nat} {w : World}, w.ownsRow base t k v n cs → (∀ X ∈ L, X < base) → (Wl L w).ownsRow base t k v n cs
  | [], w, h, _ => h
  | X :: L, w, h, hX => Wl.own (L := L) (own_wo h (hX X List.mem_cons_self)) (fun Y hY => hX Y (List.mem_cons_of_mem _ hY))
theorem Wl.other {b : Nat} : ∀ {L : List Nat} {w : World}, (∀ X ∈ L, b ≠ X) → (Wl L w).heap[b]? = w.heap[b]?
  | [], w, _ => rfl
  | X :: L, w, h => (Wl.other (L := L) (fun Y hY => h Y (List.mem_cons_of_mem _ hY))).trans (Wo.other X w b (h X List.mem_cons_self))
theorem Wl.set (X : Nat) (L : List Nat) (w : World) (i : Nat) (v : Value) : Wl (X :: L) (w.setCell ⟨X, i, none⟩ v) = Wl (X :: L) w := by
  show Wl L (Wo X _) = Wl L (Wo X w)
  rw [Wo.set]
theorem Wl.into {X : Nat} {L : List Nat} {w w' : World} (h : G w w') (hX : w.heap.size ≤ X) : G (Wl L w) (Wl (X :: L) w') := Wl.g (Wo.of h hX)
theorem PmR.wo {w w' : World} {u : Value} {ps : List Pm} {L : List Nat} (h : PmR (Wl L w) u ps) (g : G w w') : PmR (Wl L w') u ps := h.grow (Wl.g g)
theorem PmR.un {w : World} {u : Value} {ps : List Pm} {L : List Nat} (h : PmR (Wl L w) u ps) : PmR w u ps := h.sub (Wl.sub L w)
theorem PmR.into {w w' : World} {u : Value} {ps : List Pm} {X : Nat} {L : List Nat} (h : PmR (Wl L w) u ps) (g : G w w') (hX : w.heap.size ≤ X) : PmR (Wl (X :: L) w') u ps := h.grow (Wl.into g hX)
set_option maxRecDepth 100000 in
set_option maxHeartbeats 2000000 in
theorem cwith_any (L : List Nat) (l : Value) (nm : List UInt8) (sv : Value) (vs : List (List UInt8)) (ps : List Pm) (w : World) (hX : ∀ X ∈ L, X < w.heap.size) (h : PmR (Wl L w) l ps) (hv : IsStrs (Wl L w) sv vs) (hl : ps.length ≤ 10000) : Makes 96 #[l, .string (S nm), sv] w (fun u w' => PmR (Wl L w') u (ps ++ [(nm, vs)])) := by
  obtain ⟨xs, hxs, hst, hrow0⟩ := h.p.row h.f
  have hrow := hrow0.sub (Wl.sub L w)
  clear hrow0
  subst hxs
  obtain ⟨i0, hi, hz0, hz1, hz2⟩ := info_parts infoParam
  have CL := hid (clone_pm l xs.length _ w hrow (by simp at hl; omega) w (G.refl w))
  have HST := hid hst
  have HV := hid hv
  have hxl : xs.length ≤ 10000 := by simpa using hl
  obtain ⟨la, lc, rfl⟩ : ∃ a c, l = .slice a xs.length c := by
    obtain ⟨a, c, e, _⟩ := h.p
    exact ⟨a, c, by simpa using e⟩
  obtain ⟨sa, sc, rfl, _⟩ := hv.len
  clear h hrow hst hv hl
  go_enter Tryz.func96, Tryz.ntmps96
  go_wp2_with fail
  refine CL.out.mono ?_
  rintro e w2 ⟨u, rfl, hown, hg⟩
  have HOWN := hid hown
  have HG := hid hg
  obtain ⟨ua, uc, rfl⟩ := own_sl hown
  have hsz := hg.size
  clear hown hg
  go_wp2_with (at_builtin; refine wpList_append_own _ rfl _ _ 35 rfl w.heap.size 48 i0 _ 2 40 Tryz.underlying35 hi hz0 hz1 hz2 rfl (by decide) _ _ _ rfl (HOWN.out.alloc _) ⟨w2.heap.size, 0, none⟩ 1 1 [.string (S nm), .slice sa vs.length sc] rfl rfl (fun j x hx => by rw [addr_add, Nat.zero_add, cell_of_row _ _ j _ _ _ (heap_alloc_new w2 _)]; simpa using hx) (by intro x hx; simp at hx; rcases hx with rfl | rfl <;> rfl) (by unfold maxLen; omega) (by omega) (by simp; omega) ?_; intro v' w3 hown' hgrow hnil)
  obtain ⟨b', cap', rfl⟩ := own_succ hown'
  go_wp2_with fail
  go_ret
  have g3 : G w w3 := Below.grown (HG.out.alloc _) hgrow (by simp; omega) (fun j hj => (HOWN.out.lt j hj).1)
  refine ⟨_, rfl, ⟨params_more (w := Wl L w) HST.out HV.out (Wl.g g3) (Wl.own hown' hX), .inr ⟨_, _, _, rfl⟩⟩, g3⟩
set_option maxRecDepth 100000 in
set_option maxHeartbeats 1000000 in
theorem without_fn (x : PmC) (n : List UInt8) (nb : Nat) (W : World) (hc : W.cell? ⟨nb, 0, none⟩ = some (.string (S n))) (hx : x.1.1.length ≤ 1000000) (hn : n.length ≤ 1000000) : Gives 152 #[valP x, .pointer (some ⟨nb, 0, none⟩)] W (.bool (sameL x.1.1 n)) := by
  have hc2 : (W.alloc (.cells #[.string (S x.1.1), .slice x.2.1 x.2.2.1 x.2.2.2] 48)).cell? ⟨nb, 0, none⟩ = some (.string (S n)) := by rw [((G.refl W).alloc _).cell (World.block_lt_of_cell? _ _ hc)]; exact hc
  go_enter Tryz.func152, Tryz.ntmps152
  go_wp2_with fail
  refine (same_any x.1.1 n _ (by omega) (by omega)).use ?_
  intro w2 g2
  go_wp2_with fail
  go_ret
  exact ⟨rfl, ((G.refl W).alloc _).trans g2⟩
set_option maxRecDepth 100000 in
set_option maxHeartbeats 2000000 in
theorem without_any (L : List Nat) (l : Value) (n : List UInt8) (ps : List Pm) (w : World) (hX : ∀ X ∈ L, X < w.heap.size) (h : PmR (Wl L w) l ps) (hl : ps.length ≤ 10000) (hp : ∀ p ∈ ps, p.1.length ≤ 1000000) (hn : n.length ≤ 1000000) : Makes 101 #[l, .string (S n)] w (fun u w' => PmR (Wl L w') u (withoutL ps n)) := by
  obtain ⟨xs, hxs, hst, hrow0⟩ := h.p.row h.f
  have hrow := hrow0.sub (Wl.sub L w)
  clear hrow0
  subst hxs
  have CL := hid (fun W (g : G w W) => clone_pm l xs.length _ w hrow (by simp at hl; omega) W g)
  have HST := hid hst
  have hxl : xs.length ≤ 10000 := by simpa using hl
  have HN := hid (show ∀ x ∈ xs, x.1.1.length ≤ 1000000 from fun x hx => hp x.1 (List.mem_map_of_mem hx))
  obtain ⟨la, lc, rfl⟩ : ∃ a c, l = .slice a xs.length c := by
    obtain ⟨a, c, e, _⟩ := h.p
    exact ⟨a, c, by simpa using e⟩
  clear h hrow hst hl hp
  go_enter Tryz.func101, Tryz.ntmps101
  go_wp2_with fail
  refine (CL.out _ ((G.refl w).alloc _)).mono ?_
  rintro e w2 ⟨u, rfl, hown, hg⟩
  have hcell : w2.cell? ⟨w.heap.size, 0, none⟩ = some (.string (S n)) := by rw [hg.cell (by simp)]; exact World.cell?_alloc_new w _ _ 0
  have hdel := deleteP_any 152 #[.pointer (some ⟨w.heap.size, 0, none⟩)] (enters_of Tryz.func152 (by kernel_rfl) rfl) (fun y => sameL y.1.1 n) (w.alloc (.cells #[.string (S n)] 9)).heap.size u xs w2 hown (by omega) (fun W gW y hy => without_fn y n w.heap.size W (by
    have hne : u.ownBlock ≠ some w.heap.size := fun e => by have := (hown.lt _ e).1; simp at this; omega
    rw [World.cell?_of_block (gW.block w.heap.size (Nat.lt_of_lt_of_le (by simp) hg.size) (fun e => hne e.symm))]; exact hcell) (HN.out y hy) hn)
  have HD := hid hdel
  have HG := hid (((G.refl w).alloc _).trans hg)
  have HOWN := hid hown
  obtain ⟨ua, uc, rfl⟩ := own_sl hown
  clear hdel hg hown hcell
  go_wp2_with fail
  refine HD.out.mono ?_
  rintro e w3 ⟨v, rfl, ho3, hgr, _⟩
  have H3 := hid ho3
  obtain ⟨va, vc, rfl⟩ := own_sl ho3
  have g3 : G w w3 := Below.grown HG.out hgr HG.out.size (fun j hj => by have := (HOWN.out.lt j hj).1; simp at this; omega)
  have hpr : PmR (Wl L w3) (.slice va (xs.filter fun x => !sameL x.1.1 n).length vc) (withoutL (xs.map (·.1)) n) := by
    refine ⟨?_, own_frm ho3⟩
    have e : withoutL (xs.map (·.1)) n = (xs.filter fun x => !sameL x.1.1 n).map (·.1) := by
      unfold withoutL
      rw [List.filter_map]; rfl
    rw [e]
    exact params_rows (w := w3) (fun x hx => (HST.out x (List.mem_filter.1 hx).1).grow (Wl.g g3)) (Wl.own ho3 (fun X hx => by have := hX X hx; simp; omega))
  have HPR := hid hpr
  have G3 := hid g3
  clear ho3 hgr g3 hpr
  go_wp2_with fail
  go_ret
  exact ⟨_, rfl, HPR.out, G3.out⟩
end Go.Proofs.YtfadckackdmbnaaGreatDoor

namespace Go.Proofs.YtfadckackdmbnaaGreatDoor
open Go.RowKit
set_option linter.unusedVariables false
set_option linter.unusedSimpArgs false
theorem rightC_iff {v : Int} {xs : List It} : rightC v xs = true ↔ (v = 3 ∨ v = 4) ∧ xs.length ≤ 60 ∧ (∀ x ∈ xs, oneB v x = true) ∧ mostN v (xs.map It.n) = true ∧ leastN v (xs.map It.n) = true := by
  unfold rightC
  simp only [Bool.and_eq_true, decide_eq_true_eq, List.all_eq_true, and_assoc]
def headB (cf : Bool) (x : It) : Bool := isNameL x.n && (x.g.isEmpty || isNameL x.g) && decide (x.ps.length ≤ 20) && x.ps.all (pmR cf)
theorem rightB_ln {cf : Bool} {x : It} {t : List UInt8} : rightB cf (lnX x t) = (headB cf x && holdsB t false) := rfl
theorem rightE_ln {cf : Bool} {x : It} {t : List UInt8} : rightE cf (lnX x t) = none ↔ headB cf x = true ∧ holdsB t false = true := by
  rw [rightE_none, rightB_ln, Bool.and_eq_true]
theorem front_iff {v : Int} {x : It} : frontB v x = true ↔ headB (v == 4) x = true ∧ framesB x.n = false ∧ parsB x.ps = true ∧ typeOf (ruleX v x.n).1 x.ps = x.v.ty := by
  unfold frontB
  simp only [Bool.and_eq_true, Option.isNone_iff_eq_none, rightE_ln, beq_iff_eq, Bool.not_eq_true', and_assoc]
  exact ⟨fun ⟨a, _, b⟩ => ⟨a, b⟩, fun ⟨a, b⟩ => ⟨a, holds_nil false, b⟩⟩
theorem line_ok {v : Int} {x : It} (h : headB (v == 4) x = true) (ho : x.v.ok = true) : rightE (v == 4) (lnX x x.v.text) = none ∧ lineX v x = printW (v == 4) (lnX x x.v.text) := by
  have e := rightE_ln.2 ⟨h, (val_back x.v ho).2⟩
  refine ⟨e, ?_⟩
  unfold lineX
  rw [if_pos e]
theorem one_iff {v : Int} {x : It} : oneB v x = true ↔ headB (v == 4) x = true ∧ framesB x.n = false ∧ parsB x.ps = true ∧ typeOf (ruleX v x.n).1 x.ps = x.v.ty ∧ x.v.ok = true ∧ ¬ (x.v.ty = 3 ∧ 0 < (ruleX v x.n).2.2.2 ∧ (x.v.ps.length : Int) ≠ (ruleX v x.n).2.2.2) ∧ (printW (v == 4) (lnX x x.v.text)).length ≤ 1500 := by
  unfold oneB rearB
  simp only [Bool.and_eq_true, front_iff, Bool.not_eq_true', decide_eq_false_iff_not, decide_eq_true_eq, and_assoc]
  constructor
  · rintro ⟨a, b, c, d, e, f, g⟩
    rw [(line_ok a e).2] at g
    exact ⟨a, b, c, d, e, f, g⟩
  · rintro ⟨a, b, c, d, e, f, g⟩
    rw [(line_ok a e).2]
    exact ⟨a, b, c, d, e, f, g⟩
theorem one_bare {v : Int} {n : List UInt8} {y : Vl} (hn : isNameL n = true) (hf : framesB n = false) (ht : (ruleX v n).1 = y.ty) (ho : y.ok = true) (hp : ¬ (y.ty = 3 ∧ 0 < (ruleX v n).2.2.2 ∧ (y.ps.length : Int) ≠ (ruleX v n).2.2.2)) (hl : n.length + 1 + y.text.length ≤ 1500) : oneB v ⟨[], n, [], y⟩ = true := by
  refine one_iff.2 ⟨?_, hf, rfl, ?_, ho, hp, ?_⟩
  · show (isNameL n && _ && _ && _) = true
    rw [hn]; rfl
  · exact ht
  · show ([] ++ n ++ [] ++ 58 :: y.text).length ≤ 1500
    simp; omega
theorem ok_text {s : List UInt8} : (⟨1, s, [], St0, 0⟩ : Vl).ok = holdsB s true := by
  have e : (⟨1, s, [], St0, 0⟩ : Vl).only = true := by
    unfold Vl.only; simp [isT, isL, St.isZero, St0]
  unfold Vl.ok
  rw [e]
  simp [Vl.body]
theorem ok_other {s : List UInt8} : (tV 8 s).ok = holdsB s false := by
  have e : (tV 8 s).only = true := by
    unfold Vl.only tV; simp [isT, isL, St.isZero, St0]
  unfold Vl.ok
  rw [e]
  simp [Vl.body, tV]
theorem ok_uri {s : List UInt8} : (tV 4 s).ok = uriB s := by
  have e : (tV 4 s).only = true := by
    unfold Vl.only tV; simp [isT, isL, St.isZero, St0]
  unfold Vl.ok
  rw [e]
  simp [Vl.body, tV]
end Go.Proofs.YtfadckackdmbnaaGreatDoor

namespace Go.Proofs.YtfadckackdmbnaaGreatDoor
open Go.RowKit
set_option linter.unusedVariables false
set_option linter.unusedSimpArgs false
theorem two_boxes {w : World} {C Z : Nat} (hne : C ≠ Z) {a0 a1 z0 z1 : Value} {t t' : TypeId} (hC : w.heap[C]? = some (.cells #[a0, a1] t (0, 0))) (hZ : w.heap[Z]? = some (.cells #[z0, z1] t' (0, 0))) (V : Value) :
    w.cell? ⟨C, 1, none⟩ = some a1 ∧ w.frozen? ⟨C, 1, none⟩ = false ∧ (w.setCell ⟨C, 1, none⟩ V).cell? ⟨C, 0, none⟩ = some a0 ∧ (w.setCell ⟨C, 1, none⟩ V).cell? ⟨C, 1, none⟩ = some V ∧ (w.setCell ⟨C, 1, none⟩ V).cell? ⟨Z, 0, none⟩ = some z0 ∧ (w.setCell ⟨C, 1, none⟩ V).frozen? ⟨Z, 0, none⟩ = false ∧ ((w.setCell ⟨C, 1, none⟩ V).setCell ⟨Z, 0, none⟩ a0).cell? ⟨Z, 1, none⟩ = some z1 ∧ ((w.setCell ⟨C, 1, none⟩ V).setCell ⟨Z, 0, none⟩ a0).frozen? ⟨Z, 1, none⟩ = false ∧ (((w.setCell ⟨C, 1, none⟩ V).setCell ⟨Z, 0, none⟩ a0).setCell ⟨Z, 1, none⟩ V).cell? ⟨Z, 0, none⟩ = some a0 ∧ (((w.setCell ⟨C, 1, none⟩ V).setCell ⟨Z, 0, none⟩ a0).setCell ⟨Z, 1, none⟩ V).cell? ⟨Z, 1, none⟩ = some V := by
  have c0 : w.cell? ⟨C, 0, none⟩ = some a0 := (cell_of_row w C 0 _ _ _ hC).trans rfl
  have c1 : w.cell? ⟨C, 1, none⟩ = some a1 := (cell_of_row w C 1 _ _ _ hC).trans rfl
  have d0 : w.cell? ⟨Z, 0, none⟩ = some z0 := (cell_of_row w Z 0 _ _ _ hZ).trans rfl
  have d1 : w.cell? ⟨Z, 1, none⟩ = some z1 := (cell_of_row w Z 1 _ _ _ hZ).trans rfl
  have far : ∀ (w : World) (i j : Nat) (v : Value), (w.setCell ⟨C, i, none⟩ v).cell? ⟨Z, j, none⟩ = w.cell? ⟨Z, j, none⟩ := fun w i j v => World.cell?_setCell_other _ _ _ _ (by intro e; injection e with e; exact hne e)
  have near : ∀ (w : World) (b i j : Nat) (v : Value), i ≠ j → (w.setCell ⟨b, i, none⟩ v).cell? ⟨b, j, none⟩ = w.cell? ⟨b, j, none⟩ := fun w b i j v h => World.cell?_setCell_other _ _ _ _ (by intro e; injection e with _ e; exact h e)
  have same : ∀ (w : World) (b i : Nat) (u v : Value), w.cell? ⟨b, i, none⟩ = some u → (w.setCell ⟨b, i, none⟩ v).cell? ⟨b, i, none⟩ = some v := fun w b i u v h => World.cell?_setCell_same _ _ _ h
  have e0 := (far w 1 0 V).trans d0
  have e1 := (far w 1 1 V).trans d1
  have g1 := (near (w.setCell ⟨C, 1, none⟩ V) Z 0 1 a0 (by decide)).trans e1
  refine ⟨c1, Lib.frozen_of_heap hC 1, (near _ _ _ _ _ (by decide)).trans c0, same _ _ _ _ _ c1, e0, by rw [World.frozen?_setCell]; exact Lib.frozen_of_heap hZ 0, g1, by rw [World.frozen?_setCell, World.frozen?_setCell]; exact Lib.frozen_of_heap hZ 1, ?_, same _ _ _ _ _ g1⟩
  rw [near _ _ _ _ _ (by decide)]
  exact same _ _ _ _ _ e0
def withPhi (C : Nat) (iv xv : Value) (x : It) (pv lv : Value) (n m : Nat) (cs : List Value) (k : Nat) (v : Value) (W : World) : Prop :=
  match k with
  | 0 => v = .pointer (some ⟨C, 1, none⟩)
  | 1 => v = iv
  | 2 => OwnR n W v m cs
  | 3 => v = xv
  | 4 => ∃ b, v = .slice (some ⟨b, 0, none⟩) 1 1 ∧ W.heap[b]? = some (.cells (x.cells pv lv).toArray 37 (0, 0))
  | _ => True
set_option maxRecDepth 100000 in
set_option maxHeartbeats 4000000 in
theorem with_any (ver : Int) (iv : Value) (k : Nat) (cs : List Value) (x : It) (pv lv : Value) (w : World) (h : Lies w iv k cs) (hf : iv = .slice none 0 0 ∨ ∃ a n c, iv = .slice (some a) n c) (hx : ItOk w x pv lv) (hl : k ≤ 1000) :
    Makes 15 #[cardV ver iv, x.val pv lv] w (fun v w' => ∃ u, v = cardV ver u ∧ OwnR (w.heap.size + 1) w' u (k + 1) (cs ++ x.cells pv lv)) := by
  have hcl := clone_items iv k cs w h hf (by omega)
  have HCL := hid hcl
  have HX := hid hx
  obtain ⟨pa, pc, rfl⟩ := hx.pv
  obtain ⟨la, lc, rfl⟩ := hx.lv
  obtain ⟨ia, ic, rfl⟩ := h.form
  obtain ⟨i0, hi, hz0, hz1, hz2⟩ := info_parts infoItem
  clear hcl hx h hf
  unfold cardV
  go_enter Tryz.func15, Tryz.ntmps15
  go_wp2_with fail
  generalize hw5 : ((World.alloc (World.alloc (World.alloc _ _) _) _)) = w5
  have GW5 : Hid (G w w5) := hid (by rw [← hw5]; exact (((G.refl w).alloc _).alloc _).alloc _)
  have HBX := hid (show w5.heap[w.heap.size]? = some (.cells #[.int .i64 ver, .slice ia k ic] 27 (0, 0)) by rw [← hw5, Lib.alloc_old _ _ _ (by simp; omega), Lib.alloc_old _ _ _ (by simp)]; exact heap_alloc_new w _)
  have HIX := hid (show w5.heap[w.heap.size + 1]? = some (.cells (x.cells (.slice pa x.ps.length pc) (.slice la x.v.ps.length lc)).toArray 37 (0, 0)) by rw [← hw5, Lib.alloc_old _ _ _ (by simp)]; have := heap_alloc_new (w.alloc (.cells #[.int .i64 ver, .slice ia k ic] 27)) (.cells (x.cells (.slice pa x.ps.length pc) (.slice la x.v.ps.length lc)).toArray 37); simpa [It.cells] using this)
  have HZX := hid (show w5.heap[w.heap.size + 1 + 1]? = some (.cells #[.int .i64 0, .slice none 0 0] 27 (0, 0)) by
    rw [← hw5]
    have := heap_alloc_new ((w.alloc (.cells #[.int .i64 ver, .slice ia k ic] 27)).alloc (.cells (x.cells (.slice pa x.ps.length pc) (.slice la x.v.ps.length lc)).toArray 37)) (.cells #[.int .i64 0, .slice none 0 0] 27)
    simpa [It.cells] using this)
  clear hw5
  refine wp_region_any (by kernel_rfl) ?_
  refine wpAny_gentle (E := #[false, false, false, false, false, false, false, false]) G 5 (withPhi w.heap.size (.slice ia k ic) (x.val (.slice pa x.ps.length pc) (.slice la x.v.ps.length lc)) x (.slice pa x.ps.length pc) (.slice la x.v.ps.length lc) w5.heap.size k cs) [some [], some [(0, 5)], some [(1, 6)], some [], some [(3, 8)], none, none, none] [(0, 5), (1, 6), (2, 7), (3, 8), (4, 9)] _ (by kernel_rfl) (by decide) (by kernel_rfl) (by kernel_rfl) rfl G.refl (fun _ _ _ => G.trans) (w0 := w5) ((G.refl w5).drew) ?_ ?_ ?_
  · intro i v W W' g h
    match i, h with
    | 0, h => exact h
    | 1, h => exact h
    | 2, h => exact OwnR.grow h g
    | 3, h => exact h
    | 4, ⟨b, e, h⟩ => exact ⟨b, e, (g.below.block b (Array.getElem?_eq_some_iff.1 h).1).trans h⟩
    | n + 5, h => trivial
  · refine ⟨fun vals W g d => ?_, ⟨fun vals W g d => ?_, ⟨fun vals W g d => ?_, ⟨fun vals W g d => ?_, ⟨fun vals W g d => ?_, trivial⟩⟩⟩⟩⟩
    · refine gOp_one rfl rfl rfl fun K hK => ?_
      simp only [gFr] at hK ⊢
      go_simp
      exact hK _ _ (G.refl _) rfl
    · refine gOp_one rfl rfl rfl fun K hK => ?_
      obtain ⟨d0, _⟩ := d
      change vals 0 = _ at d0
      simp only [gFr, d0] at hK ⊢
      have c1 : W.cell? ⟨w.heap.size, 1, none⟩ = some (.slice ia k ic) := by rw [g.cell (World.block_lt_of_cell? _ _ (by rw [cell_of_row w5 w.heap.size 1 _ _ _ HBX.out]; rfl)), cell_of_row w5 w.heap.size 1 _ _ _ HBX.out]; rfl
      go_simp
      exact hK _ _ (G.refl _) rfl
    · refine gOp_one rfl rfl rfl fun K hK => ?_
      obtain ⟨d1, _⟩ := d
      change vals 1 = _ at d1
      simp only [gFr, d1] at hK ⊢
      go_simp
      refine (HCL.out W (GW5.out.trans g) w5.heap.size g.size).mono ?_
      rintro e W' ⟨u, rfl, ho, hg⟩
      exact hK u W' hg ho
    · refine gOp_one rfl rfl rfl fun K hK => ?_
      simp only [gFr] at hK ⊢
      obtain ⟨k0, k1, k2, k3, k4, k5, k6, k7, k8, k9, k10, k11, k12, k13, k14⟩ := (ItAt.e (ItAt.grow ⟨fun j u hu => by rw [Nat.zero_add, cell_of_row w5 (w.heap.size + 1) j _ _ _ HIX.out]; simpa using hu, HX.out.grow GW5.out⟩ (Array.getElem?_eq_some_iff.1 HIX.out).1 g) : _)
      go_simp
      exact hK _ _ (G.refl _) rfl
    · refine gOp_one rfl rfl rfl fun K hK => ?_
      obtain ⟨d3, _⟩ := d
      change vals 3 = _ at d3
      simp only [gFr, d3] at hK ⊢
      go_simp
      exact hK _ _ ((G.refl _).alloc _) ⟨W.heap.size, rfl, heap_alloc_new W _⟩
  · intro vals W g d
    obtain ⟨d0, d1, d2, d3, ⟨b, d4, d5⟩, _⟩ := d
    change vals 0 = _ at d0
    change vals 1 = _ at d1
    change OwnR w5.heap.size W (vals 2) k cs at d2
    change vals 3 = _ at d3
    have GW := hid (GW5.out.trans g)
    have BC := hid ((g.below.block _ (Array.getElem?_eq_some_iff.1 HBX.out).1).trans HBX.out)
    have BZ := hid ((g.below.block _ (Array.getElem?_eq_some_iff.1 HZX.out).1).trans HZX.out)
    have hCZ : w.heap.size + 1 + 1 < w5.heap.size := (Array.getElem?_eq_some_iff.1 HZX.out).1
    have hgz := g.size
    have GG := hid g
    have R2 := hid d2
    show wpList _ _ _ [_, _, _] _ _
    simp only [gFr, d0, d1, d3, d4]
    clear d2 d0 d1 d3 d4
    go_wp2_with (at_builtin; (refine wpList_append_own _ rfl _ _ 25 rfl w5.heap.size 37 i0 _ 15 176 Tryz.underlying25 hi hz0 hz1 hz2 rfl (by decide) _ _ _ rfl R2.out ⟨b, 0, none⟩ 1 1 (x.cells (.slice pa x.ps.length pc) (.slice la x.v.ps.length lc)) rfl rfl (fun j u hu => by rw [addr_add, Nat.zero_add, cell_of_row W b j _ _ _ d5]; simpa using hu) HX.out.one (by unfold maxLen; omega) (by omega) hgz ?_; intro v' w1 hown' hgrow hnil; obtain ⟨⟨b', cap', rfl⟩, hB⟩ := OwnR.snoc R2.out GG.out.below hgz hgrow hown'; have hO := hown'; clear hown' hgrow hnil; have B1C := hid ((hB.block _ (Array.getElem?_eq_some_iff.1 HBX.out).1).trans HBX.out); have B1Z := hid ((hB.block _ (Array.getElem?_eq_some_iff.1 HZX.out).1).trans HZX.out); have HO := hid hO; have HB := hid hB; clear hO hB d5 hCZ; clear BC BZ GG R2 HIX; obtain ⟨c1, f1, t0, t1, z0, y0, z1, y1, r0, r1⟩ := two_boxes (show w.heap.size ≠ w.heap.size + 1 + 1 by omega) B1C.out B1Z.out (.slice (some ⟨b', 0, none⟩) (k + 1) cap')))
    have hW : G w (((w1.setCell ⟨w.heap.size, 1, none⟩ (.slice (some ⟨b', 0, none⟩) (k + 1) cap')).setCell ⟨w.heap.size + 1 + 1, 0, none⟩ (.int .i64 ver)).setCell ⟨w.heap.size + 1 + 1, 1, none⟩ (.slice (some ⟨b', 0, none⟩) (k + 1) cap')) := by
      refine Below.setCell (Below.setCell (Below.setCell (GW5.out.below.trans (HB.out.mono GW5.out.size)) ?_ _) ?_ _) ?_ _ <;> simp only <;> omega
    have hZ : w.heap.size + 1 + 1 < w5.heap.size := (Array.getElem?_eq_some_iff.1 HZX.out).1
    refine bodyPost_ret (v := cardV ver (.slice (some ⟨b', 0, none⟩) (k + 1) cap')) ?_ rfl ⟨_, rfl, ⟨_, rfl, ownsRow_mono (OwnR.same HO.out fun b hb _ => ?_) (by omega)⟩, hW⟩
    · unfold cardV
      simp only [results, Tryz.f15]
      go_simp
    · rw [Below.heap_setCell _ _ _ _ (by simp only; omega), Below.heap_setCell _ _ _ _ (by simp only; omega), Below.heap_setCell _ _ _ _ (by simp only; omega)]
end Go.Proofs.YtfadckackdmbnaaGreatDoor

namespace Go.Proofs.YtfadckackdmbnaaGreatDoor
open Go.ChangeShapes Go.WideShapes Go.RowKit
set_option linter.unusedVariables false
def putCells (h : Array Obj) (g : Nat) (cs : Array Value) : Array Obj := h.modify g fun
  | .cells _ t frozen => .cells cs t frozen
  | o => o
def tabCells : DataW Unit → Array Value
  | .agg l => (l.map fun
    | .lit (.int k z) => Value.int k z
    | _ => undef).toArray
  | _ => #[]
def placeN : MemPlace → Nat
  | .cell b o => Nat.add (Nat.mul b 4096) (Nat.add o 1)
  | .map _ => 0
def freshN : List Nat → Bool
  | [] => true
  | x :: l => (l.all fun y => !(Nat.beq x y)) && freshN l
theorem freshN_nodup : ∀ l : List Nat, freshN l = true → l.Nodup
  | [], _ => List.nodup_nil
  | x :: l, h => by
    simp only [freshN, Bool.and_eq_true, List.all_eq_true] at h
    refine List.nodup_cons.2 ⟨fun hx => ?_, freshN_nodup l h.2⟩
    have := h.1 x hx
    simp at this
theorem nodup_of_fresh (ps : List MemPlace) (h : freshN (ps.map placeN) = true) : ps.Nodup := by
  have h3 := freshN_nodup _ h
  clear h
  induction ps with
  | nil => exact List.nodup_nil
  | cons a ps ih =>
    rw [List.map_cons, List.nodup_cons] at h3
    refine List.nodup_cons.2 ⟨fun ha => h3.1 (List.mem_map_of_mem ha), ih h3.2⟩
theorem laidMet_of_fresh {P : Program} {w : World} {l : List (String × DataW Unit)} (fuel : Nat) (h : (DataW.laidRun P w fuel (l.map (·.1))).map (·.1) = some l)
    (hf : (DataW.laidRun P w fuel (l.map (·.1))).map (fun x => freshN (x.2.map placeN)) = some true)
    (hr : (DataW.laidRun P w fuel (l.map (·.1))).map (fun x => laidRowsB P w x.2) = some true) : laidMet P l w := by
  cases hx : DataW.laidRun P w fuel (l.map (·.1)) with
  | none => simp [hx] at h
  | some x =>
    obtain ⟨l', ps⟩ := x
    simp only [hx, Option.map_some, Option.some.injEq] at h hf hr
    subst h
    exact laidMet_of_run fuel hx (decide_eq_true (nodup_of_fresh ps hf)) hr
noncomputable def heldWorld (os : Os) : World :=
  let N := 17
  let bs : Array Obj := #[]
  let wN := N + bs.size
  let bs := (bs.push (.cells (Lib.whiteT.map fun (z : Nat) => Value.int .u16 (z : Int)).toArray 252)).push (.cells #[.slice (some ⟨wN, 0, none⟩) 7 7, .slice none 0 0, .int .i64 2] 249)
  let eN := N + bs.size
  let bs := (bs.push (.cells #[.string ⟨#[105, 110, 118, 97, 108, 105, 100, 32, 115, 121, 110, 116, 97, 120]⟩] 282)).push (.cells #[.string ⟨#[118, 97, 108, 117, 101, 32, 111, 117, 116, 32, 111, 102, 32, 114, 97, 110, 103, 101]⟩] 282)
  let w0 := World.holding Tryz.prog os ⟨bs, #[], []⟩
  let h0 := w0.heap
  let h0 := putCells h0 0 #[.iface 188 (.agg #[typeHandle Tryz.prog 39])]
  let h0 := putCells h0 6 (Lib.firstTab.map fun z => Value.int .u8 z).toArray
  let h0 := putCells h0 7 ((List.range 16).flatMap fun i => [Value.int .u8 (Lib.accLo i), Value.int .u8 (Lib.accHi i)]).toArray
  let h0 := putCells h0 1 (tabCells Rows.laid_strings_asciiSpace)
  let h0 := putCells h0 8 (tabCells Rows.laid_internal_strconv_uint64pow10)
  let h0 := putCells h0 9 (tabCells Rows.laid_math_bits_deBruijn32tab)
  let h0 := putCells h0 10 (tabCells Rows.laid_math_bits_deBruijn64tab)
  let h0 := putCells h0 2 #[.pointer (some ⟨wN + 1, 0, none⟩)]
  let h0 := putCells h0 4 #[.iface 280 (.pointer (some ⟨eN, 0, none⟩))]
  let h0 := putCells h0 5 #[.iface 280 (.pointer (some ⟨eN + 1, 0, none⟩))]
  { w0 with heap := h0 }
end Go.Proofs.YtfadckackdmbnaaGreatDoor

namespace Go.Proofs.YtfadckackdmbnaaGreatDoor
open Go.ChangeShapes Go.WideShapes Go.RowKit
set_option linter.unusedVariables false
theorem tabIs_of_reads {P : Program} {W : World} {name : String} {k : IntKind} {zs : List Int} {g : Nat} {t e : TypeId} {n : Nat}
    (hg : P.globalNamed name = some g) (hty : (P.globals[g]?).map (·.type) = some t) (ht : P.underlying t = some (.array n e)) (he : P.underlying e = some (.int k)) (hce : P.cellsOf e = 1) (hct : P.cellsOf t = n)
    (h : Lib.VarReads P W name (Lib.tabData k zs)) : Lib.TabIs P W name k zs := by
  obtain ⟨g', t', cs, fuel, p, hg', ht', hvar, hd⟩ := h
  obtain rfl := Option.some.inj (hg.symm.trans hg')
  obtain rfl := Option.some.inj (hty.symm.trans ht')
  unfold Lib.TabIs
  rw [hvar, ← Lib.cells_of_tab ht he hce hct hd]
theorem iface_of_trod {H : Type} {enc : TypeId × Value → H} {P : Program} {w : World} {base : Nat} {sp : Nat → Bool} {held : Bool} {fuel : Nat} {t : TypeId} {ms : Array (String × TypeId)} {cs : List Value} {d : DataW H} {p : List MemPlace}
    (ht : P.underlying t = some (.interface ms)) (h : DataW.trod enc P w base sp held fuel t cs = some (d, p)) : cs = [.nilIface] ∨ ∃ u v, cs = [.iface u v] := by
  cases fuel with
  | zero => simp [DataW.trod] at h
  | succ fuel =>
    unfold DataW.trod at h
    rw [ht] at h
    split at h <;> simp_all
theorem err_of_reads {P : Program} {W : World} {name : String} {d : DataW Unit} {g : Nat} {t : TypeId} {ms : Array (String × TypeId)}
    (hg : P.globalNamed name = some g) (hty : (P.globals[g]?).map (·.type) = some t) (ht : P.underlying t = some (.interface ms)) (h : Lib.VarReads P W name d) :
    ∃ ev, W.cell? ⟨g, 0, none⟩ = some ev ∧ (ev = .nilIface ∨ ∃ te pe, ev = .iface te pe) := by
  obtain ⟨g', t', cs, fuel, p, hg', ht', hvar, hd⟩ := h
  obtain rfl := Option.some.inj (hg.symm.trans hg')
  obtain rfl := Option.some.inj (hty.symm.trans ht')
  have hc := World.var?_cell hg hvar 0
  rcases iface_of_trod ht hd with e | ⟨u, v, e⟩
  · refine ⟨.nilIface, ?_, .inl rfl⟩
    obtain ⟨l⟩ := cs
    simp only at e
    subst e
    simpa using hc
  · refine ⟨.iface u v, ?_, .inr ⟨u, v, rfl⟩⟩
    obtain ⟨l⟩ := cs
    simp only at e
    subst e
    simpa using hc
theorem p10_data : Rows.laid_internal_strconv_uint64pow10 = (Lib.tabData .u64 Lib.pow10Tab : DataW Unit) := by kernel_rfl
theorem asp_data : Rows.laid_strings_asciiSpace = (Lib.tabData .u8 Lib.asciiSpaceTab : DataW Unit) := by kernel_rfl
theorem rmem_of {W : World} {l : List (String × DataW Unit)} (hL : laidMet Tryz.prog l W) (hs : W.ShapedOpen Tryz.prog)
    (h1 : ("strings.asciiSpace", Rows.laid_strings_asciiSpace) ∈ l) (h2 : ("internal/strconv.uint64pow10", Rows.laid_internal_strconv_uint64pow10) ∈ l)
    (h3 : ("strconv.ErrSyntax", Rows.laid_strconv_ErrSyntax) ∈ l) (h4 : ("strconv.ErrRange", Rows.laid_strconv_ErrRange) ∈ l) : RMem W := by
  rw [asp_data] at h1
  rw [p10_data] at h2
  refine ⟨tabIs_of_reads (g := 1) (t := 158) (e := 5) (n := 256) (by kernel_rfl) (by kernel_rfl) (by kernel_rfl) (by kernel_rfl) (by kernel_rfl) (by kernel_rfl) (Lib.laidMet.reads hL h1), tabIs_of_reads (g := 8) (t := 316) (e := 257) (n := 20) (by kernel_rfl) (by kernel_rfl) (by kernel_rfl) (by kernel_rfl) (by kernel_rfl) (by kernel_rfl) (Lib.laidMet.reads hL h2), ⟨err_of_reads (g := 4) (t := 39) (by kernel_rfl) (by kernel_rfl) Tryz.underlying39 (Lib.laidMet.reads hL h3), err_of_reads (g := 5) (t := 39) (by kernel_rfl) (by kernel_rfl) Tryz.underlying39 (Lib.laidMet.reads hL h4)⟩, Tryz.laysM145.s1_3 W hs⟩
end Go.Proofs.YtfadckackdmbnaaGreatDoor

namespace Go.Proofs.YtfadckackdmbnaaGreatDoor
open Go.ChangeShapes Go.WideShapes Go.RowKit
set_option linter.unusedVariables false
theorem doorV_et : Tryz.prog.globalNamed "errors.errorType" = some 0 := by kernel_rfl
theorem doorV_rt : (Tryz.prog.cutTypes.find? (·.1 == "internal/reflectlite.rtype")).map (·.2) = some 188 := by kernel_rfl
theorem doorV_one : ((List.range 404).filter fun t => Tryz.prog.rowNamed t [101, 114, 114, 111, 114]) = [39] := by kernel_rfl
theorem doorV_size : Tryz.prog.types.size = 404 := by kernel_rfl
theorem laidE_of_handles {W : World} (h : handlesMet Tryz.prog [("errors.errorType", Rows.laid_errors_errorType)] W) : LaidE W := by
  obtain ⟨name, u, ty, e1, e2, e3, e4, e5⟩ := h _ (List.mem_singleton.2 rfl)
  have en : name = [101, 114, 114, 111, 114] := (Option.some.inj e1).symm
  subst en
  obtain rfl := Option.some.inj (doorV_rt.symm.trans e2)
  have hm : ty ∈ (List.range 404).filter fun t => Tryz.prog.rowNamed t [101, 114, 114, 111, 114] := List.mem_filter.2 ⟨List.mem_range.2 (by rw [← doorV_size]; exact e3), e4⟩
  rw [doorV_one] at hm
  obtain rfl := List.mem_singleton.1 hm
  have hh : typeHandle Tryz.prog 39 = .pointer (some (hA 39)) := by kernel_rfl
  rw [hh] at e5
  unfold LaidE
  simpa using World.var?_cell doorV_et e5 0
end Go.Proofs.YtfadckackdmbnaaGreatDoor

namespace Go.Proofs.YtfadckackdmbnaaGreatDoor
open Go.RowKit
set_option linter.unusedVariables false
set_option linter.unusedSimpArgs false
theorem withAnn_any (ver : Int) (b : Addr) (k c : Nat) (xs : List It) (x : It) (pv lv : Value) (w : World) (hit : IsItems w (.slice (some b) k c) xs) (hk : k ≤ 1000) (hl : xs.length = k) (hok : ItOk w x pv lv) :
    Makes 15 #[cardV ver (.slice (some b) k c), x.val pv lv] w (fun v w' => ∃ a c', v = cardV ver (.slice (some a) (k + 1) c') ∧ IsItems w' (.slice (some a) (k + 1) c') (xs ++ [x])) := by
  obtain ⟨cs, hlies, hrow⟩ := hit.lies
  subst hl
  refine (with_any ver (.slice (some b) xs.length c) xs.length cs x pv lv w hlies (.inr ⟨_, _, _, rfl⟩) hok hk).mono ?_
  rintro v w3 g3 ⟨u, rfl, how⟩
  have hr3 : ItRow w3 (xs ++ [x]) (cs ++ x.cells pv lv) := ((hrow.grow g3).append (ItRow.single (hok.grow g3)))
  have hi : IsItems w3 u (xs ++ [x]) := Lies.items (by rw [List.length_append]; exact OwnR.lies how hr3.one) hr3
  obtain ⟨g', cap', rfl⟩ := own_succ how
  exact ⟨_, _, rfl, hi⟩
end Go.Proofs.YtfadckackdmbnaaGreatDoor
