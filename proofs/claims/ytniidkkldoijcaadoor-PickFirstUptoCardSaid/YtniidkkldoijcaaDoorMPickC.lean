/-
  Texts merged into one: PickPlain, PickCmp.
-/
import Derived.Test.YtniidkkldoijcaaDoorItems
import Derived.Test.YtniidkkldoijcaaDoorMRules
import Derived.Deep.LoopGhost
namespace Go.Proofs.YtniidkkldoijcaaDoor
open Go.RowKit
set_option linter.unusedVariables false
set_option linter.unusedSimpArgs false

def prefP : List UInt8 := [80, 82, 69, 70]
def numL (vs : List (List UInt8)) : Int := match vs with | [x] => (match Lib.atoiAll x with | .ok n => n | _ => 101) | _ => 101
/-- what an item is worth: the less the better -/
def worthO (o : Option Nat) (ps : List Pm) : Int :=
  match o with
  | none => 101
  | some k => match ps[k]? with
    | some p => if fitsU (upperL p.1) p.2 then numL p.2 else 101
    | none => 101
def worthL (ps : List Pm) : Int := worthO (findL ps prefP) ps
theorem find_some {ps : List Pm} {s : List UInt8} {k : Nat} (h : findL ps s = some k) : ∃ p, ps[k]? = some p ∧ sameL p.1 s = true := by
  unfold findL at h
  rw [List.findIdx?_eq_some_iff_getElem] at h
  obtain ⟨hk, h1, _⟩ := h
  exact ⟨ps[k], List.getElem?_eq_getElem hk, h1⟩
theorem pref_fits {p : Pm} (hs : sameL p.1 prefP = true) (hf : fitsU (upperL p.1) p.2 = true) : ∃ x n, p.2 = [x] ∧ Lib.atoiAll x = .ok n ∧ 1 ≤ n ∧ n ≤ 100 := by
  have e : upperL p.1 = prefP := by
    unfold sameL at hs
    rw [beq_iff_eq.1 hs]; decide
  rw [e] at hf
  unfold fitsU at hf
  rw [if_neg (by unfold isOneName prefP; decide), if_neg (by decide), if_pos (by decide)] at hf
  unfold oneL at hf
  split at hf
  · rename_i x hx
    unfold countsL at hf
    dsimp only at hf
    split at hf
    · rename_i n hn
      simp only [Bool.and_eq_true, decide_eq_true_eq] at hf
      exact ⟨x, n, hx, hn, by omega, by omega⟩
    · cases hf
  · cases hf
theorem worth_le (ps : List Pm) : 1 ≤ worthL ps ∧ worthL ps ≤ 101 := by
  unfold worthL worthO
  split
  · omega
  · split
    · split
      · rename_i _ k hk _ p hp hf
        obtain ⟨q, hq, hs⟩ := find_some hk
        rw [hp] at hq
        cases hq
        obtain ⟨x, n, e1, e2, e3, e4⟩ := pref_fits hs hf
        unfold numL
        rw [e1]; simp only [e2]; omega
      · omega
    · omega

theorem pm_le {x : It} {p : Pm} (h : p ∈ x.ps) : p.1.length + (p.2.map fun s => s.length + 1).sum + 1 ≤ x.big := by
  have key : ∀ l : List Pm, p ∈ l → p.1.length + (p.2.map fun s => s.length + 1).sum + 1 ≤ (l.map fun p => p.1.length + (p.2.map fun s => s.length + 1).sum + 1).sum := by
    intro l
    induction l with
    | nil => intro h; cases h
    | cons a l ih =>
      intro h
      simp only [List.map_cons, List.sum_cons]
      rcases List.mem_cons.1 h with rfl | h
      · omega
      · have := ih h; omega
  have := key x.ps h
  unfold It.big; omega
theorem ps_le (x : It) : x.ps.length ≤ x.big := by
  have key : ∀ l : List Pm, l.length ≤ (l.map fun p => p.1.length + (p.2.map fun s => s.length + 1).sum + 1).sum := by
    intro l
    induction l with
    | nil => simp
    | cons a l ih => simp only [List.map_cons, List.sum_cons, List.length_cons]; omega
  have := key x.ps
  unfold It.big; omega
theorem vs_le {p : Pm} {s : List UInt8} (h : s ∈ p.2) : s.length + 1 ≤ (p.2.map fun s => s.length + 1).sum := by
  obtain ⟨a, l⟩ := p
  induction l with
  | nil => cases h
  | cons b l ih =>
    simp only [List.map_cons, List.sum_cons]
    rcases List.mem_cons.1 h with rfl | h
    · omega
    · have := ih h; simp only at this; omega
theorem vl_le (p : Pm) : p.2.length ≤ (p.2.map fun s => s.length + 1).sum := by
  obtain ⟨a, l⟩ := p
  induction l with
  | nil => simp
  | cons b l ih => simp only [List.map_cons, List.sum_cons, List.length_cons]; simp only at ih; omega
set_option maxRecDepth 100000 in
set_option maxHeartbeats 4000000 in
theorem worth_any (x : It) (pv lv : Value) (w : World) (h : ItOk w x pv lv) (hb : x.big ≤ 100000) (hM : RMem w) : Gives 41 #[x.val pv lv] w (.int .i64 (worthL x.ps)) := by
  have h1 := ps_le x
  have hF := fun W (g : G w W) => find_any pv x.ps prefP W (h.p.grow g) (by omega) (fun p hp => by have := pm_le hp; omega) (by decide)
  have HF := hid hF
  have HO := hid h
  have HP := hid (fun (p : Pm) (hp : p ∈ x.ps) => pm_le hp)
  have HM := hid hM
  obtain ⟨pa, pc, hpv, hpc⟩ := h.p
  subst hpv
  obtain ⟨o, ho⟩ : ∃ o, findL x.ps prefP = o := ⟨_, rfl⟩
  have HW : Hid (worthL x.ps = worthO o x.ps) := hid (by unfold worthL; rw [ho])
  rw [ho] at HF
  have HFO := hid ho
  clear hF h hM ho hpc
  unfold It.val
  cases o with
  | none =>
    rw [HW.out]
    show Gives _ _ _ (.int .i64 101)
    clear HW
    go_enter Tryd.func41, Tryd.ntmps41
    go_wp2_with fail
    refine (HF.out _ ((G.refl w).alloc _)).use ?_
    intro w1 g1
    unfold findV
    go_wp2_with fail
    go_ret
    exact ⟨rfl, ((G.refl w).alloc _).trans g1⟩
  | some k =>
    obtain ⟨p, hp, hsm⟩ := find_some HFO.out
    have hpm := List.mem_of_getElem? hp
    have hpb := HP.out p hpm
    have hk := (List.getElem?_eq_some_iff.1 hp).1
    have hk' : (k : Int) < (x.ps.length : Int) := by omega
    have hk0 : (0 : Int) ≤ (k : Int) := by omega
    have HPP := HO.out.p
    obtain ⟨b, off, rfl, hbl, hcc⟩ : ∃ b off, pa = some ⟨b, off, none⟩ ∧ b < w.heap.size ∧ ∀ (i : Nat) (p : Pm), x.ps[i]? = some p → ∃ sv, w.cell? ⟨b, off + i * 2, none⟩ = some (.string (S p.1)) ∧ w.cell? ⟨b, off + i * 2 + 1, none⟩ = some sv ∧ IsStrs w sv p.2 := by
      obtain ⟨a, c, e, _, hc⟩ := HPP
      cases e
      exact hc (by rintro h; rw [h] at hp; simp at hp)
    obtain ⟨sv, c1, c2, c3⟩ := hcc k p hp
    have hft := fun W (g : G w W) => fits_any p.1 sv p.2 W (c3.grow g) (by omega) (by have := vl_le p; omega) (fun y hy => by have := vs_le hy; omega) (HM.out.grow g)
    obtain ⟨sa, sc, rfl, _⟩ := c3.len
    obtain ⟨t, ht⟩ : ∃ t, fitsU (upperL p.1) p.2 = t := ⟨_, rfl⟩
    rw [ht] at hft
    have HFT := hid hft
    have C1 := hid (fun W (g : G w W) => (g.cell (p := ⟨b, off + k * 2, none⟩) hbl).trans c1)
    have C2 := hid (fun W (g : G w W) => (g.cell (p := ⟨b, off + k * 2 + 1, none⟩) hbl).trans c2)
    have HW2 : Hid (worthL x.ps = if t then numL p.2 else 101) := hid (by rw [HW.out, ← ht]; simp only [worthO, hp])
    have HT := hid ht
    clear HW hft c1 c2 hcc HPP ht
    cases t with
    | false =>
      rw [HW2.out]
      show Gives _ _ _ (.int .i64 101)
      go_enter Tryd.func41, Tryd.ntmps41
      go_wp2_with fail
      refine (HF.out _ ((G.refl w).alloc _)).use ?_
      intro w1 g1
      have hfv : findV (some k) = (k : Int) := rfl
      rw [hfv]
      have G1 := hid (((G.refl w).alloc _).trans g1)
      have d1 := C1.out w1 G1.out
      have d2 := C2.out w1 G1.out
      have d3 : w1.cell? ⟨w.heap.size, 2, none⟩ = some (.slice (some ⟨b, off, none⟩) x.ps.length pc) := by rw [g1.cell (by simp)]; simp
      clear hfv g1
      go_wp2_with fail
      refine (HFT.out w1 G1.out).use ?_
      intro w2 g2
      go_wp2_with fail
      go_ret
      exact ⟨rfl, G1.out.trans g2⟩
    | true =>
      obtain ⟨y, m, e1, e2, m1, m2⟩ := pref_fits hsm HT.out
      have HY := hid (vs_le (p := p) (s := y) (by rw [e1]; simp))
      rw [HW2.out]
      have e3 : (if true = true then numL p.2 else 101) = m := by rw [if_pos rfl, e1]; simp only [numL, e2]
      rw [e3]
      rw [e1] at c3 C2 HFT
      obtain ⟨yb, yo, yc, ey, _, hyb, hyc⟩ := c3.at_ (by simp)
      cases ey
      have CY := hid (fun W (g : G w W) => (g.cell (p := ⟨yb, yo, none⟩) hyb).trans (hyc 0 y rfl))
      have HAT := hid (fun W => atoi_ok y m W (by have := HY.out; omega) e2)
      clear e3 hyc c3 e1 e2 HW2 HT
      go_enter Tryd.func41, Tryd.ntmps41
      go_wp2_with fail
      refine (HF.out _ ((G.refl w).alloc _)).use ?_
      intro w1 g1
      have hfv : findV (some k) = (k : Int) := rfl
      rw [hfv]
      have G1 := hid (((G.refl w).alloc _).trans g1)
      have d1 := C1.out w1 G1.out
      have d2 := C2.out w1 G1.out
      have d3 : w1.cell? ⟨w.heap.size, 2, none⟩ = some (.slice (some ⟨b, off, none⟩) x.ps.length pc) := by rw [g1.cell (by simp)]; simp
      have hsz : w.heap.size < w1.heap.size := by have := g1.size; simp at this; omega
      clear hfv g1
      go_wp2_with fail
      refine (HFT.out w1 G1.out).use ?_
      intro w2 g2
      have G2 := hid (G1.out.trans g2)
      have d4 := CY.out w2 G2.out
      have d5 := (g2.cell (p := ⟨w.heap.size, 2, none⟩) hsz).trans d3
      have d6 := C1.out w2 G2.out
      have d7 := C2.out w2 G2.out
      clear g2 d1 d2 d3
      go_wp2_with fail
      refine (HAT.out w2).use ?_
      intro w3 g3
      go_wp2_with fail
      go_ret
      exact ⟨rfl, G2.out.trans g3⟩

end Go.Proofs.YtniidkkldoijcaaDoor

namespace Go.Proofs.YtniidkkldoijcaaDoor
open Go.RowKit
set_option linter.unusedVariables false
set_option linter.unusedSimpArgs false

/-- a card lies in a block of its own: its version, its items -/
structure CardAt (w : World) (C : Nat) (ver : Int) (iv : Value) (xs : List It) : Prop where
  c0 : w.cell? ⟨C, 0, none⟩ = some (.int .i64 ver)
  c1 : w.cell? ⟨C, 1, none⟩ = some iv
  it : IsItems w iv xs
theorem CardAt.lt {w : World} {C : Nat} {ver : Int} {iv : Value} {xs : List It} (h : CardAt w C ver iv xs) : C < w.heap.size := World.block_lt_of_cell? _ _ h.c0
theorem CardAt.grow {w w' : World} {C : Nat} {ver : Int} {iv : Value} {xs : List It} (h : CardAt w C ver iv xs) (g : G w w') : CardAt w' C ver iv xs :=
  ⟨(g.cell h.lt).trans h.c0, (g.cell h.lt).trans h.c1, h.it.grow g⟩
theorem CardAt.new {w : World} {ver : Int} {iv : Value} {xs : List It} {t : TypeId} (h : IsItems w iv xs) : CardAt (w.alloc (.cells #[.int .i64 ver, iv] t)) w.heap.size ver iv xs :=
  ⟨by simp, by simp, h.grow ((G.refl w).alloc _)⟩
/-- no item has more than so much -/
def Fine (xs : List It) : Prop := xs.length ≤ 100 ∧ ∀ x ∈ xs, x.big ≤ 100000
/-- what the i-th item is worth -/
def keyL (xs : List It) (i : Int) : Int := match xs[i.toNat]? with | some x => worthL x.ps | none => 0
theorem keyL_at {xs : List It} {i : Nat} {x : It} (h : xs[i]? = some x) : keyL xs i = worthL x.ps := by unfold keyL; simp [h]

set_option maxRecDepth 100000 in
set_option maxHeartbeats 4000000 in
theorem cmp_any (C : Nat) (ver : Int) (iv : Value) (xs : List It) (w : World) (h : CardAt w C ver iv xs) (hF : Fine xs) (hM : RMem w) (a b : Nat) (ha : a < xs.length) (hb : b < xs.length) :
    Gives 40 #[.int .i64 (a : Int), .int .i64 (b : Int), .pointer (some ⟨C, 0, none⟩)] w (.int .i64 (keyL xs a - keyL xs b)) := by
  obtain ⟨iA, cap, e, hc, hcc⟩ := h.it
  have hc1 := h.c1
  subst e
  obtain ⟨B, off, rfl, hB, hit⟩ := hcc (by rintro rfl; simp at ha)
  have hxa := List.getElem?_eq_getElem ha
  have hxb := List.getElem?_eq_getElem hb
  obtain ⟨x, hx⟩ : ∃ x, xs[a] = x := ⟨_, rfl⟩
  obtain ⟨y, hy⟩ : ∃ y, xs[b] = y := ⟨_, rfl⟩
  rw [hx] at hxa
  rw [hy] at hxb
  obtain ⟨pa, la, ia⟩ := hit a x hxa
  obtain ⟨pb, lb, ib⟩ := hit b y hxb
  have hka := keyL_at hxa
  have hkb := keyL_at hxb
  have ma := List.mem_of_getElem? hxa
  have mb := List.mem_of_getElem? hxb
  have hla := worth_le x.ps
  have hlb := worth_le y.ps
  have WA := hid (fun W (g : G w W) => worth_any x pa la W (ia.ok.grow g) (hF.2 x ma) (hM.grow g))
  have WB := hid (fun W (g : G w W) => worth_any y pb lb W (ib.ok.grow g) (hF.2 y mb) (hM.grow g))
  have IA := hid (fun W (g : G w W) => (ia.grow hB g).e)
  have IB := hid (fun W (g : G w W) => (ib.grow hB g).e)
  have HC1 := hid (fun W (g : G w W) => (g.cell (p := ⟨C, 1, none⟩) h.lt).trans hc1)
  rw [hka, hkb]
  have i0 : (a : Int) < (xs.length : Int) := by omega
  have i1 : (b : Int) < (xs.length : Int) := by omega
  have i2 : (0 : Int) ≤ (a : Int) := by omega
  have i3 : (0 : Int) ≤ (b : Int) := by omega
  obtain ⟨wa, hwa⟩ : ∃ wa, worthL x.ps = wa := ⟨_, rfl⟩
  obtain ⟨wb, hwb⟩ : ∃ wb, worthL y.ps = wb := ⟨_, rfl⟩
  rw [hwa] at WA hla ⊢
  rw [hwb] at WB hlb ⊢
  clear hwa hwb hka hkb hxa hxb hx hy ma mb hit hcc hc1 h hc ia ib hF hM
  go_enter Tryd.func40, Tryd.ntmps40
  go_wp2_with fail
  refine wp_region_grow (by kernel_rfl) (by kernel_rfl) ?_
  repeat (first | go_big_quiet_skip | (go_big_quiet_want; go_big_quiet_op; first | go_big_quiet_on | (apply Exists.intro; apply And.intro; (focus (intro _ hg; first | (rw [HC1.out _ hg]; exact ⟨rfl, rfl⟩) | (obtain ⟨k0, k1, k2, k3, k4, k5, k6, k7, k8, k9, k10, k11, k12, k13, k14⟩ := IA.out _ hg; simp only [k0, k1, k2, k3, k4, k5, k6, k7, k8, k9, k10, k11, k12, k13, k14, Result.andThen_ok]; exact ⟨trivial, rfl⟩) | (obtain ⟨k0, k1, k2, k3, k4, k5, k6, k7, k8, k9, k10, k11, k12, k13, k14⟩ := IB.out _ hg; simp only [k0, k1, k2, k3, k4, k5, k6, k7, k8, k9, k10, k11, k12, k13, k14, Result.andThen_ok]; exact ⟨trivial, rfl⟩) | (with_reducible exact Gives.gq hg (WA.out _ hg)) | (with_reducible exact Gives.gq hg (WB.out _ hg)))); go_big_quiet_on) | (refine ⟨_, fun _ _ => rfl, ?_⟩; go_big_quiet_on)))
  refine wpQuiet_nil ?_
  intro wq gq
  go_wp2_with fail
  go_ret
  exact ⟨rfl, gq⟩

end Go.Proofs.YtniidkkldoijcaaDoor
