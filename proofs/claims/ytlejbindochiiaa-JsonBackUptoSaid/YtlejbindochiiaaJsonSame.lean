/-
  CONTRACTS of slices.Equal, slices.EqualFunc and the laws' sameJson, at the same keys, the same trees; of the laws' weight.
-/
import Derived.Test.YtlejbindochiiaaJsonRight
namespace Go.Proofs.Ytlejbindochiiaa
open Go.RowKit
set_option linter.unusedVariables false
set_option linter.unusedSimpArgs false

theorem JAt.cut : ∀ {d n : Nat} {p : Nat → Prop} {w : World} {v : Value} {x : Jt}, JAt n p w v x → rightJ d x = none → JAt d p w v x
  | 0, n, p, w, v, x, _, hr => by cases x; cases hr
  | d + 1, 0, p, w, v, x, h, _ => h.elim
  | d + 1, n + 1, p, w, v, .mk k t ks l, h, hr => by
    obtain ⟨kv, lv, vs, e, hk, hkp, hl, hc, hlp, hn, hx⟩ := h
    exact ⟨kv, lv, vs, e, hk, hkp, hl, hc, hlp, hn, fun i y u hy hu => (hx i y u hy hu).cut ((right_parts_J hr).2.2.2.2.2 y (List.mem_of_getElem? hy))⟩
theorem parts_succ {n : Nat} {p : Nat → Prop} {w : World} {k : Int} {t : List UInt8} {ks : List (List UInt8)} {l : List Jt} {ka la : Option Addr} {kc lc : Nat} (h : JAt (n + 1) p w (.agg #[.int .i64 k, .string (S t), .slice ka ks.length kc, .slice la l.length lc]) (.mk k t ks l)) :
    (∀ (j : Nat) (hj : j < ks.length), ∃ b o, ka = some ⟨b, o, none⟩ ∧ b < w.heap.size ∧ w.cell? ⟨b, o + j, none⟩ = some (.string (S ks[j]))) ∧
    (∀ (j : Nat) (hj : j < l.length), ∃ b o u, la = some ⟨b, o, none⟩ ∧ b < w.heap.size ∧ JAt n p w u l[j] ∧ ∀ i (v : Value), i < 4 → (cellsU u)[i]? = some v → w.cell? ⟨b, o + (j * 4 + i), none⟩ = some v) := by
  obtain ⟨kv, lv, vs, e, hk, _, hl, _, _, hn, hx⟩ := h
  simp only [Jt.kind, Jt.text, Jt.keys, Jt.list] at e hk hl hn hx
  injection e with e
  have e2 : [Value.slice ka ks.length kc, .slice la l.length lc] = [kv, lv] := by
    have := congrArg Array.toList e
    simp at this
    simp [this]
  obtain ⟨rfl, e3⟩ := List.cons.inj e2
  obtain ⟨rfl, _⟩ := List.cons.inj e3
  refine ⟨fun j hj => ?_, fun j hj => ?_⟩
  · obtain ⟨b, o, cap, e1, _, hb, hc⟩ := hk.at_ (by rintro rfl; simp at hj)
    injection e1 with e1 _ _
    exact ⟨b, o, e1, hb, hc j _ (List.getElem?_eq_getElem hj)⟩
  · obtain ⟨h1, _, h3⟩ := hl
    rcases h3 with ⟨h3, _⟩ | ⟨b, o, cap, e1, hb, _, hc⟩
    · omega
    · injection e1 with e1 _ _
      have hjv : j < vs.length := by omega
      refine ⟨b, o, vs[j], e1, hb, hx j _ _ (List.getElem?_eq_getElem hj) (List.getElem?_eq_getElem hjv), fun i v hi hv => ?_⟩
      have h4 : ∀ u ∈ vs, (cellsU u).length = 4 := fun u hu => by
        obtain ⟨i, hi, rfl⟩ := List.mem_iff_getElem.1 hu
        exact (hx i _ _ (List.getElem?_eq_getElem (by omega)) (List.getElem?_eq_getElem hi)).cells.1
      have := cellsJ_at h4 (List.getElem?_eq_getElem hjv) i hi
      rw [hv] at this
      obtain ⟨hlt, hget⟩ := List.getElem?_eq_some_iff.1 this
      rw [hc _ hlt, hget]
set_option maxRecDepth 100000 in
set_option maxHeartbeats 2000000 in
theorem sameStrs_any {aa ab : Option Addr} {ca cb : Nat} {xs : List (List UInt8)} {w : World} (ha : ∀ (j : Nat) (hj : j < xs.length), ∃ b o, aa = some ⟨b, o, none⟩ ∧ b < w.heap.size ∧ w.cell? ⟨b, o + j, none⟩ = some (.string (S xs[j])))
    (hb : ∀ (j : Nat) (hj : j < xs.length), ∃ b o, ab = some ⟨b, o, none⟩ ∧ b < w.heap.size ∧ w.cell? ⟨b, o + j, none⟩ = some (.string (S xs[j]))) (hl : xs.length ≤ 1000000) :
    Gives 27 #[.slice aa xs.length ca, .slice ab xs.length cb] w (.bool true) := by
  have HA := hid ha
  have HB := hid hb
  clear ha hb
  go_enter Try.func27, Try.ntmps27
  go_wp2_with fail
  go_loopw [5, 13] (fun _ i wr => ∃ (k j : Nat), k ≤ xs.length ∧ i = .int .i64 (k : Int) ∧ wr = w.drewN j) (fun _ i _ => xs.length - (intOf i).toNat)
  case atStart => exact ⟨0, 0, Nat.zero_le _, rfl, rfl⟩
  case round =>
    obtain ⟨k, j, hk, rfl, rfl⟩ := hrel
    by_cases hlt : k < xs.length
    · obtain ⟨b1, o1, rfl, _, c1⟩ := HA.out k hlt
      obtain ⟨b2, o2, rfl, _, c2⟩ := HB.out k hlt
      have hlti : (k : Int) < (xs.length : Int) := by omega
      have hk1 : k + 1 ≤ 1000001 := by omega
      go_wp2_with fail
      go_quiet (fail)
      go_wp2_with fail
      go_roundw
      case rel => exact ⟨k + 1, _, by omega, by simp, rfl⟩
      case measure => simp [intOf]; omega
    · obtain rfl : k = xs.length := by omega
      have hno : ¬ (xs.length : Int) < (xs.length : Int) := by omega
      clear hlt hk
      go_wp2_with fail
      go_ret
      exact ⟨rfl, (G.refl w).drewN _⟩
def SameC (d : Nat) : Prop := ∀ (a b m : Nat) (p q : Nat → Prop) (w : World) (v v' : Value) (x : Jt), a ≤ 999999 → JAt d p w v x → JAt m q w v' x → SzJ a b d x → Gives 12 #[v, v'] w (.bool true)
set_option maxRecDepth 100000 in
set_option maxHeartbeats 4000000 in
theorem eqFunc_any (d a b m : Nat) (ih : SameC d) (p q : Nat → Prop) (l : List Jt) (la lb : Option Addr) (lc lc' : Nat) (w : World) (ha : a ≤ 999999) (hl : l.length ≤ 999999) (hs : ∀ y ∈ l, SzJ a b d y)
    (hla : ∀ (j : Nat) (hj : j < l.length), ∃ b o u, la = some ⟨b, o, none⟩ ∧ b < w.heap.size ∧ JAt d p w u l[j] ∧ ∀ i (v : Value), i < 4 → (cellsU u)[i]? = some v → w.cell? ⟨b, o + (j * 4 + i), none⟩ = some v)
    (hlb : ∀ (j : Nat) (hj : j < l.length), ∃ b o u, lb = some ⟨b, o, none⟩ ∧ b < w.heap.size ∧ JAt m q w u l[j] ∧ ∀ i (v : Value), i < 4 → (cellsU u)[i]? = some v → w.cell? ⟨b, o + (j * 4 + i), none⟩ = some v) :
    Gives 28 #[.slice la l.length lc, .slice lb l.length lc', .func (.func 12) #[] #[]] w (.bool true) := by
  have IH := hid ih
  have HS := hid hs
  have HLA := hid hla
  have HLB := hid hlb
  clear ih hs hla hlb
  go_enter Try.func28, Try.ntmps28
  go_wp2_with fail
  go_loopw [7, 8, 9, 17] (fun _ _ _ i wr => ∃ k : Nat, k ≤ l.length ∧ i = .int .i64 (k : Int) ∧ G w wr) (fun _ _ _ i _ => l.length - (intOf i).toNat)
  case atStart => exact ⟨0, Nat.zero_le _, rfl, G.refl _⟩
  case round =>
    obtain ⟨j, hj, rfl, hg⟩ := hrel
    have GR := hid hg
    clear hg
    by_cases hlt : j < l.length
    · obtain ⟨b1, o1, u1, rfl, hb1, hu1, hc1⟩ := HLA.out j hlt
      obtain ⟨b2, o2, u2, rfl, hb2, hu2, hc2⟩ := HLB.out j hlt
      have HSY := HS.out l[j] (List.getElem_mem hlt)
      obtain ⟨y, hy⟩ : ∃ y, l[j] = y := ⟨_, rfl⟩
      rw [hy] at hu1 hu2 HSY
      obtain ⟨ya, yc, za, zc, rfl⟩ := hu1.shape4
      obtain ⟨ya', yc', za', zc', rfl⟩ := hu2.shape4
      have hlti : (j : Int) < (l.length : Int) := by omega
      have hj1 : j + 1 ≤ 1000000 := by omega
      have x0 : wr.cell? ⟨b1, o1 + j * 4, none⟩ = some (.int .i64 y.kind) := by rw [G.cell GR.out (p := ⟨b1, o1 + j * 4, none⟩) hb1]; exact hc1 0 _ (by decide) rfl
      have x1 : wr.cell? ⟨b1, o1 + j * 4 + 1, none⟩ = some (.string (S y.text)) := by rw [G.cell GR.out (p := ⟨b1, o1 + j * 4 + 1, none⟩) hb1]; exact hc1 1 _ (by decide) rfl
      have x2 : wr.cell? ⟨b1, o1 + j * 4 + 2, none⟩ = some (.slice ya y.keys.length yc) := by rw [G.cell GR.out (p := ⟨b1, o1 + j * 4 + 2, none⟩) hb1]; exact hc1 2 _ (by decide) rfl
      have x3 : wr.cell? ⟨b1, o1 + j * 4 + 3, none⟩ = some (.slice za y.list.length zc) := by rw [G.cell GR.out (p := ⟨b1, o1 + j * 4 + 3, none⟩) hb1]; exact hc1 3 _ (by decide) rfl
      have z0 : wr.cell? ⟨b2, o2 + j * 4, none⟩ = some (.int .i64 y.kind) := by rw [G.cell GR.out (p := ⟨b2, o2 + j * 4, none⟩) hb2]; exact hc2 0 _ (by decide) rfl
      have z1 : wr.cell? ⟨b2, o2 + j * 4 + 1, none⟩ = some (.string (S y.text)) := by rw [G.cell GR.out (p := ⟨b2, o2 + j * 4 + 1, none⟩) hb2]; exact hc2 1 _ (by decide) rfl
      have z2 : wr.cell? ⟨b2, o2 + j * 4 + 2, none⟩ = some (.slice ya' y.keys.length yc') := by rw [G.cell GR.out (p := ⟨b2, o2 + j * 4 + 2, none⟩) hb2]; exact hc2 2 _ (by decide) rfl
      have z3 : wr.cell? ⟨b2, o2 + j * 4 + 3, none⟩ = some (.slice za' y.list.length zc') := by rw [G.cell GR.out (p := ⟨b2, o2 + j * 4 + 3, none⟩) hb2]; exact hc2 3 _ (by decide) rfl
      have hbr1 : b1 < wr.heap.size := Nat.lt_of_lt_of_le hb1 GR.out.size
      have hbr2 : b2 < wr.heap.size := Nat.lt_of_lt_of_le hb2 GR.out.size
      have CL : Hid (∀ W, G w W → Gives 12 #[.agg #[.int .i64 y.kind, .string (S y.text), .slice ya y.keys.length yc, .slice za y.list.length zc], .agg #[.int .i64 y.kind, .string (S y.text), .slice ya' y.keys.length yc', .slice za' y.list.length zc']] W (.bool true)) := hid (fun W gW => IH.out a b m p q W _ _ y ha (hu1.grow gW) (hu2.grow gW) HSY)
      clear hc1 hc2 hu1 hu2 HSY hy
      go_wp2_with (go_at_call 12; refine (CL.out _ ((GR.out.alloc _).alloc _)).use ?_)
      intro w2 g2
      have G2 := hid (((GR.out.alloc _).alloc _).trans g2)
      clear g2
      go_wp2_with fail
      go_roundw
      case rel => exact ⟨j + 1, by omega, by simp, G2.out⟩
      case measure => simp [intOf]; omega
    · obtain rfl : j = l.length := by omega
      have hno : ¬ (l.length : Int) < (l.length : Int) := by omega
      clear hlt hj
      go_wp2_with fail
      go_ret
      exact ⟨rfl, GR.out⟩
set_option maxRecDepth 100000 in
set_option maxHeartbeats 4000000 in
theorem same_succ (d : Nat) (ih : SameC d) : SameC (d + 1) := by
  intro a b m p q w v v' x ha hv hv' hsz
  obtain ⟨ka, kc, la, lc, rfl⟩ := hv.shape4
  obtain ⟨ka', kc', la', lc', rfl⟩ := hv'.shape4
  obtain ⟨k, t, ks, l⟩ := x
  simp only [Jt.kind, Jt.text, Jt.keys, Jt.list]
  cases m with
  | zero => exact hv'.elim
  | succ m =>
  obtain ⟨K1, L1⟩ := parts_succ (k := k) (t := t) (ks := ks) (l := l) hv
  obtain ⟨K2, L2⟩ := parts_succ (k := k) (t := t) (ks := ks) (l := l) hv'
  have hks : ks.length ≤ 999999 := by have := hsz.2.1; simp only [Jt.keys] at this; omega
  have hll : l.length ≤ 999999 := by have := hsz.2.2.1; simp only [Jt.list] at this; omega
  have EK : Hid (∀ W, G w W → Gives 27 #[.slice ka ks.length kc, .slice ka' ks.length kc'] W (.bool true)) := hid (fun W gW => sameStrs_any (fun j hj => by
    obtain ⟨b, o, e, hb, hc⟩ := K1 j hj
    exact ⟨b, o, e, Nat.lt_of_lt_of_le hb gW.size, (gW.cell (p := ⟨b, o + j, none⟩) hb).trans hc⟩) (fun j hj => by
    obtain ⟨b, o, e, hb, hc⟩ := K2 j hj
    exact ⟨b, o, e, Nat.lt_of_lt_of_le hb gW.size, (gW.cell (p := ⟨b, o + j, none⟩) hb).trans hc⟩) (by omega))
  have EL : Hid (∀ W, G w W → Gives 28 #[.slice la l.length lc, .slice la' l.length lc', .func (.func 12) #[] #[]] W (.bool true)) := hid (fun W gW => eqFunc_any d a b m ih p q l la la' lc lc' W ha hll hsz.2.2.2.2 (fun j hj => by
    obtain ⟨b, o, u, e, hb, hu, hc⟩ := L1 j hj
    exact ⟨b, o, u, e, Nat.lt_of_lt_of_le hb gW.size, hu.grow gW, fun i v hi hv => (gW.cell (p := ⟨b, o + (j * 4 + i), none⟩) hb).trans (hc i v hi hv)⟩) (fun j hj => by
    obtain ⟨b, o, u, e, hb, hu, hc⟩ := L2 j hj
    exact ⟨b, o, u, e, Nat.lt_of_lt_of_le hb gW.size, hu.grow gW, fun i v hi hv => (gW.cell (p := ⟨b, o + (j * 4 + i), none⟩) hb).trans (hc i v hi hv)⟩))
  clear hv hv' hsz K1 L1 K2 L2 ih
  go_enter Try.func12, Try.ntmps12
  go_upto_region 1 with fail
  generalize hwb : World.alloc (World.alloc w _) _ = wb
  obtain ⟨B, hB⟩ : ∃ B, w.heap.size = B := ⟨_, rfl⟩
  have h1 : wb.heap[B]? = some (.cells #[.int .i64 k, .string (S t), .slice ka ks.length kc, .slice la l.length lc] 25) := by rw [← hwb, ← hB]; exact row_alloc ((MapKept.heap_alloc w _).1) (by simp)
  have h2 : wb.heap[B + 1]? = some (.cells #[.int .i64 k, .string (S t), .slice ka' ks.length kc', .slice la' l.length lc'] 25) := by rw [← hwb, ← hB]; exact heap_of_drew _ _ _ (by simp)
  have GB := hid (show G w wb by rw [← hwb]; exact ((G.refl _).alloc _).alloc _)
  rw [hB]
  have H1 := hid h1
  have H2 := hid h2
  have c0 : wb.cell? ⟨B, 0, none⟩ = some (.int .i64 k) := by rw [cell_of_row wb B 0 _ _ _ h1]; rfl
  have c1 : wb.cell? ⟨B, 1, none⟩ = some (.string (S t)) := by rw [cell_of_row wb B 1 _ _ _ h1]; rfl
  have c2 : wb.cell? ⟨B, 2, none⟩ = some (.slice ka ks.length kc) := by rw [cell_of_row wb B 2 _ _ _ h1]; rfl
  have e0 : wb.cell? ⟨B + 1, 0, none⟩ = some (.int .i64 k) := by rw [cell_of_row wb (B + 1) 0 _ _ _ h2]; rfl
  have e1 : wb.cell? ⟨B + 1, 1, none⟩ = some (.string (S t)) := by rw [cell_of_row wb (B + 1) 1 _ _ _ h2]; rfl
  have e2 : wb.cell? ⟨B + 1, 2, none⟩ = some (.slice ka' ks.length kc') := by rw [cell_of_row wb (B + 1) 2 _ _ _ h2]; rfl
  clear hwb hB h1 h2
  go_wp2_with fail
  refine (EK.out _ GB.out).mono ?_
  rintro e w2 ⟨rfl, g2⟩
  have G2 := hid (GB.out.trans g2)
  have h1 := (g2.below.block B (lt_of_row H1.out)).trans H1.out
  have h2 := (g2.below.block (B + 1) (lt_of_row H2.out)).trans H2.out
  have c3 : w2.cell? ⟨B, 3, none⟩ = some (.slice la l.length lc) := by rw [cell_of_row w2 B 3 _ _ _ h1]; rfl
  have e3 : w2.cell? ⟨B + 1, 3, none⟩ = some (.slice la' l.length lc') := by rw [cell_of_row w2 (B + 1) 3 _ _ _ h2]; rfl
  clear g2 h1 h2 c0 c1 c2 e0 e1 e2
  go_wp2_with fail
  refine (EL.out _ G2.out).mono ?_
  rintro e w3 ⟨rfl, g3⟩
  have G3 := hid (G2.out.trans g3)
  clear g3 c3 e3
  go_wp2_with fail
  go_ret
  exact ⟨rfl, G3.out⟩
theorem same_all : ∀ d, SameC d
  | 0 => fun a b m p q w v v' x _ h _ _ => h.elim
  | d + 1 => same_succ d (same_all d)
/-- the laws' sameJson at the same tree, which is right -/
theorem same_any (a b n m : Nat) (p q : Nat → Prop) (w : World) (v v' : Value) (x : Jt) (ha : a ≤ 999999) (h : JAt n p w v x) (h' : JAt m q w v' x) (hr : rightJ 12 x = none) (hs : SzJ a b 12 x) : Gives 12 #[v, v'] w (.bool true) :=
  same_all 12 a b m p q w v v' x ha (h.cut hr) h' hs

end Go.Proofs.Ytlejbindochiiaa
