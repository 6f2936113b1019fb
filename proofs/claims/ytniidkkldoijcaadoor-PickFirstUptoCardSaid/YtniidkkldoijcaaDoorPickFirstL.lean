/-
  The law PickFirst walked. (printed by gen_pickfirst.py)
-/
import Derived.Test.YtniidkkldoijcaaDoorPickLaws
import Derived.Test.YtniidkkldoijcaaDoorMEdit
import Derived.Test.YtniidkkldoijcaaDoorTyped
import Derived.Test.YtniidkkldoijcaaDoorIsSorted
import Derived.Test.YtniidkkldoijcaaDoorChosen
import Derived.Test.YtniidkkldoijcaaDoorMVeil
import Derived.Test.YtniidkkldoijcaaDoorPick
import Derived.Test.YtniidkkldoijcaaDoorOpenItem
namespace Go.Proofs.YtniidkkldoijcaaDoor
open Go.RowKit Stab
set_option linter.unusedVariables false
set_option linter.unusedSimpArgs false

/-- memory without a block that may be none -/
def WoO (o : Option Nat) (w : World) : World := match o with | none => w | some B => Wo B w
theorem WoO.g {o : Option Nat} {a b : World} (h : G a b) : G (WoO o a) (WoO o b) := by
  cases o with
  | none => exact h
  | some B => exact Wo.g h
theorem WoO.sub (o : Option Nat) (w : World) : Sub (WoO o w) w := by
  cases o with
  | none => exact ⟨Nat.le_refl _, fun _ _ h => h⟩
  | some B => exact Wo.sub B w
theorem WoO.of {o : Option Nat} {a b : World} (h : G a b) (ho : ∀ B, o = some B → a.heap.size ≤ B) : G a (WoO o b) := by
  cases o with
  | none => exact h
  | some B => exact Wo.of h (ho B rfl)
theorem WoO.mv {o : Option Nat} {a b : World} (h : a.grownBy b o) : G (WoO o a) (WoO o b) := by
  cases o with
  | none => exact ⟨h.os, h.tape, h.output, h.size, fun k hk => h.block k hk (by simp)⟩
  | some B => exact Wo.mv h
theorem Sub.trans {a b c : World} (h : Sub a b) (k : Sub b c) : Sub a c := ⟨Nat.le_trans h.size k.size, fun p u hu => k.cell p u (h.cell p u hu)⟩
theorem own_woO {w : World} {o : Option Nat} {base : Nat} {t : TypeId} {k n : Nat} {v : Value} {cs : List Value} (h : w.ownsRow base t k v n cs) (ho : ∀ B, o = some B → B < base) : (WoO o w).ownsRow base t k v n cs := by
  cases o with
  | none => exact h
  | some B => exact own_wo h (ho B rfl)
set_option maxRecDepth 100000 in
set_option maxHeartbeats 1000000 in
theorem prefP_any (x : PmC) (w : World) (h1 : x.1.1.length ≤ 1000000) : Gives 27 (#[valP x] ++ #[]) w (.bool (sameL x.1.1 prefP)) := by
  obtain ⟨⟨n, vs⟩, sa, sn, sc⟩ := x
  dsimp only at h1
  go_enter Tryd.func27, Tryd.ntmps27
  go_wp2_with fail
  refine (same_any n [80, 82, 69, 70] _ (by omega) (by simp)).use ?_
  intro w1 g1
  have G1 := hid (((G.refl w).alloc (.cells #[.string (S n), .slice sa sn sc] 52)).trans g1)
  clear g1
  go_wp2_with fail
  go_ret
  exact ⟨rfl, G1.out⟩
set_option maxRecDepth 100000 in
set_option maxHeartbeats 1000000 in
theorem isAt_any (i n : Int) (K : Nat) (w : World) (hK : w.cell? ⟨K, 0, none⟩ = some (.int .i64 n)) : Gives 31 (#[valI i] ++ #[.pointer (some ⟨K, 0, none⟩)]) w (.bool (decide (i = n))) := by
  go_enter Tryd.func31, Tryd.ntmps31
  go_wp2_with fail
  go_ret
  exact ⟨rfl, G.refl _⟩
/-- what each item points to: the one whose row is written in place stands alone -/
def fAt (n : Nat) (o : Option Nat) (D : Nat) (i : Nat) (w : World) : World := if i = n then Wo D w else WoO o (Wo D w)
/-- the item at n, whose parameters lie in a row of the call's own -/
structure AtN (w1 : World) (D n : Nat) (x : It) (u : Value) (W : World) : Prop where
  row : ∃ qs : List PmC, qs.map (·.1) = x.ps ∧ (∀ y ∈ qs, IsStrs (WoO u.ownBlock (Wo D W)) (slP y) y.1.2) ∧ W.ownsRow w1.heap.size 52 2 u qs.length (qs.flatMap cellsP)
  ne : some D ≠ u.ownBlock
  cell : W.cell? ⟨D, n * 15 + 2, none⟩ = some u
  l : ∃ lv, W.cell? ⟨D, n * 15 + 5, none⟩ = some lv ∧ IsLists (WoO u.ownBlock (Wo D W)) lv x.v.ps
/-- the loop: the items ahead of m have no preference -/
def FiI (w1 w13 : World) (Bd : Nat) (ver : Int) (D uc : Nat) (xs : List It) (n m : Nat) (W : World) : Prop :=
  G w1 W ∧ W.cell? ⟨Bd, 0, none⟩ = some (.int .i64 ver) ∧ W.cell? ⟨Bd, 1, none⟩ = some (.slice (some ⟨D, 0, none⟩) xs.length uc) ∧
  ((m ≤ n ∧ EX w13 D uc ((xs.take m).map noPref ++ xs.drop m) (fun _ => Wo D) W) ∨
   (n < m ∧ ∃ x u, xs[n]? = some x ∧ AtN w13 D n (noPref x) u W ∧ EX w13 D uc ((xs.take m).map noPref ++ xs.drop m) (fAt n u.ownBlock D) W))
theorem AtN.grow {w1 W W' : World} {D n : Nat} {x : It} {u : Value} (h : AtN w1 D n x u W) (g : G W W') : AtN w1 D n x u W' := by
  obtain ⟨⟨qs, a1, a2, a3⟩, a4, a5, lv, a6, a7⟩ := h
  refine ⟨⟨qs, a1, fun y hy => (a2 y hy).grow (WoO.g (Wo.g g)), World.ownsRow.kept a3 (mv_of none g) (by cases hv : u.ownBlock <;> simp)⟩, a4, ?_, lv, ?_, a7.grow (WoO.g (Wo.g g))⟩
  · rw [g.cell (World.block_lt_of_cell? _ _ a5)]; exact a5
  · rw [g.cell (World.block_lt_of_cell? _ _ a6)]; exact a6
theorem AtN.set {w1 W : World} {D n m : Nat} {x : It} {u v : Value} (h : AtN w1 D n x u W) (hm : m ≠ n) : AtN w1 D n x u (W.setCell ⟨D, m * 15 + 2, none⟩ v) := by
  obtain ⟨⟨qs, a1, a2, a3⟩, a4, a5, lv, a6, a7⟩ := h
  refine ⟨⟨qs, a1, fun y hy => by rw [Wo.set]; exact a2 y hy, World.ownsRow.kept a3 (mv_set W D (m * 15 + 2) v) ?_⟩, a4, ?_, lv, ?_, by rw [Wo.set]; exact a7⟩
  · exact .inr (fun e => a4 e.symm)
  · rw [World.cell?_setCell_other _ _ _ _ (by intro e; have := congrArg Addr.off e; simp at this; omega)]; exact a5
  · rw [World.cell?_setCell_other _ _ _ _ (by intro e; have := congrArg Addr.off e; simp at this; omega)]; exact a6
theorem own_lt {w : World} {base : Nat} {t : TypeId} {k n : Nat} {v : Value} {cs : List Value} (h : w.ownsRow base t k v n cs) {B : Nat} (hB : v.ownBlock = some B) : base ≤ B ∧ B < w.heap.size := by
  rcases h.2 with ⟨rfl, _⟩ | ⟨g, cap, cur, rfl, hg, hh, _⟩
  · cases hB
  · cases hB; exact ⟨hg, (Array.getElem?_eq_some_iff.1 hh).1⟩
theorem fAt_sub (n : Nat) (o : Option Nat) (D i : Nat) (w : World) : Sub (fAt n o D i w) w := by
  unfold fAt
  split
  · exact Wo.sub D w
  · exact Sub.trans (WoO.sub o _) (Wo.sub D w)
theorem own_wo2 {w : World} {D base : Nat} {t : TypeId} {k n : Nat} {v : Value} {cs : List Value} (h : w.ownsRow base t k v n cs) (hD : v.ownBlock ≠ some D) : (Wo D w).ownsRow base t k v n cs := by
  refine ⟨h.1, ?_⟩
  rcases h.2 with e | ⟨g, cap, cur, e, hb, hg, r⟩
  · exact .inl e
  · exact .inr ⟨g, cap, cur, e, hb, by rw [Wo.other D w g (by rintro rfl; exact hD (by rw [e]; rfl))]; exact hg, r⟩
theorem WoO.mvD {o : Option Nat} {D : Nat} {a b : World} (h : a.grownBy b o) : (Wo D a).grownBy (Wo D b) o := by
  cases o with
  | none => exact mv_of none (Wo.g (g_of_none h))
  | some B => exact Wo.mvD h
theorem cells_ne2 {w : World} {b : Nat} {c c' : Array Value} {t t' : TypeId} {f f' : Nat × Nat} (h : w.heap[b]? = some (.cells c t f)) (h' : w.heap[b]? = some (.cells c' t' f')) : t = t' := by
  rw [h] at h'
  cases h'
  rfl
theorem ownN_mv {w w' : World} {base : Nat} {v : Value} {ds : List Int} {o : Option Nat} (h : OwnN w base v ds) (g : w.grownBy w' o) (hC : ∀ C, o = some C → C < base) : OwnN w' base v ds := by
  refine World.ownsRow.kept h g ?_
  rcases h.2 with ⟨rfl, _⟩ | ⟨b, cap, cur, rfl, hb, _⟩
  · exact .inl rfl
  · right
    intro e
    have := hC b e.symm
    omega
theorem own_hd {w : World} {g n c base : Nat} {i0 : Int} {rs : List Int} (h : OwnN w base (.slice (some ⟨g, 0, none⟩) n c) (i0 :: rs)) : w.cell? ⟨g, 0, none⟩ = some (.int .i64 i0) := by
  obtain ⟨a, cap, e, hc, h2⟩ := h.nums
  obtain ⟨b, off, e2, hb, h3⟩ := h2 (by simp)
  subst e2
  cases e
  exact h3 0 i0 rfl
theorem nums_tail {w : World} {g c base : Nat} {i0 : Int} {rs : List Int} (h : OwnN w base (.slice (some ⟨g, 0, none⟩) (rs.length + 1) c) (i0 :: rs)) : IsNums w (.slice (if c = 1 then some ⟨g, 0, none⟩ else some ⟨g, 1, none⟩) rs.length (c - 1)) rs := by
  obtain ⟨a, cap, e, hc, h2⟩ := h.nums
  obtain ⟨b, off, e2, hb, h3⟩ := h2 (by simp)
  subst e2
  cases e
  refine ⟨_, _, rfl, by simp at hc; omega, fun h0 => ⟨g, 1, if_neg ?_, hb, fun i x hx => ?_⟩⟩
  · rintro rfl
    cases rs with
    | nil => exact h0 rfl
    | cons y ys => simp at hc
  have := h3 (i + 1) x (by simpa using hx)
  rwa [show 0 + (i + 1) = 1 + i by omega] at this
theorem cloneInts_any (v : Value) (xs : List Int) (w : World) {base : Nat} (h : OwnN w base v xs) (hl : xs.length ≤ 1000000) : Makes 30 #[v] w (fun v' w' => OwnN w' w.heap.size v' xs) := by
  rcases h.form with ⟨rfl, rfl⟩ | ⟨g, cap, rfl, _, _, _⟩
  · refine (Tryd.slices_Clone_int_nil 0 0 w).mono ?_
    rintro e w' ⟨rfl, rfl⟩
    exact ⟨_, rfl, World.ownsRow_nil _ _ _ _, G.refl _⟩
  · by_cases h0 : xs = []
    · subst h0
      refine (Tryd.slices_Clone_int_zero ⟨g, 0, none⟩ cap w).mono ?_
      rintro e w' ⟨v', rfl, h1, _, h2⟩
      exact ⟨_, rfl, h1, h2⟩
    · obtain ⟨a, c, e, _, h2⟩ := h.nums
      obtain ⟨b, off, e2, hb, h3⟩ := h2 h0
      subst e2
      cases e
      refine (Tryd.slices_Clone_int g 0 xs.length cap xs w (Nat.le_refl _) (by omega) (fun j hj => ?_)).mono ?_
      · rw [h3 j xs[j] (List.getElem?_eq_getElem hj)]; simp [hj]
      · rintro e w' ⟨v', rfl, h4, _, h5⟩
        rw [List.take_length] at h4
        exact ⟨_, rfl, h4, h5⟩
theorem deleteAt_any (n : Int) (K base : Nat) (v : Value) (fl : List Int) (w : World) (h : OwnN w base v fl) (hl : fl.length ≤ 1000000) (hK : w.cell? ⟨K, 0, none⟩ = some (.int .i64 n)) (hKb : K < base) (hbw : base ≤ w.heap.size) :
    Calls Tryd.prog 29 #[v, .func (.func 31) #[] #[.pointer (some ⟨K, 0, none⟩)]] w fun e w' => ∃ u, e = .returned u ∧ OwnN w' base u (fl.filter fun i => !decide (i = n)) ∧ Below base w w' := by
  have ho : w.ownsRow base 3 1 v fl.length (fl.flatMap cellsI) := by rw [flat_int]; exact h
  refine (deleteI_any 31 #[.pointer (some ⟨K, 0, none⟩)] (enters_of Tryd.func31 (by kernel_rfl) rfl) (fun i => decide (i = n)) base v fl w ho hl fun W gW i _ => isAt_any i n K W (gW.cell hK fun e => ?_)).mono ?_
  · have := (own_lt ho e.symm).1
    simp only at this
    omega
  · rintro e w' ⟨u, rfl, h1, h2, _⟩
    rw [flat_int] at h1
    refine ⟨u, rfl, h1, ⟨h2.os, h2.tape, h2.output, h2.size, fun k hk => ?_⟩⟩
    by_cases hlt : k < w.heap.size
    · exact h2.block k hlt fun e => by have := (own_lt ho e.symm).1; omega
    · omega
theorem mix_step {f : It → It} {xs : List It} {k : Nat} {x : It} (hx : xs[k]? = some x) : ((xs.take k).map f ++ xs.drop k)[k]? = some x ∧ ((xs.take k).map f ++ xs.drop k).set k (f x) = (xs.take (k + 1)).map f ++ xs.drop (k + 1) := by
  obtain ⟨hk, rfl⟩ := List.getElem?_eq_some_iff.1 hx
  have hl : ((xs.take k).map f).length = k := by simp; omega
  constructor
  · rw [List.getElem?_append_right (by omega), hl, Nat.sub_self, List.getElem?_drop]
    simp
  · rw [List.set_append_right _ _ (by omega), hl, Nat.sub_self, List.drop_eq_getElem_cons hk, List.set_cons_zero, List.take_add_one, List.getElem?_eq_getElem hk]
    simp only [Option.toList_some, List.map_append, List.map_cons, List.map_nil, List.append_assoc, List.singleton_append]
theorem fAt_g {n : Nat} {o : Option Nat} {D : Nat} (i : Nat) (a b : World) (h : G a b) : G (fAt n o D i a) (fAt n o D i b) := by
  unfold fAt
  split
  · exact Wo.g h
  · exact WoO.g (Wo.g h)
theorem fAt_set {n : Nat} {o : Option Nat} {D : Nat} (i : Nat) (w : World) (j : Nat) (v : Value) : fAt n o D i (w.setCell ⟨D, j, none⟩ v) = fAt n o D i w := by unfold fAt; rw [Wo.set]
/-- what a round finds -/
theorem FiI.at_ {w1 w13 : World} {Bd : Nat} {ver : Int} {D uc : Nat} {xs : List It} {n m : Nat} {W : World} {x : It} (h : FiI w1 w13 Bd ver D uc xs n m W) (hx : xs[m]? = some x) :
    ∃ (o : Option Nat) (pv lv : Value), (m ≤ n → o = none) ∧ ItOk (WoO o (Wo D W)) x pv lv ∧ (∀ (j : Nat) (y : Value), (x.cells pv lv)[j]? = some y → W.cell? ⟨D, m * 15 + j, none⟩ = some y) ∧ D < W.heap.size ∧ (∀ j, W.frozen? ⟨D, j, none⟩ = false) ∧ (∀ ob, n < m → (∃ y, AtN w13 D n y ob W) → o = ob.ownBlock) := by
  obtain ⟨_, _, _, ⟨hm, hE⟩ | ⟨hm, y, u, hy, hA, hE⟩⟩ := h
  · obtain ⟨pv, lv, h1, h2⟩ := hE.at_ (mix_step (f := noPref) hx).1
    exact ⟨none, pv, lv, fun _ => rfl, h1, h2, hE.lt, hE.fz, fun ob h => by omega⟩
  · obtain ⟨pv, lv, h1, h2⟩ := hE.at_ (mix_step (f := noPref) hx).1
    unfold fAt at h1
    rw [if_neg (by omega)] at h1
    exact ⟨_, pv, lv, fun h => absurd h (by omega), h1, h2, hE.lt, hE.fz, fun ob _ ⟨z, hz⟩ => by have := hz.cell.symm.trans hA.cell; rw [Option.some.inj this]⟩
/-- a round of the loop: the item at m gets the row u, made in the round -/
theorem FiI.step {w1 w13 : World} {Bd : Nat} {ver : Int} {D uc : Nat} {xs : List It} {n m : Nat} {W W' : World} {x : It} {u pv lv : Value} {qs : List PmC} {o : Option Nat} (h : FiI w1 w13 Bd ver D uc xs n m W) (g : G W W') (hw : w1.heap.size ≤ D) (hB : Bd < D) (hx : xs[m]? = some x)
    (ho : m ≤ n → o = none) (hok : ItOk (WoO o (Wo D W)) x pv lv) (hc : ∀ (j : Nat) (y : Value), (x.cells pv lv)[j]? = some y → W.cell? ⟨D, m * 15 + j, none⟩ = some y) (hq : ∀ y ∈ qs, IsStrs (WoO o (Wo D W)) (slP y) y.1.2) (hr : W'.ownsRow W.heap.size 52 2 u qs.length (qs.flatMap cellsP)) (hp : qs.map (·.1) = (noPref x).ps)
    (hO : ∀ ob, n < m → (∃ y, AtN w13 D n y ob W) → o = ob.ownBlock) : FiI w1 w13 Bd ver D uc xs n (m + 1) (W'.setCell ⟨D, m * 15 + 2, none⟩ u) := by
  have hform : u = .slice none 0 0 ∨ ∃ a n c, u = .slice (some a) n c := by
    rcases hr.2 with ⟨e, _⟩ | ⟨b, c, cur, e, _⟩
    · exact .inl e
    · exact .inr ⟨_, _, _, e⟩
  obtain ⟨h1, h2, h3, h4⟩ := h
  obtain ⟨hx1, hx2⟩ := mix_step (f := noPref) hx
  have hc' : ∀ (j : Nat) (y : Value), (x.cells pv lv)[j]? = some y → W'.cell? ⟨D, m * 15 + j, none⟩ = some y := fun j y hy => by
    have := hc j y hy
    rw [g.cell (World.block_lt_of_cell? _ _ this)]; exact this
  refine ⟨Below.setCell (h1.trans g) (p := ⟨D, m * 15 + 2, none⟩) hw _, ?_, ?_, ?_⟩
  · rw [World.cell?_setCell_other _ _ _ _ (by intro e; have := congrArg Addr.block e; simp at this; omega), g.cell (World.block_lt_of_cell? _ _ h2)]; exact h2
  · rw [World.cell?_setCell_other _ _ _ _ (by intro e; have := congrArg Addr.block e; simp at this; omega), g.cell (World.block_lt_of_cell? _ _ h3)]; exact h3
  rw [← hx2]
  rcases h4 with ⟨hm, hE⟩ | ⟨hm, y, ob, hy, hA, hE⟩
  · have hD := hE.lt
    obtain rfl := ho hm
    have hok2 : ItOk (Wo D W') (noPref x) u lv := by
      have hk := ItOk.grow hok (Wo.g g)
      refine ⟨?_, hk.l, hform, hk.y, hk.t⟩
      have := params_rows (w := W) (fun z hz => (hq z hz).grow (Wo.g g)) (own_wo hr hD)
      rw [hp] at this
      exact this
    by_cases hmn : m = n
    · subst hmn
      refine .inr ⟨Nat.lt_succ_self _, x, u, hx, ?_, ?_⟩
      · refine ⟨⟨qs, hp, fun z hz => ?_, ?_⟩, fun e => ?_, ?_, lv, ?_, ?_⟩
        · rw [Wo.set]
          exact (hq z hz).grow (WoO.of (Wo.g g) fun B hB2 => by show (Wo D W).heap.size ≤ B; rw [Wo.size]; exact (own_lt hr hB2).1)
        · refine World.ownsRow.kept (ownsRow_mono hr hE.mv.size) (mv_set W' D (m * 15 + 2) u) (.inr fun e => ?_)
          have := (own_lt hr e).1
          omega
        · have := (own_lt hr e.symm).1
          omega
        · exact World.cell?_setCell_same _ _ _ (hc' 2 pv rfl)
        · rw [World.cell?_setCell_other _ _ _ _ (by intro e; have := congrArg Addr.off e; simp at this)]; exact hc' 5 lv rfl
        · rw [Wo.set]
          exact hok.l.grow (WoO.of (Wo.g g) fun B hB2 => by show (Wo D W).heap.size ≤ B; rw [Wo.size]; exact (own_lt hr hB2).1)
      · have hE2 : EX w13 D uc ((xs.take m).map noPref ++ xs.drop m) (fAt m u.ownBlock D) W' := hE.turn (mv_g hE.mv g) (g.below.block _ hD) fun i z qv mv hz _ hk => by
          unfold fAt
          split
          · exact hk.grow (Wo.g g)
          · exact hk.grow (WoO.of (Wo.g g) fun B hB2 => by show (Wo D W).heap.size ≤ B; rw [Wo.size]; exact (own_lt hr hB2).1)
        refine hE2.set hx1 hc' (noPref x).ps u ?_ fun j z qv mv hz hj hk => ?_
        · rw [fAt_set]
          unfold fAt
          rw [if_pos rfl]
          exact hok2
        · rw [fAt_set]; exact hk
    · refine .inl ⟨by omega, ?_⟩
      refine (hE.grow (fun _ a b => Wo.g) g).set hx1 hc' (noPref x).ps u (by rw [Wo.set]; exact hok2) fun j z qv mv hz hj hk => by rw [Wo.set]; exact hk
  · have hD := hE.lt
    obtain rfl := hO ob hm ⟨_, hA⟩
    refine .inr ⟨by omega, y, ob, hy, (hA.grow g).set (by omega), ?_⟩
    obtain ⟨⟨qz, _, _, az⟩, _⟩ := hA
    refine (hE.grow fAt_g g).set hx1 hc' (noPref x).ps u ?_ fun j z qv mv hz hj hk => by rw [fAt_set]; exact hk
    rw [fAt_set]
    unfold fAt
    rw [if_neg (by omega)]
    have hk := ItOk.grow hok (WoO.g (o := ob.ownBlock) (Wo.g g))
    refine ⟨?_, hk.l, hform, hk.y, hk.t⟩
    have := params_rows (w := W) (fun z hz => (hq z hz).grow (WoO.g (Wo.g g))) (own_woO (own_wo hr hD) fun B hB2 => (own_lt az hB2).2)
    rw [hp] at this
    exact this
def fstPhi14 (ver : Int) (Bd D len uc m : Nat) (Ai : Nat) (ys : List It) (nm : List UInt8) (k : Nat) (v : Value) (W : World) : Prop :=
  match k with
  | 0 => v = .agg #[.int .i64 ver, .slice (some ⟨D, 0, none⟩) len uc]
  | 1 => v = .pointer (some ⟨Bd, 1, none⟩)
  | 2 => v = .slice (some ⟨D, 0, none⟩) len uc
  | 3 => v = .int .i64 (m : Int)
  | 4 => v = .pointer (some ⟨D, m * 15, none⟩)
  | 5 => v = .pointer (some ⟨D, m * 15 + 1, none⟩)
  | 6 => v = .string (S nm)
  | 7 => ∃ l, Sorted (keyL ys) (idxL (ofName nm) ys) l ∧ OwnN W Ai v l
  | _ => True
def fstPhi15 (Bd D len uc m : Nat) (pv : Value) (n0 base : Nat) (qs : List PmC) (b : Bool) (k : Nat) (v : Value) (W : World) : Prop :=
  match k with
  | 0 => v = .pointer (some ⟨Bd, 1, none⟩)
  | 1 => v = .slice (some ⟨D, 0, none⟩) len uc
  | 2 => v = .int .i64 (m : Int)
  | 3 => v = .pointer (some ⟨Bd, 1, none⟩)
  | 4 => v = .slice (some ⟨D, 0, none⟩) len uc
  | 5 => v = .int .i64 (m : Int)
  | 6 => v = .pointer (some ⟨D, m * 15, none⟩)
  | 7 => v = .pointer (some ⟨D, m * 15 + 2, none⟩)
  | 8 => v = pv
  | 9 => b = false → ∃ kb, v = .slice (some ⟨kb, 0, none⟩) 1 1 ∧ n0 ≤ kb ∧ W.heap[kb]? = some (.cells #[.string (S [49])] 9 (0, 0))
  | 10 => b = false → ∃ kb, v = .agg #[.string (S [112, 114, 101, 102]), .slice (some ⟨kb, 0, none⟩) 1 1] ∧ n0 ≤ kb ∧ W.heap[kb]? = some (.cells #[.string (S [49])] 9 (0, 0))
  | 11 => b = false → ∃ pb kb, v = .slice (some ⟨pb, 0, none⟩) 1 1 ∧ n0 ≤ pb ∧ W.heap[pb]? = some (.cells #[.string (S [112, 114, 101, 102]), .slice (some ⟨kb, 0, none⟩) 1 1] 52 (0, 0)) ∧ n0 ≤ kb ∧ W.heap[kb]? = some (.cells #[.string (S [49])] 9 (0, 0))
  | 12 => b = true ∧ ∃ kb g cap, v = .slice (some ⟨g, 0, none⟩) (qs.length + 1) cap ∧ W.ownsRow base 52 2 v (qs.length + 1) (qs.flatMap cellsP ++ [.string (S [112, 114, 101, 102]), .slice (some ⟨kb, 0, none⟩) 1 1]) ∧ n0 ≤ kb ∧ W.heap[kb]? = some (.cells #[.string (S [49])] 9 (0, 0))
  | 13 => v = .pointer (some ⟨D, m * 15, none⟩)
  | 14 => v = .pointer (some ⟨D, m * 15 + 2, none⟩)
  | _ => True
def fstPhi16 (ver : Int) (Bd D len uc m : Nat) (Ai : Nat) (ys : List It) (nm : List UInt8) (k : Nat) (v : Value) (W : World) : Prop :=
  match k with
  | 0 => v = .agg #[.int .i64 ver, .slice (some ⟨D, 0, none⟩) len uc]
  | 1 => v = .pointer (some ⟨Bd, 1, none⟩)
  | 2 => v = .slice (some ⟨D, 0, none⟩) len uc
  | 3 => v = .int .i64 (m : Int)
  | 4 => v = .pointer (some ⟨D, m * 15, none⟩)
  | 5 => v = .pointer (some ⟨D, m * 15 + 1, none⟩)
  | 6 => v = .string (S nm)
  | 7 => ∃ l, Sorted (keyL ys) (idxL (ofName nm) ys) l ∧ OwnN W Ai v l
  | _ => True
def fstPhi17 (fv gv : Value) (fl gl : List Int) (nl : Nat) (m : Int) (gb : Nat) (gc : Nat) (Ai n0 : Nat) (b : Bool) (k : Nat) (v : Value) (W : World) : Prop :=
  match k with
  | 0 => v = fv
  | 1 => v = .bool true
  | 2 => v = .bool true
  | 3 => v = gv
  | 4 => v = .int .i64 ((nl : Int) + 1)
  | 5 => v = .bool true
  | 6 => v = .bool true
  | 7 => v = .bool true
  | 8 => v = gv
  | 9 => v = .pointer (some ⟨gb, 0, none⟩)
  | 10 => v = .int .i64 m
  | 11 => v = .int .i64 m
  | 12 => v = .bool true
  | 13 => v = .bool true
  | 14 => v = .bool true
  | 15 => v = gv
  | 16 => v = .slice (if gc = 1 then some ⟨gb, 0, none⟩ else some ⟨gb, 1, none⟩) nl (gc - 1)
  | 17 => v = fv
  | 18 => b = false → OwnN W n0 v fl
  | 19 => v = .func (.func 31) #[] #[.pointer (some ⟨Ai, 0, none⟩)]
  | 20 => b = true ∧ OwnN W n0 v gl
  | _ => True
set_option maxRecDepth 100000 in
set_option maxHeartbeats 40000000 in
theorem pickFirst_walk (ver : Int) (iv : Value) (xs : List It) (a : Int) (w : World) (h : IsItems w iv xs) (hf : iv = .slice none 0 0 ∨ ∃ a n c, iv = .slice (some a) n c) (hl : xs.length ≤ 1048576) (hL : ∀ y ∈ xs, lenI y ≤ 1048576) (ha : -9223372036854775808 ≤ a ∧ a ≤ 9223372036854775807) (hM : RMem w) :
    Gives 6 #[cardV ver iv, .int .i64 a] w (.bool true) := by
  have HF := hid hf
  have HI := hid h
  have HM := hid hM
  have HL := hid (fun y hy => lim_of (hL y hy))
  obtain ⟨ia, ic, rfl, _⟩ := h.len
  clear hf h hM hL
  unfold cardV
  go_enter Tryd.func6, Tryd.ntmps6
  go_wp2_with fail
  generalize hw5 : (World.alloc (World.alloc w _) _) = w5
  have hB : CardAt w5 w.heap.size ver (.slice ia xs.length ic) xs := by rw [← hw5]; exact (CardAt.new HI.out).grow ((G.refl _).alloc _)
  have hA : BR w5 (w.heap.size + 1) 3 [.int .i64 a] w5 := ⟨mv_refl _ _, by rw [← hw5]; exact new_at _ _ _ (by simp)⟩
  have g5 : G w w5 := by rw [← hw5]; exact ((G.refl w).alloc _).alloc _
  clear hw5
  refine (chosen_any w5 (HM.out.grow g5)).use ?_
  intro w6 g6
  have HB := hid (hB.grow g6)
  have HA := hid (hA.grow g6)
  have HG := hid (g5.trans g6)
  clear g5 g6 hB hA
  have c0 := HB.out.c0
  have c1 := HB.out.c1
  go_wp2_with fail
  have hbg := big_any ver _ xs w6 HB.out.it (HL.out) hl
  obtain ⟨t1, ht1⟩ : ∃ t, bigC xs = t := ⟨_, rfl⟩
  rw [ht1] at hbg
  have HT1 := hid ht1
  refine hbg.use ?_
  clear hbg ht1
  intro w8 g8
  have HB := hid (HB.out.grow g8)
  have HA := hid (HA.out.grow g8)
  have HG := hid (HG.out.trans g8)
  clear g8 c0 c1
  cases t1 with
  | true =>
    go_wp2_with fail
    go_ret
    exact ⟨rfl, HG.out⟩
  | false =>
  have c0 := HB.out.c0
  have c1 := HB.out.c1
  by_cases h0 : xs.length = 0
  · have hzz : (xs.length : Int) = 0 := by omega
    go_wp2_with fail
    go_ret
    exact ⟨rfl, HG.out⟩
  have hzz : ¬ (xs.length : Int) = 0 := by omega
  have hs40 := (bigC_small HT1.out).1
  have HFI := hid (fine_small HT1.out)
  have a0 := HA.out.cell (i := 0) (v := .int .i64 a) rfl
  have af := HA.out.fz 0
  go_wp2_with fail
  refine (pick_any a xs.length _ (by omega) (by omega)).use ?_
  have hn := pickV_lt a (n := (xs.length : Int)) (by omega)
  obtain ⟨n, hne⟩ : ∃ n, pickV a xs.length = n := ⟨_, rfl⟩
  rw [hne] at hn ⊢
  have hltB := HB.out.lt
  have hltA := HA.out.lt
  clear hne
  obtain ⟨w9, hw9⟩ : ∃ w9, w9 = w8.setCell ⟨w.heap.size + 1, 0, none⟩ (.int .i64 (n : Int)) := ⟨_, rfl⟩
  have HG9 : Hid (G w w9) := hid (by rw [hw9]; exact Below.setCell HG.out (p := ⟨w.heap.size + 1, 0, none⟩) (Nat.le_succ _) _)
  have HB9 : Hid (CardAt w9 w.heap.size ver (.slice ia xs.length ic) xs) := hid ⟨by rw [hw9, World.cell?_setCell_other _ _ _ _ (by simp)]; exact c0, by rw [hw9, World.cell?_setCell_other _ _ _ _ (by simp)]; exact c1, HI.out.grow HG9.out⟩
  have HA9 : Hid (w9.cell? ⟨w.heap.size + 1, 0, none⟩ = some (.int .i64 (n : Int))) := hid (by rw [hw9]; exact World.cell?_setCell_same _ _ _ a0)
  go_wp2_with fail
  rw [← hw9]
  generalize hw11 : World.alloc w9 _ = w11
  have g11 : G w9 w11 := by rw [← hw11]; exact (G.refl _).alloc _
  have hbd : BR w11 w8.heap.size 24 [.int .i64 ver, .slice ia xs.length ic] w11 := ⟨mv_refl _ _, by rw [← hw11, show w8.heap.size = w9.heap.size by rw [hw9]; simp]; exact heap_alloc_new w9 _⟩
  have hz11 : w11.heap.size = w9.heap.size + 1 := by rw [← hw11]; simp
  have hz9 : w8.heap.size = w9.heap.size := by rw [hw9]; simp
  have HBD := hid hbd
  have HG11 := hid g11
  have HZ11 := hid hz11
  have HZ9 := hid hz9
  obtain ⟨cs, hcs, hrs⟩ := (HI.out.grow HG9.out).lies
  have HCS := hid hcs
  have HRS := hid hrs
  have HC := hid (clone_items (.slice ia xs.length ic) xs.length cs w9 hcs HF.out (by omega) w11 g11 w11.heap.size (Nat.le_refl _))
  clear hw11 g11 hbd hz11 hz9 hcs hrs c0 c1 a0 af hw9 HB HA HG
  refine HC.out.mono ?_
  rintro e w12 ⟨u, rfl, ho, g12⟩
  have HO := hid ho
  have hbd := HBD.out.grow g12
  have d1 := hbd.cell (i := 1) (v := .slice ia xs.length ic) rfl
  have f1 := hbd.fz 1
  obtain ⟨ua, uc, rfl⟩ := (ho.lies (by have := HCS.out.2.1; exact this)).form
  have HBD2 := hid (hbd.set 1 (.slice ua xs.length uc))
  have HG12 := hid g12
  clear hbd ho g12 HC
  go_wp2_with fail
  generalize hw13 : World.setCell w12 _ _ = w13
  rw [hw13] at HBD2
  have e0 := HBD2.out.cell (i := 0) (v := .int .i64 ver) rfl
  have e1 := HBD2.out.cell (i := 1) (v := .slice ua xs.length uc) rfl
  have HG13 : Hid (G w9 w13) := hid (by rw [← hw13]; exact Below.setCell (HG11.out.trans HG12.out) (p := ⟨w8.heap.size, 1, none⟩) (by have := HZ9.out; simp only; omega) _)
  obtain ⟨D, hDe, hBdD, hwD, HE⟩ : ∃ D, ua = some ⟨D, 0, none⟩ ∧ w8.heap.size < D ∧ w9.heap.size ≤ D ∧ Hid (EX w13 D uc xs (fun _ => Wo D) w13) := by
    rcases HO.out.2 with ⟨e, h00⟩ | ⟨D, cap, cur, e, hD, hg, h1, h2, h3, h4⟩
    · exact absurd h00 h0
    · cases e
      have hz := HZ11.out
      have hz9 := HZ9.out
      refine ⟨D, rfl, by omega, by omega, hid ?_⟩
      have ho13 : OwnR w11.heap.size w13 (.slice (some ⟨D, 0, none⟩) xs.length uc) xs.length cs := HO.out.same fun b hb _ => by rw [← hw13]; exact Below.heap_setCell _ _ _ _ (by simp only; omega)
      exact EX.start ho13 HRS.out rfl HG13.out (by omega)
  subst hDe
  have HT : Hid (FiI w9 w13 w8.heap.size ver D uc xs n 0 w13) := hid ⟨HG13.out, e0, e1, .inl ⟨Nat.zero_le _, by simpa using HE.out⟩⟩
  have hD13 := HE.out.lt
  have hBd13 := World.block_lt_of_cell? _ _ e1
  clear d1 f1 e0 hw13 HBD HBD2 HO HG11 HG12 HZ11 HCS HRS HE HG13
  generalize hBd : w8.heap.size = Bd at HT e1 hBdD hBd13 ⊢
  have hBdw : w9.heap.size = Bd := by rw [← hBd]; exact HZ9.out.symm
  clear hBd HZ9
  go_wp2_with fail
  go_loopw [6, 7, 33] (fun _ _ i wr => ∃ m : Nat, m ≤ xs.length ∧ i = .int .i64 (m : Int) ∧ FiI w9 w13 Bd ver D uc xs n m wr) (fun _ _ i _ => xs.length - (intOf i).toNat)
  case atStart => exact ⟨0, Nat.zero_le _, rfl, HT.out⟩
  case round =>
    obtain ⟨m, hm, rfl, hT⟩ := hrel
    have HT := hid hT
    by_cases hlt : m < xs.length
    · obtain ⟨x, hx⟩ : ∃ x, xs[m]? = some x := ⟨_, List.getElem?_eq_getElem hlt⟩
      obtain ⟨o, pv, lv, ho, hok, hcell, hD1, hfz, hO⟩ := hT.at_ hx
      have ep := hcell 2 pv rfl
      have ez := hT.2.2.1
      have hB1 := World.block_lt_of_cell? _ _ ez
      have fz2 := hfz (m * 15 + 2)
      obtain ⟨qs, hq1, hq2, hq3⟩ := hok.p.row hok.f
      have hql : qs.length = x.ps.length := by rw [← hq1]; simp
      obtain ⟨hw1, hw2⟩ := wide_big (show x.big ≤ 100000 by have := big_small ((bigC_small HT1.out).2 x (List.mem_of_getElem? hx)); omega)
      obtain ⟨pa, pc, rfl⟩ := hok.pv
      have CLN := hid (clone_pm (.slice pa x.ps.length pc) qs.length (qs.flatMap cellsP) wr (hq3.sub (Sub.trans (WoO.sub o _) (Wo.sub D wr))) (by omega) wr (G.refl _))
      have hmz : (m : Int) < (xs.length : Int) := by omega
      have HR := hid (show (m ≤ n → o = none) ∧ ItOk (WoO o (Wo D wr)) x (.slice pa x.ps.length pc) lv ∧ (∀ (j : Nat) (y : Value), (x.cells (.slice pa x.ps.length pc) lv)[j]? = some y → wr.cell? ⟨D, m * 15 + j, none⟩ = some y) ∧ (∀ ob, n < m → (∃ y, AtN w13 D n y ob wr) → o = ob.ownBlock) ∧ qs.map (·.1) = x.ps ∧ ∀ y ∈ qs, IsStrs (WoO o (Wo D wr)) (slP y) y.1.2 from ⟨ho, hok, hcell, hO, hq1, hq2⟩)
      have HX := hid hx
      have HN := hid (show ∀ y ∈ qs, y.1.1.length ≤ 1000000 from fun y hy => by
        have := (hw2 y.1 (by rw [← hq1]; exact List.mem_map.2 ⟨y, hy, rfl⟩)).1
        omega)
      clear ho hok hcell hO hq1 hq2 hq3 hw2 hx hT hfz
      go_wp2_with fail
      refine CLN.out.mono ?_
      rintro e w15 ⟨u1, rfl, ho1, g15⟩
      have hdel := deleteP_any 27 #[] (enters_of Tryd.func27 (by kernel_rfl) rfl) (fun y => sameL y.1.1 prefP) wr.heap.size u1 qs w15 ho1 (by omega) (fun W _ y hy => prefP_any y W (HN.out y hy))
      have HD := hid hdel
      have HO1 := hid ho1
      have HG15 := hid g15
      clear hdel ho1 g15
      go_wp2_with fail
      refine HD.out.mono ?_
      rintro e w16 ⟨u2, rfl, ho2, m16, _⟩
      have g16 : G wr w16 := g_own HG15.out HO1.out (Nat.le_refl _) m16
      have t2 := (g16.cell (p := ⟨D, m * 15 + 2, none⟩) hD1).trans ep
      have t3 : w16.frozen? ⟨D, m * 15 + 2, none⟩ = false := by rw [g16.below.frozen (p := ⟨D, m * 15 + 2, none⟩) hD1]; exact fz2
      obtain ⟨va, vn, vc, rfl⟩ : ∃ a n c, u2 = .slice a n c := by
        rcases ho2.2 with ⟨e, _⟩ | ⟨b, c, cur, e, _⟩
        · exact ⟨_, _, _, e⟩
        · exact ⟨_, _, _, e⟩
      have HO2 := hid ho2
      have HG16 := hid g16
      clear ho2 m16 g16 HD HO1 HG15
      go_wp2_with fail
      go_roundw
      case measure => simp [intOf]; omega
      case rel =>
        refine ⟨m + 1, by omega, by go_num, ?_⟩
        obtain ⟨k1, k2, k3, k4, k5, k6⟩ := HR.out
        refine HT.out.step HG16.out hwD hBdD HX.out k1 k2 k3 (fun y hy => k6 y (List.mem_filter.1 hy).1) HO2.out ?_ k4
        show _ = x.ps.filter fun p => !sameL p.1 prefP
        rw [← k5, List.filter_map]
        rfl
    · obtain rfl : m = xs.length := by omega
      obtain ⟨w20, rfl⟩ : ∃ w20, w20 = wr := ⟨_, rfl⟩
      obtain ⟨t1, e0, e1, ⟨hbad, _⟩ | ⟨_, x, u, hx, hA, hE⟩⟩ := hT
      · omega
      simp only [List.take_length, List.drop_length, List.append_nil] at hE
      have HGW := hid t1
      have hB0 := World.block_lt_of_cell? _ _ e0
      have eA := (t1.cell (World.block_lt_of_cell? _ _ HA9.out)).trans HA9.out
      have hA0 := World.block_lt_of_cell? _ _ eA
      have hA9 := World.block_lt_of_cell? _ _ HA9.out
      have hxm : (xs.map noPref)[n]? = some (noPref x) := by rw [List.getElem?_map, hx]; rfl
      obtain ⟨pv0, lv0, hk0, hc0⟩ := hE.at_ hxm
      have eN : w20.cell? ⟨D, n * 15 + 1, none⟩ = some (.string (S x.n)) := hc0 1 _ rfl
      have eU := hA.cell
      have hD1 := hE.lt
      have hnz : (n : Int) < (xs.length : Int) := by omega
      have hnf := (no_fine HT1.out).1
      have hxb := big_small ((bigC_small HT1.out).2 x (List.mem_of_getElem? hx))
      have hxn : x.n.length ≤ 100000 := by unfold It.big at hxb; omega
      have hit : IsItems w20 (.slice (some ⟨D, 0, none⟩) xs.length uc) (xs.map noPref) := by
        have := hE.items (fun i => fAt_sub n u.ownBlock D i w20)
        rwa [List.length_map] at this
      have HALL := hid (fun W (g : G w20 W) => all_any ver (.slice (some ⟨D, 0, none⟩) xs.length uc) (xs.map noPref) x.n W (hit.grow g) hnf hxn (HM.out.grow ((HG9.out.trans HGW.out).trans g)))
      have HE := hid hE
      have HAT := hid hA
      have HX := hid hx
      have HXM := hid hxm
      clear hA hE hk0 hc0 hit hx hxm t1 HT HL hnf
      go_wp2_with fail
      refine wp_region_any (by kernel_rfl) ?_
      refine wpAny_veiled (E := #[false, false, false, false, false, false, false, false, false]) G 8 (fstPhi14 ver Bd D xs.length uc n w20.heap.size (xs.map noPref) x.n) [some [], some [], some [(1, 51)], some [], some [(2, 52), (3, 53)], some [(4, 54)], some [(5, 55)], some [(0, 50), (6, 56)], none] [(0, 50), (1, 51), (2, 52), (3, 53), (4, 54), (5, 55), (6, 56), (7, 57)] _ (by kernel_rfl) (by decide) (by kernel_rfl) (by kernel_rfl) rfl G.refl (fun _ _ _ => G.trans) (w0 := w20) ((G.refl w20).drew) ?_ ?_ ?_
      · intro k v W W' g h
        match k, h with
        | 0, h => exact h
        | 1, h => exact h
        | 2, h => exact h
        | 3, h => exact h
        | 4, h => exact h
        | 5, h => exact h
        | 6, h => exact h
        | 7, h => exact by obtain ⟨l, h1, h2⟩ := h; exact ⟨l, h1, h2.grow g⟩
        | n + 8, h => trivial
      · refine gAll_some (fun vals W g d => ?_) <| gAll_some (fun vals W g d => ?_) <| gAll_some (fun vals W g d => ?_) <| gAll_some (fun vals W g d => ?_) <| gAll_some (fun vals W g d => ?_) <| gAll_some (fun vals W g d => ?_) <| gAll_some (fun vals W g d => ?_) <| gAll_some (fun vals W g d => ?_) <| gAll_none gAll_nil
        · refine gOp_one rfl rfl rfl fun K hK => ?_
          simp only [gFr] at hK ⊢
          have s0 := (g.cell (p := ⟨Bd, 0, none⟩) hB0).trans e0
          have s1 := (g.cell (p := ⟨Bd, 1, none⟩) hB0).trans e1
          go_simp
          exact hK _ _ (G.refl _) rfl
        · refine gOp_one rfl rfl rfl fun K hK => ?_
          simp only [gFr] at hK ⊢
          go_simp
          exact hK _ _ (G.refl _) rfl
        · obtain ⟨d1, _⟩ := d
          change vals 1 = _ at d1
          refine gOp_one rfl rfl rfl fun K hK => ?_
          simp only [gFr, d1] at hK ⊢
          have s0 := (g.cell (p := ⟨Bd, 0, none⟩) hB0).trans e0
          have s1 := (g.cell (p := ⟨Bd, 1, none⟩) hB0).trans e1
          go_simp
          exact hK _ _ (G.refl _) rfl
        · refine gOp_one rfl rfl rfl fun K hK => ?_
          simp only [gFr] at hK ⊢
          have sA := (g.cell (p := ⟨w.heap.size + 1, 0, none⟩) hA0).trans eA
          go_simp
          exact hK _ _ (G.refl _) rfl
        · obtain ⟨d2, d3, _⟩ := d
          change vals 2 = _ at d2
          change vals 3 = _ at d3
          refine gOp_one rfl rfl rfl fun K hK => ?_
          simp only [gFr, d2, d3] at hK ⊢
          have hmm := hnz
          go_simp
          exact hK _ _ (G.refl _) rfl
        · obtain ⟨d4, _⟩ := d
          change vals 4 = _ at d4
          refine gOp_one rfl rfl rfl fun K hK => ?_
          simp only [gFr, d4] at hK ⊢
          go_simp
          exact hK _ _ (G.refl _) rfl
        · obtain ⟨d5, _⟩ := d
          change vals 5 = _ at d5
          refine gOp_one rfl rfl rfl fun K hK => ?_
          simp only [gFr, d5] at hK ⊢
          have sN := (g.cell (p := ⟨D, n * 15 + 1, none⟩) hD1).trans eN
          go_simp
          exact hK _ _ (G.refl _) rfl
        · obtain ⟨d0, d6, _⟩ := d
          change vals 0 = _ at d0
          change vals 6 = _ at d6
          refine gOp_one rfl rfl rfl fun K hK => ?_
          simp only [gFr, d0, d6] at hK ⊢
          go_simp
          refine (HALL.out W g).use ?_
          rintro v W' ⟨l, h1, h2⟩ hg
          exact hK _ _ hg ⟨l, h1, h2.mono (by have := g.size; omega)⟩
      · intro vals W g d
        simp only [gFacts_cons, gFacts_nil] at d
        obtain ⟨d0, d1, d2, d3, d4, d5, d6, d7, _⟩ := d
        change vals 0 = _ at d0
        change vals 1 = _ at d1
        change vals 2 = _ at d2
        change vals 3 = _ at d3
        change vals 4 = _ at d4
        change vals 5 = _ at d5
        change vals 6 = _ at d6
        obtain ⟨l, hl1, hlo⟩ := (show ∃ l, Sorted (keyL (xs.map noPref)) (idxL (ofName x.n) (xs.map noPref)) l ∧ OwnN W w20.heap.size (vals 7) l from d7)
        obtain rfl := first_idx hl1
        obtain ⟨fa, fc, hfv, _⟩ := hlo.nums
        rw [hfv] at hlo
        have HF1 := hid hlo
        have HG21 := hid (HGW.out.trans g)
        have HG201 := hid g
        have HE21 := hid (HE.out.grow fAt_g g)
        have HAT21 := hid (HAT.out.grow g)
        clear hl1 hlo d7
        refine ⟨?_⟩
        show wpList _ _ _ [_] _ _
        simp only [gFr, d0, d1, d2, d3, d4, d5, d6]
        clear d0 d1 d2 d3 d4 d5 d6
        rw [hfv]
        clear hfv
        go_wp2_with fail
        obtain ⟨w21, rfl⟩ : ∃ w21, w21 = W := ⟨_, rfl⟩
        generalize hfl : idxL (ofName x.n) (xs.map noPref) = fl at HF1 ⊢
        have HFL := hid hfl
        clear hfl
        have hg := HG201.out
        replace e0 := (hg.cell (p := ⟨Bd, 0, none⟩) hB0).trans e0
        replace e1 := (hg.cell (p := ⟨Bd, 1, none⟩) hB0).trans e1
        replace eA := (hg.cell (p := ⟨w.heap.size + 1, 0, none⟩) hA0).trans eA
        replace eU := (hg.cell (p := ⟨D, n * 15 + 2, none⟩) hD1).trans eU
        obtain ⟨⟨qs, hq1, hq2, hrow⟩, hnD, hcu, lv9, hlc, hll⟩ := HAT21.out
        have HROW := hid hrow
        have hnB : some Bd ≠ u.ownBlock := fun e => by have := (own_lt hrow e.symm).1; omega
        have hnA : some (w.heap.size + 1) ≠ u.ownBlock := fun e => by have := (own_lt hrow e.symm).1; have := HGW.out.size; omega
        have hub : ∀ C, u.ownBlock = some C → C < w20.heap.size := fun C e => by
          obtain ⟨⟨_, _, _, r⟩, _⟩ := HAT.out
          exact (own_lt r e).2
        have h921 : w13.heap.size ≤ w21.heap.size := HE21.out.mv.size
        have hql : qs.length ≤ 10000 := by
          have e9 : qs.length = (noPref x).ps.length := by rw [← hq1]; simp
          have := (no_fine HT1.out).2 x (List.mem_of_getElem? HX.out)
          have := ps_le (noPref x)
          omega
        replace hB0 := Nat.lt_of_lt_of_le hB0 hg.size
        replace hA0 := Nat.lt_of_lt_of_le hA0 hg.size
        replace hD1 := Nat.lt_of_lt_of_le hD1 hg.size
        have HQ := hid (show qs.map (·.1) = (noPref x).ps ∧ (∀ y ∈ qs, IsStrs (WoO u.ownBlock (Wo D w21)) (slP y) y.1.2) ∧ w21.cell? ⟨D, n * 15 + 5, none⟩ = some lv9 ∧ IsLists (WoO u.ownBlock (Wo D w21)) lv9 (noPref x).v.ps from ⟨hq1, hq2, hlc, hll⟩)
        obtain ⟨i0, hi, hz0, hz1, hz2⟩ := info_parts infoParam
        have HNN := hid (show some D ≠ u.ownBlock ∧ some Bd ≠ u.ownBlock ∧ some (w.heap.size + 1) ≠ u.ownBlock from ⟨hnD, hnB, hnA⟩)
        have HUB := hid hub
        clear hq1 hq2 hrow hcu hlc hll hg HALL hub eN
        go_wp2_with fail
        refine wp_region_any (by kernel_rfl) ?_
        refine wpAny_turned (E := #[false, false, false, false, false, false, false, false, false, false, false, false, false, false, false, false]) (fun b _ y => cond b (w21.grownBy y u.ownBlock) (G w21 y)) G (fun a b => a.grownBy b u.ownBlock) 12 15 (fstPhi15 Bd D xs.length uc n u w21.heap.size w13.heap.size qs) [some [], some [(0, 58)], some [], some [], some [(3, 61)], some [], some [(4, 62), (5, 63)], some [(6, 64)], some [(7, 65)], some [], some [(9, 67)], some [(10, 68)], some [(8, 66), (11, 69)], some [(1, 59), (2, 60), (1, 59), (2, 60)], some [(13, 71)], none] [(0, 58), (1, 59), (2, 60), (3, 61), (4, 62), (5, 63), (6, 64), (7, 65), (8, 66), (9, 67), (10, 68), (11, 69), (12, 70), (13, 71), (14, 72)] _ (by kernel_rfl) (by kernel_rfl) rfl (by decide) (by kernel_rfl) (by kernel_rfl) rfl G.refl (fun x => mv_refl x _) (fun b _ _ _ h k => match b, h with | false, h => G.trans h k | true, h => mv_g h k) (fun _ _ _ h k => mv_trans (mv_of _ h) k) (w0 := w21) ((G.refl w21).drew) ?_ ?_ ?_ ?_
        · intro b k v W W' g h
          match k, h with
          | 0, h => exact h
          | 1, h => exact h
          | 2, h => exact h
          | 3, h => exact h
          | 4, h => exact h
          | 5, h => exact h
          | 6, h => exact h
          | 7, h => exact h
          | 8, h => exact h
          | 9, h => exact fun e => by obtain ⟨kb, h1, h2, h3⟩ := h e; exact ⟨kb, h1, h2, (g.below.block _ (Array.getElem?_eq_some_iff.1 h3).1).trans h3⟩
          | 10, h => exact fun e => by obtain ⟨kb, h1, h2, h3⟩ := h e; exact ⟨kb, h1, h2, (g.below.block _ (Array.getElem?_eq_some_iff.1 h3).1).trans h3⟩
          | 11, h => exact fun e => by obtain ⟨pb, kb, h1, h2, h3, h4, h5⟩ := h e; exact ⟨pb, kb, h1, h2, (g.below.block _ (Array.getElem?_eq_some_iff.1 h3).1).trans h3, h4, (g.below.block _ (Array.getElem?_eq_some_iff.1 h5).1).trans h5⟩
          | 12, h => exact by obtain ⟨e, kb, g1, cap, h1, h2, h3, h4⟩ := h; exact ⟨e, kb, g1, cap, h1, World.ownsRow.kept h2 (mv_of none g) (by cases hv : v.ownBlock <;> simp), h3, (g.below.block _ (Array.getElem?_eq_some_iff.1 h4).1).trans h4⟩
          | 13, h => exact h
          | 14, h => exact h
          | n + 15, h => trivial
        · intro k v W W' g h
          match k, h with
          | 0, h => exact h
          | 1, h => exact h
          | 2, h => exact h
          | 3, h => exact h
          | 4, h => exact h
          | 5, h => exact h
          | 6, h => exact h
          | 7, h => exact h
          | 8, h => exact h
          | 9, h => exact fun e => (by cases e)
          | 10, h => exact fun e => (by cases e)
          | 11, h => exact fun e => (by cases e)
          | 12, h => exact by obtain ⟨e, _⟩ := h; cases e
          | 13, h => exact h
          | 14, h => exact h
          | n + 15, h => trivial
        · refine gAll2_some (by decide) (fun b vals W g d => ?_) <| gAll2_some (by decide) (fun b vals W g d => ?_) <| gAll2_some (by decide) (fun b vals W g d => ?_) <| gAll2_ahead (by decide) (by kernel_rfl) (fun vals W g d => ?_) <| gAll2_ahead (by decide) (by kernel_rfl) (fun vals W g d => ?_) <| gAll2_ahead (by decide) (by kernel_rfl) (fun vals W g d => ?_) <| gAll2_ahead (by decide) (by kernel_rfl) (fun vals W g d => ?_) <| gAll2_ahead (by decide) (by kernel_rfl) (fun vals W g d => ?_) <| gAll2_ahead (by decide) (by kernel_rfl) (fun vals W g d => ?_) <| gAll2_ahead (by decide) (by kernel_rfl) (fun vals W g d => ?_) <| gAll2_ahead (by decide) (by kernel_rfl) (fun vals W g d => ?_) <| gAll2_ahead (by decide) (by kernel_rfl) (fun vals W g d => ?_) <| gAll2_here rfl (fun vals W g d => ?_) <| gAll2_some (by decide) (fun b vals W g d => ?_) <| gAll2_some (by decide) (fun b vals W g d => ?_) <| gAll2_none gAll2_nil
          · refine gOp_one rfl rfl rfl fun K hK => ?_
            simp only [gFr] at hK ⊢
            go_simp
            exact hK _ _ (G.refl _) rfl
          · obtain ⟨d0, _⟩ := d
            change vals 0 = _ at d0
            refine gOp_one rfl rfl rfl fun K hK => ?_
            simp only [gFr, d0] at hK ⊢
            have gm : w21.grownBy W u.ownBlock := match b, g with | false, g => mv_of _ g | true, g => g
            have s1 := gm.cell e1 hnB
            go_simp
            exact hK _ _ (G.refl _) rfl
          · refine gOp_one rfl rfl rfl fun K hK => ?_
            simp only [gFr] at hK ⊢
            have gm : w21.grownBy W u.ownBlock := match b, g with | false, g => mv_of _ g | true, g => g
            have sA := gm.cell eA hnA
            go_simp
            exact hK _ _ (G.refl _) rfl
          · refine gOp_one rfl rfl rfl fun K hK => ?_
            simp only [gFr] at hK ⊢
            go_simp
            exact hK _ _ (G.refl _) rfl
          · obtain ⟨d3, _⟩ := d
            change vals 3 = _ at d3
            refine gOp_one rfl rfl rfl fun K hK => ?_
            simp only [gFr, d3] at hK ⊢
            have g' : G w21 W := g
            have s1 := (g'.cell (p := ⟨Bd, 1, none⟩) hB0).trans e1
            go_simp
            exact hK _ _ (G.refl _) rfl
          · refine gOp_one rfl rfl rfl fun K hK => ?_
            simp only [gFr] at hK ⊢
            have g' : G w21 W := g
            have sA := (g'.cell (p := ⟨w.heap.size + 1, 0, none⟩) hA0).trans eA
            go_simp
            exact hK _ _ (G.refl _) rfl
          · obtain ⟨d4, d5, _⟩ := d
            change vals 4 = _ at d4
            change vals 5 = _ at d5
            refine gOp_one rfl rfl rfl fun K hK => ?_
            simp only [gFr, d4, d5] at hK ⊢
            have hmm := hnz
            go_simp
            exact hK _ _ (G.refl _) rfl
          · obtain ⟨d6, _⟩ := d
            change vals 6 = _ at d6
            refine gOp_one rfl rfl rfl fun K hK => ?_
            simp only [gFr, d6] at hK ⊢
            go_simp
            exact hK _ _ (G.refl _) rfl
          · obtain ⟨d7, _⟩ := d
            change vals 7 = _ at d7
            refine gOp_one rfl rfl rfl fun K hK => ?_
            simp only [gFr, d7] at hK ⊢
            have g' : G w21 W := g
            have sU := (g'.cell (p := ⟨D, n * 15 + 2, none⟩) hD1).trans eU
            go_simp
            exact hK _ _ (G.refl _) rfl
          · refine gOp_one rfl rfl rfl fun K hK => ?_
            simp only [gFr] at hK ⊢
            go_simp
            exact hK _ _ ((G.refl _).alloc _) fun _ => ⟨W.heap.size, rfl, (show G w21 W from g).size, heap_alloc_new W _⟩
          · obtain ⟨d9, _⟩ := d
            refine gOp_one rfl rfl rfl fun K hK => ?_
            obtain ⟨kb, h1, h2, h3⟩ := d9 rfl
            simp only [gFr] at hK ⊢
            simp only [h1] at hK ⊢
            go_simp
            exact hK _ _ (G.refl _) fun _ => ⟨kb, rfl, h2, h3⟩
          · obtain ⟨d10, _⟩ := d
            refine gOp_one rfl rfl rfl fun K hK => ?_
            obtain ⟨kb, h1, h2, h3⟩ := d10 rfl
            simp only [gFr] at hK ⊢
            simp only [h1] at hK ⊢
            go_simp
            exact hK _ _ ((G.refl _).alloc _) fun _ => ⟨W.heap.size, kb, rfl, (show G w21 W from g).size, heap_alloc_new W _, h2, by rw [Lib.alloc_old _ _ _ (Array.getElem?_eq_some_iff.1 h3).1]; exact h3⟩
          · obtain ⟨d8, d11, _⟩ := d
            change vals 8 = _ at d8
            refine gOp_one rfl rfl rfl fun K hK => ?_
            have g' : G w21 W := g
            have hown : W.ownsRow w13.heap.size 52 2 u qs.length (qs.flatMap cellsP) := World.ownsRow.kept HROW.out (mv_of none g') (by cases hv : u.ownBlock <;> simp)
            obtain ⟨pb, kb, h1, h2, h3, h4, h5⟩ := d11 rfl
            simp only [gFr, h1, d8] at hK ⊢
            refine wp_append_lies W (.tmp 66) (.tmp 69) 25 rfl w13.heap.size 52 i0 _ 2 40 Tryd.underlying25 hi hz0 hz1 hz2 rfl (by decide) u qs.length _ (by simp [Act.eval, Act.put]) hown ⟨pb, 0, none⟩ 1 1 [.string (S [112, 114, 101, 102]), .slice (some ⟨kb, 0, none⟩) 1 1] (by simp [Act.eval, Act.put]) rfl (fun j u hu => by rw [addr_add, Nat.zero_add, cell_of_row W pb j _ _ _ h3]; simpa using hu) (by intro x hx; simp at hx; rcases hx with rfl | rfl <;> rfl) (by omega) (by unfold maxLen; omega) (by omega) (Nat.le_trans h921 g'.size) _ rfl ?_
            intro g1 cap w'' hown2 hgrow hat hlt2
            refine hK _ _ hgrow ⟨rfl, kb, g1, cap, rfl, hown2, h4, ?_⟩
            refine (hgrow.block kb (Array.getElem?_eq_some_iff.1 h5).1 fun e => ?_).trans h5
            rcases hown.2 with ⟨e2, _⟩ | ⟨b2, c2, cur2, e2, _, hg2, _⟩
            · rw [e2] at e; cases e
            · rw [e2] at e
              cases e
              exact absurd (cells_ne2 h5 hg2) (by decide)
          · obtain ⟨d1, d2, _, _, _⟩ := d
            change vals 1 = _ at d1
            change vals 2 = _ at d2
            refine gOp_one rfl rfl rfl fun K hK => ?_
            simp only [gFr, d1, d2] at hK ⊢
            have hmm := hnz
            go_simp
            exact hK _ _ (G.refl _) rfl
          · obtain ⟨d13, _⟩ := d
            change vals 13 = _ at d13
            refine gOp_one rfl rfl rfl fun K hK => ?_
            simp only [gFr, d13] at hK ⊢
            go_simp
            exact hK _ _ (G.refl _) rfl
        · intro vals W g d
          simp only [gFacts_cons, gFacts_nil] at d
          obtain ⟨d0, d1, d2, d3, d4, d5, d6, d7, d8, d9, d10, d11, d12, d13, d14, _⟩ := d
          change vals 0 = _ at d0
          change vals 1 = _ at d1
          change vals 2 = _ at d2
          change vals 3 = _ at d3
          change vals 4 = _ at d4
          change vals 5 = _ at d5
          change vals 6 = _ at d6
          change vals 7 = _ at d7
          change vals 8 = _ at d8
          change vals 13 = _ at d13
          change vals 14 = _ at d14
          obtain ⟨_, kb, g1, cap, hv, hown2, h4, h5⟩ := d12
          have hgm : w21.grownBy W u.ownBlock := g
          have HGM := hid hgm
          rw [hv] at hown2
          have HOW := hid hown2
          have HKB := hid h5
          have H4 := hid h4
          have hew : EX W D uc (xs.map noPref) (fun i w' => if i = n then Wo D w21 else WoO u.ownBlock (Wo D w')) W := HE21.out.turnTo (hgm.block D hD1 hnD) fun i y qv mv hy hk => by
            unfold fAt at hk
            by_cases e : i = n
            · simp only [if_pos e] at hk ⊢; exact hk
            · simp only [if_neg e] at hk ⊢; exact hk.grow (WoO.mv (WoO.mvD hgm))
          have HEW := hid hew
          have s2 := hgm.cell eU hnD
          have s3 := hew.fz (n * 15 + 2)
          have s4 := hgm.cell e0 hnB
          have s5 := hgm.cell e1 hnB
          have s6 := hgm.cell eA hnA
          clear hown2 h4 h5 d9 d10 d11 hgm hew
          refine ⟨?_⟩
          show wpList _ _ _ [_] _ _
          simp only [gFr, d0, d1, d2, d3, d4, d5, d6, d7, d8, d13, d14]
          clear d0 d1 d2 d3 d4 d5 d6 d7 d8 d13 d14
          simp only [hv]
          clear hv g
          have HDW := hid (show D < W.heap.size from Nat.lt_of_lt_of_le hD1 HGM.out.size)
          have H9W : Hid (G w9 W) := hid (g_own HG21.out HROW.out (Nat.le_trans hwD (Nat.le_of_lt hD13)) HGM.out)
          obtain ⟨w22, hw22⟩ : ∃ w22, w22 = W.setCell ⟨D, n * 15 + 2, none⟩ (.slice (some ⟨g1, 0, none⟩) (qs.length + 1) cap) := ⟨_, rfl⟩
          have HE22 : Hid (EX W D uc ((xs.map noPref).set n (withPref (noPref x))) (fAt n u.ownBlock D) w22) := hid (by
            obtain ⟨pv1, lv1, hk1, hc1⟩ := HEW.out.at_ HXM.out
            obtain ⟨hq1, hq2, hlc, hll⟩ := HQ.out
            have el : lv1 = lv9 := by
              have a1 := hc1 5 lv1 rfl
              rw [HGM.out.cell hlc HNN.out.1] at a1
              exact (Option.some.inj a1).symm
            subst el
            rw [hw22]
            refine HEW.out.set HXM.out hc1 ((noPref x).ps ++ [prefMore]) _ ?_ fun j y qv mv hy hj hk => ?_
            · rw [fAt_set]
              unfold fAt
              rw [if_pos rfl]
              simp only [if_true] at hk1
              have hsub : ∀ z, WoO u.ownBlock (Wo D z) = WoO u.ownBlock (Wo D z) := fun _ => rfl
              have hgW : G (WoO u.ownBlock (Wo D w21)) (WoO u.ownBlock (Wo D W)) := WoO.mv (WoO.mvD HGM.out)
              have hsv : IsStrs (Wo D W) (.slice (some ⟨kb, 0, none⟩) 1 1) [[49]] := by
                have hk2 : (Wo D W).heap[kb]? = some (.cells #[.string (S [49])] 9 (0, 0)) := by
                  rw [Wo.other D W kb (by have := H4.out; omega)]; exact HKB.out
                refine ⟨⟨rfl, by intro u hu; simp at hu; subst hu; rfl, .inr ⟨kb, 0, 1, rfl, (Array.getElem?_eq_some_iff.1 hk2).1, Nat.zero_lt_one, fun j hj => ?_⟩⟩, Nat.le_refl _⟩
                obtain rfl : j = 0 := by simp at hj; omega
                rw [cell_of_row _ kb (0 + 0) _ _ _ hk2]
                rfl
              refine ⟨?_, (hll.grow hgW).sub (WoO.sub _ _), .inr ⟨_, _, _, rfl⟩, hk1.y, hk1.t⟩
              have hgd : Value.ownBlock (.slice (some ⟨g1, 0, none⟩) (qs.length + 1) cap) ≠ some D := fun e => by
                obtain ⟨cur, hb, _⟩ := HEW.out
                rcases HOW.out.2 with ⟨e2, _⟩ | ⟨b2, c2, cur2, e2, _, hg2, _⟩
                · cases e2
                · cases e2
                  cases e
                  exact absurd (cells_ne2 hb.b hg2) (by decide)
              have := params_more (nm := [112, 114, 101, 102]) (fun y hy => ((hq2 y hy).grow hgW).sub (WoO.sub _ _)) hsv (G.refl _) (own_wo2 HOW.out hgd)
              rw [hq1] at this
              have e9 : qs.length = (noPref x).ps.length := by rw [← hq1]; simp
              rw [e9] at this ⊢
              exact this
            · simp only [if_neg hj] at hk
              rw [fAt_set]
              unfold fAt
              rw [if_neg hj]
              exact hk)
          have H922 : Hid (G w9 w22) := hid (by rw [hw22]; exact Below.setCell H9W.out (p := ⟨D, n * 15 + 2, none⟩) hwD _)
          have HF2 : Hid (OwnN w22 w20.heap.size (.slice fa fl.length fc) fl) := hid (by
            rw [hw22]
            refine ownN_mv (ownN_mv HF1.out HGM.out HUB.out) (mv_set W D (n * 15 + 2) _) fun C e => ?_
            cases e
            exact HE.out.lt)
          have n0 : w22.cell? ⟨Bd, 0, none⟩ = some (.int .i64 ver) := by rw [hw22, World.cell?_setCell_other _ _ _ _ (by intro e; have := congrArg Addr.block e; simp at this; omega)]; exact s4
          have n1 : w22.cell? ⟨Bd, 1, none⟩ = some (.slice (some ⟨D, 0, none⟩) xs.length uc) := by rw [hw22, World.cell?_setCell_other _ _ _ _ (by intro e; have := congrArg Addr.block e; simp at this; omega)]; exact s5
          have n6 : w22.cell? ⟨w.heap.size + 1, 0, none⟩ = some (.int .i64 (n : Int)) := by rw [hw22, World.cell?_setCell_other _ _ _ _ (by intro e; have h9 := congrArg Addr.block e; dsimp only at h9; omega)]; exact s6
          go_wp2_with fail
          rw [← hw22]
          clear hw22 s2 s3 s4 s5 s6 e0 e1 eA eU hB0 hA0 hD1 hnB hnA HEW HGM HOW HKB HNN HQ HROW HAT21 HE21 HAT
          have hB2 := World.block_lt_of_cell? _ _ n0
          have hA2 := World.block_lt_of_cell? _ _ n6
          have hD2 := HE22.out.lt
          have hlen : ((xs.map noPref).set n (withPref (noPref x))).length = xs.length := by simp
          have hit2 : IsItems w22 (.slice (some ⟨D, 0, none⟩) xs.length uc) ((xs.map noPref).set n (withPref (noPref x))) := by
            have := HE22.out.items (fun i => fAt_sub n u.ownBlock D i w22)
            rwa [hlen] at this
          have hpf := pref_fine HT1.out HX.out
          have nN : w22.cell? ⟨D, n * 15 + 1, none⟩ = some (.string (S x.n)) := by
            obtain ⟨pv1, lv1, _, hc1⟩ := HE22.out.at_ (i := n) (x := withPref (noPref x)) (by rw [List.getElem?_set_self (by simp; omega)])
            exact hc1 1 _ rfl
          have HALL := hid (fun W (g : G w22 W) => all_any ver (.slice (some ⟨D, 0, none⟩) xs.length uc) ((xs.map noPref).set n (withPref (noPref x))) x.n W (hit2.grow g) hpf hxn (HM.out.grow ((HG9.out.trans H922.out).trans g)))
          clear hit2 hpf hlen
          go_wp2_with fail
          refine wp_region_any (by kernel_rfl) ?_
          refine wpAny_veiled (E := #[false, false, false, false, false, false, false, false, false]) G 8 (fstPhi16 ver Bd D xs.length uc n w22.heap.size ((xs.map noPref).set n (withPref (noPref x))) x.n) [some [], some [], some [(1, 74)], some [], some [(2, 75), (3, 76)], some [(4, 77)], some [(5, 78)], some [(0, 73), (6, 79)], none] [(0, 73), (1, 74), (2, 75), (3, 76), (4, 77), (5, 78), (6, 79), (7, 80)] _ (by kernel_rfl) (by decide) (by kernel_rfl) (by kernel_rfl) rfl G.refl (fun _ _ _ => G.trans) (w0 := w22) ((G.refl w22).drew) ?_ ?_ ?_
          · intro k v W W' g h
            match k, h with
            | 0, h => exact h
            | 1, h => exact h
            | 2, h => exact h
            | 3, h => exact h
            | 4, h => exact h
            | 5, h => exact h
            | 6, h => exact h
            | 7, h => exact by obtain ⟨l, h1, h2⟩ := h; exact ⟨l, h1, h2.grow g⟩
            | n + 8, h => trivial
          · refine gAll_some (fun vals W g d => ?_) <| gAll_some (fun vals W g d => ?_) <| gAll_some (fun vals W g d => ?_) <| gAll_some (fun vals W g d => ?_) <| gAll_some (fun vals W g d => ?_) <| gAll_some (fun vals W g d => ?_) <| gAll_some (fun vals W g d => ?_) <| gAll_some (fun vals W g d => ?_) <| gAll_none gAll_nil
            · refine gOp_one rfl rfl rfl fun K hK => ?_
              simp only [gFr] at hK ⊢
              have s0 := (g.cell (p := ⟨Bd, 0, none⟩) hB2).trans n0
              have s1 := (g.cell (p := ⟨Bd, 1, none⟩) hB2).trans n1
              go_simp
              exact hK _ _ (G.refl _) rfl
            · refine gOp_one rfl rfl rfl fun K hK => ?_
              simp only [gFr] at hK ⊢
              go_simp
              exact hK _ _ (G.refl _) rfl
            · obtain ⟨d1, _⟩ := d
              change vals 1 = _ at d1
              refine gOp_one rfl rfl rfl fun K hK => ?_
              simp only [gFr, d1] at hK ⊢
              have s0 := (g.cell (p := ⟨Bd, 0, none⟩) hB2).trans n0
              have s1 := (g.cell (p := ⟨Bd, 1, none⟩) hB2).trans n1
              go_simp
              exact hK _ _ (G.refl _) rfl
            · refine gOp_one rfl rfl rfl fun K hK => ?_
              simp only [gFr] at hK ⊢
              have sA := (g.cell (p := ⟨w.heap.size + 1, 0, none⟩) hA2).trans n6
              go_simp
              exact hK _ _ (G.refl _) rfl
            · obtain ⟨d2, d3, _⟩ := d
              change vals 2 = _ at d2
              change vals 3 = _ at d3
              refine gOp_one rfl rfl rfl fun K hK => ?_
              simp only [gFr, d2, d3] at hK ⊢
              have hmm := hnz
              go_simp
              exact hK _ _ (G.refl _) rfl
            · obtain ⟨d4, _⟩ := d
              change vals 4 = _ at d4
              refine gOp_one rfl rfl rfl fun K hK => ?_
              simp only [gFr, d4] at hK ⊢
              go_simp
              exact hK _ _ (G.refl _) rfl
            · obtain ⟨d5, _⟩ := d
              change vals 5 = _ at d5
              refine gOp_one rfl rfl rfl fun K hK => ?_
              simp only [gFr, d5] at hK ⊢
              have sN := (g.cell (p := ⟨D, n * 15 + 1, none⟩) hD2).trans nN
              go_simp
              exact hK _ _ (G.refl _) rfl
            · obtain ⟨d0, d6, _⟩ := d
              change vals 0 = _ at d0
              change vals 6 = _ at d6
              refine gOp_one rfl rfl rfl fun K hK => ?_
              simp only [gFr, d0, d6] at hK ⊢
              go_simp
              refine (HALL.out W g).use ?_
              rintro v W' ⟨l, h1, h2⟩ hg
              exact hK _ _ hg ⟨l, h1, h2.mono (by have := g.size; omega)⟩
          · intro vals W g d
            simp only [gFacts_cons, gFacts_nil] at d
            obtain ⟨d0, d1, d2, d3, d4, d5, d6, d7, _⟩ := d
            change vals 0 = _ at d0
            change vals 1 = _ at d1
            change vals 2 = _ at d2
            change vals 3 = _ at d3
            change vals 4 = _ at d4
            change vals 5 = _ at d5
            change vals 6 = _ at d6
            obtain ⟨l, hl1, hlo⟩ := (show ∃ l, Sorted (keyL ((xs.map noPref).set n (withPref (noPref x)))) (idxL (ofName x.n) ((xs.map noPref).set n (withPref (noPref x)))) l ∧ OwnN W w22.heap.size (vals 7) l from d7)
            have hbest := first_best HX.out hl1
            have hll9 := hl1.1.length_eq
            rw [HFL.out] at hbest
            obtain ⟨ga, gc, hgv, _⟩ := hlo.nums
            rw [hgv] at hlo
            have HL2 := hid hlo
            have HBEST := hid hbest
            have HG23 := hid (H922.out.trans g)
            have HF3 := hid (HF2.out.grow g)
            replace n6 := (g.cell (p := ⟨w.heap.size + 1, 0, none⟩) hA2).trans n6
            replace hA2 := Nat.lt_of_lt_of_le hA2 g.size
            clear hl1 hlo hbest hll9 d7 n0 n1 nN hB2 hD2 HALL
            refine ⟨?_⟩
            show wpList _ _ _ [_] _ _
            simp only [gFr, d0, d1, d2, d3, d4, d5, d6]
            clear d0 d1 d2 d3 d4 d5 d6
            rw [hgv]
            clear hgv g
            go_wp2_with fail
            obtain ⟨w23, rfl⟩ : ∃ w23, w23 = W := ⟨_, rfl⟩
            have hbe := HBEST.out
            subst hbe
            generalize hrs : (fl.filter fun i => !decide (i = (n : Int))) = rs at HL2 ⊢
            have HRS := hid hrs
            have hfl1 : fl.length ≤ xs.length := by
              rw [← HFL.out]
              have := idx_len (ofName x.n) (xs.map noPref) 0
              rw [List.length_map] at this
              exact this
            have hrl : rs.length ≤ fl.length := by rw [← hrs]; exact List.length_filter_le _ _
            have HLF := hid (show fl.length ≤ 1000000 by omega)
            have HSF := hid (show fl.Pairwise (· < ·) by rw [← HFL.out]; exact idx_sorted _ _ _)
            obtain ⟨gb, rfl, hcap⟩ : ∃ gb, ga = some ⟨gb, 0, none⟩ ∧ rs.length + 1 ≤ gc := by
              rcases HL2.out.form with ⟨_, e⟩ | ⟨g, cap, e, _, _, hc⟩
              · cases e
              · cases e; exact ⟨g, rfl, by simpa using hc⟩
            have HL3 : Hid (OwnN w23 w22.heap.size (.slice (some ⟨gb, 0, none⟩) (rs.length + 1) gc) ((n : Int) :: rs)) := hid HL2.out
            have hone : (1 : Int) ≤ (rs.length : Int) + 1 := by omega
            have hpos : (0 : Int) < (rs.length : Int) + 1 := by omega
            simp only [List.length_cons]
            clear hrs HL2 HBEST
            go_wp2_with fail
            refine wp_region_any (by kernel_rfl) ?_
            refine wpAny_turned (E := #[false, false, false, false, false, false, false, false, false, false, false, false, false, false, false, false, false, false, false, false, false, false, false, false]) (fun _ _ y => G w23 y) G (Below w23.heap.size) 20 21 (fstPhi17 (.slice fa fl.length fc) (.slice (some ⟨gb, 0, none⟩) (rs.length + 1) gc) fl rs rs.length (n : Int) gb gc (w.heap.size + 1) w23.heap.size) [some [], some [(0, 81)], some [(1, 82), (1, 82)], some [(2, 83)], some [(3, 84), (2, 83)], some [(4, 85), (2, 83)], some [(2, 83), (5, 86)], some [(6, 87)], some [(7, 88)], some [(8, 89), (7, 88)], some [(9, 90), (7, 88)], some [(7, 88)], some [(10, 91), (11, 92), (7, 88)], some [(7, 88), (12, 93)], some [(13, 94)], some [(14, 95)], some [(15, 96), (14, 95)], some [(14, 95)], some [(17, 98), (14, 95), (14, 95)], some [(14, 95)], some [(18, 99), (19, 100), (18, 99), (14, 95)], none, none, none] [(0, 81), (1, 82), (2, 83), (3, 84), (4, 85), (5, 86), (6, 87), (7, 88), (8, 89), (9, 90), (10, 91), (11, 92), (12, 93), (13, 94), (14, 95), (15, 96), (16, 97), (17, 98), (18, 99), (19, 100), (20, 101)] _ (by kernel_rfl) (by kernel_rfl) rfl (by decide) (by kernel_rfl) (by kernel_rfl) rfl G.refl (fun x => Below.refl _ x) (fun _ _ _ _ h k => G.trans h k) (fun _ _ _ h k => Below.trans h k) (w0 := w23) ((G.refl w23).drew) ?_ ?_ ?_ ?_
            · intro b k v W W' g h
              match k, h with
              | 0, h => exact h
              | 1, h => exact h
              | 2, h => exact h
              | 3, h => exact h
              | 4, h => exact h
              | 5, h => exact h
              | 6, h => exact h
              | 7, h => exact h
              | 8, h => exact h
              | 9, h => exact h
              | 10, h => exact h
              | 11, h => exact h
              | 12, h => exact h
              | 13, h => exact h
              | 14, h => exact h
              | 15, h => exact h
              | 16, h => exact h
              | 17, h => exact h
              | 18, h => exact fun e => OwnN.grow (h e) g
              | 19, h => exact h
              | 20, h => exact ⟨h.1, OwnN.grow h.2 g⟩
              | n + 21, h => trivial
            · intro k v W W' g h
              match k, h with
              | 0, h => exact h
              | 1, h => exact h
              | 2, h => exact h
              | 3, h => exact h
              | 4, h => exact h
              | 5, h => exact h
              | 6, h => exact h
              | 7, h => exact h
              | 8, h => exact h
              | 9, h => exact h
              | 10, h => exact h
              | 11, h => exact h
              | 12, h => exact h
              | 13, h => exact h
              | 14, h => exact h
              | 15, h => exact h
              | 16, h => exact h
              | 17, h => exact h
              | 18, h => exact fun e => (by cases e)
              | 19, h => exact h
              | 20, h => exact by obtain ⟨e, _⟩ := h; cases e
              | n + 21, h => trivial
            · refine gAll2_ahead (by decide) (by kernel_rfl) (fun vals W g d => ?_) <| gAll2_ahead (by decide) (by kernel_rfl) (fun vals W g d => ?_) <| gAll2_ahead (by decide) (by kernel_rfl) (fun vals W g d => ?_) <| gAll2_ahead (by decide) (by kernel_rfl) (fun vals W g d => ?_) <| gAll2_ahead (by decide) (by kernel_rfl) (fun vals W g d => ?_) <| gAll2_ahead (by decide) (by kernel_rfl) (fun vals W g d => ?_) <| gAll2_ahead (by decide) (by kernel_rfl) (fun vals W g d => ?_) <| gAll2_ahead (by decide) (by kernel_rfl) (fun vals W g d => ?_) <| gAll2_ahead (by decide) (by kernel_rfl) (fun vals W g d => ?_) <| gAll2_ahead (by decide) (by kernel_rfl) (fun vals W g d => ?_) <| gAll2_ahead (by decide) (by kernel_rfl) (fun vals W g d => ?_) <| gAll2_ahead (by decide) (by kernel_rfl) (fun vals W g d => ?_) <| gAll2_ahead (by decide) (by kernel_rfl) (fun vals W g d => ?_) <| gAll2_ahead (by decide) (by kernel_rfl) (fun vals W g d => ?_) <| gAll2_ahead (by decide) (by kernel_rfl) (fun vals W g d => ?_) <| gAll2_some (by decide) (fun b vals W g d => ?_) <| gAll2_some (by decide) (fun b vals W g d => ?_) <| gAll2_ahead (by decide) (by kernel_rfl) (fun vals W g d => ?_) <| gAll2_ahead (by decide) (by kernel_rfl) (fun vals W g d => ?_) <| gAll2_ahead (by decide) (by kernel_rfl) (fun vals W g d => ?_) <| gAll2_here rfl (fun vals W g d => ?_) <| gAll2_none <| gAll2_none <| gAll2_none gAll2_nil
              · refine gOp_one rfl rfl rfl fun K hK => ?_
                simp only [gFr] at hK ⊢
                go_simp
                exact hK _ _ (G.refl _) rfl
              · obtain ⟨d0, _⟩ := d
                change vals 0 = _ at d0
                refine gOp_one rfl rfl rfl fun K hK => ?_
                simp only [gFr, d0] at hK ⊢
                go_simp
                refine (isSorted_any _ fl W (HF3.out.grow g).nums HSF.out (by have := HLF.out; omega)).use ?_
                intro W' hg
                exact hK _ _ hg rfl
              · obtain ⟨d1, _, _⟩ := d
                change vals 1 = _ at d1
                refine gOp_one rfl rfl rfl fun K hK => ?_
                simp only [gFr, d1] at hK ⊢
                go_simp
                exact hK _ _ (G.refl _) rfl
              · obtain ⟨d2, _⟩ := d
                change vals 2 = _ at d2
                refine gOp_yes2 (t := 84) (g := 2) (tg := 83) rfl rfl (by decide) (by decide) rfl d2 rfl rfl fun K hK => ?_
                simp only [gFr, d2] at hK ⊢
                go_simp
                exact hK _ _ (G.refl _) rfl
              · obtain ⟨d3, d2, _⟩ := d
                change vals 3 = _ at d3
                change vals 2 = _ at d2
                refine gOp_yes2 (t := 85) (g := 2) (tg := 83) rfl rfl (by decide) (by decide) rfl d2 rfl rfl fun K hK => ?_
                simp only [gFr, d3, d2] at hK ⊢
                go_simp
                exact hK _ _ (G.refl _) rfl
              · obtain ⟨d4, d2, _⟩ := d
                change vals 4 = _ at d4
                change vals 2 = _ at d2
                refine gOp_yes2 (t := 86) (g := 2) (tg := 83) rfl rfl (by decide) (by decide) rfl d2 rfl rfl fun K hK => ?_
                simp only [gFr, d4, d2] at hK ⊢
                have hp := hpos
                go_simp
                exact hK _ _ (G.refl _) rfl
              · obtain ⟨d2, d5, _⟩ := d
                change vals 2 = _ at d2
                change vals 5 = _ at d5
                refine gOp_one rfl rfl rfl fun K hK => ?_
                simp only [gFr, d2, d5] at hK ⊢
                go_simp
                exact hK _ _ (G.refl _) rfl
              · obtain ⟨d6, _⟩ := d
                change vals 6 = _ at d6
                refine gOp_one rfl rfl rfl fun K hK => ?_
                simp only [gFr, d6] at hK ⊢
                go_simp
                exact hK _ _ (G.refl _) rfl
              · obtain ⟨d7, _⟩ := d
                change vals 7 = _ at d7
                refine gOp_yes2 (t := 89) (g := 7) (tg := 88) rfl rfl (by decide) (by decide) rfl d7 rfl rfl fun K hK => ?_
                simp only [gFr, d7] at hK ⊢
                go_simp
                exact hK _ _ (G.refl _) rfl
              · obtain ⟨d8, d7, _⟩ := d
                change vals 8 = _ at d8
                change vals 7 = _ at d7
                refine gOp_yes2 (t := 90) (g := 7) (tg := 88) rfl rfl (by decide) (by decide) rfl d7 rfl rfl fun K hK => ?_
                simp only [gFr, d8, d7] at hK ⊢
                have hp := hpos
                go_simp
                exact hK _ _ (G.refl _) rfl
              · obtain ⟨d9, d7, _⟩ := d
                change vals 9 = _ at d9
                change vals 7 = _ at d7
                refine gOp_yes2 (t := 91) (g := 7) (tg := 88) rfl rfl (by decide) (by decide) rfl d7 rfl rfl fun K hK => ?_
                simp only [gFr, d9, d7] at hK ⊢
                have hcell := own_hd (HL3.out.grow g)
                go_simp
                exact hK _ _ (G.refl _) rfl
              · obtain ⟨d7, _⟩ := d
                change vals 7 = _ at d7
                refine gOp_yes2 (t := 92) (g := 7) (tg := 88) rfl rfl (by decide) (by decide) rfl d7 rfl rfl fun K hK => ?_
                simp only [gFr, d7] at hK ⊢
                have sA := (g.cell (p := ⟨w.heap.size + 1, 0, none⟩) hA2).trans n6
                go_simp
                exact hK _ _ (G.refl _) rfl
              · obtain ⟨d10, d11, d7, _⟩ := d
                change vals 10 = _ at d10
                change vals 11 = _ at d11
                change vals 7 = _ at d7
                refine gOp_yes2 (t := 93) (g := 7) (tg := 88) rfl rfl (by decide) (by decide) rfl d7 rfl rfl fun K hK => ?_
                simp only [gFr, d10, d11, d7] at hK ⊢
                go_simp
                exact hK _ _ (G.refl _) rfl
              · obtain ⟨d7, d12, _⟩ := d
                change vals 7 = _ at d7
                change vals 12 = _ at d12
                refine gOp_one rfl rfl rfl fun K hK => ?_
                simp only [gFr, d7, d12] at hK ⊢
                go_simp
                exact hK _ _ (G.refl _) rfl
              · obtain ⟨d13, _⟩ := d
                change vals 13 = _ at d13
                refine gOp_one rfl rfl rfl fun K hK => ?_
                simp only [gFr, d13] at hK ⊢
                go_simp
                exact hK _ _ (G.refl _) rfl
              · obtain ⟨d14, _⟩ := d
                change vals 14 = _ at d14
                refine gOp_yes2 (t := 96) (g := 14) (tg := 95) rfl rfl (by decide) (by decide) rfl d14 rfl rfl fun K hK => ?_
                simp only [gFr, d14] at hK ⊢
                go_simp
                exact hK _ _ (G.refl _) rfl
              · obtain ⟨d15, d14, _⟩ := d
                change vals 15 = _ at d15
                change vals 14 = _ at d14
                refine gOp_yes2 (t := 97) (g := 14) (tg := 95) rfl rfl (by decide) (by decide) rfl d14 rfl rfl fun K hK => ?_
                simp only [gFr, d15, d14] at hK ⊢
                have hp1 := hone
                go_simp
                exact hK _ _ (G.refl _) rfl
              · obtain ⟨d14, _⟩ := d
                change vals 14 = _ at d14
                refine gOp_yes2 (t := 98) (g := 14) (tg := 95) rfl rfl (by decide) (by decide) rfl d14 rfl rfl fun K hK => ?_
                simp only [gFr, d14] at hK ⊢
                go_simp
                exact hK _ _ (G.refl _) rfl
              · obtain ⟨d17, d14, _, _⟩ := d
                change vals 17 = _ at d17
                change vals 14 = _ at d14
                refine gOp_yes2 (t := 99) (g := 14) (tg := 95) rfl rfl (by decide) (by decide) rfl d14 rfl rfl fun K hK => ?_
                simp only [gFr, d17, d14] at hK ⊢
                go_simp
                refine (cloneInts_any _ fl W (HF3.out.grow g) HLF.out).use ?_
                intro v W' h1 hg
                exact hK _ _ hg fun _ => OwnN.mono h1 g.size
              · obtain ⟨d14, _⟩ := d
                change vals 14 = _ at d14
                refine gOp_yes2 (t := 100) (g := 14) (tg := 95) rfl rfl (by decide) (by decide) rfl d14 rfl rfl fun K hK => ?_
                simp only [gFr, d14] at hK ⊢
                go_simp
                exact hK _ _ (G.refl _) rfl
              · obtain ⟨d18, d19, _, d14, _⟩ := d
                change vals 19 = _ at d19
                change vals 14 = _ at d14
                refine gOp_yes2 (t := 101) (g := 14) (tg := 95) rfl rfl (by decide) (by decide) rfl d14 rfl rfl fun K hK => ?_
                have ho := d18 rfl
                simp only [gFr, d14, d19] at hK ⊢
                go_simp
                refine (deleteAt_any (n : Int) (w.heap.size + 1) w23.heap.size (vals 18) fl W ho HLF.out ((g.cell (p := ⟨w.heap.size + 1, 0, none⟩) hA2).trans n6) hA2 g.size).mono ?_
                rintro e W' ⟨v, rfl, h1, h2⟩
                exact hK _ _ h2 ⟨rfl, HRS.out ▸ h1⟩
            · intro vals W g d
              simp only [gFacts_cons, gFacts_nil] at d
              obtain ⟨d0, d1, d2, d3, d4, d5, d6, d7, d8, d9, d10, d11, d12, d13, d14, d15, d16, d17, d18, d19, d20, _⟩ := d
              change vals 0 = _ at d0
              change vals 1 = _ at d1
              change vals 2 = _ at d2
              change vals 3 = _ at d3
              change vals 4 = _ at d4
              change vals 5 = _ at d5
              change vals 6 = _ at d6
              change vals 7 = _ at d7
              change vals 8 = _ at d8
              change vals 9 = _ at d9
              change vals 10 = _ at d10
              change vals 11 = _ at d11
              change vals 12 = _ at d12
              change vals 13 = _ at d13
              change vals 14 = _ at d14
              change vals 15 = _ at d15
              change vals 16 = _ at d16
              change vals 17 = _ at d17
              change vals 19 = _ at d19
              obtain ⟨_, ho⟩ := d20
              obtain ⟨ea, ec, hev, _⟩ := ho.nums
              rw [hev] at ho
              have HEO := hid ho
              have HGL := hid g
              clear ho d18
              refine ⟨?_⟩
              show wpList _ _ _ [_, _, _] _ _
              simp only [gFr, d0, d1, d2, d3, d4, d5, d6, d7, d8, d9, d10, d11, d12, d13, d14, d15, d16, d17, d19]
              clear d0 d1 d2 d3 d4 d5 d6 d7 d8 d9 d10 d11 d12 d13 d14 d15 d16 d17 d19
              rw [hev]
              have hnt := nums_tail (HL3.out.grow HGL.out)
              generalize (if gc = 1 then some (⟨gb, 0, none⟩ : Addr) else some ⟨gb, 1, none⟩) = sl9 at hnt ⊢
              have HNT := hid hnt
              clear hev hnt
              go_wp2_with fail
              refine (equal_ints HNT.out HEO.out.nums (by omega) (by omega)).use ?_
              intro w24 g24
              simp only [decide_true]
              go_wp2_with fail
              go_ret
              exact ⟨rfl, ((HG9.out.trans HG23.out).trans HGL.out).trans g24⟩

end Go.Proofs.YtniidkkldoijcaaDoor
