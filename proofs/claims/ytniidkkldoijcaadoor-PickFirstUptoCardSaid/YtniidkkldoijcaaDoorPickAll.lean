/-
  CONTRACTS of slices.SortStableFunc at []int, of pick.All, pick.Best, pick.Group.
-/
import Derived.Test.YtniidkkldoijcaaDoorSortStable
import Derived.Test.YtniidkkldoijcaaDoorMPickC
import Derived.Test.YtniidkkldoijcaaDoorNums
namespace Go.Proofs.YtniidkkldoijcaaDoor
open Go.RowKit Stab
set_option linter.unusedVariables false
set_option linter.unusedSimpArgs false

set_option maxRecDepth 100000 in
set_option maxHeartbeats 1000000 in
theorem ins_none (cmp : Value) (W : World) : Pure 67 #[.slice none 0 0, .int .i64 0, .int .i64 0, cmp] W (.tuple #[]) := by
  go_enter Tryd.func67, Tryd.ntmps67
  go_wp2_with fail
  refine wp_loop_rounds 1 ?_
  rw [rounds_succ]
  go_wp2_with fail
  go_end0
  exact ⟨rfl, rfl⟩
set_option maxRecDepth 100000 in
set_option maxHeartbeats 1000000 in
theorem stable_none (cmp : Value) (W : World) : Pure 58 #[.slice none 0 0, .int .i64 0, cmp] W (.tuple #[]) := by
  have HI := hid (ins_none cmp)
  go_enter Tryd.func58, Tryd.ntmps58
  go_wp2_with fail
  refine wp_loop_rounds 1 ?_
  rw [rounds_succ]
  go_wp2_with fail
  refine (HI.out _).use ?_
  go_wp2_with fail
  refine wp_loop_rounds 1 ?_
  rw [rounds_succ]
  go_wp2_with fail
  go_end0
  exact ⟨rfl, rfl⟩
set_option maxRecDepth 100000 in
set_option maxHeartbeats 1000000 in
theorem sortInts_any {base C : Nat} {v : Value} {cf : Int → Int → Int} {key : Int → Int} {dom : Int → Prop} (w1 : World) (hK : ∀ x y, cf x y < 0 ↔ key x < key y) (l0 : List Int) (W : World) (hg : G w1 W) (hbase : w1.heap.size ≤ base)
    (hC : ∀ W', G w1 W' → ∀ x y, dom x → dom y → Gives 40 #[.int .i64 x, .int .i64 y, .pointer (some ⟨C, 0, none⟩)] W' (.int .i64 (cf x y)))
    (hO : OwnN W base v l0) (hD : ∀ x ∈ l0, dom x) (hI : l0.Pairwise (· < ·)) (hb : l0.length ≤ 1000000) :
    Calls Tryd.prog 39 #[v, .func (.func 40) #[] #[.pointer (some ⟨C, 0, none⟩)]] W fun e w' => e = .returned (.tuple #[]) ∧ ∃ l, Sorted key l0 l ∧ OwnN w' base v l ∧ G w1 w' := by
  have HO := hid hO
  rcases hO.form with ⟨rfl, rfl⟩ | ⟨g, cap, rfl, hg1, hg2, hcap⟩
  · have HN := hid (stable_none (.func (.func 40) #[] #[.pointer (some ⟨C, 0, none⟩)]))
    clear hO hC
    go_enter Tryd.func39, Tryd.ntmps39
    go_wp2_with fail
    refine (HN.out _).use ?_
    go_wp2_with fail
    go_end0
    exact ⟨rfl, [], ⟨List.Perm.refl _, List.Pairwise.nil⟩, HO.out, hg⟩
  · have hS := SR.start HO.out
    have hc := stable_any (cap := cap) (n := l0.length) (cv := .pointer (some ⟨C, 0, none⟩)) hK (fun W' m x y dx dy => hC W' (g_of_mv hg m (by omega)) x y dx dy) l0 W hS hD hI rfl hb
    have HC := hid hc
    unfold cmpV at HC
    clear hc hS hO hC
    go_enter Tryd.func39, Tryd.ntmps39
    go_wp2_with fail
    refine HC.out.mono ?_
    rintro e w' ⟨rfl, l, hl, hr⟩
    have HL := hid (show Sorted key l0 l ∧ OwnN w' base (.slice (some ⟨g, 0, none⟩) l0.length cap) l ∧ G w1 w' from ⟨hl, by have := SR.own HO.out hr hl.1.length_eq; unfold OwnN; rw [hl.1.length_eq]; exact this, g_of_mv hg hr.mv (by omega)⟩)
    clear hl hr
    go_wp2_with fail
    go_end0
    exact ⟨rfl, l, HL.out⟩

/-- the numbers of the items of which p holds, from k on -/
def idxFrom (p : It → Bool) : List It → Nat → List Int
  | [], _ => []
  | x :: xs, k => if p x then (k : Int) :: idxFrom p xs (k + 1) else idxFrom p xs (k + 1)
def idxL (p : It → Bool) (xs : List It) : List Int := idxFrom p xs 0
theorem idx_append (p : It → Bool) : ∀ (xs ys : List It) (k : Nat), idxFrom p (xs ++ ys) k = idxFrom p xs k ++ idxFrom p ys (k + xs.length)
  | [], ys, k => by simp [idxFrom]
  | x :: xs, ys, k => by
    have := idx_append p xs ys (k + 1)
    have e : k + (xs.length + 1) = k + 1 + xs.length := by omega
    simp only [List.cons_append, idxFrom, this, List.length_cons, e]
    split <;> simp
theorem idx_take (p : It → Bool) (xs : List It) (k : Nat) (x : It) (h : xs[k]? = some x) : idxL p (xs.take (k + 1)) = idxL p (xs.take k) ++ (if p x then [(k : Int)] else []) := by
  have hk := (List.getElem?_eq_some_iff.1 h).1
  have e : xs.take (k + 1) = xs.take k ++ [x] := by
    rw [List.take_add_one, h]; rfl
  unfold idxL
  rw [e, idx_append]
  simp only [idxFrom, List.length_take, Nat.zero_add, Nat.min_eq_left (Nat.le_of_lt hk)]
theorem idx_len (p : It → Bool) : ∀ (xs : List It) (k : Nat), (idxFrom p xs k).length ≤ xs.length
  | [], _ => by simp [idxFrom]
  | x :: xs, k => by
    have := idx_len p xs (k + 1)
    simp only [idxFrom]
    split <;> simp <;> omega
theorem idx_mem (p : It → Bool) : ∀ (xs : List It) (k : Nat) (i : Int), i ∈ idxFrom p xs k ↔ ∃ (j : Nat) (x : It), i = ((k + j : Nat) : Int) ∧ xs[j]? = some x ∧ p x = true
  | [], k, i => by simp [idxFrom]
  | x :: xs, k, i => by
    have ih := idx_mem p xs (k + 1) i
    have key : (∃ (j : Nat) (y : It), i = ((k + 1 + j : Nat) : Int) ∧ xs[j]? = some y ∧ p y = true) ↔ ∃ (j : Nat) (y : It), i = ((k + (j + 1) : Nat) : Int) ∧ (x :: xs)[j + 1]? = some y ∧ p y = true := by
      constructor
      · rintro ⟨j, y, h1, h2, h3⟩; exact ⟨j, y, by omega, by simpa using h2, h3⟩
      · rintro ⟨j, y, h1, h2, h3⟩; exact ⟨j, y, by omega, by simpa using h2, h3⟩
    unfold idxFrom
    by_cases hp : p x = true
    · rw [if_pos hp, List.mem_cons, ih, key]
      constructor
      · rintro (h | ⟨j, y, h⟩)
        · exact ⟨0, x, by simpa using h, rfl, hp⟩
        · exact ⟨j + 1, y, h⟩
      · rintro ⟨j, y, h1, h2, h3⟩
        cases j with
        | zero => exact .inl (by simpa using h1)
        | succ j => exact .inr ⟨j, y, h1, h2, h3⟩
    · rw [if_neg hp, ih, key]
      constructor
      · rintro ⟨j, y, h⟩; exact ⟨j + 1, y, h⟩
      · rintro ⟨j, y, h1, h2, h3⟩
        cases j with
        | zero => simp at h2; subst h2; exact absurd h3 hp
        | succ j => exact ⟨j, y, h1, h2, h3⟩
theorem idx_sorted (p : It → Bool) : ∀ (xs : List It) (k : Nat), (idxFrom p xs k).Pairwise (· < ·)
  | [], _ => List.Pairwise.nil
  | x :: xs, k => by
    have ih := idx_sorted p xs (k + 1)
    unfold idxFrom
    split
    · refine List.pairwise_cons.2 ⟨fun y hy => ?_, ih⟩
      obtain ⟨j, z, e, _⟩ := (idx_mem p xs (k + 1) y).1 hy
      omega
    · exact ih
/-- items of a name, of a group -/
def ofName (s : List UInt8) (x : It) : Bool := sameL x.n s
def ofGroup (s : List UInt8) (x : It) : Bool := sameL x.g s
/-- what pick.All hands back -/
def AllP (xs : List It) (s : List UInt8) (base : Nat) (v : Value) (w' : World) : Prop := ∃ l, Sorted (keyL xs) (idxL (ofName s) xs) l ∧ OwnN w' base v l

theorem IsItems.at_ {w : World} {v : Value} {xs : List It} (h : IsItems w v xs) (h0 : xs ≠ []) : ∃ b off cap, v = .slice (some ⟨b, off, none⟩) xs.length cap ∧ b < w.heap.size ∧ ∀ (i : Nat) (x : It), xs[i]? = some x → ∃ pv lv, ItAt w b (off + i * 15) x pv lv := by
  obtain ⟨a, c, e, h1, h2⟩ := h
  obtain ⟨b, off, e2, hb, h3⟩ := h2 h0
  subst e2
  exact ⟨b, off, c, e, hb, h3⟩
set_option maxRecDepth 100000 in
set_option maxHeartbeats 4000000 in
theorem all_any (ver : Int) (iv : Value) (xs : List It) (s : List UInt8) (w : World) (h : IsItems w iv xs) (hF : Fine xs) (hs : s.length ≤ 100000) (hM : RMem w) :
    Makes 11 #[cardV ver iv, .string (S s)] w (AllP xs s (w.heap.size + 1)) := by
  obtain ⟨w1, hw1⟩ : ∃ w1, w.alloc (.cells #[.int .i64 ver, iv] 24) = w1 := ⟨_, rfl⟩
  have hC : CardAt w1 w.heap.size ver iv xs := by rw [← hw1]; exact CardAt.new h
  have hsz : w1.heap.size = w.heap.size + 1 := by rw [← hw1]; simp
  have hg1 : G w w1 := by rw [← hw1]; exact (G.refl w).alloc _
  have HCMP := hid (fun W' (g : G w1 W') (x y : Int) (dx : 0 ≤ x ∧ x.toNat < xs.length) (dy : 0 ≤ y ∧ y.toNat < xs.length) => by
    have := cmp_any w.heap.size ver iv xs W' (hC.grow g) hF ((hM.grow hg1).grow g) x.toNat y.toNat dx.2 dy.2
    rw [Int.toNat_of_nonneg dx.1, Int.toNat_of_nonneg dy.1] at this
    exact this)
  have HIT := hid hC.it
  have HSZ := hid hsz
  have HG1 := hid hg1
  have HL := hid hF.1
  have HN := hid (fun x hx => hF.2 x hx)
  have hc1 := hC.c1
  have hlt := hC.lt
  obtain ⟨ia, ic, rfl, hcap⟩ := h.len
  obtain ⟨i0, hi, hz0, hz1, hz2⟩ := info_parts info_intN
  have hll := hF.1
  clear hC h hF hsz hg1 hcap hM
  unfold cardV
  go_enter Tryd.func11, Tryd.ntmps11
  go_wp2_with fail
  go_loopw [5, 11] (fun v i wr => ∃ k : Nat, k ≤ xs.length ∧ i = .int .i64 k ∧ OwnN wr (w1.heap.size) v (idxL (ofName s) (xs.take k)) ∧ G w1 wr) (fun _ i _ => xs.length - (intOf i).toNat)
  case atStart => exact ⟨0, Nat.zero_le _, rfl, World.ownsRow_nil _ _ _ _, G.refl _⟩
  case round =>
    obtain ⟨k, hk, rfl, hown, hg⟩ := hrel
    have HO := hid hown
    have HG := hid hg
    clear hown hg
    by_cases hlt2 : k < xs.length
    · obtain ⟨b, off, cap, e, hb, hit⟩ := (HIT.out.grow HG.out).at_ (by rintro rfl; simp at hlt2)
      cases e
      have hx := List.getElem?_eq_getElem hlt2
      obtain ⟨x, hxe⟩ : ∃ x, xs[k] = x := ⟨_, rfl⟩
      rw [hxe] at hx
      obtain ⟨pv, lv, hat⟩ := hit k x hx
      obtain ⟨pa, pc, rfl⟩ := hat.ok.pv
      obtain ⟨la, lc, rfl⟩ := hat.ok.lv
      obtain ⟨k0, k1, k2, k3, k4, k5, k6, k7, k8, k9, k10, k11, k12, k13, k14⟩ := hat.e
      have HX := hid hx
      have hkl : (k : Int) < (xs.length : Int) := by omega
      have hxb := HN.out x (List.mem_of_getElem? hx)
      have hnl : x.n.length ≤ x.big := by unfold It.big; omega
      clear hit hat hx hxe
      go_wp2_with fail
      refine (same_any x.n s _ (by omega) (by omega)).use ?_
      intro w2 g2
      have G2 := hid (HG.out.trans (((G.refl _).alloc _).trans g2))
      have HIX := hid (idx_take (ofName s) xs k x HX.out)
      have HO2 := hid (OwnN.grow HO.out (((G.refl _).alloc _).trans g2))
      have hlen := idx_len (ofName s) (xs.take k) 0
      have hlen2 : (idxL (ofName s) (xs.take k)).length ≤ 100 := by unfold idxL; rw [List.length_take] at hlen; omega
      clear g2 hlen
      obtain ⟨t, ht⟩ : ∃ t, sameL x.n s = t := ⟨_, rfl⟩
      rw [ht]
      have HT := hid (show ofName s x = t from ht)
      clear ht k0 k1 k2 k3 k4 k5 k6 k7 k8 k9 k10 k11 k12 k13 k14
      cases t with
      | true =>
        have hown := HO2.out
        unfold OwnN at hown
        have hgg := G2.out
        go_wp2_with (at_builtin; refine wpList_push (w := w1) rfl _ _ 35 rfl 3 i0 _ 1 8 Tryd.underlying35 hi hz0 hz1 hz2 rfl (by decide) _ _ _ rfl hown hgg [.int .i64 (k : Int)] rfl rfl (by simp; rfl) (by omega) (by omega) ?_; intro v' w' hown' hg' hne')
        go_roundw
        case measure => simp [intOf]; omega
        case rel =>
          refine ⟨k + 1, by omega, by go_num, ?_, hg'⟩
          rw [HIX.out, HT.out, if_pos rfl]
          unfold OwnN
          simpa using hown'
      | false =>
        go_wp2_with fail
        go_roundw
        case measure => simp [intOf]; omega
        case rel =>
          refine ⟨k + 1, by omega, by go_num, ?_, G2.out⟩
          rw [HIX.out, HT.out, if_neg (by simp), List.append_nil]
          exact HO2.out
    · obtain rfl : k = xs.length := by omega
      have hsrt := sortInts_any (base := w1.heap.size) (C := w.heap.size) (cf := fun a b => keyL xs a - keyL xs b) (key := keyL xs) (dom := fun x => 0 ≤ x ∧ x.toNat < xs.length) w1 (fun x y => by omega) (idxL (ofName s) xs) wr HG.out (Nat.le_refl _) (fun W' g x y dx dy => HCMP.out W' g x y dx dy) (by have := HO.out; rw [List.take_of_length_le (Nat.le_refl _)] at this; exact this) (fun y hy => by
        obtain ⟨j, x, e, h1, _⟩ := (idx_mem _ xs 0 y).1 hy
        have := (List.getElem?_eq_some_iff.1 h1).1
        omega) (idx_sorted _ xs 0) (by have := idx_len (ofName s) xs 0; unfold idxL; omega)
      have HS := hid hsrt
      clear hsrt
      go_wp2_with fail
      refine HS.out.mono ?_
      rintro e w' ⟨rfl, l, hl, ho, hgw⟩
      have HR := hid (show AllP xs s (w.heap.size + 1) u5 w' from ⟨l, hl, by rw [← HSZ.out]; exact ho⟩)
      have HGW := hid (HG1.out.trans hgw)
      clear hl ho hgw
      go_wp2_with fail
      go_ret
      exact ⟨_, rfl, HR.out, HGW.out⟩

end Go.Proofs.YtniidkkldoijcaaDoor
