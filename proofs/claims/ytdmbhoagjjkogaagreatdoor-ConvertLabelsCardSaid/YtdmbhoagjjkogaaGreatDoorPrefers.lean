/-
  CONTRACT of convert.prefers.
-/
import Derived.Test.YtdmbhoagjjkogaaGreatDoorMA53
import Derived.Test.YtdmbhoagjjkogaaGreatDoorMA46
import Derived.Test.YtdmbhoagjjkogaaGreatDoorMA47
import Derived.Test.YtdmbhoagjjkogaaGreatDoorMA48
import Derived.Test.YtdmbhoagjjkogaaGreatDoorMA49
namespace Go.Proofs.YtdmbhoagjjkogaaGreatDoor
open Go.RowKit
set_option linter.unusedVariables false
set_option linter.unusedSimpArgs false
set_option maxRecDepth 100000 in
set_option maxHeartbeats 1000000 in
theorem clone_st (v : Value) (n : Nat) (cs : List Value) (w : World) (hP : IsRow 1 w v n cs) (hl : n ≤ 100000) (W : World) (gW : G w W) :
    Calls Tryz.prog 109 #[v] W fun e w' => ∃ u, e = .returned u ∧ w'.ownsRow W.heap.size 9 1 u n cs ∧ G W w' := by
  obtain ⟨i0, hi, hz0, hz1, hz2⟩ := info_parts infoStr
  have heq := fun W a n c => Lib.run_eql_slice_nil (P := Tryz.prog) W 23 9 a n c 0 0 Tryz.underlying23
  obtain ⟨hnl, hone, ⟨rfl, rfl | ⟨a, c, rfl⟩⟩ | ⟨b, off, cap, rfl, hb, h0, hc⟩⟩ := hP
  · obtain rfl : cs = [] := List.eq_nil_of_length_eq_zero (by simpa using hnl)
    clear gW
    go_enter Tryz.func109, Tryz.ntmps109
    go_wp2_with fail
    go_ret
    exact ⟨_, rfl, World.ownsRow_nil _ _ _ _, (by repeat (first | exact G.refl _ | assumption | apply G.drew | apply G.drewN | apply G.alloc | refine G.trans ?_ (by assumption)))⟩
  · obtain rfl : cs = [] := List.eq_nil_of_length_eq_zero (by simpa using hnl)
    clear gW
    go_enter Tryz.func109, Tryz.ntmps109
    go_wp2_with fail
    go_ret
    exact ⟨_, rfl, World.ownsRow_made W #[] 0 (Nat.le_refl _) (by unfold maxLen; omega) rfl, (by repeat (first | exact G.refl _ | assumption | apply G.drew | apply G.drewN | apply G.alloc | refine G.trans ?_ (by assumption)))⟩
  · have hadd : ∀ j, (⟨b, off, none⟩ : Addr).add j = ⟨b, off + j, none⟩ := fun j => by unfold Addr.add; split <;> simp_all
    have hcc : ∀ (j : Nat) (u : Value), cs[j]? = some u → (W.alloc (.cells #[] 9)).cell? ((⟨b, off, none⟩ : Addr).add j) = some u := fun j u hu => by
      obtain ⟨hj, rfl⟩ := List.getElem?_eq_some_iff.1 hu
      rw [hadd, (gW.alloc _).cell (p := ⟨b, off + j, none⟩) hb]; exact hc j hj
    have HCC := hid hcc
    have HN := hid hnl
    have HONE := hid hone
    have hown0 : (W.alloc (.cells #[] 9)).ownsRow W.heap.size 9 1 (.slice (some ⟨W.heap.size, 0, none⟩) 0 0) 0 [] := World.ownsRow_made W #[] 0 (Nat.le_refl _) (by unfold maxLen; omega) rfl
    have HOWN := hid hown0
    clear hcc hc hnl hone hown0 hadd gW hb
    go_enter Tryz.func109, Tryz.ntmps109
    go_wp2_with (at_builtin; refine wpList_append_own _ rfl _ _ 23 rfl W.heap.size 9 i0 _ 1 16 Tryz.underlying23 hi hz0 hz1 hz2 rfl (by decide) _ _ _ rfl HOWN.out ⟨b, off, none⟩ n cap cs rfl HN.out HCC.out HONE.out (by unfold maxLen; omega) (by omega) (by simp) ?_; intro v' w1 hown' hgrow _)
    go_ret
    have hgrow' : (W.alloc (.cells #[] 9)).grownBy w1 (some W.heap.size) := hgrow
    have hG : G W w1 := Below.grown ((Below.refl W.heap.size W).alloc (Nat.le_refl _) (.cells #[] 9)) hgrow' (by simp) (fun j hj => by cases hj; exact Nat.le_refl _)
    exact ⟨_, rfl, by simpa using hown', hG⟩
theorem flat_strs (xs : List (List UInt8)) : xs.flatMap cellsS = xs.map fun l => .string (S l) := by
  induction xs with
  | nil => rfl
  | cons x xs ih => rw [List.flatMap_cons, ih]; rfl
abbrev OwS (w : World) (base : Nat) (v : Value) (ls : List (List UInt8)) : Prop := w.ownsRow base 9 1 v ls.length (ls.flatMap cellsS)
theorem OwS.strs {w : World} {base : Nat} {v : Value} {ls : List (List UInt8)} (h : OwS w base v ls) : IsStrs w v ls := strs_of_own (by rw [← flat_strs]; exact h)
theorem set_same {W : World} {P : Nat} {v : Value} {t : TypeId} {m : Nat × Nat} (h : W.heap[P]? = some (.cells #[v] t m)) : W.setCell ⟨P, 0, none⟩ v = W := by
  have e : (W.setCell ⟨P, 0, none⟩ v).heap = W.heap := by
    apply Array.ext_getElem?
    intro j
    by_cases hj : P = j
    · subst hj
      simp [World.setCell, Array.getElem?_modify, h]
    · simp [World.setCell, Array.getElem?_modify, hj]
  have e2 : W.setCell ⟨P, 0, none⟩ v = { W with heap := (W.setCell ⟨P, 0, none⟩ v).heap } := rfl
  rw [e2, e]
theorem set_bool {W : World} {P : Nat} {v u : Value} {t : TypeId} {m : Nat × Nat} (h : W.heap[P]? = some (.cells #[v] t m)) : (W.setCell ⟨P, 0, none⟩ u).heap[P]? = some (.cells #[u] t m) := by
  simp [World.setCell, Array.getElem?_modify, h]
set_option maxRecDepth 100000 in
set_option maxHeartbeats 1000000 in
theorem prefs_fn (x : List UInt8) (P : Nat) (b : Bool) (t : TypeId) (W : World) (hc : W.heap[P]? = some (.cells #[.bool b] t (0, 0))) (hx : x.length ≤ 1000000) : Calls Tryz.prog 111 #[valS x, .pointer (some ⟨P, 0, none⟩)] W fun e w' => e = .returned (.bool (sameL x wPref)) ∧ ∃ w2, G W w2 ∧ w' = w2.setCell ⟨P, 0, none⟩ (.bool (b || sameL x wPref)) := by
  have SM := hid (same_any x wPref W (by omega) (by simp [wPref]))
  unfold wPref at SM ⊢
  have HC := hid hc
  clear hc
  go_enter Tryz.func111, Tryz.ntmps111
  go_wp2_with fail
  refine SM.out.use ?_
  intro w2 g2
  have h2 := row_up HC.out g2
  have c0 : w2.cell? ⟨P, 0, none⟩ = some (.bool b) := by rw [cell_of_row w2 P 0 _ _ _ h2]; rfl
  have f0 := Lib.frozen_of_heap h2 0
  clear h2
  cases b with
  | true =>
    go_wp2_with fail
    go_ret
    exact ⟨rfl, w2, g2, rfl⟩
  | false =>
    go_wp2_with fail
    go_ret
    exact ⟨rfl, w2, g2, rfl⟩
theorem pf_mv_own {a b c : World} {R : Nat} {row : Option Nat} (h : a.grownBy b (some R)) (k : b.grownBy c row) (hr : ∀ j, row = some j → j = R ∨ a.heap.size ≤ j) : a.grownBy c (some R) :=
  ⟨k.os.trans h.os, k.tape.trans h.tape, k.output.trans h.output, Nat.le_trans h.size k.size, fun i hi hne => (k.block i (Nat.lt_of_lt_of_le hi h.size) (fun e => by rcases hr i e.symm with h' | h'; (· exact hne (by rw [h'])); omega)).trans (h.block i hi hne)⟩
theorem box2p {w : World} {b : Nat} {a0 a1 : Value} {t : TypeId} (h : w.heap[b]? = some (.cells #[a0, a1] t (0, 0))) : w.cell? ⟨b, 0, none⟩ = some a0 ∧ w.cell? ⟨b, 1, none⟩ = some a1 := by
  refine ⟨?_, ?_⟩ <;> (rw [cell_of_row w b _ _ _ _ h]; rfl)
theorem put2p {W : World} {X : Nat} {a0 a1 b1 : Value} {T : TypeId} (h : W.heap[X]? = some (.cells #[a0, a1] T (0, 0))) : (W.setCell ⟨X, 1, none⟩ b1).heap[X]? = some (.cells #[a0, b1] T (0, 0)) := by
  simp [World.setCell, Array.getElem?_modify, h]
structure PrS (w wr : World) (ov : Value) (ys : List PmC) (b : Bool) : Prop where
  own : wr.ownsRow (w.heap.size + 1) 46 2 ov ys.length (ys.flatMap cellsP)
  vals : ∀ y ∈ ys, OwS wr (w.heap.size + 1) (slP y) y.1.2
  pr : wr.heap[w.heap.size]? = some (.cells #[.bool b] 4 (0, 0))
  g : G w wr
theorem PrS.step {w wr w' : World} {ov : Value} {ys : List PmC} {b b' : Bool} (h : PrS w wr ov ys b) (m : wr.grownBy w' (some w.heap.size)) (hp : w'.heap[w.heap.size]? = some (.cells #[.bool b'] 4 (0, 0))) : PrS w w' ov ys b' :=
  ⟨h.own.kept m (row_under h.own (Nat.lt_succ_self _)), fun y hy => (h.vals y hy).kept m (row_under (h.vals y hy) (Nat.lt_succ_self _)), hp, Below.grown h.g m h.g.size (fun j hj => by cases hj; exact Nat.le_refl _)⟩
theorem PrS.grow {w wr w' : World} {ov : Value} {ys : List PmC} {b : Bool} (h : PrS w wr ov ys b) (g : G wr w') : PrS w w' ov ys b := h.step (mv_of _ g) (row_up h.pr g)
theorem PrS.push {w wr w' : World} {ov u v' : Value} {ys : List PmC} {b : Bool} {n : List UInt8} {vs : List (List UInt8)} {a : Option Addr} {c : Nat} (h : PrS w wr ov ys b) (hu : OwS wr (w.heap.size + 1) u vs) (he : u = .slice a vs.length c) (hown : w'.ownsRow (w.heap.size + 1) 46 2 v' (ys.length + 1) (ys.flatMap cellsP ++ [.string (S n), u])) (hgrow : wr.grownBy w' ov.ownBlock) : PrS w w' v' (ys ++ [((n, vs), a, vs.length, c)]) b := by
  refine ⟨?_, fun y hy => ?_, ?_, ?_⟩
  · rw [List.length_append, List.flatMap_append]
    rw [he] at hown
    exact hown
  · rcases List.mem_append.1 hy with hy | hy
    · exact (h.vals y hy).kept hgrow (rows_apart (h.vals y hy) h.own (by decide))
    · rw [List.mem_singleton.1 hy]
      have := hu.kept hgrow (rows_apart hu h.own (by decide))
      rw [he] at this
      exact this
  · rw [hgrow.block w.heap.size (Nat.lt_of_lt_of_le (lt_of_row h.pr) (Nat.le_refl _)) (fun e => by have := (h.own.lt _ e.symm).1; omega)]
    exact h.pr
  · exact Below.grown h.g hgrow h.g.size (fun j hj => by have := (h.own.lt j hj).1; omega)
theorem own_grow {w w' : World} {base : Nat} {t : TypeId} {k n : Nat} {v : Value} {cs : List Value} (h : w.ownsRow base t k v n cs) (g : G w w') : w'.ownsRow base t k v n cs := h.kept (mv_of none g) (by
  cases hv : v.ownBlock with
  | none => exact .inl rfl
  | some b => exact .inr (by simp))
theorem any_find {q : List UInt8 → Bool} {xs : List (List UInt8)} : (xs.findIdx? q = none → xs.any q = false) ∧ (∀ k, xs.findIdx? q = some k → xs.any q = true) := by
  refine ⟨fun h => ?_, fun k h => ?_⟩
  · rw [List.findIdx?_eq_none_iff] at h
    rw [List.any_eq_false]; intro x hx; simp [h x hx]
  · rw [List.findIdx?_eq_some_iff_getElem] at h
    obtain ⟨hk, h1, _⟩ := h
    exact List.any_eq_true.2 ⟨_, List.getElem_mem hk, h1⟩
theorem prefDel (P : Nat) (b0 : Bool) (t : TypeId) (cv : Value) (xs : List (List UInt8)) (w5 : World) (base : Nat) (hP : w5.heap[P]? = some (.cells #[.bool b0] t (0, 0))) (hPb : P < base) (h : OwS w5 base cv xs) (hl : xs.length ≤ 1000000) (hx : ∀ x ∈ xs, x.length ≤ 1000000) :
    Calls Tryz.prog 110 #[cv, .func (.func 111) #[] #[.pointer (some ⟨P, 0, none⟩)]] w5 fun e w6 => ∃ u w1, e = .returned u ∧ OwS w6 base u (keptV xs) ∧ w5.grownBy w1 (some P) ∧ w1.grownBy w6 cv.ownBlock ∧ w6.heap[P]? = some (.cells #[.bool (b0 || xs.any fun v => sameL v wPref)] t (0, 0)) := by
  have hne : cv.ownBlock ≠ some P := fun e => by have := (h.lt _ e).1; omega
  have eg := enters_of Tryz.func111 (by kernel_rfl) rfl
  have fn := fun (W : World) (x : List UInt8) (b : Bool) (hW : W.heap[P]? = some (.cells #[.bool b] t (0, 0))) (hm : x ∈ xs) => prefs_fn x P b t W hW (hx x hm)
  have still : ∀ (W : World) (x : List UInt8) (b : Bool), W.heap[P]? = some (.cells #[.bool b] t (0, 0)) → x ∈ xs → (b || sameL x wPref) = b → Gives 111 #[valS x, .pointer (some ⟨P, 0, none⟩)] W (.bool (sameL x wPref)) := fun W x b hW hm hb => by
    refine (fn W x b hW hm).mono ?_
    rintro e w' ⟨rfl, w2, g2, rfl⟩
    refine ⟨rfl, ?_⟩
    rw [hb, set_same (row_up hW g2)]
    exact g2
  have ix := indexS_st 111 #[.pointer (some ⟨P, 0, none⟩)] eg (fun v => sameL v wPref) cv xs w5 (fun W w1 => ∃ w2, G W w2 ∧ w1 = w2.setCell ⟨P, 0, none⟩ (.bool true)) (row_of_own h (by intro u hu; obtain ⟨l, _, hl⟩ := List.mem_flatMap.1 hu; simp [cellsS] at hl; subst hl; rfl)) hl
    (fun W g x hm hq => by
      have := still W x b0 (row_up hP g) hm (by rw [hq]; simp)
      rw [hq] at this
      exact this)
    (fun W g x hm hq => by
      refine (fn W x b0 (row_up hP g) hm).mono ?_
      rintro e w' ⟨rfl, w2, g2, rfl⟩
      rw [hq]
      exact ⟨rfl, w2, g2, by simp⟩)
  have kept1 : ∀ w1, IxSt (fun v => sameL v wPref) xs (fun W w1 => ∃ w2, G W w2 ∧ w1 = w2.setCell ⟨P, 0, none⟩ (.bool true)) w5 w1 → w5.grownBy w1 (some P) ∧ w1.heap[P]? = some (.cells #[.bool (b0 || xs.any fun v => sameL v wPref)] t (0, 0)) ∧ (∀ k, xs.findIdx? (fun v => sameL v wPref) = some k → w1.heap[P]? = some (.cells #[.bool true] t (0, 0))) := fun w1 hr => by
    rcases hr with ⟨h0, g⟩ | ⟨k, hk, W, gW, w2, g2, rfl⟩
    · refine ⟨mv_of _ g, ?_, fun k hk => by rw [h0] at hk; cases hk⟩
      rw [any_find.1 h0, Bool.or_false]
      exact row_up hP g
    · have hp2 := row_up hP (gW.trans g2)
      refine ⟨mv_st (mv_of _ (gW.trans g2)), ?_, fun _ _ => set_bool hp2⟩
      rw [any_find.2 k hk, Bool.or_true]
      exact set_bool hp2
  refine (deleteS_st 111 #[.pointer (some ⟨P, 0, none⟩)] eg (fun v => sameL v wPref) base cv xs w5 _ h hl ix (fun w1 hr => ⟨World.ownsRow.kept h (kept1 w1 hr).1 (row_under h hPb), fun k hk W gW x hm => ?_⟩)).mono ?_
  · have hW : W.heap[P]? = some (.cells #[.bool true] t (0, 0)) := by
      have := (kept1 w1 hr).2.2 k hk
      rw [gW.block P (lt_of_row this) (fun e => hne e.symm)]
      exact this
    exact still W x true hW hm (by simp)
  · rintro e w6 ⟨u, w1, hr, rfl, ho, hg, _⟩
    obtain ⟨k1, k2, _⟩ := kept1 w1 hr
    refine ⟨u, w1, rfl, ho, k1, hg, ?_⟩
    rw [hg.block P (lt_of_row k2) (fun e => hne e.symm)]
    exact k2
theorem take_flat {ps : List Pm} {k : Nat} {p : Pm} (h : ps[k]? = some p) (f : Pm → List Pm) : (ps.take (k + 1)).flatMap f = (ps.take k).flatMap f ++ f p := by
  rw [List.take_add_one, h]; simp
theorem take_anyP {ps : List Pm} {k : Nat} {p : Pm} (h : ps[k]? = some p) (f : Pm → Bool) : (ps.take (k + 1)).any f = ((ps.take k).any f || f p) := by
  rw [List.take_add_one, h]; simp
theorem pref_names {ps : List Pm} {q : Pm} (h : q ∈ ps.flatMap prefStep) : ∃ p ∈ ps, q.1 = p.1 := by
  obtain ⟨p, hp, hq⟩ := List.mem_flatMap.1 h
  refine ⟨p, hp, ?_⟩
  unfold prefStep at hq
  split at hq
  · split at hq
    · cases hq
    · rw [List.mem_singleton.1 hq]
  · rw [List.mem_singleton.1 hq]
set_option maxRecDepth 100000 in
set_option maxHeartbeats 8000000 in
theorem prefers_any (L : List Nat) (v : Value) (ps : List Pm) (w : World) (hX : ∀ X ∈ L, X < w.heap.size) (h : PmR w v ps) (hl : ps.length ≤ 10000) (hn : ∀ p ∈ ps, p.1.length ≤ 1000000) (hv : ∀ p ∈ ps, p.2.length ≤ 100000 ∧ ∀ u ∈ p.2, u.length ≤ 100000) : Makes 67 #[v] w (fun u w' => PmR (Wl L w') u (prefersL ps)) := by
  have HPS := hid h.p
  have HN := hid hn
  have HV := hid hv
  obtain ⟨va, vc, rfl⟩ : ∃ a c, v = .slice a ps.length c := by
    obtain ⟨a, c, e, _⟩ := h.p
    exact ⟨a, c, e⟩
  clear h hn hv
  go_enter Tryz.func67, Tryz.ntmps67
  go_wp2_with fail
  go_loopw [3, 9] (fun ov i wr => ∃ (k : Nat) (ys : List PmC), k ≤ ps.length ∧ i = .int .i64 k ∧ ys.map (·.1) = (ps.take k).flatMap prefStep ∧ ys.length ≤ k ∧ PrS w wr ov ys ((ps.take k).any prefOf)) (fun _ i _ => ps.length - (intOf i).toNat)
  case atStart => exact ⟨0, [], Nat.zero_le _, rfl, rfl, Nat.le_refl _, ⟨World.ownsRow_nil _ _ _ _, fun y hy => (by cases hy), heap_alloc_new w _, (G.refl w).alloc _⟩⟩
  case round =>
    obtain ⟨k, ys, hk, rfl, hys, hyl, hst⟩ := hrel
    have HYS := hid hys
    have HST := hid hst
    obtain ⟨oa, oc, hov⟩ := own_sl hst.own
    subst hov
    clear hys hst
    by_cases hlt : k < ps.length
    · obtain ⟨a2, cap2, e1, _, hc⟩ := (HPS.out.grow HST.out.g)
      obtain ⟨b, off, e2, hb, hcc⟩ := hc (by intro e; rw [e] at hlt; simp at hlt)
      clear hc
      simp only [Value.slice.injEq, true_and] at e1
      obtain ⟨rfl, rfl⟩ := e1
      subst e2
      obtain ⟨sv, c1, c2, c3⟩ := hcc k _ (List.getElem?_eq_getElem hlt)
      have hp1 := HN.out _ (List.getElem_mem hlt)
      have hp2 := HV.out _ (List.getElem_mem hlt)
      obtain ⟨p, hpe⟩ : ∃ p, ps[k] = p := ⟨_, rfl⟩
      rw [hpe] at c1 c3 hp1 hp2
      have HP := hid (show ps[k]? = some p by rw [List.getElem?_eq_getElem hlt, hpe])
      have CLN := hid (fun W (g : G wr W) => clone_st sv p.2.length _ wr c3.row (by omega) W g)
      obtain ⟨sa, sc, rfl, _⟩ := c3.len
      have HP2 := hid hp2.2
      have hp2l := hp2.1
      clear hcc c3 hpe hp2
      go_wp2_with fail
      refine (CLN.out _ ((G.refl _).alloc _)).mono ?_
      rintro e w3 ⟨cv, rfl, hown, hg⟩
      have HOC := hid (show OwS w3 (wr.alloc (.cells #[.string (S p.1), .slice sa p.2.length sc] 46)).heap.size cv p.2 from hown)
      have hbx : w3.heap[wr.heap.size]? = some (.cells #[.string (S p.1), .slice sa p.2.length sc] 46 (0, 0)) := row_up (heap_alloc_new wr _) hg
      have G3 := hid (((G.refl wr).alloc (.cells #[.string (S p.1), .slice sa p.2.length sc] 46)).trans hg)
      have HBX := hid hbx
      obtain ⟨ca, cc, rfl⟩ := own_sl hown
      obtain ⟨q0, q1⟩ := box2p hbx
      have f1 := Lib.frozen_of_heap hbx 1
      obtain ⟨w4, hw4⟩ : ∃ w4, w3.setCell ⟨wr.heap.size, 1, none⟩ (.slice ca p.2.length cc) = w4 := ⟨_, rfl⟩
      have hbx4 : w4.heap[wr.heap.size]? = some (.cells #[.string (S p.1), .slice ca p.2.length cc] 46 (0, 0)) := by rw [← hw4]; exact put2p hbx
      have G4 := hid (show G wr w4 by rw [← hw4]; exact g_set G3.out (Nat.le_refl _))
      have HOC4 := hid (show OwS w4 (wr.heap.size + 1) (.slice ca p.2.length cc) p.2 from by
        rw [← hw4]
        have e : (wr.alloc (.cells #[.string (S p.1), .slice sa p.2.length sc] 46)).heap.size = wr.heap.size + 1 := by simp
        have ho := HOC.out
        rw [e] at ho
        exact ho.kept (mv_set w3 wr.heap.size 1 _) (row_under ho (Nat.lt_succ_self _)))
      have HBX4 := hid hbx4
      clear hown hg hbx c1 c2
      obtain ⟨p0, p1⟩ := box2p hbx4
      have SM := hid (fun W => same_any p.1 nTYPE W (by omega) (by simp [nTYPE]))
      have HST4 := hid (HST.out.grow G4.out)
      have IP := info_parts infoParam
      obtain ⟨i0, hi, hz0, hz1, hz2⟩ := IP
      cases hsm : sameL p.1 nTYPE with
      | false =>
        have HF := hid (show (ys ++ [((p.1, p.2), ca, p.2.length, cc)]).map (·.1) = (ps.take (k + 1)).flatMap prefStep by
          rw [take_flat HP.out, List.map_append, HYS.out]
          unfold prefStep
          rw [if_neg (by rw [hsm]; decide)]; rfl)
        have HA := hid (show (ps.take (k + 1)).any prefOf = (ps.take k).any prefOf by rw [take_anyP HP.out]; unfold prefOf; rw [hsm]; simp)
        have SM2 := SM.out
        rw [hsm] at SM2
        unfold nTYPE at SM2
        have SMM := hid SM2
        clear hsm SM2 hbx4
        go_wp2_with fail
        refine (SMM.out _).use ?_
        intro w5 g5
        have HST5 := hid (HST4.out.grow g5)
        have HBX5 := hid (row_up HBX4.out g5)
        have HOC5 := hid (show OwS w5 (wr.heap.size + 1) (.slice ca p.2.length cc) p.2 from own_grow HOC4.out g5)
        clear g5 p0 p1 q0 q1 f1
        obtain ⟨p0, p1⟩ := box2p HBX5.out
        have hszz := lt_of_row HST5.out.pr
        have hwr := lt_of_row HST.out.pr
        go_wp2_with (at_builtin; refine wpList_append_own _ rfl _ _ 29 rfl (w.heap.size + 1) 46 i0 _ 2 40 Tryz.underlying29 hi hz0 hz1 hz2 rfl (by decide) _ _ _ rfl (HST5.out.own.alloc _) ⟨w5.heap.size, 0, none⟩ 1 1 [.string (S p.1), .slice ca p.2.length cc] rfl rfl (fun j x hx => by rw [addr_add, Nat.zero_add, cell_of_row _ _ j _ _ _ (heap_alloc_new w5 _)]; simpa using hx) (by intro x hx; simp at hx; rcases hx with rfl | rfl <;> rfl) (by unfold maxLen; omega) (by omega) (by simp; omega) ?_; intro v' w6 hown' hgrow hnil)
        have HPU := hid (PrS.push (HST5.out.grow ((G.refl _).alloc _)) (ownsRow_mono (own_grow HOC5.out ((G.refl _).alloc _)) (by omega)) rfl hown' hgrow)
        clear hown' hgrow hnil
        go_wp2_with fail
        go_roundw
        case measure => simp [intOf]; omega
        case rel => exact ⟨k + 1, _, by omega, by go_num, HF.out, by simp; omega, by rw [HA.out]; exact HPU.out⟩
      | true =>
        have SM2 := SM.out
        rw [hsm] at SM2
        unfold nTYPE at SM2
        have SMM := hid SM2
        have HSM := hid hsm
        clear hsm SM2 hbx4
        go_wp2_with fail
        refine (SMM.out _).use ?_
        intro w5 g5
        have HST5 := hid (HST4.out.grow g5)
        have HBX5 := hid (row_up HBX4.out g5)
        have HOC5 := hid (show OwS w5 (wr.heap.size + 1) (.slice ca p.2.length cc) p.2 from own_grow HOC4.out g5)
        have G5 := hid (G4.out.trans g5)
        have hwr := lt_of_row HST.out.pr
        have DEL := hid (prefDel w.heap.size ((ps.take k).any prefOf) 4 _ p.2 w5 (wr.heap.size + 1) HST5.out.pr (by omega) HOC5.out (by omega) (fun x hx => by have := HP2.out x hx; omega))
        clear g5 p0 p1 q0 q1 f1
        obtain ⟨p0, p1⟩ := box2p HBX5.out
        go_wp2_with fail
        refine DEL.out.mono ?_
        rintro e w6 ⟨u, w1, rfl, ho, m1, m2, hpp⟩
        obtain ⟨ua, uc, rfl⟩ := own_sl ho
        have M := pf_mv_own (mv_trans (mv_of _ G5.out) m1) m2 (fun j hj => .inr (by have := (HOC5.out.lt j hj).1; omega))
        have HST6 := hid (HST.out.step M hpp)
        have hbx6 : w6.heap[wr.heap.size]? = some (.cells #[.string (S p.1), .slice ca p.2.length cc] 46 (0, 0)) := by
          have h1 : w1.heap[wr.heap.size]? = _ := (m1.block wr.heap.size (lt_of_row HBX5.out) (fun e => by have := Option.some.inj e; omega)).trans HBX5.out
          exact (m2.block wr.heap.size (lt_of_row h1) (fun e => by have := (HOC5.out.lt _ e.symm).1; omega)).trans h1
        have f1 := Lib.frozen_of_heap hbx6 1
        obtain ⟨p0', p1'⟩ := box2p hbx6
        obtain ⟨w7, hw7⟩ : ∃ w7, w6.setCell ⟨wr.heap.size, 1, none⟩ (.slice ua (keptV p.2).length uc) = w7 := ⟨_, rfl⟩
        have HST7 := hid (show PrS w w7 (.slice oa ys.length oc) ys ((ps.take k).any prefOf || p.2.any fun v => sameL v wPref) from by
          rw [← hw7]
          refine HST.out.step (pf_mv_own M (mv_set w6 wr.heap.size 1 _) (fun j hj => by cases hj; exact .inr (Nat.le_refl _))) ?_
          rw [Below.heap_setCell _ _ _ _ (by simp only; omega)]
          exact hpp)
        have HBX7 := hid (show w7.heap[wr.heap.size]? = some (.cells #[.string (S p.1), .slice ua (keptV p.2).length uc] 46 (0, 0)) by rw [← hw7]; exact put2p hbx6)
        have HOC7 := hid (show OwS w7 (wr.heap.size + 1) (.slice ua (keptV p.2).length uc) (keptV p.2) from by
          rw [← hw7]
          exact ho.kept (mv_set w6 wr.heap.size 1 _) (row_under ho (Nat.lt_succ_self _)))
        have HAA := hid (show (ps.take (k + 1)).any prefOf = ((ps.take k).any prefOf || p.2.any fun v => sameL v wPref) by rw [take_anyP HP.out]; unfold prefOf; rw [HSM.out]; simp)
        clear ho m1 m2 hpp M hbx6 p0 p1
        by_cases hk0 : keptV p.2 = []
        · have hl0 : (((keptV p.2).length : Int) == 0) = true := by rw [hk0]; rfl
          have HF := hid (show ys.map (·.1) = (ps.take (k + 1)).flatMap prefStep by
            rw [take_flat HP.out, HYS.out]
            unfold prefStep
            rw [if_pos HSM.out, if_pos hk0, List.append_nil])
          obtain ⟨r0, r1⟩ := box2p HBX7.out
          clear hk0
          go_wp2_with fail
          go_roundw
          case measure => simp [intOf]; omega
          case rel => exact ⟨k + 1, ys, by omega, by go_num, HF.out, by omega, by rw [HAA.out]; exact HST7.out⟩
        · have hl0 : (((keptV p.2).length : Int) == 0) = false := beq_eq_false_iff_ne.2 (by have := List.length_pos_iff.2 hk0; omega)
          have HF := hid (show (ys ++ [((p.1, keptV p.2), ua, (keptV p.2).length, uc)]).map (·.1) = (ps.take (k + 1)).flatMap prefStep by
            rw [take_flat HP.out, List.map_append, HYS.out]
            unfold prefStep
            rw [if_pos HSM.out, if_neg hk0]; rfl)
          have hszz := lt_of_row HST7.out.pr
          obtain ⟨r0, r1⟩ := box2p HBX7.out
          clear hk0
          go_wp2_with (at_builtin; refine wpList_append_own _ rfl _ _ 29 rfl (w.heap.size + 1) 46 i0 _ 2 40 Tryz.underlying29 hi hz0 hz1 hz2 rfl (by decide) _ _ _ rfl (HST7.out.own.alloc _) ⟨w7.heap.size, 0, none⟩ 1 1 [.string (S p.1), .slice ua (keptV p.2).length uc] rfl rfl (fun j x hx => by rw [addr_add, Nat.zero_add, cell_of_row _ _ j _ _ _ (heap_alloc_new w7 _)]; simpa using hx) (by intro x hx; simp at hx; rcases hx with rfl | rfl <;> rfl) (by unfold maxLen; omega) (by omega) (by simp; omega) ?_; intro v' w8 hown' hgrow hnil)
          have HPU := hid (PrS.push (HST7.out.grow ((G.refl _).alloc _)) (ownsRow_mono (own_grow HOC7.out ((G.refl _).alloc _)) (by omega)) rfl hown' hgrow)
          clear hown' hgrow hnil
          go_wp2_with fail
          go_roundw
          case measure => simp [intOf]; omega
          case rel => exact ⟨k + 1, _, by omega, by go_num, HF.out, by simp; omega, by rw [HAA.out]; exact HPU.out⟩
    · obtain rfl : k = ps.length := by omega
      have HF := hid (show ys.map (·.1) = ps.flatMap prefStep by have := HYS.out; rwa [List.take_length] at this)
      have HPR := hid (show PmR (Wl L wr) (.slice oa ys.length oc) (ps.flatMap prefStep) from ⟨by rw [← HF.out]; exact params_rows (w := wr) (fun y hy => OwS.strs (Wl.own (HST.out.vals y hy) (fun X hx => by have := hX X hx; omega))) (Wl.own HST.out.own (fun X hx => by have := hX X hx; omega)), own_frm HST.out.own⟩)
      have hp := HST.out.pr
      rw [List.take_length] at hp
      have c0 : wr.cell? ⟨w.heap.size, 0, none⟩ = some (.bool (ps.any prefOf)) := by rw [cell_of_row wr _ 0 _ _ _ hp]; rfl
      have hfl : (ps.flatMap prefStep).length = ys.length := by rw [← HF.out]; simp
      have FD := hid (find_any (.slice oa ys.length oc) (ps.flatMap prefStep) nPREF wr HPR.out.un.p (by omega) (fun q hq => by obtain ⟨p, hp, e⟩ := pref_names hq; rw [e]; exact HN.out p hp) (by simp [nPREF]))
      have HG := hid HST.out.g
      clear hp
      cases hany : ps.any prefOf with
      | false =>
        have HR := hid (show prefersL ps = ps.flatMap prefStep by unfold prefersL; rw [hany]; rfl)
        rw [hany] at c0
        clear hany hfl
        go_wp2_with fail
        go_ret
        exact ⟨_, rfl, by rw [HR.out]; exact HPR.out, HG.out⟩
      | true =>
        rw [hany] at c0
        have HAN := hid hany
        clear hany
        cases hfd : findL (ps.flatMap prefStep) nPREF with
        | some i =>
          have HR := hid (show prefersL ps = ps.flatMap prefStep by unfold prefersL; rw [HAN.out, hfd]; rfl)
          rw [hfd] at FD
          unfold nPREF at FD
          clear hfd hfl
          go_wp2_with fail
          refine FD.out.use ?_
          intro w2 g2
          simp only [findV]
          go_wp2_with fail
          go_ret
          exact ⟨_, rfl, by rw [HR.out]; exact HPR.out.wo g2, HG.out.trans g2⟩
        | none =>
          have HR := hid (show prefersL ps = ps.flatMap prefStep ++ [(nPREF, [[49]])] by unfold prefersL; rw [HAN.out, hfd]; rfl)
          rw [hfd] at FD
          have WTH := hid (fun W b (g : G wr W) (hb : ∀ X ∈ L, X < b) (hc : W.cell? ⟨b, 0, none⟩ = some (.string (S [49]))) => cwith_any L (.slice oa ys.length oc) nPREF (.slice (some ⟨b, 0, none⟩) 1 1) [[49]] (ps.flatMap prefStep) W (fun X hx => Nat.lt_trans (hb X hx) (World.block_lt_of_cell? _ _ hc)) (HPR.out.wo g) (IsStrs.one1 (by rw [World.cell?_of_block (Wl.other (L := L) (w := W) (fun X hx => by have := hb X hx; show b ≠ X; omega))]; exact hc)) (by omega))
          unfold nPREF at FD WTH HR
          clear hfd hfl
          go_wp2_with fail
          refine FD.out.use ?_
          intro w2 g2
          simp only [findV]
          go_wp2_with fail
          refine (WTH.out _ w2.heap.size (g2.alloc _) (fun X hx => by have := hX X hx; have := g2.size; have := HG.out.size; omega) (World.cell?_alloc_new w2 _ _ 0)).use ?_
          intro u w3 hu g3
          obtain ⟨ua, um, uc, hus⟩ : ∃ a n c, u = .slice a n c := by obtain ⟨a, c, e, _⟩ := hu.p; exact ⟨a, _, c, e⟩
          have HU := hid hu
          have G3 := hid ((HG.out.trans (g2.alloc _)).trans g3)
          subst hus
          clear hu g2 g3
          go_wp2_with fail
          go_ret
          exact ⟨_, rfl, by rw [HR.out]; exact HU.out, G3.out⟩
end Go.Proofs.YtdmbhoagjjkogaaGreatDoor
