/-
  CONTRACT of slices.Sorted of slices.Values at a slice of ints.
-/
import Derived.Test.YtniidkkldoijcaaDoorNums
import Derived.Test.YtniidkkldoijcaaDoorShelf
import Derived.RangeFuncBox
import Derived.RangeFuncLeaves
import Derived.Shelf.Abstract
import Derived.OwnWalkIn
import Derived.TacticsInMore
import Derived.LoopNIn
import Derived.LoopIn
import Derived.Shelf.Slices.In.SortNone
import Derived.Lib.SlKeysI
namespace Go.Proofs.YtniidkkldoijcaaDoor
open Go.RowKit Go.Shelf
attribute [local go_sem] Oper.semAt_some
set_option linter.unusedVariables false
set_option linter.unusedSimpArgs false

theorem boxed_belowS {W W' : World} {B : Nat} {t : TypeId} {v : Value} (h : Boxed W B t v) (g : Below W.heap.size W W') : Boxed W' B t v := (g.block B h.lt).trans h
/-- the slice value holds these ints, in a block below n0 -/
def Ins (n0 : Nat) (W : World) (sv : Value) (zs : List Int) : Prop :=
  zs.length ≤ 1000000 ∧ ((∃ a c, sv = .slice a 0 c ∧ zs = []) ∨ ∃ b off cap, sv = .slice (some ⟨b, off, none⟩) zs.length cap ∧ b < n0 ∧ ∀ j (x : Int), zs[j]? = some x → W.cell? ⟨b, off + j, none⟩ = some (.int .i64 x))
theorem Ins.below {n0 : Nat} {A B : World} (h : Below n0 A B) {sv : Value} {zs : List Int} (k : Ins n0 A sv zs) : Ins n0 B sv zs := by
  refine ⟨k.1, ?_⟩
  rcases k.2 with e | ⟨b, off, cap, e, hb, hc⟩
  · exact .inl e
  · exact .inr ⟨b, off, cap, e, hb, fun j x hx => (h.cell (p := ⟨b, off + j, none⟩) hb).trans (hc j x hx)⟩
set_option maxRecDepth 100000 in
set_option maxHeartbeats 2000000 in
theorem values1_in (n : Nat) (hn : 1 ≤ n) (l Bs n0 : Nat) (sv : Value) (zs : List Int) (J Jx : List Int → World → Prop)
    (hY : ∀ pre x W, J pre W → pre.length < zs.length → YieldAt Fence.wide (n - 1) Tryd.prog l #[.int .i64 x] W fun e W' =>
      (e = .returned (.bool true) ∧ J (pre ++ [x]) W' ∧ Below n0 W W') ∨ (e = .returned (.bool false) ∧ Jx (pre ++ [x]) W'))
    (W : World) (hBs : W.cell? ⟨Bs, 0, none⟩ = some sv) (hI : Ins n0 W sv zs) (h0 : J [] W) :
    CallsIn Fence.wide n Tryd.prog 55 #[.func (.yield l) #[] #[], .pointer (some ⟨Bs, 0, none⟩)] W fun e W' => (∃ v, e = .returned v) ∧
      ((∃ ys, ys = zs ∧ J ys W') ∨ (∃ pre, pre <+: zs ∧ Jx pre W')) := by
  have HI := hid hI
  obtain ⟨a, c, rfl⟩ : ∃ a c, sv = .slice a zs.length c := by
    rcases hI.2 with ⟨a, c, e, rfl⟩ | ⟨b, off, cap, e, _, _⟩
    · exact ⟨a, c, e⟩
    · exact ⟨_, _, e⟩
  have hlz := hI.1
  clear hI
  refine callsIn_of_wp Tryd.func55 rfl trivial ?_ rfl
  simp only [Tryd.ntmps55, List.size_toArray, List.length_cons, List.length_nil, Nat.reduceAdd, Nat.reduceSub, Array.replicate_succ, Array.replicate_zero, List.push_toArray, List.append_toArray, List.nil_append, List.cons_append]
  gi_wp2
  gi_loopw [7] (fun i wr => ∃ k : Nat, k ≤ zs.length ∧ i = .int .i64 k ∧ J (zs.take k) wr ∧ Below n0 W wr)
    (fun i _ => zs.length - (intOf i).toNat)
  case atStart => exact ⟨0, Nat.zero_le _, rfl, h0, Below.refl _ _⟩
  case round =>
    obtain ⟨k, hk, rfl, hJs, hnx⟩ := hrel
    by_cases hlt : k < zs.length
    · rcases (HI.out.below hnx).2 with ⟨_, _, _, e⟩ | ⟨b, off, cap, e, hb, hc⟩
      · subst e; simp at hlt
      · cases e
        have hx := List.getElem?_eq_getElem hlt
        obtain ⟨x, hxe⟩ : ∃ x, zs[k] = x := ⟨_, rfl⟩
        rw [hxe] at hx
        have hcx := hc k x hx
        have HX := hid (show zs.take (k + 1) = zs.take k ++ [x] by rw [List.take_add_one, hx]; rfl)
        have hpre : (zs.take (k + 1)) <+: zs := List.take_prefix _ _
        obtain ⟨fn, tmps, assign, body, hy, hR⟩ := hY _ x wr hJs (by rw [List.length_take]; omega)
        clear hc hx hxe
        gi_wp2
        refine hR.mono ?_
        rintro e W3 (⟨rfl, hJ3, hk3⟩ | ⟨rfl, hJx3⟩)
        · gi_wp2
          go_roundw
          case rel => exact ⟨k + 1, by omega, by simp, by rw [HX.out]; exact hJ3, hnx.trans hk3⟩
          case measure => simp [intOf]; omega
        · gi_wp2
          refine bodyPost_ret (results_none rfl _ _ _) rfl ?_
          exact ⟨⟨_, rfl⟩, .inr ⟨_, by rw [← HX.out]; exact hpre, hJx3⟩⟩
    · obtain rfl : k = zs.length := by omega
      gi_wp2
      go_end0
      exact ⟨⟨_, rfl⟩, .inl ⟨_, rfl, by rw [List.take_length] at hJs; exact hJs⟩⟩
theorem values_stops (n : Nat) (hn : 1 ≤ n) (Bs n0 : Nat) (sv : Value) (zs : List Int) (w : World) (hBs : Bs < w.heap.size) (hn0 : n0 ≤ w.heap.size) (hc : w.cell? ⟨Bs, 0, none⟩ = some sv) (hI : Ins n0 w sv zs) :
    SeqStopsK Fence.wide n Tryd.prog 55 #[.pointer (some ⟨Bs, 0, none⟩)] (fun x : Int => #[Value.int .i64 x]) (Below n0) (fun ys => ys = zs) (fun pre => pre <+: zs) zs.length w := fun l J Jx W hW _ _ hY h0 =>
  values1_in n hn l Bs n0 sv zs J Jx hY W ((hW.cell (p := ⟨Bs, 0, none⟩) hBs).trans hc) (hI.below (hW.mono hn0)) h0
set_option maxRecDepth 100000 in
set_option maxHeartbeats 4000000 in
theorem appendSeq_in (Bs : Nat) (sv : Value) (zs : List Int) (w : World) (hBs : Bs < w.heap.size) (hc : w.cell? ⟨Bs, 0, none⟩ = some sv) (hI : Ins w.heap.size w sv zs) :
    CallsIn Fence.wide 5 Tryd.prog 64 #[.slice none 0 0, .func (.func 55) #[] #[.pointer (some ⟨Bs, 0, none⟩)]] w fun e w' => ∃ v, e = .returned v ∧ OwnN w' w.heap.size v zs ∧ Below w.heap.size w w' := by
  obtain ⟨i0, hi, hz0, hz1, hz2⟩ := info_parts info_intN
  refine callsIn_of_wp_marks Tryd.func64 rfl trivial ?_ rfl
  simp only [Tryd.ntmps64, List.size_toArray, List.length_cons, List.length_nil, Nat.reduceAdd, Nat.reduceSub, Array.replicate_succ, Array.replicate_zero, List.push_toArray, List.append_toArray, List.nil_append, List.cons_append]
  gi_wp2
  have bO := Boxed.new w 35 (.slice none 0 0)
  generalize hW0 : World.alloc w _ = W0 at bO
  have z0 : W0.heap.size = w.heap.size + 1 := by rw [← hW0]; simp
  have hB0 : Below w.heap.size w W0 := by rw [← hW0]; exact (Below.refl _ _).alloc (Nat.le_refl _) _
  have hc0 : W0.cell? ⟨Bs, 0, none⟩ = some sv := (hB0.cell (p := ⟨Bs, 0, none⟩) hBs).trans hc
  have hI0 := hI.below hB0
  clear hW0 hc hI
  refine wpIn_rangeFunc_ownG rfl (by omega) (gf := 55) (lb := #[.pointer (some ⟨Bs, 0, none⟩)]) rfl trivial (enters_of Tryd.func55 (by kernel_rfl) rfl)
    (values_stops 4 (by omega) Bs w.heap.size sv zs W0 (by omega) (by omega) hc0 hI0) belowK_t (belowK_b (by omega)) (Below.refl _ _) (fun _ => rfl)
    (fun pre W => (∃ v, Boxed W w.heap.size 35 v ∧ W.ownsRow w.heap.size 3 1 v pre.length (pre.map (Value.int .i64)) ∧ True) ∧ Below w.heap.size w W)
    (fun _ _ _ => False)
    (OwnFrom.and (Own.from (holdsRow_own w.heap.size w.heap.size 35 3 1 (fun (pre : List Int) => pre.length) (fun pre => pre.map (Value.int .i64)) (fun _ _ => True)) _) (ownFrom_below (Nat.le_refl _) (by omega)))
    (fun _ _ _ _ _ hs _ _ => hs)
    ⟨⟨_, bO, World.ownsRow_nil _ _ _ _, trivial⟩, hB0⟩
    (fun x => { tmps := #[.slice none 0 0, .func (.func 55) #[] #[.pointer (some ⟨Bs, 0, none⟩)], .pointer (some ⟨w.heap.size, 0, none⟩), undef, .slice none 0 0, .int .i64 x, .func (.func 55) #[] #[.pointer (some ⟨Bs, 0, none⟩)], .int .i64 x, undef, undef, undef, undef, undef], defers := [] })
    ?assign ?body ?done ?stop
  case assign =>
    intro l x W K hK
    gi_wp2
    exact hK
  case body =>
    rintro l pre x W ⟨⟨v, hv, hrow, hl⟩, hB⟩ hpre
    have hcc := hv.cell
    have hlz := hI0.1
    have HR0 : Hid (OwnN W w.heap.size v pre) := hid hrow
    have hsz := hB.size
    gi_wp2_with (gi_at_builtin; refine wpListIn_append_own _ rfl _ _ 35 rfl w.heap.size 3 i0 (.int .i64 0) 1 8 Tryd.underlying35 hi hz0 hz1 hz2 rfl (by decide) _ _ _ rfl (HR0.out.alloc _) ⟨W.heap.size, 0, none⟩ 1 1 [.int .i64 x] rfl rfl (cell_one_new _ _ _) (by intro u hu; rw [List.mem_singleton.1 hu]; rfl) (by unfold maxLen; omega) (by omega) (by simp; omega) ?_; intro v' w1 hown' hgrow _; obtain ⟨g', cap', rfl⟩ := ownsRow_succ hown'; obtain ⟨hv1, hv2, hr2, hk2, hb2⟩ := hv.appended (by decide) HR0.out (by omega) (Nat.le_refl _) hown' hgrow; have hc2 := hv1.cell; have hf2 := hv1.frozen; have HR2 := hid hr2; have HB2 := hid hb2; have HK2 := hid hk2; have HV2 := hid hv2; clear hown' hgrow hb2 hk2 hv2 hr2 hv1)
    refine ⟨HK2.out.from _, HB2.out, ⟨⟨_, HV2.out, ?_, trivial⟩, hB.trans HB2.out⟩⟩
    rw [List.length_append, List.map_append, List.map_cons, List.map_nil]
    exact HR2.out
  case done =>
    rintro D ys W hD rfl ⟨⟨v, hv, hrow, hl⟩, hB⟩ hK
    have hcc := hv.cell
    gi_wp2
    refine ⟨by simp, .inl ⟨_, _, rfl, run_takeDeferred hK, ?_⟩⟩
    refine ⟨_, results_tmp rfl _ _ _, v, rfl, ?_, hB.trans (belowK_b (w := w) (Nat.le_refl _) W D _ _ (by omega) hK rfl rfl)⟩
    exact ownsRow_putObj hrow _ hK rfl
  case stop =>
    rintro D c pre W _ _ h _
    exact h.elim
theorem appendSeq_any (Bs : Nat) (sv : Value) (zs : List Int) (w : World) (hBs : Bs < w.heap.size) (hc : w.cell? ⟨Bs, 0, none⟩ = some sv) (hI : Ins w.heap.size w sv zs) :
    Makes 64 #[.slice none 0 0, .func (.func 55) #[] #[.pointer (some ⟨Bs, 0, none⟩)]] w fun v w' => OwnN w' w.heap.size v zs := by
  refine ((callsIn_wide (n := 5)).1 (appendSeq_in Bs sv zs w hBs hc hI)).mono ?_
  rintro e w' ⟨v, rfl, h, g⟩
  exact ⟨v, rfl, h, g⟩
theorem collect_any (Bs : Nat) (sv : Value) (zs : List Int) (w : World) (hBs : Bs < w.heap.size) (hc : w.cell? ⟨Bs, 0, none⟩ = some sv) (hI : Ins w.heap.size w sv zs) :
    Makes 53 #[.func (.func 55) #[] #[.pointer (some ⟨Bs, 0, none⟩)]] w fun v w' => OwnN w' w.heap.size v zs := by
  have HA := hid (appendSeq_any Bs sv zs w hBs hc hI)
  clear hc hI
  go_enter Tryd.func53, Tryd.ntmps53
  go_wp2_with fail
  refine HA.out.use ?_
  intro v w' h g
  have HH := hid h
  have GG := hid g
  clear h g
  go_wp2_with fail
  go_ret
  exact ⟨_, rfl, HH.out, GG.out⟩
/-- a list of ints, its texts in order -/
def upL (zs : List Int) : List Int := zs.mergeSort fun x y => decide (x ≤ y)
theorem sort_none (cap : Nat) (w : World) : Calls Tryd.prog 54 #[.slice none 0 cap] w fun e w' => e = .returned (.tuple #[]) ∧ w' = w := Any.slices_Sort_int_none Tryd.lays189 none cap w
theorem sortOwn_any {base : Nat} {v : Value} {zs : List Int} {w : World} (h : OwnN w base v zs) (hl : zs.length ≤ 1000000) :
    Calls Tryd.prog 54 #[v] w fun e w' => e = .returned (.tuple #[]) ∧ OwnN w' base v (upL zs) ∧ Below base w w' := by
  have hu : (upL zs).length = zs.length := (List.mergeSort_perm _ _).length_eq
  rcases h.2 with ⟨rfl, h0⟩ | ⟨b, cap, cur, rfl, hb, hg, hn, hm, hs, ht⟩
  · obtain rfl : zs = [] := List.eq_nil_of_length_eq_zero h0
    refine (sort_none 0 w).mono ?_
    rintro e w' ⟨rfl, rfl⟩
    exact ⟨rfl, by rw [show upL [] = [] by simp [upL]]; exact h, Below.refl _ _⟩
  · have hH : Sort.Holds (Value.int .i64) w b 0 zs.toArray := holds_of_block_i hg (by simpa using ht)
    refine (Tryd.slices_Sort_int b 0 cap zs w hH (Array.getElem?_eq_some_iff.1 hg).1 (by omega)).mono ?_
    rintro e w' ⟨rfl, n, os, rfl⟩
    have hr := ownsRow_sorted_i (os := os) (n := n) (ts := upL zs) hu hb hg hn hm hs
    refine ⟨rfl, ?_, ?_⟩
    · unfold OwnN
      rw [hu]
      exact hr
    · exact (Below.refl base w).grown (grownBy_sorted_i _) (Nat.le_of_lt (Nat.lt_of_le_of_lt hb (Array.getElem?_eq_some_iff.1 hg).1)) (fun j hj => by cases hj; exact hb)
theorem sorted_any (Bs : Nat) (sv : Value) (zs : List Int) (w : World) (hBs : Bs < w.heap.size) (hc : w.cell? ⟨Bs, 0, none⟩ = some sv) (hI : Ins w.heap.size w sv zs) :
    Makes 32 #[.func (.func 55) #[] #[.pointer (some ⟨Bs, 0, none⟩)]] w fun v w' => OwnN w' w.heap.size v (upL zs) := by
  have HA := hid (collect_any Bs sv zs w hBs hc hI)
  have hlz := hI.1
  clear hc hI
  go_enter Tryd.func32, Tryd.ntmps32
  go_wp2_with fail
  refine HA.out.use ?_
  intro v w' h g
  have HH := hid h
  have GG := hid g
  clear h g
  go_wp2_with fail
  refine (sortOwn_any HH.out hlz).mono ?_
  rintro e w2 ⟨rfl, h2, g2⟩
  have H2 := hid h2
  have G2 := hid (Below.trans GG.out g2)
  clear h2 g2
  go_wp2_with fail
  go_ret
  exact ⟨_, rfl, H2.out, G2.out⟩
end Go.Proofs.YtniidkkldoijcaaDoor
