/-
  Texts merged into one: Pick, Ruled, CardLemmas, CountMap, RulesNames3, RulesNames4, RulesNames, AnnOne.
-/
import Derived.Test.YtdmbhoagjjkogaaGreatDoorMA44
import Derived.Test.YtdmbhoagjjkogaaGreatDoorMA51
import Derived.Test.YtdmbhoagjjkogaaGreatDoorMA39
import Derived.Test.YtdmbhoagjjkogaaGreatDoorMA47
import Derived.Test.YtdmbhoagjjkogaaGreatDoorMA36
import Derived.Test.YtdmbhoagjjkogaaGreatDoorMA56
import Derived.RangeFuncBox
import Derived.OwnWalkIn
import Derived.Test.YtdmbhoagjjkogaaGreatDoorMA37
import Derived.Test.YtdmbhoagjjkogaaGreatDoorMA53
namespace Go.Proofs.YtdmbhoagjjkogaaGreatDoor
open Go.RowKit
set_option linter.unusedVariables false
set_option linter.unusedSimpArgs false
end Go.Proofs.YtdmbhoagjjkogaaGreatDoor

namespace Go.Proofs.YtdmbhoagjjkogaaGreatDoor
open Go.RowKit
set_option linter.unusedVariables false
set_option linter.unusedSimpArgs false
theorem IsStrs.one1 {w : World} {b : Nat} {x : List UInt8} (h : w.cell? ⟨b, 0, none⟩ = some (.string (S x))) : IsStrs w (.slice (some ⟨b, 0, none⟩) 1 1) [x] := by
  refine ⟨⟨by simp, by intro u hu; rw [List.mem_singleton.1 hu]; rfl, .inr ⟨b, 0, 1, rfl, World.block_lt_of_cell? _ _ h, by simp, ?_⟩⟩, by simp [capOk]⟩
  intro j hj
  obtain rfl : j = 0 := by simpa using hj
  simpa using h
theorem IsParams.one {w : World} {b c : Nat} {nm x : List UInt8} (h : w.cell? ⟨b, 0, none⟩ = some (.string (S x))) (h1 : w.cell? ⟨c, 0, none⟩ = some (.string (S nm))) (h2 : w.cell? ⟨c, 1, none⟩ = some (.slice (some ⟨b, 0, none⟩) 1 1)) :
    IsParams w (.slice (some ⟨c, 0, none⟩) 1 1) [(nm, [x])] := by
  refine ⟨_, _, rfl, by simp, fun _ => ⟨c, 0, rfl, World.block_lt_of_cell? _ _ h1, ?_⟩⟩
  intro i p hp
  match i, hp with
  | 0, hp =>
    simp at hp
    subst hp
    exact ⟨_, by simpa using h1, by simpa using h2, IsStrs.one1 h⟩
  | n + 1, hp => simp at hp
end Go.Proofs.YtdmbhoagjjkogaaGreatDoor

namespace Go.Proofs.YtdmbhoagjjkogaaGreatDoor
open Go.RowKit
set_option linter.unusedVariables false
set_option linter.unusedSimpArgs false
theorem rightC_iff {v : Int} {xs : List It} : rightC v xs = true ↔ (v = 3 ∨ v = 4) ∧ xs.length ≤ 60 ∧ (∀ x ∈ xs, oneB v x = true) ∧ mostN v (xs.map It.n) = true ∧ leastN v (xs.map It.n) = true := by
  unfold rightC
  simp only [Bool.and_eq_true, decide_eq_true_eq, List.all_eq_true, and_assoc]
def headB (cf : Bool) (x : It) : Bool := isNameL x.n && (x.g.isEmpty || isNameL x.g) && decide (x.ps.length ≤ 20) && x.ps.all (pmR cf)
theorem rightB_ln {cf : Bool} {x : It} {t : List UInt8} : rightB cf (lnX x t) = (headB cf x && holdsB t false) := rfl
theorem rightE_ln {cf : Bool} {x : It} {t : List UInt8} : rightE cf (lnX x t) = none ↔ headB cf x = true ∧ holdsB t false = true := by
  rw [rightE_none, rightB_ln, Bool.and_eq_true]
theorem front_iff {v : Int} {x : It} : frontB v x = true ↔ headB (v == 4) x = true ∧ framesB x.n = false ∧ parsB x.ps = true ∧ typeOf (ruleX v x.n).1 x.ps = x.v.ty := by
  unfold frontB
  simp only [Bool.and_eq_true, Option.isNone_iff_eq_none, rightE_ln, beq_iff_eq, Bool.not_eq_true', and_assoc]
  exact ⟨fun ⟨a, _, b⟩ => ⟨a, b⟩, fun ⟨a, b⟩ => ⟨a, holds_nil false, b⟩⟩
theorem line_ok {v : Int} {x : It} (h : headB (v == 4) x = true) (ho : x.v.ok = true) : rightE (v == 4) (lnX x x.v.text) = none ∧ lineX v x = printW (v == 4) (lnX x x.v.text) := by
  have e := rightE_ln.2 ⟨h, (val_back x.v ho).2⟩
  refine ⟨e, ?_⟩
  unfold lineX
  rw [if_pos e]
theorem one_iff {v : Int} {x : It} : oneB v x = true ↔ headB (v == 4) x = true ∧ framesB x.n = false ∧ parsB x.ps = true ∧ typeOf (ruleX v x.n).1 x.ps = x.v.ty ∧ x.v.ok = true ∧ ¬ (x.v.ty = 3 ∧ 0 < (ruleX v x.n).2.2.2 ∧ (x.v.ps.length : Int) ≠ (ruleX v x.n).2.2.2) ∧ (printW (v == 4) (lnX x x.v.text)).length ≤ 1500 := by
  unfold oneB rearB
  simp only [Bool.and_eq_true, front_iff, Bool.not_eq_true', decide_eq_false_iff_not, decide_eq_true_eq, and_assoc]
  constructor
  · rintro ⟨a, b, c, d, e, f, g⟩
    rw [(line_ok a e).2] at g
    exact ⟨a, b, c, d, e, f, g⟩
  · rintro ⟨a, b, c, d, e, f, g⟩
    rw [(line_ok a e).2]
    exact ⟨a, b, c, d, e, f, g⟩
theorem one_bare {v : Int} {n : List UInt8} {y : Vl} (hn : isNameL n = true) (hf : framesB n = false) (ht : (ruleX v n).1 = y.ty) (ho : y.ok = true) (hp : ¬ (y.ty = 3 ∧ 0 < (ruleX v n).2.2.2 ∧ (y.ps.length : Int) ≠ (ruleX v n).2.2.2)) (hl : n.length + 1 + y.text.length ≤ 1500) : oneB v ⟨[], n, [], y⟩ = true := by
  refine one_iff.2 ⟨?_, hf, rfl, ?_, ho, hp, ?_⟩
  · show (isNameL n && _ && _ && _) = true
    rw [hn]; rfl
  · exact ht
  · show ([] ++ n ++ [] ++ 58 :: y.text).length ≤ 1500
    simp; omega
theorem ok_text {s : List UInt8} : (⟨1, s, [], St0, 0⟩ : Vl).ok = holdsB s true := by
  have e : (⟨1, s, [], St0, 0⟩ : Vl).only = true := by
    unfold Vl.only; simp [isT, isL, St.isZero, St0]
  unfold Vl.ok
  rw [e]
  simp [Vl.body]
theorem ok_other {s : List UInt8} : (tV 8 s).ok = holdsB s false := by
  have e : (tV 8 s).only = true := by
    unfold Vl.only tV; simp [isT, isL, St.isZero, St0]
  unfold Vl.ok
  rw [e]
  simp [Vl.body, tV]
end Go.Proofs.YtdmbhoagjjkogaaGreatDoor

namespace Go.Proofs.YtdmbhoagjjkogaaGreatDoor
open Go.RowKit Go.MapKept
set_option linter.unusedVariables false
set_option linter.unusedSimpArgs false
structure CntEs (es : Array MapEntry) (c : Nat) (f : List UInt8 → Int) : Prop where
  st : Stamped es c
  en : ∀ e ∈ es.toList, ∃ k, e.key = .string (S k) ∧ e.val = .int .i64 (f k)
  al : ∀ k, f k ≠ 0 → ∃ e ∈ es.toList, e.key = .string (S k)
theorem cnt_keys {a b : List UInt8} (h : Value.string (S a) = .string (S b)) : a = b := by
  injection h with h
  exact S_inj.1 h
theorem cnt_nil (c : Nat) : CntEs #[] c (fun _ => 0) := ⟨stamped_empty c, by simp, fun k h => absurd rfl h⟩
theorem CntEs.isKey {es : Array MapEntry} {c : Nat} {f : List UInt8 → Int} (h : CntEs es c f) : ∀ x ∈ es.toList, IsKey .string x.key := fun e he => by
  obtain ⟨x, hx, _⟩ := h.en e he
  rw [hx]; trivial
theorem CntEs.find {es : Array MapEntry} {c : Nat} {f : List UInt8 → Int} (h : CntEs es c f) (k : List UInt8) : (f k = 0 ∧ Instr.findNow .string (.string (S k)) es.toList 0 = some none ∧ ∀ x ∈ es.toList, x.key ≠ .string (S k)) ∨ ∃ i e, Instr.findNow .string (.string (S k)) es.toList 0 = some (some (i, .int .i64 (f k))) ∧ es[i]? = some e ∧ e.key = .string (S k) := by
  rcases findNow_spec (d := .string) (k := .string (S k)) trivial es.toList 0 h.isKey with ⟨h1, h2⟩ | ⟨j, e, h1, h2, h3⟩
  · refine .inl ⟨?_, h1, h2⟩
    by_cases h0 : f k = 0
    · exact h0
    · obtain ⟨e, he, hk⟩ := h.al k h0
      exact absurd hk (h2 e he)
  · obtain ⟨x, hx, hv⟩ := h.en e (List.mem_of_getElem? h2)
    have e1 : x = k := cnt_keys (hx.symm.trans h3)
    refine .inr ⟨j, e, ?_, by simpa using h2, h3⟩
    rw [h1, hv, e1, Nat.zero_add]
section
variable {W : World} {b : Nat} {es : Array MapEntry} {c : Nat} {f : List UInt8 → Int} {k : List UInt8}
theorem look_cnt (hb : W.heap[b]? = some (.map es c)) (h : CntEs es c f) (k : List UInt8) : (Instr.lookup 73 (.map (some b)) (.string (S k)) false).run Tryz.prog W = .ok (.int .i64 (f k)) W := by
  have hc : ∀ e, (Instr.checkKey e 10000 9 (.string (S k))).run Tryz.prog W = .ok () W := fun e => MapKept.run_checkKey (d := .string) (k := .string (S k)) Tryz.underlying9 trivial e 9999
  have hz : (zeroValue 3).run Tryz.prog W = .ok (.int .i64 0) W := by kernel_rfl
  rcases h.find k with ⟨h1, h2, _⟩ | ⟨i, e, h2, _⟩
  · simp [Instr.lookup, run_underlying Tryz.underlying73, MapKept.run_getObj_map hb, hc, MapKept.run_findKey Tryz.underlying9 h2, Result.andThen, h1, hz]
  · simp [Instr.lookup, run_underlying Tryz.underlying73, MapKept.run_getObj_map hb, hc, MapKept.run_findKey Tryz.underlying9 h2, Result.andThen]
theorem put_cnt (hb : W.heap[b]? = some (.map es c)) (h : CntEs es c f) (k : List UInt8) (v : Int) : ∃ es' c', (Instr.mapUpdate 73 (.map (some b)) (.string (S k)) (.int .i64 v)).run Tryz.prog W = .ok () { W with heap := W.heap.setIfInBounds b (.map es' c') } ∧ CntEs es' c' (fun x => if x = k then v else f x) := by
  have hc : (Instr.checkKey false 10000 9 (.string (S k))).run Tryz.prog W = .ok () W := MapKept.run_checkKey (d := .string) (k := .string (S k)) Tryz.underlying9 trivial false 9999
  rcases h.find k with ⟨h1, h2, h3⟩ | ⟨i, e, h2, h3, h4⟩
  · refine ⟨es.push { key := .string (S k), val := .int .i64 v, born := c }, c + 1, ?_, ?_, ?_, ?_⟩
    · exact run_put_at W _ _ _ _ Tryz.underlying73 Tryz.underlying9 b es c _ _ hb trivial h2
    · exact stamped_push h.st h3
    · intro e he
      simp only [Array.toList_push, List.mem_append, List.mem_singleton] at he
      rcases he with he | rfl
      · obtain ⟨x, hx, hv⟩ := h.en e he
        refine ⟨x, hx, ?_⟩
        have : x ≠ k := fun q => h3 e he (by rw [hx, q])
        rw [hv]; simp only [if_neg this]
      · exact ⟨k, rfl, by simp⟩
    · intro x hx
      by_cases e : x = k
      · subst e; exact ⟨{ key := .string (S x), val := .int .i64 v, born := c }, by simp, rfl⟩
      · simp only [if_neg e] at hx
        obtain ⟨y, hy, hk⟩ := h.al x hx
        exact ⟨y, by simp [hy], hk⟩
  · obtain ⟨g, hg⟩ : ∃ g : MapEntry → MapEntry, g = fun e => { e with key := .string (S k), val := .int .i64 v } := ⟨_, rfl⟩
    have hkey : ∀ e', es[i]? = some e' → (g e').key = e'.key := fun e' he' => by rw [h3] at he'; cases he'; rw [hg]; exact h4.symm
    refine ⟨es.modify i g, c, ?_, ?_, ?_, ?_⟩
    · subst hg
      simp [Instr.mapUpdate, run_underlying Tryz.underlying73, MapKept.run_getObj_map hb, hc, MapKept.run_findKey Tryz.underlying9 h2, h3, h4, MapKept.run_keyThatStays (d := .string) (k := .string (S k)) trivial, MapKept.run_setObj_map _ hb, Result.andThen]
    · exact stamped_modify h.st _ _ (fun _ _ => by rw [hg]) (fun e' _ he' => hkey e' he')
    · intro e' he'
      obtain ⟨j, hj, hje⟩ := List.getElem_of_mem he'
      have hj' : j < es.size := by simpa using hj
      have h5 : e' = if i = j then g es[j] else es[j] := by
        rw [← hje]; simp [List.getElem_modify]
      by_cases q : i = j
      · rw [if_pos q] at h5
        exact ⟨k, by rw [h5, hg], by rw [h5, hg]; simp⟩
      · rw [if_neg q] at h5
        obtain ⟨x, hx, hv⟩ := h.en es[j] (by simp)
        refine ⟨x, by rw [h5, hx], ?_⟩
        have : x ≠ k := fun q2 => by
          have hp := ((stamped_iff _ _).1 h.st).2.2
          have hi : i < es.size := (Array.getElem?_eq_some_iff.1 h3).1
          have hei : es[i] = e := (Array.getElem?_eq_some_iff.1 h3).2
          rw [List.pairwise_iff_getElem] at hp
          rcases Nat.lt_or_gt_of_ne q with l | l
          · exact hp i j (by simpa using hi) (by simpa using hj') l (by simp only [Array.getElem_toList]; rw [hei, h4, hx, q2])
          · exact hp j i (by simpa using hj') (by simpa using hi) l (by simp only [Array.getElem_toList]; rw [hei, h4, hx, q2])
        rw [h5, hv]; simp only [if_neg this]
    · intro x hx
      have hkeys := modify_keys (es := es) i g hkey
      have hin : ∀ y ∈ es.toList, ∃ z ∈ (es.modify i g).toList, z.key = y.key := fun y hy => by
        have : y.key ∈ (es.modify i g).toList.map (·.key) := by rw [hkeys]; exact List.mem_map_of_mem hy
        obtain ⟨z, hz, e⟩ := List.mem_map.1 this
        exact ⟨z, hz, e⟩
      by_cases e0 : x = k
      · obtain ⟨z, hz, hk⟩ := hin e (List.mem_of_getElem? (by simpa using h3))
        exact ⟨z, hz, by rw [hk, h4, e0]⟩
      · simp only [if_neg e0] at hx
        obtain ⟨y, hy, hk⟩ := h.al x hx
        obtain ⟨z, hz, hkz⟩ := hin y hy
        exact ⟨z, hz, hkz.trans hk⟩
theorem cnt_grown (W : World) (b : Nat) (o : Obj) : W.grownBy { W with heap := W.heap.setIfInBounds b o } (some b) :=
  ⟨rfl, rfl, rfl, by simp, fun i hi hne => by
    have : b ≠ i := fun e => hne (by rw [e])
    simp [Array.getElem?_setIfInBounds, this]⟩
theorem cnt_heap (hb : W.heap[b]? = some (.map es c)) (o : Obj) : ({ W with heap := W.heap.setIfInBounds b o } : World).heap[b]? = some o := (MapKept.heap_set hb).1
end
end Go.Proofs.YtdmbhoagjjkogaaGreatDoor

namespace Go.Proofs.YtdmbhoagjjkogaaGreatDoor
open Go.RowKit Go.Shelf
attribute [local go_sem] Oper.semAt_some
set_option linter.unusedVariables false
set_option linter.unusedSimpArgs false
set_option maxRecDepth 100000 in
set_option maxHeartbeats 4000000 in
theorem names_in3 (w : World) (hm : HasM w) :
    CallsIn Fence.wide 6 Tryz.prog 35 #[.int .i64 3] w fun e w' => ∃ v, e = .returned (.tuple #[v, .nilIface]) ∧ w'.ownsRow w.heap.size 9 1 v (tabT 3).length ((tabT 3).map fun e => .string (S e.name)) ∧ Below w.heap.size w w' := by
  have tb := fun W => table_any 3 W
  have TB := hid tb
  clear tb
  obtain ⟨i0, hi, hz0, hz1, hz2⟩ := info_parts infoNames
  refine callsIn_of_wp_marks Tryz.func35 rfl trivial ?_ rfl
  simp only [Tryz.ntmps35, List.size_toArray, List.length_cons, List.length_nil, Nat.reduceAdd, Nat.reduceSub, Array.replicate_succ, Array.replicate_zero, List.push_toArray, List.append_toArray, List.nil_append, List.cons_append]
  gi_wp2_with (first | (refine ⟨trivial, ?_⟩; gi_at_call 44; refine (callsIn_wide.2 (TB.out _)).mono ?_; rintro e w' ⟨rfl, rfl⟩) | (refine ⟨trivial, ?_⟩; gi_at_call 43; refine (callsIn_wide.2 (SplitSeq_any _ _ _)).mono ?_; rintro e w' ⟨rfl, rfl⟩))
  obtain ⟨p, ps, e1, e2, e3, e4⟩ := tab_facts 3
  rw [e2]
  have bO := Boxed.new w 23 (.slice none 0 0)
  generalize hW0 : World.alloc _ (Obj.cells #[Value.int IntKind.i64 0] 3) = W0
  have z0 : W0.heap.size = w.heap.size + 4 := by rw [← hW0]; simp
  have c2 : W0.cell? ⟨w.heap.size + 1, 0, none⟩ = some (.string (S (joinS [124] p ps))) := by rw [← hW0]; simp [go_sem]
  have c3 : W0.cell? ⟨w.heap.size + 2, 0, none⟩ = some (.string (S [124])) := by rw [← hW0]; simp [go_sem]
  have c4 : W0.cell? ⟨w.heap.size + 3, 0, none⟩ = some (.int .i64 0) := by rw [← hW0]; simp [go_sem]
  have f2 : W0.frozen? ⟨w.heap.size + 1, 0, none⟩ = false := by rw [← hW0]; simp [go_sem]
  have hbx : Boxed W0 w.heap.size 23 (.slice none 0 0) := by rw [← hW0]; exact ((bO.alloc _).alloc _).alloc _
  have hB0 : Below w.heap.size w W0 := by rw [← hW0]; repeat (first | exact Below.refl _ _ | (refine Below.alloc ?_ (by simp; try omega) _))
  clear hW0 bO
  refine wpIn_rangeFunc_ownAt (B := w.heap.size + 1) (by omega) rfl (by decide) (gf := 119) (lb := #[.pointer (some ⟨w.heap.size + 2, 0, none⟩), .pointer (some ⟨w.heap.size + 1, 0, none⟩), .pointer (some ⟨w.heap.size + 3, 0, none⟩)]) rfl trivial (enters_of Tryz.func119 (by kernel_rfl) rfl)
    (seq_stops 5 (w.heap.size + 2) (w.heap.size + 1) (w.heap.size + 3) (by omega) (by omega) (by omega) p ps e3 e4 W0 (by omega) (by omega) (by omega) c3 c2 c4 f2) kpSeq_t
    (fun W l o o' hl hW ho hw => kpSeq_below (belowK_b (w := W0) (Nat.le_refl _) W l o o' hl hW ho hw) (by omega) (by omega) (by omega)) (Below.refl _ _) (fun _ => rfl)
    (fun pre W => ((∃ v, Boxed W w.heap.size 23 v ∧ W.ownsRow W0.heap.size 9 1 v pre.length (pre.map fun x => .string (S (nameOf x))) ∧ True) ∧ W0.heap.size ≤ W.heap.size) ∧ Below w.heap.size w W)
    (fun _ _ _ => False)
    (OwnFrom.and (OwnFrom.and (Own.from (holdsRow_own W0.heap.size w.heap.size 23 9 1 (fun (pre : List (List UInt8)) => pre.length) (fun pre => pre.map fun x => .string (S (nameOf x))) (fun _ _ => True)) _) (fun x A B row hs hg hr => Nat.le_trans hs hg.size)) (ownFrom_below (Nat.le_refl _) (by omega)))
    (fun x W v hs => by
      obtain ⟨⟨⟨u, hb, hr, _⟩, hsz⟩, hB⟩ := hs
      refine ⟨⟨⟨u, hb.kept (grownBy_setCell' W _ v) (by simp), hr.kept (grownBy_setCell' W _ v) ?_, trivial⟩, Nat.le_trans hsz (by simp)⟩, hB.setCell (p := ⟨w.heap.size + 1, 0, none⟩) (by simp) _⟩
      rcases hr.2 with ⟨rfl, _⟩ | ⟨g, cap, cur, rfl, hg, _⟩
      · exact .inl rfl
      · exact .inr (by simp [Value.ownBlock]; omega))
    (fun c x A B row hs _ _ => hs.elim)
    ⟨⟨⟨_, hbx, World.ownsRow_nil _ _ _ _, trivial⟩, Nat.le_refl _⟩, hB0⟩
    (fun x => { tmps := #[.int .i64 3, undef, .slice none 0 0, .nilIface, .pointer (some ⟨w.heap.size, 0, none⟩), .string (S x), undef, undef, undef, .int .i64 3, .bool false, .bool false, undef, undef, .bool false, undef, .int .i64 3, .string (S (joinS [124] p ps)), .func (.func 119) #[] #[.pointer (some ⟨w.heap.size + 2, 0, none⟩), .pointer (some ⟨w.heap.size + 1, 0, none⟩), .pointer (some ⟨w.heap.size + 3, 0, none⟩)], .string (S x), undef, undef, undef, undef, undef, undef, undef, undef, undef, undef, undef], defers := [] })
    ?assign ?body ?done ?stop
  case assign =>
    intro l x W K hK
    gi_wp2
    exact hK
  case body =>
    rintro l pre x W ⟨⟨⟨v, hv, hrow, _⟩, hsz⟩, hB⟩ hpre
    have hx : x ∈ (tabT 3).map Ent.text := by rw [e1]; exact hpre.subset (by simp)
    have hpl : pre.length ≤ 100 := by
      have h1 := hpre.length_le
      have h2 : (p :: ps).length ≤ 100 := by rw [← e1, List.length_map]; exact tab_len 3
      simp only [List.length_append] at h1
      omega
    have hxl : x.length ≤ 1000 := by
      obtain ⟨e, he, rfl⟩ := List.mem_map.1 hx
      have := (ent_fields 3 e he).2.2.2.2.2.1
      omega
    have cu := stringsCut_any x [32] W (hm.grow hB) (by omega)
    obtain ⟨ca, hca⟩ : ∃ y, y = (Lib.cut x [32]).1 := ⟨_, rfl⟩
    obtain ⟨cb, hcb⟩ : ∃ y, y = (Lib.cut x [32]).2.1 := ⟨_, rfl⟩
    obtain ⟨ct, hct⟩ : ∃ y, y = (Lib.cut x [32]).2.2 := ⟨_, rfl⟩
    rw [← hca, ← hcb, ← hct] at cu
    have hno : nameOf x = ca := hca.symm
    have CU := hid cu
    have hc := hv.cell
    have HV := hid hv
    have HROW := hid hrow
    clear cu hca hcb hct hx hv hrow hpre
    gi_wp2_with (first
      | (refine ⟨trivial, ?_⟩; gi_at_call 60; refine (CallsIn.inRound l (callsIn_wide.2 CU.out)).mono ?_; rintro e' w' ⟨rfl, hg'⟩; have hc1 := (boxed_below HV.out hg'.below).cell; have HG := hid hg'; have hgs := hg'.size; clear hg' hc)
      | (gi_at_builtin; refine wpListIn_append_own _ rfl _ _ 23 rfl W0.heap.size 9 i0 (.string ⟨#[]⟩) 1 16 Tryz.underlying23 hi hz0 hz1 hz2 rfl (by decide) _ _ _ rfl ((ownsRow_below HROW.out HG.out.below).alloc _) ⟨w'.heap.size, 0, none⟩ 1 1 [.string (S ca)] rfl rfl (cell_one_new _ _ _) (by intro u hu; rw [List.mem_singleton.1 hu]; rfl) (by unfold maxLen; omega) (by omega) (by simp; omega) ?_; intro v' w1 hown' hgrow _; obtain ⟨g', cap', rfl⟩ := ownsRow_succ hown'; obtain ⟨hv1, hv2, hr2, hk2, hb2⟩ := (boxed_below HV.out HG.out.below).appended (by decide) (rowMono (ownsRow_below HROW.out HG.out.below) (show w.heap.size ≤ W0.heap.size by omega)) (by omega) (Nat.le_refl _) (rowMono hown' (show w.heap.size ≤ W0.heap.size by omega)) hgrow; have hc2 := hv1.cell; have hf2 := hv1.frozen; have HOWN := hid hown'; have HGR := hid hgrow; have HB2 := hid hb2; have HK2 := hid hk2; have HV2 := hid hv2; have HV1 := hid hv1; clear hown' hgrow hb2 hk2 hv2 hr2 hv1))
    have hw1 : Below W0.heap.size w' w1 := below_grown (ownsRow_below HROW.out HG.out.below) (Nat.le_trans hsz hgs) HGR.out
    have hkp : KpSeq (w.heap.size + 2) (w.heap.size + 1) (w.heap.size + 3) W w1 := kpSeq_below ((HG.out.below.mono hsz).trans hw1) (by omega) (by omega) (by omega)
    have hrow3 := HOWN.out.kept (grownBy_setCell' w1 w.heap.size (.slice (some ⟨g', 0, none⟩) (pre.length + 1) cap')) (.inr (HV1.out.not_row (by decide) HOWN.out).symm)
    have hz3 := HB2.out.size
    refine ⟨(keepsFrom_below HG.out.below).trans (HK2.out.from _), kpSeq_t hkp (kpSeq_set _ (by omega) (by omega) (by omega)), ⟨⟨_, HV2.out, ?_, trivial⟩, Nat.le_trans (Nat.le_trans hsz hgs) hz3⟩, hB.trans ((HG.out.below.mono hB.size).trans HB2.out)⟩
    rw [List.length_append, List.map_append, List.map_cons, List.map_nil, hno]
    exact hrow3
  case done =>
    rintro D W hD ⟨⟨⟨v, hv, hrow, _⟩, hsz⟩, hB⟩ hK
    have hc := hv.cell
    gi_wp2
    refine ⟨by simp, .inl ⟨_, _, rfl, run_takeDeferred hK, ?_⟩⟩
    have hl : (tabT 3).length = (p :: ps).length := by rw [← e1, List.length_map]
    have hm2 : ((tabT 3).map fun e => Value.string (S e.name)) = (p :: ps).map fun x => .string (S (nameOf x)) := by
      rw [← e1, List.map_map]
      have := congrArg (List.map fun l => Value.string (S l)) (nameOf_text 3)
      simp only [List.map_map] at this
      exact this.symm
    refine ⟨_, results_tmp2 rfl _ _ _, v, rfl, ?_, hB.trans (belowK_b (w := w) (Nat.le_refl _) W D _ _ (by omega) hK rfl rfl)⟩
    rw [hl, hm2]
    exact ownsRow_putObj (rowMono hrow (show w.heap.size ≤ W0.heap.size by omega)) _ hK rfl
  case stop =>
    rintro D c pre W _ _ h _
    exact h.elim
end Go.Proofs.YtdmbhoagjjkogaaGreatDoor

namespace Go.Proofs.YtdmbhoagjjkogaaGreatDoor
open Go.RowKit Go.Shelf
attribute [local go_sem] Oper.semAt_some
set_option linter.unusedVariables false
set_option linter.unusedSimpArgs false
set_option maxRecDepth 100000 in
set_option maxHeartbeats 4000000 in
theorem names_in4 (w : World) (hm : HasM w) :
    CallsIn Fence.wide 6 Tryz.prog 35 #[.int .i64 4] w fun e w' => ∃ v, e = .returned (.tuple #[v, .nilIface]) ∧ w'.ownsRow w.heap.size 9 1 v (tabT 4).length ((tabT 4).map fun e => .string (S e.name)) ∧ Below w.heap.size w w' := by
  have tb := fun W => table_any 4 W
  have TB := hid tb
  clear tb
  obtain ⟨i0, hi, hz0, hz1, hz2⟩ := info_parts infoNames
  refine callsIn_of_wp_marks Tryz.func35 rfl trivial ?_ rfl
  simp only [Tryz.ntmps35, List.size_toArray, List.length_cons, List.length_nil, Nat.reduceAdd, Nat.reduceSub, Array.replicate_succ, Array.replicate_zero, List.push_toArray, List.append_toArray, List.nil_append, List.cons_append]
  gi_wp2_with (first | (refine ⟨trivial, ?_⟩; gi_at_call 44; refine (callsIn_wide.2 (TB.out _)).mono ?_; rintro e w' ⟨rfl, rfl⟩) | (refine ⟨trivial, ?_⟩; gi_at_call 43; refine (callsIn_wide.2 (SplitSeq_any _ _ _)).mono ?_; rintro e w' ⟨rfl, rfl⟩))
  obtain ⟨p, ps, e1, e2, e3, e4⟩ := tab_facts 4
  rw [e2]
  have bO := Boxed.new w 23 (.slice none 0 0)
  generalize hW0 : World.alloc _ (Obj.cells #[Value.int IntKind.i64 0] 3) = W0
  have z0 : W0.heap.size = w.heap.size + 4 := by rw [← hW0]; simp
  have c2 : W0.cell? ⟨w.heap.size + 1, 0, none⟩ = some (.string (S (joinS [124] p ps))) := by rw [← hW0]; simp [go_sem]
  have c3 : W0.cell? ⟨w.heap.size + 2, 0, none⟩ = some (.string (S [124])) := by rw [← hW0]; simp [go_sem]
  have c4 : W0.cell? ⟨w.heap.size + 3, 0, none⟩ = some (.int .i64 0) := by rw [← hW0]; simp [go_sem]
  have f2 : W0.frozen? ⟨w.heap.size + 1, 0, none⟩ = false := by rw [← hW0]; simp [go_sem]
  have hbx : Boxed W0 w.heap.size 23 (.slice none 0 0) := by rw [← hW0]; exact ((bO.alloc _).alloc _).alloc _
  have hB0 : Below w.heap.size w W0 := by rw [← hW0]; repeat (first | exact Below.refl _ _ | (refine Below.alloc ?_ (by simp; try omega) _))
  clear hW0 bO
  refine wpIn_rangeFunc_ownAt (B := w.heap.size + 1) (by omega) rfl (by decide) (gf := 119) (lb := #[.pointer (some ⟨w.heap.size + 2, 0, none⟩), .pointer (some ⟨w.heap.size + 1, 0, none⟩), .pointer (some ⟨w.heap.size + 3, 0, none⟩)]) rfl trivial (enters_of Tryz.func119 (by kernel_rfl) rfl)
    (seq_stops 5 (w.heap.size + 2) (w.heap.size + 1) (w.heap.size + 3) (by omega) (by omega) (by omega) p ps e3 e4 W0 (by omega) (by omega) (by omega) c3 c2 c4 f2) kpSeq_t
    (fun W l o o' hl hW ho hw => kpSeq_below (belowK_b (w := W0) (Nat.le_refl _) W l o o' hl hW ho hw) (by omega) (by omega) (by omega)) (Below.refl _ _) (fun _ => rfl)
    (fun pre W => ((∃ v, Boxed W w.heap.size 23 v ∧ W.ownsRow W0.heap.size 9 1 v pre.length (pre.map fun x => .string (S (nameOf x))) ∧ True) ∧ W0.heap.size ≤ W.heap.size) ∧ Below w.heap.size w W)
    (fun _ _ _ => False)
    (OwnFrom.and (OwnFrom.and (Own.from (holdsRow_own W0.heap.size w.heap.size 23 9 1 (fun (pre : List (List UInt8)) => pre.length) (fun pre => pre.map fun x => .string (S (nameOf x))) (fun _ _ => True)) _) (fun x A B row hs hg hr => Nat.le_trans hs hg.size)) (ownFrom_below (Nat.le_refl _) (by omega)))
    (fun x W v hs => by
      obtain ⟨⟨⟨u, hb, hr, _⟩, hsz⟩, hB⟩ := hs
      refine ⟨⟨⟨u, hb.kept (grownBy_setCell' W _ v) (by simp), hr.kept (grownBy_setCell' W _ v) ?_, trivial⟩, Nat.le_trans hsz (by simp)⟩, hB.setCell (p := ⟨w.heap.size + 1, 0, none⟩) (by simp) _⟩
      rcases hr.2 with ⟨rfl, _⟩ | ⟨g, cap, cur, rfl, hg, _⟩
      · exact .inl rfl
      · exact .inr (by simp [Value.ownBlock]; omega))
    (fun c x A B row hs _ _ => hs.elim)
    ⟨⟨⟨_, hbx, World.ownsRow_nil _ _ _ _, trivial⟩, Nat.le_refl _⟩, hB0⟩
    (fun x => { tmps := #[.int .i64 4, undef, .slice none 0 0, .nilIface, .pointer (some ⟨w.heap.size, 0, none⟩), .string (S x), undef, undef, undef, .int .i64 4, .bool true, .bool true, .int .i64 4, .bool false, .bool false, undef, .int .i64 4, .string (S (joinS [124] p ps)), .func (.func 119) #[] #[.pointer (some ⟨w.heap.size + 2, 0, none⟩), .pointer (some ⟨w.heap.size + 1, 0, none⟩), .pointer (some ⟨w.heap.size + 3, 0, none⟩)], .string (S x), undef, undef, undef, undef, undef, undef, undef, undef, undef, undef, undef], defers := [] })
    ?assign ?body ?done ?stop
  case assign =>
    intro l x W K hK
    gi_wp2
    exact hK
  case body =>
    rintro l pre x W ⟨⟨⟨v, hv, hrow, _⟩, hsz⟩, hB⟩ hpre
    have hx : x ∈ (tabT 4).map Ent.text := by rw [e1]; exact hpre.subset (by simp)
    have hpl : pre.length ≤ 100 := by
      have h1 := hpre.length_le
      have h2 : (p :: ps).length ≤ 100 := by rw [← e1, List.length_map]; exact tab_len 4
      simp only [List.length_append] at h1
      omega
    have hxl : x.length ≤ 1000 := by
      obtain ⟨e, he, rfl⟩ := List.mem_map.1 hx
      have := (ent_fields 4 e he).2.2.2.2.2.1
      omega
    have cu := stringsCut_any x [32] W (hm.grow hB) (by omega)
    obtain ⟨ca, hca⟩ : ∃ y, y = (Lib.cut x [32]).1 := ⟨_, rfl⟩
    obtain ⟨cb, hcb⟩ : ∃ y, y = (Lib.cut x [32]).2.1 := ⟨_, rfl⟩
    obtain ⟨ct, hct⟩ : ∃ y, y = (Lib.cut x [32]).2.2 := ⟨_, rfl⟩
    rw [← hca, ← hcb, ← hct] at cu
    have hno : nameOf x = ca := hca.symm
    have CU := hid cu
    have hc := hv.cell
    have HV := hid hv
    have HROW := hid hrow
    clear cu hca hcb hct hx hv hrow hpre
    gi_wp2_with (first
      | (refine ⟨trivial, ?_⟩; gi_at_call 60; refine (CallsIn.inRound l (callsIn_wide.2 CU.out)).mono ?_; rintro e' w' ⟨rfl, hg'⟩; have hc1 := (boxed_below HV.out hg'.below).cell; have HG := hid hg'; have hgs := hg'.size; clear hg' hc)
      | (gi_at_builtin; refine wpListIn_append_own _ rfl _ _ 23 rfl W0.heap.size 9 i0 (.string ⟨#[]⟩) 1 16 Tryz.underlying23 hi hz0 hz1 hz2 rfl (by decide) _ _ _ rfl ((ownsRow_below HROW.out HG.out.below).alloc _) ⟨w'.heap.size, 0, none⟩ 1 1 [.string (S ca)] rfl rfl (cell_one_new _ _ _) (by intro u hu; rw [List.mem_singleton.1 hu]; rfl) (by unfold maxLen; omega) (by omega) (by simp; omega) ?_; intro v' w1 hown' hgrow _; obtain ⟨g', cap', rfl⟩ := ownsRow_succ hown'; obtain ⟨hv1, hv2, hr2, hk2, hb2⟩ := (boxed_below HV.out HG.out.below).appended (by decide) (rowMono (ownsRow_below HROW.out HG.out.below) (show w.heap.size ≤ W0.heap.size by omega)) (by omega) (Nat.le_refl _) (rowMono hown' (show w.heap.size ≤ W0.heap.size by omega)) hgrow; have hc2 := hv1.cell; have hf2 := hv1.frozen; have HOWN := hid hown'; have HGR := hid hgrow; have HB2 := hid hb2; have HK2 := hid hk2; have HV2 := hid hv2; have HV1 := hid hv1; clear hown' hgrow hb2 hk2 hv2 hr2 hv1))
    have hw1 : Below W0.heap.size w' w1 := below_grown (ownsRow_below HROW.out HG.out.below) (Nat.le_trans hsz hgs) HGR.out
    have hkp : KpSeq (w.heap.size + 2) (w.heap.size + 1) (w.heap.size + 3) W w1 := kpSeq_below ((HG.out.below.mono hsz).trans hw1) (by omega) (by omega) (by omega)
    have hrow3 := HOWN.out.kept (grownBy_setCell' w1 w.heap.size (.slice (some ⟨g', 0, none⟩) (pre.length + 1) cap')) (.inr (HV1.out.not_row (by decide) HOWN.out).symm)
    have hz3 := HB2.out.size
    refine ⟨(keepsFrom_below HG.out.below).trans (HK2.out.from _), kpSeq_t hkp (kpSeq_set _ (by omega) (by omega) (by omega)), ⟨⟨_, HV2.out, ?_, trivial⟩, Nat.le_trans (Nat.le_trans hsz hgs) hz3⟩, hB.trans ((HG.out.below.mono hB.size).trans HB2.out)⟩
    rw [List.length_append, List.map_append, List.map_cons, List.map_nil, hno]
    exact hrow3
  case done =>
    rintro D W hD ⟨⟨⟨v, hv, hrow, _⟩, hsz⟩, hB⟩ hK
    have hc := hv.cell
    gi_wp2
    refine ⟨by simp, .inl ⟨_, _, rfl, run_takeDeferred hK, ?_⟩⟩
    have hl : (tabT 4).length = (p :: ps).length := by rw [← e1, List.length_map]
    have hm2 : ((tabT 4).map fun e => Value.string (S e.name)) = (p :: ps).map fun x => .string (S (nameOf x)) := by
      rw [← e1, List.map_map]
      have := congrArg (List.map fun l => Value.string (S l)) (nameOf_text 4)
      simp only [List.map_map] at this
      exact this.symm
    refine ⟨_, results_tmp2 rfl _ _ _, v, rfl, ?_, hB.trans (belowK_b (w := w) (Nat.le_refl _) W D _ _ (by omega) hK rfl rfl)⟩
    rw [hl, hm2]
    exact ownsRow_putObj (rowMono hrow (show w.heap.size ≤ W0.heap.size by omega)) _ hK rfl
  case stop =>
    rintro D c pre W _ _ h _
    exact h.elim
end Go.Proofs.YtdmbhoagjjkogaaGreatDoor

namespace Go.Proofs.YtdmbhoagjjkogaaGreatDoor
open Go.RowKit
set_option linter.unusedVariables false
set_option linter.unusedSimpArgs false
theorem names_any (v : Int) (w : World) (hv : v = 3 ∨ v = 4) (hM : RMem w) :
    Calls Tryz.prog 35 #[.int .i64 v] w fun e w' => ∃ u, e = .returned (.tuple #[u, .nilIface]) ∧ w'.ownsRow w.heap.size 9 1 u (tabT v).length ((tabT v).map fun e => .string (S e.name)) ∧ Below w.heap.size w w' := by
  rcases hv with rfl | rfl
  · exact (callsIn_wide (n := 6)).1 (names_in3 w hM.hm)
  · exact (callsIn_wide (n := 6)).1 (names_in4 w hM.hm)
def entOk (e : Ent) : Bool := isNameL e.name && (upperL e.name == e.name && (decide (1 ≤ e.ty ∧ e.ty < 9 ∧ (0 < e.most → e.least ≤ e.most) ∧ (0 < e.parts → e.ty = 3) ∧ e.name.length ≤ 100)))
theorem tab_ok (v : Int) : (∀ e ∈ tabT v, entOk e = true) ∧ 25 < (tabT v).length := by
  unfold tabT
  split
  · decide +kernel
  · decide +kernel
end Go.Proofs.YtdmbhoagjjkogaaGreatDoor

namespace Go.Proofs.YtdmbhoagjjkogaaGreatDoor
open Go.RowKit
set_option linter.unusedVariables false
set_option linter.unusedSimpArgs false
end Go.Proofs.YtdmbhoagjjkogaaGreatDoor
