/-
  CONTRACT of rules.Names at the version 4. (written by gen_rulesof.py)
-/
import Derived.Test.YtpfenaeaegdeaaaDoorRulesOf
import Derived.Test.YtpfenaeaegdeaaaDoorHasM
import Derived.Test.YtpfenaeaegdeaaaDoorSplit
import Derived.RangeFuncBox
import Derived.OwnWalkIn
import Derived.Test.YtpfenaeaegdeaaaDoorNamesPlain
namespace Go.Proofs.YtpfenaeaegdeaaaDoor
open Go.RowKit Go.Shelf
attribute [local go_sem] Oper.semAt_some
set_option linter.unusedVariables false
set_option linter.unusedSimpArgs false

set_option maxRecDepth 100000 in
set_option maxHeartbeats 4000000 in
theorem names_in4 (w : World) (hm : HasM w) :
    CallsIn Fence.wide 6 Tryd.prog 20 #[.int .i64 4] w fun e w' => ∃ v, e = .returned (.tuple #[v, .nilIface]) ∧ w'.ownsRow w.heap.size 9 1 v (tabT 4).length ((tabT 4).map fun e => .string (S e.name)) ∧ Below w.heap.size w w' := by
  have tb := fun W => table_any 4 W
  have TB := hid tb
  clear tb
  obtain ⟨i0, hi, hz0, hz1, hz2⟩ := info_parts infoNames
  refine callsIn_of_wp_marks Tryd.func20 rfl trivial ?_ rfl
  simp only [Tryd.ntmps20, List.size_toArray, List.length_cons, List.length_nil, Nat.reduceAdd, Nat.reduceSub, Array.replicate_succ, Array.replicate_zero, List.push_toArray, List.append_toArray, List.nil_append, List.cons_append]
  gi_wp2_with (first | (refine ⟨trivial, ?_⟩; gi_at_call 28; refine (callsIn_wide.2 (TB.out _)).mono ?_; rintro e w' ⟨rfl, rfl⟩) | (refine ⟨trivial, ?_⟩; gi_at_call 27; refine (callsIn_wide.2 (SplitSeq_any _ _ _)).mono ?_; rintro e w' ⟨rfl, rfl⟩))
  obtain ⟨p, ps, e1, e2, e3, e4⟩ := tab_facts 4
  rw [e2]
  have bO := Boxed.new w 33 (.slice none 0 0)
  generalize hW0 : World.alloc _ (Obj.cells #[Value.int IntKind.i64 0] 3) = W0
  have z0 : W0.heap.size = w.heap.size + 4 := by rw [← hW0]; simp
  have c2 : W0.cell? ⟨w.heap.size + 1, 0, none⟩ = some (.string (S (joinS [124] p ps))) := by rw [← hW0]; simp [go_sem]
  have c3 : W0.cell? ⟨w.heap.size + 2, 0, none⟩ = some (.string (S [124])) := by rw [← hW0]; simp [go_sem]
  have c4 : W0.cell? ⟨w.heap.size + 3, 0, none⟩ = some (.int .i64 0) := by rw [← hW0]; simp [go_sem]
  have f2 : W0.frozen? ⟨w.heap.size + 1, 0, none⟩ = false := by rw [← hW0]; simp [go_sem]
  have hbx : Boxed W0 w.heap.size 33 (.slice none 0 0) := by rw [← hW0]; exact ((bO.alloc _).alloc _).alloc _
  have hB0 : Below w.heap.size w W0 := by rw [← hW0]; repeat (first | exact Below.refl _ _ | (refine Below.alloc ?_ (by simp; try omega) _))
  clear hW0 bO
  refine wpIn_rangeFunc_ownAt (B := w.heap.size + 1) (by omega) rfl (by decide) (gf := 50) (lb := #[.pointer (some ⟨w.heap.size + 2, 0, none⟩), .pointer (some ⟨w.heap.size + 1, 0, none⟩), .pointer (some ⟨w.heap.size + 3, 0, none⟩)]) rfl trivial (enters_of Tryd.func50 (by kernel_rfl) rfl)
    (seq_stops 5 (w.heap.size + 2) (w.heap.size + 1) (w.heap.size + 3) (by omega) (by omega) (by omega) p ps e3 e4 W0 (by omega) (by omega) (by omega) c3 c2 c4 f2) kpSeq_t
    (fun W l o o' hl hW ho hw => kpSeq_below (belowK_b (w := W0) (Nat.le_refl _) W l o o' hl hW ho hw) (by omega) (by omega) (by omega)) (Below.refl _ _) (fun _ => rfl)
    (fun pre W => ((∃ v, Boxed W w.heap.size 33 v ∧ W.ownsRow W0.heap.size 9 1 v pre.length (pre.map fun x => .string (S (nameOf x))) ∧ True) ∧ W0.heap.size ≤ W.heap.size) ∧ Below w.heap.size w W)
    (fun _ _ _ => False)
    (OwnFrom.and (OwnFrom.and (Own.from (holdsRow_own W0.heap.size w.heap.size 33 9 1 (fun (pre : List (List UInt8)) => pre.length) (fun pre => pre.map fun x => .string (S (nameOf x))) (fun _ _ => True)) _) (fun x A B row hs hg hr => Nat.le_trans hs hg.size)) (ownFrom_below (Nat.le_refl _) (by omega)))
    (fun x W v hs => by
      obtain ⟨⟨⟨u, hb, hr, _⟩, hsz⟩, hB⟩ := hs
      refine ⟨⟨⟨u, hb.kept (grownBy_setCell' W _ v) (by simp), hr.kept (grownBy_setCell' W _ v) ?_, trivial⟩, Nat.le_trans hsz (by simp)⟩, hB.setCell (p := ⟨w.heap.size + 1, 0, none⟩) (by simp) _⟩
      rcases hr.2 with ⟨rfl, _⟩ | ⟨g, cap, cur, rfl, hg, _⟩
      · exact .inl rfl
      · exact .inr (by simp [Value.ownBlock]; omega))
    (fun c x A B row hs _ _ => hs.elim)
    ⟨⟨⟨_, hbx, World.ownsRow_nil _ _ _ _, trivial⟩, Nat.le_refl _⟩, hB0⟩
    (fun x => { tmps := #[.int .i64 4, undef, .slice none 0 0, .nilIface, .pointer (some ⟨w.heap.size, 0, none⟩), .string (S x), undef, undef, undef, .int .i64 4, .bool true, .bool true, .int .i64 4, .bool false, .bool false, undef, .int .i64 4, .string (S (joinS [124] p ps)), .func (.func 50) #[] #[.pointer (some ⟨w.heap.size + 2, 0, none⟩), .pointer (some ⟨w.heap.size + 1, 0, none⟩), .pointer (some ⟨w.heap.size + 3, 0, none⟩)], .string (S x), undef, undef, undef, undef, undef, undef, undef, undef, undef, undef, undef], defers := [] })
    ?assign ?body ?done ?stop
  case assign =>
    intro l x W K hK
    gi_wp2
    exact hK
  case body =>
    rintro l pre x W ⟨⟨⟨v, hv, hrow, _⟩, hsz⟩, hB⟩ hpre
    have hx : x ∈ (tabT 4).map Ent.text := by rw [e1]; exact hpre.subset (by simp)
    have hpl : pre.length ≤ 100 := by
      have h1 := hpre.length_le
      have h2 : (p :: ps).length ≤ 100 := by rw [← e1, List.length_map]; exact tab_len 4
      simp only [List.length_append] at h1
      omega
    have hxl : x.length ≤ 1000 := by
      obtain ⟨e, he, rfl⟩ := List.mem_map.1 hx
      have := (ent_fields 4 e he).2.2.2.2.2.1
      omega
    have cu := stringsCut_any x [32] W (hm.grow hB) (by omega)
    obtain ⟨ca, hca⟩ : ∃ y, y = (Lib.cut x [32]).1 := ⟨_, rfl⟩
    obtain ⟨cb, hcb⟩ : ∃ y, y = (Lib.cut x [32]).2.1 := ⟨_, rfl⟩
    obtain ⟨ct, hct⟩ : ∃ y, y = (Lib.cut x [32]).2.2 := ⟨_, rfl⟩
    rw [← hca, ← hcb, ← hct] at cu
    have hno : nameOf x = ca := hca.symm
    have CU := hid cu
    have hc := hv.cell
    have HV := hid hv
    have HROW := hid hrow
    clear cu hca hcb hct hx hv hrow hpre
    gi_wp2_with (first
      | (refine ⟨trivial, ?_⟩; gi_at_call 32; refine (CallsIn.inRound l (callsIn_wide.2 CU.out)).mono ?_; rintro e' w' ⟨rfl, hg'⟩; have hc1 := (boxed_below HV.out hg'.below).cell; have HG := hid hg'; have hgs := hg'.size; clear hg' hc)
      | (gi_at_builtin; refine wpListIn_append_own _ rfl _ _ 33 rfl W0.heap.size 9 i0 (.string ⟨#[]⟩) 1 16 Tryd.underlying33 hi hz0 hz1 hz2 rfl (by decide) _ _ _ rfl ((ownsRow_below HROW.out HG.out.below).alloc _) ⟨w'.heap.size, 0, none⟩ 1 1 [.string (S ca)] rfl rfl (cell_one_new _ _ _) (by intro u hu; rw [List.mem_singleton.1 hu]; rfl) (by unfold maxLen; omega) (by omega) (by simp; omega) ?_; intro v' w1 hown' hgrow _; obtain ⟨g', cap', rfl⟩ := ownsRow_succ hown'; obtain ⟨hv1, hv2, hr2, hk2, hb2⟩ := (boxed_below HV.out HG.out.below).appended (by decide) (ownsRow_mono (ownsRow_below HROW.out HG.out.below) (show w.heap.size ≤ W0.heap.size by omega)) (by omega) (Nat.le_refl _) (ownsRow_mono hown' (show w.heap.size ≤ W0.heap.size by omega)) hgrow; have hc2 := hv1.cell; have hf2 := hv1.frozen; have HOWN := hid hown'; have HGR := hid hgrow; have HB2 := hid hb2; have HK2 := hid hk2; have HV2 := hid hv2; have HV1 := hid hv1; clear hown' hgrow hb2 hk2 hv2 hr2 hv1))
    have hw1 : Below W0.heap.size w' w1 := below_grown (ownsRow_below HROW.out HG.out.below) (Nat.le_trans hsz hgs) HGR.out
    have hkp : KpSeq (w.heap.size + 2) (w.heap.size + 1) (w.heap.size + 3) W w1 := kpSeq_below ((HG.out.below.mono hsz).trans hw1) (by omega) (by omega) (by omega)
    have hrow3 := HOWN.out.kept (grownBy_setCell' w1 w.heap.size (.slice (some ⟨g', 0, none⟩) (pre.length + 1) cap')) (.inr (HV1.out.not_row (by decide) HOWN.out).symm)
    have hz3 := HB2.out.size
    refine ⟨(keepsFrom_below HG.out.below).trans (HK2.out.from _), kpSeq_t hkp (kpSeq_set _ (by omega) (by omega) (by omega)), ⟨⟨_, HV2.out, ?_, trivial⟩, Nat.le_trans (Nat.le_trans hsz hgs) hz3⟩, hB.trans ((HG.out.below.mono hB.size).trans HB2.out)⟩
    rw [List.length_append, List.map_append, List.map_cons, List.map_nil, hno]
    exact hrow3
  case done =>
    rintro D W hD ⟨⟨⟨v, hv, hrow, _⟩, hsz⟩, hB⟩ hK
    have hc := hv.cell
    gi_wp2
    refine ⟨by simp, .inl ⟨_, _, rfl, run_takeDeferred hK, ?_⟩⟩
    have hl : (tabT 4).length = (p :: ps).length := by rw [← e1, List.length_map]
    have hm2 : ((tabT 4).map fun e => Value.string (S e.name)) = (p :: ps).map fun x => .string (S (nameOf x)) := by
      rw [← e1, List.map_map]
      have := congrArg (List.map fun l => Value.string (S l)) (nameOf_text 4)
      simp only [List.map_map] at this
      exact this.symm
    refine ⟨_, results_tmp2 rfl _ _ _, v, rfl, ?_, hB.trans (belowK_b (w := w) (Nat.le_refl _) W D _ _ (by omega) hK rfl rfl)⟩
    rw [hl, hm2]
    exact ownsRow_putObj (ownsRow_mono hrow (show w.heap.size ≤ W0.heap.size by omega)) _ hK rfl
  case stop =>
    rintro D c pre W _ _ h _
    exact h.elim
end Go.Proofs.YtpfenaeaegdeaaaDoor
