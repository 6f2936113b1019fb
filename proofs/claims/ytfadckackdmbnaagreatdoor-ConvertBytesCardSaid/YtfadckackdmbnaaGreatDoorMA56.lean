/-
  Texts merged into one: Params, CaretPlain, SumTo, Wide, RowLists, RowStr, Heavy, HasM, RulesOf3, NameF, RulesNames3.
-/
import Derived.Test.YtfadckackdmbnaaGreatDoorMA60
import Derived.Test.YtfadckackdmbnaaGreatDoorMA46
import Derived.Test.YtfadckackdmbnaaGreatDoorMA44
import Derived.Lib.AppendZerosOnto
import Derived.Lib.AppendZeros
import Derived.Laws.AppendOwnNone
import Derived.Test.YtfadckackdmbnaaGreatDoorMA48
import Derived.Test.YtfadckackdmbnaaGreatDoorShelf
import Derived.Test.YtfadckackdmbnaaGreatDoorMA50
import Derived.RangeFuncBox
import Derived.OwnWalkIn
namespace Go.Proofs.YtfadckackdmbnaaGreatDoor
open Go.RowKit
set_option linter.unusedVariables false
set_option linter.unusedSimpArgs false
abbrev Pm := List UInt8 × List (List UInt8)
def IsParams (w : World) (v : Value) (ps : List Pm) : Prop :=
  ∃ a cap, v = .slice a ps.length cap ∧ ps.length ≤ cap ∧ (ps ≠ [] → ∃ b off, a = some ⟨b, off, none⟩ ∧ b < w.heap.size ∧
    ∀ (i : Nat) (p : Pm), ps[i]? = some p → ∃ sv, w.cell? ⟨b, off + i * 2, none⟩ = some (.string (S p.1)) ∧ w.cell? ⟨b, off + i * 2 + 1, none⟩ = some sv ∧ IsStrs w sv p.2)
theorem IsParams.grow {w w' : World} {v : Value} {ps : List Pm} (h : IsParams w v ps) (g : G w w') : IsParams w' v ps := by
  obtain ⟨a, cap, e, hc, h⟩ := h
  refine ⟨a, cap, e, hc, fun h0 => ?_⟩
  obtain ⟨b, off, e2, hb, h⟩ := h h0
  refine ⟨b, off, e2, Nat.lt_of_lt_of_le hb g.size, fun i p hp => ?_⟩
  obtain ⟨sv, h1, h2, h3⟩ := h i p hp
  exact ⟨sv, by rw [g.cell hb]; exact h1, by rw [g.cell hb]; exact h2, h3.grow g⟩
def findL (ps : List Pm) (s : List UInt8) : Option Nat := ps.findIdx? fun p => sameL p.1 s
def findV (o : Option Nat) : Int := match o with | none => -1 | some k => (k : Int)
theorem find_at {ps : List Pm} {s : List UInt8} {k : Nat} (h : k < ps.length) (hp : sameL (ps[k]).1 s = true) (hn : ∀ j (h : j < k), sameL (ps[j]'(by omega)).1 s = false) : findL ps s = some k := by
  unfold findL
  rw [List.findIdx?_eq_some_iff_getElem]
  exact ⟨h, hp, fun j hj => by simp [hn j hj]⟩
theorem find_none {ps : List Pm} {s : List UInt8} (hn : ∀ j (h : j < ps.length), sameL (ps[j]).1 s = false) : findL ps s = none := by
  unfold findL
  rw [List.findIdx?_eq_none_iff]
  intro p hp
  obtain ⟨j, hj, rfl⟩ := List.mem_iff_getElem.1 hp
  exact hn j hj
set_option maxRecDepth 100000 in
set_option maxHeartbeats 1000000 in
theorem find_any (v : Value) (ps : List Pm) (s : List UInt8) (w : World) (h : IsParams w v ps) (hl : ps.length ≤ 1000000) (hp : ∀ p ∈ ps, p.1.length ≤ 1000000) (hs : s.length ≤ 1000000) : Gives 26 #[v, .string (S s)] w (.int .i64 (findV (findL ps s))) := by
  have H := hid h
  obtain ⟨a, cap, rfl, _, _⟩ := h
  have HP := hid hp
  clear hp
  go_enter Tryz.func26, Tryz.ntmps26
  go_wp2_with fail
  go_loopw [9] (fun i wr => ∃ k : Nat, k ≤ ps.length ∧ i = .int .i64 k ∧ (∀ j (h : j < ps.length), j < k → sameL (ps[j]).1 s = false) ∧ G w wr) (fun i _ => ps.length - (intOf i).toNat)
  case atStart => exact ⟨0, Nat.zero_le _, rfl, fun j _ h => by omega, G.refl _⟩
  case round =>
    obtain ⟨k, hk, rfl, hn, gr⟩ := hrel
    have HN := hid hn
    have GR := hid gr
    clear hn gr
    by_cases hlt : k < ps.length
    · obtain ⟨a2, cap2, e1, _, hc⟩ := (H.out.grow GR.out)
      obtain ⟨b, off, e2, hb, hcc⟩ := hc (by rintro rfl; simp at hlt)
      clear hc
      simp only [Value.slice.injEq, true_and] at e1
      obtain ⟨rfl, rfl⟩ := e1
      subst e2
      obtain ⟨sv, c1, c2, c3⟩ := hcc k _ (List.getElem?_eq_getElem hlt)
      have hpl := HP.out _ (List.getElem_mem hlt)
      obtain ⟨p, hpe⟩ : ∃ p, ps[k] = p := ⟨_, rfl⟩
      have HPE := hid hpe
      rw [hpe] at c1 c3 hpl
      have hone := c3.len
      obtain ⟨sa, sc, rfl, _⟩ := hone
      clear hcc c3 hpe
      go_wp2_with fail
      refine (same_any p.1 s _ (by omega) (by omega)).use ?_
      intro w2 g2
      have G2 : Hid (G w w2) := hid (GR.out.trans (G.trans ((G.refl _).alloc _) g2))
      clear g2
      cases hsm : sameL p.1 s with
      | true =>
        have HF : Hid (findL ps s = some k) := hid (find_at hlt (by rw [HPE.out]; exact hsm) fun j hj => HN.out j (by omega) hj)
        go_wp2_with fail
        go_ret
        exact ⟨ret_int (by rw [HF.out]; rfl), G2.out⟩
      | false =>
        have HF : Hid (∀ j (h : j < ps.length), j < k + 1 → sameL (ps[j]).1 s = false) := hid (fun j h hj => by
          rcases Nat.lt_or_ge j k with h1 | h1
          · exact HN.out j h h1
          · obtain rfl : j = k := by omega
            rw [HPE.out]; exact hsm)
        clear hsm
        go_wp2_with fail
        go_roundw
        case rel => exact ⟨k + 1, by omega, by go_num, HF.out, G2.out⟩
        case measure => simp [intOf]; omega
    · obtain rfl : k = ps.length := by omega
      have HF : Hid (findL ps s = none) := hid (find_none fun j h => HN.out j h h)
      go_wp2_with fail
      go_ret
      exact ⟨ret_int (by rw [HF.out]; rfl), GR.out⟩
end Go.Proofs.YtfadckackdmbnaaGreatDoor

namespace Go.Proofs.YtfadckackdmbnaaGreatDoor
set_option linter.unusedVariables false
end Go.Proofs.YtfadckackdmbnaaGreatDoor

namespace Go.Proofs.YtfadckackdmbnaaGreatDoor
end Go.Proofs.YtfadckackdmbnaaGreatDoor

namespace Go.Proofs.YtfadckackdmbnaaGreatDoor
open Go.RowKit
set_option linter.unusedVariables false
set_option linter.unusedSimpArgs false
def lensP (p : Pm) : Nat := p.1.length + p.2.length + (p.2.map List.length).sum
def wideN (ps : List Pm) : Nat := ps.length + (ps.map lensP).sum
end Go.Proofs.YtfadckackdmbnaaGreatDoor

namespace Go.Proofs.YtfadckackdmbnaaGreatDoor
open Go.RowKit
set_option linter.unusedVariables false
set_option linter.unusedSimpArgs false
end Go.Proofs.YtfadckackdmbnaaGreatDoor

namespace Go.Proofs.YtfadckackdmbnaaGreatDoor
open Go.RowKit
set_option linter.unusedVariables false
set_option linter.unusedSimpArgs false
end Go.Proofs.YtfadckackdmbnaaGreatDoor

namespace Go.Proofs.YtfadckackdmbnaaGreatDoor
open Go.RowKit
set_option linter.unusedVariables false
set_option linter.unusedSimpArgs false
end Go.Proofs.YtfadckackdmbnaaGreatDoor

namespace Go.Proofs.YtfadckackdmbnaaGreatDoor
open Go.RowKit
set_option linter.unusedVariables false
set_option linter.unusedSimpArgs false
def HasM (w : World) : Prop := ∃ m, w.cell? ⟨3, 0, none⟩ = some (.int .i64 m)
theorem HasM.grow {w w' : World} (h : HasM w) (g : G w w') : HasM w' := by
  obtain ⟨m, h⟩ := h
  exact ⟨m, by rw [g.cell (p := ⟨3, 0, none⟩) (World.block_lt_of_cell? w _ h)]; exact h⟩
theorem stringsCut_any (s sep : List UInt8) (w : World) (hm : HasM w) (hs : s.length ≤ 1000000) : Gives 61 #[.string (S s), .string (S sep)] w (.tuple #[.string (S (Lib.cut s sep).1), .string (S (Lib.cut s sep).2.1), .bool (Lib.cut s sep).2.2]) := by
  obtain ⟨m, hm⟩ := hm
  refine (Tryz.strings_Cut (S s) (S sep) m w (by simp; omega) hm).mono ?_
  rintro e w' ⟨rfl, q, rfl⟩
  exact ⟨rfl, (G.refl w).drewN q⟩
end Go.Proofs.YtfadckackdmbnaaGreatDoor

namespace Go.Proofs.YtfadckackdmbnaaGreatDoor
open Go.RowKit Go.Shelf
attribute [local go_sem] Oper.semAt_some
set_option linter.unusedVariables false
set_option linter.unusedSimpArgs false
set_option maxRecDepth 100000 in
set_option maxHeartbeats 40000000 in
theorem of_in3 (s : List UInt8) (w : World) (hs : s.length ≤ 1000000) (hsp : Lib.TabIs Tryz.prog w "strings.asciiSpace" .u8 Lib.asciiSpaceTab) :
    CallsIn Fence.wide 6 Tryz.prog 35 #[.string (S s), .int .i64 3] w fun e w' => e = .returned (.tuple #[.agg #[.int .i64 (ruleOf (tabT 3) (upperL s)).1, .int .i64 (ruleOf (tabT 3) (upperL s)).2.1, .int .i64 (ruleOf (tabT 3) (upperL s)).2.2.1, .int .i64 (ruleOf (tabT 3) (upperL s)).2.2.2], .nilIface]) ∧ Below w.heap.size w w' := by
  have tb := fun W => table_any 3 W
  have TB := hid tb
  clear tb
  refine callsIn_of_wp_marks Tryz.func35 rfl trivial ?_ rfl
  simp only [Tryz.ntmps35, List.size_toArray, List.length_cons, List.length_nil, Nat.reduceAdd, Nat.reduceSub, Array.replicate_succ, Array.replicate_zero, List.push_toArray, List.append_toArray, List.nil_append, List.cons_append]
  gi_wp2_with (first | (refine ⟨trivial, ?_⟩; gi_at_call 71; refine (callsIn_wide.2 (TB.out _)).mono ?_; rintro e w' ⟨rfl, rfl⟩) | (refine ⟨trivial, ?_⟩; gi_at_call 70; refine (callsIn_wide.2 (SplitSeq_any _ _ _)).mono ?_; rintro e w' ⟨rfl, rfl⟩))
  obtain ⟨p, ps, e1, e2, e3, e4⟩ := tab_facts 3
  rw [e2]
  generalize hW0 : World.alloc _ (Obj.cells #[Value.int IntKind.i64 0] 3) = W0
  have z0 : W0.heap.size = w.heap.size + 6 := by rw [← hW0]; simp
  have c0 : W0.cell? ⟨w.heap.size, 0, none⟩ = some (.string (S s)) := by rw [← hW0]; simp [go_sem]
  have c2 : W0.cell? ⟨w.heap.size + 3, 0, none⟩ = some (.string (S (joinS [124] p ps))) := by rw [← hW0]; simp [go_sem]
  have c3 : W0.cell? ⟨w.heap.size + 4, 0, none⟩ = some (.string (S [124])) := by rw [← hW0]; simp [go_sem]
  have c4 : W0.cell? ⟨w.heap.size + 5, 0, none⟩ = some (.int .i64 0) := by rw [← hW0]; simp [go_sem]
  have f2 : W0.frozen? ⟨w.heap.size + 3, 0, none⟩ = false := by rw [← hW0]; simp [go_sem]
  have hof : OfAt w.heap.size s (0, 0, 0, 0) W0 := by rw [← hW0]; refine ⟨?_, ?_, ?_, ?_, ?_, ?_, ?_, ?_, ?_, ?_, ?_⟩ <;> simp [go_sem]
  have hB0 : Below w.heap.size w W0 := by rw [← hW0]; repeat (first | exact Below.refl _ _ | (refine Below.alloc ?_ (by simp; try omega) _))
  refine wpIn_rangeFunc_ownAt (B := w.heap.size + 3) (by omega) rfl (by decide) (gf := 162) (lb := #[.pointer (some ⟨w.heap.size + 4, 0, none⟩), .pointer (some ⟨w.heap.size + 3, 0, none⟩), .pointer (some ⟨w.heap.size + 5, 0, none⟩)]) rfl trivial (enters_of Tryz.func162 (by kernel_rfl) rfl)
    (seq_stops 5 (w.heap.size + 4) (w.heap.size + 3) (w.heap.size + 5) (by omega) (by omega) (by omega) p ps e3 e4 W0 (by omega) (by omega) (by omega) c3 c2 c4 f2) kpSeq_t
    (fun W l o o' hl hW ho hw => kpSeq_below (belowK_b (w := W0) (Nat.le_refl _) W l o o' hl hW ho hw) (by omega) (by omega) (by omega)) (Below.refl _ _) (fun _ => rfl)
    (fun pre W => (OfAt w.heap.size s (0, 0, 0, 0) W ∧ (∀ e ∈ tabT 3, e.text ∈ pre → ¬ e.name = upperL s) ∧ W0.heap.size ≤ W.heap.size) ∧ Below w.heap.size w W)
    (fun c pre W => (OfAt w.heap.size s (ruleOf (tabT 3) (upperL s)) W ∧ c = .ret) ∧ Below w.heap.size w W)
    (OwnFrom.and (Own.from (fun x A B row hs hg hr => ⟨OfAt.own _ _ _ x A B row hs.1 hg hr, hs.2.1, Nat.le_trans hs.2.2 hg.size⟩) _) (ownFrom_below (Nat.le_refl _) (by omega)))
    (fun x W v hs => ⟨⟨hs.1.1.set _ _ (by omega), hs.1.2.1, Nat.le_trans hs.1.2.2 (by simp)⟩, hs.2.setCell (p := ⟨w.heap.size + 3, 0, none⟩) (by simp) _⟩)
    (fun c => OwnFrom.and (Own.from (fun x A B row hs hg hr => ⟨OfAt.own _ _ _ x A B row hs.1 hg hr, hs.2⟩) _) (ownFrom_below (Nat.le_refl _) (by omega)))
    ⟨⟨hof, by simp, Nat.le_refl _⟩, hB0⟩
    (fun x => { tmps := #[.string (S s), .int .i64 3, .pointer (some ⟨w.heap.size, 0, none⟩), undef, .pointer (some ⟨w.heap.size + 1, 0, none⟩), .pointer (some ⟨w.heap.size + 1 + 1, 0, none⟩), .string (S x), undef, undef, undef, .int .i64 3, .bool false, .bool false, undef, undef, .bool false, undef, undef, .int .i64 3, .string (S (joinS [124] p ps)), .func (.func 162) #[] #[.pointer (some ⟨w.heap.size + 4, 0, none⟩), .pointer (some ⟨w.heap.size + 3, 0, none⟩), .pointer (some ⟨w.heap.size + 5, 0, none⟩)], .string (S x), undef, undef, undef, undef, undef, undef, undef, undef, undef, undef, undef, undef, undef, undef, undef, undef, undef, undef, undef, undef, undef, undef, undef, undef, undef, undef, undef, undef, undef, undef, undef, undef, undef], defers := [] })
    ?assign ?body ?done ?stop
  case assign =>
    intro l x W K hK
    gi_wp2
    exact hK
  case body =>
    rintro l pre x W ⟨⟨ho, hne, hsz⟩, hB⟩ hpre
    have hx : x ∈ (tabT 3).map Ent.text := by rw [e1]; exact hpre.subset (by simp)
    obtain ⟨e, he, rfl⟩ := List.mem_map.1 hx
    obtain ⟨hf, t1, t2, t3, t4, hlen, hasc⟩ := ent_fields 3 e he
    have fl := Tryz.strings_Fields_laid (S e.text) W (by simp; omega) (fun j b hb => hasc b (by simp at hb; exact List.mem_of_getElem? hb)) (Lib.tabBelow_of_tabIs hsp W hB)
    rw [show (S e.text).data.toList = e.text from by simp, hf] at fl
    have FL := hid fl
    have up := fun W => upper_any s W (by omega)
    have UP := hid up
    have ho0 := ho.c0
    clear fl up
    gi_wp2_with (refine ⟨trivial, ?_⟩; gi_at_call 72; refine (CallsIn.inRound l (callsIn_wide.2 FL.out)).mono ?_; rintro e' w' ⟨rfl, rfl⟩)
    generalize hW5 : W.alloc _ = W5
    have gW5 : Below W.heap.size W W5 := by rw [← hW5]; exact (Below.refl _ _).alloc (Nat.le_refl _) _
    have g5 : Below w.heap.size w W5 := by rw [← hW5]; exact hB.alloc hB.size _
    have k5 : ∀ i, i < 5 → W5.cell? ⟨W.heap.size, i, none⟩ = ([e.name, [UInt8.ofNat (48 + e.ty)], [UInt8.ofNat (48 + e.least)], [UInt8.ofNat (48 + e.most)], [UInt8.ofNat (48 + e.parts)]].map fun l => Value.string (S l))[i]? := by
      intro i hi
      have h5 : i = 0 ∨ i = 1 ∨ i = 2 ∨ i = 3 ∨ i = 4 := by omega
      rw [← hW5]
      rcases h5 with rfl | rfl | rfl | rfl | rfl <;> simp [go_sem] <;> rfl
    have a0 : W5.cell? ⟨W.heap.size, 0, none⟩ = some (.string (S e.name)) := k5 0 (by decide)
    have o5 : OfAt w.heap.size s (0, 0, 0, 0) W5 := by rw [← hW5]; exact OfAt.own _ _ _ [] W _ none ho (World.grownBy_alloc W _ none) (fun r e => by cases e)
    have o0 := o5.c0
    have hl5 : W.heap.size < W5.heap.size := by rw [← hW5]; simp
    have hl6 : w.heap.size < W5.heap.size := Nat.lt_of_le_of_lt hB.size hl5
    have hd : 1 ≤ 6 - 1 - 1 := by decide
    by_cases hn : e.name = upperL s
    · have hnb : (e.name == upperL s) = true := beq_iff_eq.2 hn
      have hmx : Tryz.prog.follows .mixedOrders = true := by kernel_rfl
      gi_region_with_o (refine ⟨trivial, ?_⟩; gi_at_call 53; refine (CallsIn.inRound l (callsIn_wide.2 (UP.out _))).mono ?_; rintro e' w' ⟨rfl, hg'⟩; have q0 : w'.cell? ⟨W.heap.size, 0, none⟩ = some (.string (S e.name)) := (G.cell hg' (p := ⟨W.heap.size, 0, none⟩) hl5).trans a0; have q1 : w'.cell? ⟨w.heap.size, 0, none⟩ = some (.string (S s)) := (G.cell hg' (p := ⟨w.heap.size, 0, none⟩) hl6).trans o0)
      all_goals gi_wp2_with fail
      all_goals
        have hl7 : W.heap.size < w'.heap.size := Nat.lt_of_lt_of_le hl5 hg'.below.size
        obtain ⟨l1, hl1'⟩ : ∃ x, x = [UInt8.ofNat (48 + e.ty)] := ⟨_, rfl⟩
        have r1 : w'.cell? ⟨W.heap.size, 1, none⟩ = some (.string (S l1)) := by rw [hl1']; exact (G.cell hg' (p := ⟨W.heap.size, 1, none⟩) hl5).trans (k5 1 (by decide))
        obtain ⟨l2, hl2'⟩ : ∃ x, x = [UInt8.ofNat (48 + e.least)] := ⟨_, rfl⟩
        have r2 : w'.cell? ⟨W.heap.size, 2, none⟩ = some (.string (S l2)) := by rw [hl2']; exact (G.cell hg' (p := ⟨W.heap.size, 2, none⟩) hl5).trans (k5 2 (by decide))
        obtain ⟨l3, hl3'⟩ : ∃ x, x = [UInt8.ofNat (48 + e.most)] := ⟨_, rfl⟩
        have r3 : w'.cell? ⟨W.heap.size, 3, none⟩ = some (.string (S l3)) := by rw [hl3']; exact (G.cell hg' (p := ⟨W.heap.size, 3, none⟩) hl5).trans (k5 3 (by decide))
        obtain ⟨l4, hl4'⟩ : ∃ x, x = [UInt8.ofNat (48 + e.parts)] := ⟨_, rfl⟩
        have r4 : w'.cell? ⟨W.heap.size, 4, none⟩ = some (.string (S l4)) := by rw [hl4']; exact (G.cell hg' (p := ⟨W.heap.size, 4, none⟩) hl5).trans (k5 4 (by decide))
        have at1 : ∀ W, Gives 73 #[.string (S l1)] W (.tuple #[.int .i64 e.ty, .nilIface]) := fun W => by rw [hl1']; exact atoi_digit_any e.ty W t1
        have at2 : ∀ W, Gives 73 #[.string (S l2)] W (.tuple #[.int .i64 e.least, .nilIface]) := fun W => by rw [hl2']; exact atoi_digit_any e.least W t2
        have at3 : ∀ W, Gives 73 #[.string (S l3)] W (.tuple #[.int .i64 e.most, .nilIface]) := fun W => by rw [hl3']; exact atoi_digit_any e.most W t3
        have at4 : ∀ W, Gives 73 #[.string (S l4)] W (.tuple #[.int .i64 e.parts, .nilIface]) := fun W => by rw [hl4']; exact atoi_digit_any e.parts W t4
        have A1 := hid at1
        have A2 := hid at2
        have A3 := hid at3
        have A4 := hid at4
        clear at1 at2 at3 at4 k5 a0 q0 hlen hasc hf hl1' hl2' hl3' hl4' e1 e2 e3 e4 hx hpre
        have hbl : Below w'.heap.size w' (w'.alloc (Obj.cells #[Value.int IntKind.i64 0, Value.int IntKind.i64 0, Value.int IntKind.i64 0, Value.int IntKind.i64 0] 108)) := (Below.refl _ _).alloc (Nat.le_refl _) _
        have hdg : Dig w'.heap.size e 0 (w'.alloc (Obj.cells #[Value.int IntKind.i64 0, Value.int IntKind.i64 0, Value.int IntKind.i64 0, Value.int IntKind.i64 0] 108)) := by refine ⟨?_, ?_, ?_, ?_, ?_, ?_, ?_, ?_⟩ <;> simp [go_sem]
        gi_loopw [30] (fun i wr => ∃ k : Nat, k ≤ 4 ∧ i = .int .i64 k ∧ Dig w'.heap.size e k wr ∧ Below w'.heap.size w' wr) (fun i _ => 4 - (intOf i).toNat)
        case atStart => exact ⟨0, by omega, rfl, hdg, hbl⟩
        case round =>
          obtain ⟨k, hk, rfl, hd', hb'⟩ := hrel
          have HD := hid hd'
          have HB := hid hb'
          have v1 := (hb'.cell (p := ⟨W.heap.size, 1, none⟩) hl7).trans r1
          have v2 := (hb'.cell (p := ⟨W.heap.size, 2, none⟩) hl7).trans r2
          have v3 := (hb'.cell (p := ⟨W.heap.size, 3, none⟩) hl7).trans r3
          have v4 := (hb'.cell (p := ⟨W.heap.size, 4, none⟩) hl7).trans r4
          obtain ⟨d0, d1, d2, d3, f0, f1, f2, f3⟩ := hd'
          clear hb' hdg hbl r1 r2 r3 r4
          have hG : Below W.heap.size W wr := (gW5.drew.trans (Below.mono hg'.below (Nat.le_of_lt hl5))).trans (HB.out.mono (Nat.le_of_lt (Nat.lt_of_lt_of_le hl5 hg'.below.size)))
          by_cases hk4 : k = 4
          · subst hk4
            clear v1 v2 v3 v4
            simp only [Nat.reduceLT, if_true] at d0 d1 d2 d3
            have o6 := ho.below hG (by omega)
            have y0 := o6.c0
            have y1 := o6.r0
            have y2 := o6.r1
            have y3 := o6.r2
            have y4 := o6.r3
            have y5 := o6.er
            have g1 := o6.f0
            have g2 := o6.f1
            have g3 := o6.f2
            have g4 := o6.f3
            have g5' := o6.fe
            gi_wp2
            have o7 := o6.put e.ty e.least e.most e.parts
            have hr : ruleOf (tabT 3) (upperL s) = ((e.ty : Int), (e.least : Int), (e.most : Int), (e.parts : Int)) := rule_at he hn
            have hB3 := (((((hB.trans (hG.mono hB.size)).setCell (p := ⟨w.heap.size + 1, 0, none⟩) (by simp) (.int .i64 e.ty)).setCell (p := ⟨w.heap.size + 1, 1, none⟩) (by simp) (.int .i64 e.least)).setCell (p := ⟨w.heap.size + 1, 2, none⟩) (by simp) (.int .i64 e.most)).setCell (p := ⟨w.heap.size + 1, 3, none⟩) (by simp) (.int .i64 e.parts)).setCell (p := ⟨w.heap.size + 2, 0, none⟩) (by simp) .nilIface
            have hK3 := (((((KeepsOthers.setCell wr ⟨w.heap.size + 1, 0, none⟩ (.int .i64 e.ty)).trans (KeepsOthers.setCell _ ⟨w.heap.size + 1, 1, none⟩ (.int .i64 e.least))).trans (KeepsOthers.setCell _ ⟨w.heap.size + 1, 2, none⟩ (.int .i64 e.most))).trans (KeepsOthers.setCell _ ⟨w.heap.size + 1, 3, none⟩ (.int .i64 e.parts))).trans (KeepsOthers.setCell _ ⟨w.heap.size + 2, 0, none⟩ .nilIface)).from (w.heap.size + 6)
            exact ⟨(keepsFrom_below hG).trans hK3, ⟨by rw [hr]; exact o7, rfl⟩, hB3⟩
          · have hk5 : k = 0 ∨ k = 1 ∨ k = 2 ∨ k = 3 := by omega
            clear hk4 hk
            rcases hk5 with rfl | rfl | rfl | rfl
            · gi_wp2_with (refine ⟨trivial, ?_⟩; gi_at_call 73; refine (CallsIn.inRound l (callsIn_wide.2 (A1.out _))).mono ?_; rintro e' wx ⟨rfl, hx'⟩; have x0 := (HD.out.grow hx').c0; have x1 := (HD.out.grow hx').f0)
              go_roundw
              case rel => exact ⟨1, by omega, rfl, (HD.out.grow hx').set (by omega), (HB.out.trans (hx'.below.mono HB.out.size)).setCell (Nat.le_refl _) _⟩
              case measure => simp [intOf]
            · gi_wp2_with (refine ⟨trivial, ?_⟩; gi_at_call 73; refine (CallsIn.inRound l (callsIn_wide.2 (A2.out _))).mono ?_; rintro e' wx ⟨rfl, hx'⟩; have x0 := (HD.out.grow hx').c1; have x1 := (HD.out.grow hx').f1)
              go_roundw
              case rel => exact ⟨2, by omega, rfl, (HD.out.grow hx').set (by omega), (HB.out.trans (hx'.below.mono HB.out.size)).setCell (Nat.le_refl _) _⟩
              case measure => simp [intOf]
            · gi_wp2_with (refine ⟨trivial, ?_⟩; gi_at_call 73; refine (CallsIn.inRound l (callsIn_wide.2 (A3.out _))).mono ?_; rintro e' wx ⟨rfl, hx'⟩; have x0 := (HD.out.grow hx').c2; have x1 := (HD.out.grow hx').f2)
              go_roundw
              case rel => exact ⟨3, by omega, rfl, (HD.out.grow hx').set (by omega), (HB.out.trans (hx'.below.mono HB.out.size)).setCell (Nat.le_refl _) _⟩
              case measure => simp [intOf]
            · gi_wp2_with (refine ⟨trivial, ?_⟩; gi_at_call 73; refine (CallsIn.inRound l (callsIn_wide.2 (A4.out _))).mono ?_; rintro e' wx ⟨rfl, hx'⟩; have x0 := (HD.out.grow hx').c3; have x1 := (HD.out.grow hx').f3)
              go_roundw
              case rel => exact ⟨4, by omega, rfl, (HD.out.grow hx').set (by omega), (HB.out.trans (hx'.below.mono HB.out.size)).setCell (Nat.le_refl _) _⟩
              case measure => simp [intOf]
    have hnb : (e.name == upperL s) = false := beq_eq_false_iff_ne.2 hn
    have hmx : Tryz.prog.follows .mixedOrders = true := by kernel_rfl
    gi_region_with_o (refine ⟨trivial, ?_⟩; gi_at_call 53; refine (CallsIn.inRound l (callsIn_wide.2 (UP.out _))).mono ?_; rintro e' w' ⟨rfl, hg'⟩; have q0 : w'.cell? ⟨W.heap.size, 0, none⟩ = some (.string (S e.name)) := (G.cell hg' (p := ⟨W.heap.size, 0, none⟩) hl5).trans a0; have q1 : w'.cell? ⟨w.heap.size, 0, none⟩ = some (.string (S s)) := (G.cell hg' (p := ⟨w.heap.size, 0, none⟩) hl6).trans o0)
    all_goals gi_wp2
    all_goals
      have hG : Below W.heap.size W w' := gW5.drew.trans (Below.mono hg'.below (Nat.le_of_lt hl5))
      exact ⟨keepsFrom_below hG, kpSeq_below hG (by omega) (by omega) (by omega), ⟨ho.below hG (by omega), fun e' he' hm => (List.mem_append.1 hm).elim (hne e' he') (fun h => by rw [text_name he he' (by simpa using h)]; exact hn), Nat.le_trans hsz hG.size⟩, hB.trans (hG.mono hB.size)⟩
  case done =>
    rintro D W hD ⟨⟨ho, hne, hsz⟩, hB⟩ hK
    have d1 := ho.r0
    have d2 := ho.r1
    have d3 := ho.r2
    have d4 := ho.r3
    have d5 := ho.er
    have y1 := ho.f0
    have y2 := ho.f1
    have y3 := ho.f2
    have y4 := ho.f3
    have y5 := ho.fe
    gi_wp2
    have ho3 := ho.put 8 0 0 0
    have hB3 := ((((hB.setCell (p := ⟨w.heap.size + 1, 0, none⟩) (by simp) (.int .i64 8)).setCell (p := ⟨w.heap.size + 1, 1, none⟩) (by simp) (.int .i64 0)).setCell (p := ⟨w.heap.size + 1, 2, none⟩) (by simp) (.int .i64 0)).setCell (p := ⟨w.heap.size + 1, 3, none⟩) (by simp) (.int .i64 0)).setCell (p := ⟨w.heap.size + 2, 0, none⟩) (by simp) .nilIface
    have hK3 := (((((KeepsOthers.setCell W ⟨w.heap.size + 1, 0, none⟩ (.int .i64 8)).trans (KeepsOthers.setCell _ ⟨w.heap.size + 1, 1, none⟩ (.int .i64 0))).trans (KeepsOthers.setCell _ ⟨w.heap.size + 1, 2, none⟩ (.int .i64 0))).trans (KeepsOthers.setCell _ ⟨w.heap.size + 1, 3, none⟩ (.int .i64 0))).trans (KeepsOthers.setCell _ ⟨w.heap.size + 2, 0, none⟩ .nilIface)).same D _ hK rfl
    have hr : ruleOf (tabT 3) (upperL s) = (8, 0, 0, 0) := by
      unfold ruleOf
      rw [List.find?_eq_none.2 (fun e he => by
        have := hne e he (by rw [← e1]; exact List.mem_map_of_mem he)
        simp [this])]
    rw [hr]
    generalize hW3 : World.setCell _ _ Value.nilIface = W3 at ho3 hB3 hK3 ⊢
    refine ⟨by simp, .inl ⟨_, _, rfl, run_takeDeferred hK3, ?_⟩⟩
    have ho2 := OfAt.own _ _ _ [] W3 _ (some D) ho3 (grownBy_putObj' _ D (.deferred none)) (fun r e => by cases e; exact ⟨_, hK3, rfl⟩)
    have d1 := ho2.r0
    have d2 := ho2.r1
    have d3 := ho2.r2
    have d4 := ho2.r3
    have d5 := ho2.er
    refine ⟨_, ?_, rfl, hB3.trans (belowK_b (w := w) (Nat.le_refl _) W3 D _ _ (by omega) hK3 rfl rfl)⟩
    simp [results, Tryz.f35, go_sem, d1, d2, d3, d4, d5]
  case stop =>
    rintro D c pre W hD hpre ⟨⟨ho, rfl⟩, hB⟩ hK
    gi_wp2
    refine ⟨by simp, .inl ⟨_, _, rfl, run_takeDeferred hK, ?_⟩⟩
    have ho2 := OfAt.own _ _ _ [] W _ (some D) ho (grownBy_putObj' _ D (.deferred none)) (fun r e => by cases e; exact ⟨_, hK, rfl⟩)
    have d1 := ho2.r0
    have d2 := ho2.r1
    have d3 := ho2.r2
    have d4 := ho2.r3
    have d5 := ho2.er
    refine ⟨_, ?_, rfl, hB.trans (belowK_b (w := w) (Nat.le_refl _) W D _ _ (by omega) hK rfl rfl)⟩
    simp [results, Tryz.f35, go_sem, d1, d2, d3, d4, d5]
end Go.Proofs.YtfadckackdmbnaaGreatDoor

namespace Go.Proofs.YtfadckackdmbnaaGreatDoor
open Go.RowKit
set_option linter.unusedVariables false
set_option linter.unusedSimpArgs false
theorem upper_upper (l : List UInt8) : upperL (upperL l) = upperL l := by
  unfold upperL
  rw [List.map_map]
  exact List.map_congr_left fun c _ => of_decide_eq_true (byte_all (fun c => decide ((turn1 97 122 (-32) ∘ turn1 97 122 (-32)) c = turn1 97 122 (-32) c)) (by decide +kernel) c)
end Go.Proofs.YtfadckackdmbnaaGreatDoor

namespace Go.Proofs.YtfadckackdmbnaaGreatDoor
open Go.RowKit Go.Shelf
attribute [local go_sem] Oper.semAt_some
set_option linter.unusedVariables false
set_option linter.unusedSimpArgs false
set_option maxRecDepth 100000 in
set_option maxHeartbeats 4000000 in
theorem names_in3 (w : World) (hm : HasM w) :
    CallsIn Fence.wide 6 Tryz.prog 51 #[.int .i64 3] w fun e w' => ∃ v, e = .returned (.tuple #[v, .nilIface]) ∧ w'.ownsRow w.heap.size 9 1 v (tabT 3).length ((tabT 3).map fun e => .string (S e.name)) ∧ Below w.heap.size w w' := by
  have tb := fun W => table_any 3 W
  have TB := hid tb
  clear tb
  obtain ⟨i0, hi, hz0, hz1, hz2⟩ := info_parts infoNames
  refine callsIn_of_wp_marks Tryz.func51 rfl trivial ?_ rfl
  simp only [Tryz.ntmps51, List.size_toArray, List.length_cons, List.length_nil, Nat.reduceAdd, Nat.reduceSub, Array.replicate_succ, Array.replicate_zero, List.push_toArray, List.append_toArray, List.nil_append, List.cons_append]
  gi_wp2_with (first | (refine ⟨trivial, ?_⟩; gi_at_call 71; refine (callsIn_wide.2 (TB.out _)).mono ?_; rintro e w' ⟨rfl, rfl⟩) | (refine ⟨trivial, ?_⟩; gi_at_call 70; refine (callsIn_wide.2 (SplitSeq_any _ _ _)).mono ?_; rintro e w' ⟨rfl, rfl⟩))
  obtain ⟨p, ps, e1, e2, e3, e4⟩ := tab_facts 3
  rw [e2]
  have bO := Boxed.new w 23 (.slice none 0 0)
  generalize hW0 : World.alloc _ (Obj.cells #[Value.int IntKind.i64 0] 3) = W0
  have z0 : W0.heap.size = w.heap.size + 4 := by rw [← hW0]; simp
  have c2 : W0.cell? ⟨w.heap.size + 1, 0, none⟩ = some (.string (S (joinS [124] p ps))) := by rw [← hW0]; simp [go_sem]
  have c3 : W0.cell? ⟨w.heap.size + 2, 0, none⟩ = some (.string (S [124])) := by rw [← hW0]; simp [go_sem]
  have c4 : W0.cell? ⟨w.heap.size + 3, 0, none⟩ = some (.int .i64 0) := by rw [← hW0]; simp [go_sem]
  have f2 : W0.frozen? ⟨w.heap.size + 1, 0, none⟩ = false := by rw [← hW0]; simp [go_sem]
  have hbx : Boxed W0 w.heap.size 23 (.slice none 0 0) := by rw [← hW0]; exact ((bO.alloc _).alloc _).alloc _
  have hB0 : Below w.heap.size w W0 := by rw [← hW0]; repeat (first | exact Below.refl _ _ | (refine Below.alloc ?_ (by simp; try omega) _))
  clear hW0 bO
  refine wpIn_rangeFunc_ownAt (B := w.heap.size + 1) (by omega) rfl (by decide) (gf := 162) (lb := #[.pointer (some ⟨w.heap.size + 2, 0, none⟩), .pointer (some ⟨w.heap.size + 1, 0, none⟩), .pointer (some ⟨w.heap.size + 3, 0, none⟩)]) rfl trivial (enters_of Tryz.func162 (by kernel_rfl) rfl)
    (seq_stops 5 (w.heap.size + 2) (w.heap.size + 1) (w.heap.size + 3) (by omega) (by omega) (by omega) p ps e3 e4 W0 (by omega) (by omega) (by omega) c3 c2 c4 f2) kpSeq_t
    (fun W l o o' hl hW ho hw => kpSeq_below (belowK_b (w := W0) (Nat.le_refl _) W l o o' hl hW ho hw) (by omega) (by omega) (by omega)) (Below.refl _ _) (fun _ => rfl)
    (fun pre W => ((∃ v, Boxed W w.heap.size 23 v ∧ W.ownsRow W0.heap.size 9 1 v pre.length (pre.map fun x => .string (S (nameOf x))) ∧ True) ∧ W0.heap.size ≤ W.heap.size) ∧ Below w.heap.size w W)
    (fun _ _ _ => False)
    (OwnFrom.and (OwnFrom.and (Own.from (holdsRow_own W0.heap.size w.heap.size 23 9 1 (fun (pre : List (List UInt8)) => pre.length) (fun pre => pre.map fun x => .string (S (nameOf x))) (fun _ _ => True)) _) (fun x A B row hs hg hr => Nat.le_trans hs hg.size)) (ownFrom_below (Nat.le_refl _) (by omega)))
    (fun x W v hs => by
      obtain ⟨⟨⟨u, hb, hr, _⟩, hsz⟩, hB⟩ := hs
      refine ⟨⟨⟨u, hb.kept (grownBy_setCell' W _ v) (by simp), hr.kept (grownBy_setCell' W _ v) ?_, trivial⟩, Nat.le_trans hsz (by simp)⟩, hB.setCell (p := ⟨w.heap.size + 1, 0, none⟩) (by simp) _⟩
      rcases hr.2 with ⟨rfl, _⟩ | ⟨g, cap, cur, rfl, hg, _⟩
      · exact .inl rfl
      · exact .inr (by simp [Value.ownBlock]; omega))
    (fun c x A B row hs _ _ => hs.elim)
    ⟨⟨⟨_, hbx, World.ownsRow_nil _ _ _ _, trivial⟩, Nat.le_refl _⟩, hB0⟩
    (fun x => { tmps := #[.int .i64 3, undef, .slice none 0 0, .nilIface, .pointer (some ⟨w.heap.size, 0, none⟩), .string (S x), undef, undef, undef, .int .i64 3, .bool false, .bool false, undef, undef, .bool false, undef, .int .i64 3, .string (S (joinS [124] p ps)), .func (.func 162) #[] #[.pointer (some ⟨w.heap.size + 2, 0, none⟩), .pointer (some ⟨w.heap.size + 1, 0, none⟩), .pointer (some ⟨w.heap.size + 3, 0, none⟩)], .string (S x), undef, undef, undef, undef, undef, undef, undef, undef, undef, undef, undef], defers := [] })
    ?assign ?body ?done ?stop
  case assign =>
    intro l x W K hK
    gi_wp2
    exact hK
  case body =>
    rintro l pre x W ⟨⟨⟨v, hv, hrow, _⟩, hsz⟩, hB⟩ hpre
    have hx : x ∈ (tabT 3).map Ent.text := by rw [e1]; exact hpre.subset (by simp)
    have hpl : pre.length ≤ 100 := by
      have h1 := hpre.length_le
      have h2 : (p :: ps).length ≤ 100 := by rw [← e1, List.length_map]; exact tab_len 3
      simp only [List.length_append] at h1
      omega
    have hxl : x.length ≤ 1000 := by
      obtain ⟨e, he, rfl⟩ := List.mem_map.1 hx
      have := (ent_fields 3 e he).2.2.2.2.2.1
      omega
    have cu := stringsCut_any x [32] W (hm.grow hB) (by omega)
    obtain ⟨ca, hca⟩ : ∃ y, y = (Lib.cut x [32]).1 := ⟨_, rfl⟩
    obtain ⟨cb, hcb⟩ : ∃ y, y = (Lib.cut x [32]).2.1 := ⟨_, rfl⟩
    obtain ⟨ct, hct⟩ : ∃ y, y = (Lib.cut x [32]).2.2 := ⟨_, rfl⟩
    rw [← hca, ← hcb, ← hct] at cu
    have hno : nameOf x = ca := hca.symm
    have CU := hid cu
    have hc := hv.cell
    have HV := hid hv
    have HROW := hid hrow
    clear cu hca hcb hct hx hv hrow hpre
    gi_wp2_with (first
      | (refine ⟨trivial, ?_⟩; gi_at_call 61; refine (CallsIn.inRound l (callsIn_wide.2 CU.out)).mono ?_; rintro e' w' ⟨rfl, hg'⟩; have hc1 := (boxed_below HV.out hg'.below).cell; have HG := hid hg'; have hgs := hg'.size; clear hg' hc)
      | (gi_at_builtin; refine wpListIn_append_own _ rfl _ _ 23 rfl W0.heap.size 9 i0 (.string ⟨#[]⟩) 1 16 Tryz.underlying23 hi hz0 hz1 hz2 rfl (by decide) _ _ _ rfl ((ownsRow_below HROW.out HG.out.below).alloc _) ⟨w'.heap.size, 0, none⟩ 1 1 [.string (S ca)] rfl rfl (cell_one_new _ _ _) (by intro u hu; rw [List.mem_singleton.1 hu]; rfl) (by unfold maxLen; omega) (by omega) (by simp; omega) ?_; intro v' w1 hown' hgrow _; obtain ⟨g', cap', rfl⟩ := ownsRow_succ hown'; obtain ⟨hv1, hv2, hr2, hk2, hb2⟩ := (boxed_below HV.out HG.out.below).appended (by decide) (rowMono (ownsRow_below HROW.out HG.out.below) (show w.heap.size ≤ W0.heap.size by omega)) (by omega) (Nat.le_refl _) (rowMono hown' (show w.heap.size ≤ W0.heap.size by omega)) hgrow; have hc2 := hv1.cell; have hf2 := hv1.frozen; have HOWN := hid hown'; have HGR := hid hgrow; have HB2 := hid hb2; have HK2 := hid hk2; have HV2 := hid hv2; have HV1 := hid hv1; clear hown' hgrow hb2 hk2 hv2 hr2 hv1))
    have hw1 : Below W0.heap.size w' w1 := below_grown (ownsRow_below HROW.out HG.out.below) (Nat.le_trans hsz hgs) HGR.out
    have hkp : KpSeq (w.heap.size + 2) (w.heap.size + 1) (w.heap.size + 3) W w1 := kpSeq_below ((HG.out.below.mono hsz).trans hw1) (by omega) (by omega) (by omega)
    have hrow3 := HOWN.out.kept (grownBy_setCell' w1 w.heap.size (.slice (some ⟨g', 0, none⟩) (pre.length + 1) cap')) (.inr (HV1.out.not_row (by decide) HOWN.out).symm)
    have hz3 := HB2.out.size
    refine ⟨(keepsFrom_below HG.out.below).trans (HK2.out.from _), kpSeq_t hkp (kpSeq_set _ (by omega) (by omega) (by omega)), ⟨⟨_, HV2.out, ?_, trivial⟩, Nat.le_trans (Nat.le_trans hsz hgs) hz3⟩, hB.trans ((HG.out.below.mono hB.size).trans HB2.out)⟩
    rw [List.length_append, List.map_append, List.map_cons, List.map_nil, hno]
    exact hrow3
  case done =>
    rintro D W hD ⟨⟨⟨v, hv, hrow, _⟩, hsz⟩, hB⟩ hK
    have hc := hv.cell
    gi_wp2
    refine ⟨by simp, .inl ⟨_, _, rfl, run_takeDeferred hK, ?_⟩⟩
    have hl : (tabT 3).length = (p :: ps).length := by rw [← e1, List.length_map]
    have hm2 : ((tabT 3).map fun e => Value.string (S e.name)) = (p :: ps).map fun x => .string (S (nameOf x)) := by
      rw [← e1, List.map_map]
      have := congrArg (List.map fun l => Value.string (S l)) (nameOf_text 3)
      simp only [List.map_map] at this
      exact this.symm
    refine ⟨_, results_tmp2 rfl _ _ _, v, rfl, ?_, hB.trans (belowK_b (w := w) (Nat.le_refl _) W D _ _ (by omega) hK rfl rfl)⟩
    rw [hl, hm2]
    exact ownsRow_putObj (rowMono hrow (show w.heap.size ≤ W0.heap.size by omega)) _ hK rfl
  case stop =>
    rintro D c pre W _ _ h _
    exact h.elim
end Go.Proofs.YtfadckackdmbnaaGreatDoor
