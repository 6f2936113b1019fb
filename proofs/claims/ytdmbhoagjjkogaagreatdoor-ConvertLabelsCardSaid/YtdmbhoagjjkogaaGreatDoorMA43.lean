/-
  Texts merged into one: UrisPlain, LabelsPlain, CardRow, DoorW, DoorR, DoorE, DoorRE.
-/
import Derived.Test.YtdmbhoagjjkogaaGreatDoorMA42
import Derived.Test.YtdmbhoagjjkogaaGreatDoorConvOld
import Derived.Test.YtdmbhoagjjkogaaGreatDoorMA49
import Derived.Test.YtdmbhoagjjkogaaGreatDoorRows
import Derived.ChangeSame
import Derived.ChangeVars
import Derived.JoinedOf
import Derived.RowKit
import Derived.RowKitTokens
import Derived.LaidLaws
import Derived.LaidHandle
import Derived.Stop.Joined
import Derived.Lib.LaidU8
import Derived.Test.YtdmbhoagjjkogaaGreatDoorMRules
import Derived.Test.YtdmbhoagjjkogaaGreatDoorMTell
namespace Go.Proofs.YtdmbhoagjjkogaaGreatDoor
open Go.RowKit
set_option linter.unusedVariables false
set_option linter.unusedSimpArgs false
theorem ann_one : oneX annFN = (annFN, true) ∧ oneX annN = (annN, true) := by
  constructor <;> kernel_rfl
end Go.Proofs.YtdmbhoagjjkogaaGreatDoor

namespace Go.Proofs.YtdmbhoagjjkogaaGreatDoor
open Go.RowKit
set_option linter.unusedVariables false
set_option linter.unusedSimpArgs false
def adrV : Vl := ⟨3, [], [[[]], [[]], [[97]], [[]], [[]], [[]], [[]]], St0, 0⟩
def adrI (ps : List Pm) : It := ⟨[], nADR, ps, adrV⟩
def lblI (s : List UInt8) : It := ⟨[], nLABEL, [], tV 1 s⟩
def lblY (s : List UInt8) : It := ⟨[], 88 :: 45 :: nLABEL, [], tV 8 (escL s)⟩
def labXs (s t : List UInt8) : List It := annXs ++ [adrI [], lblI s, lblI t]
def labMs (s t : List UInt8) : List It := annXs ++ [adrI [(nLABEL, [s])], lblI t]
def labYs (s t : List UInt8) : List It := annXs ++ [adrI [(nLABEL, [s])], lblY t]
theorem lab_labels (s t : List UInt8) : labelsX (labXs s t) = labMs s t := by
  rfl
theorem lab_prefers (s : List UInt8) : prefersL (adrI [(nLABEL, [s])]).ps = [(nLABEL, [s])] := by
  rfl
theorem lab_one1 (s : List UInt8) : oneX (adrI [(nLABEL, [s])]) = (adrI [(nLABEL, [s])], true) := by
  rw [oneX_plain (by show plainN (upperL nADR) = true; decide +kernel), lab_prefers]; rfl
theorem lab_one2 (t : List UInt8) : oneX (lblI t) = (lblY t, true) := by
  rw [oneX_old (by show otherN (upperL nLABEL) = true; decide +kernel)]
  rfl
theorem txt_enc (c : UInt8) (h : txtP true c = true) : ∀ b ∈ rep1 caretF c, txtP false b = true ∧ b ≠ 34 := by
  have key := byte_all (fun c => decide (txtP true c = true → ∀ b ∈ rep1 caretF c, txtP false b = true ∧ b ≠ 34)) (by decide +kernel) c
  exact (of_decide_eq_true key) h
theorem holds_encL {s : List UInt8} (h : holdsB s true = true) : holdsP true s = true := by
  obtain ⟨h1, h2⟩ := holds_iff.1 h
  have key : ∀ b ∈ encL s, txtP false b = true ∧ b ≠ 34 := by
    intro b hb
    obtain ⟨c, hc, hb⟩ := List.mem_flatMap.1 hb
    exact txt_enc c (h1 c hc) b hb
  unfold holdsP
  rw [show encV true s = encL s from rfl, Bool.and_eq_true]
  refine ⟨holds_iff.2 ⟨fun b hb => (key b hb).1, bad_encL s h2⟩, ?_⟩
  rw [Bool.not_eq_true', List.contains_eq_mem]
  exact decide_eq_false (fun hm => (key 34 hm).2 rfl)
theorem lab_holds {s t : List UInt8} (h : rightC 3 (labXs s t) = true) : holdsB s true = true ∧ holdsB t true = true := by
  have h1 := (one_iff.1 ((rightC_iff.1 h).2.2.1 (lblI s) (by simp [labXs]))).2.2.2.2.1
  have h2 := (one_iff.1 ((rightC_iff.1 h).2.2.1 (lblI t) (by simp [labXs]))).2.2.2.2.1
  exact ⟨ok_text.symm.trans h1, ok_text.symm.trans h2⟩
theorem lab_right4 {s t : List UInt8} (hl : s.length + t.length ≤ 400) (hs : holdsB s true = true) (ht : holdsB t true = true) : rightC 4 (labYs s t) = true := by
  have he := escL_le t
  refine rightC_iff.2 ⟨.inr rfl, (by show (4 : Nat) ≤ 60; omega), fun x hx => ?_, ?_, ?_⟩
  · simp only [labYs, annXs, List.mem_append, List.mem_cons, List.mem_nil_iff, or_false] at hx
    rcases hx with (rfl | rfl) | rfl | rfl
    · decide +kernel
    · decide +kernel
    · have hv : holdsP true s = true := holds_encL hs
      have hw := (enc_len s).2
      have h1 : parsB (adrI [(nLABEL, [s])]).ps = true := by
        show ((List.range 1).all fun i => parE [(nLABEL, [s])] i == 0) = true
        simp only [List.range_succ, List.range_zero, List.nil_append, List.all_cons, List.all_nil, Bool.and_true, beq_iff_eq]
        rfl
      refine one_iff.2 ⟨?_, (by show framesB nADR = false; decide +kernel), h1, rfl, (by show adrV.ok = true; decide +kernel), (by show ¬ (adrV.ty = 3 ∧ 0 < (ruleX 4 nADR).2.2.2 ∧ (adrV.ps.length : Int) ≠ (ruleX 4 nADR).2.2.2); decide +kernel), ?_⟩
      · show (isNameL nADR && true && true && (pmR true (nLABEL, [s]) && true)) = true
        unfold pmR
        have e1 : isNameL nADR = true := by decide +kernel
        have e2 : isNameL nLABEL = true := by decide +kernel
        simp only [List.all_cons, List.all_nil, Bool.and_true, hv, e1, e2]
        rfl
      · show (printW true (lnX (adrI [(nLABEL, [s])]) adrV.text)).length ≤ 1500
        unfold printW headW
        simp only [lnX, adrI, List.flatMap_cons, List.flatMap_nil, List.append_nil, pmW, valsW]
        have hq : (valW true s).length ≤ 2 * s.length + 2 := by
          unfold valW
          rw [show encV true s = encL s from rfl]
          split
          · simp only [List.length_cons, List.length_append, List.length_nil]; omega
          · omega
        have ha : adrV.text.length ≤ 100 := by decide +kernel
        simp only [List.length_append, List.length_cons, List.length_nil, if_true]
        have hn : nADR.length = 3 := rfl
        have hl2 : nLABEL.length = 5 := rfl
        simp only [hn, hl2]
        show _ ≤ 1500
        simp
        omega
    · refine one_bare ?_ ?_ ?_ ?_ (fun q => by cases q.1) ?_
      · decide +kernel
      · decide +kernel
      · show (ruleX 4 (88 :: 45 :: nLABEL)).1 = 8
        decide +kernel
      · rw [ok_other]; exact holds_escL ht
      · show (88 :: 45 :: nLABEL).length + 1 + (escL t).length ≤ 1500
        simp only [List.length_cons]
        show nLABEL.length + 1 + 1 + 1 + (escL t).length ≤ 1500
        have : nLABEL.length = 5 := rfl
        omega
  · show mostN 4 [annFN.n, annN.n, nADR, 88 :: 45 :: nLABEL] = true
    decide +kernel
  · show leastN 4 [annFN.n, annN.n, nADR, 88 :: 45 :: nLABEL] = true
    decide +kernel
theorem lab_up {s t : List UInt8} (hl : s.length + t.length ≤ 400) (h3 : rightC 3 (labXs s t) = true) : upX (labXs s t) = some (labYs s t) := by
  obtain ⟨hs, ht⟩ := lab_holds h3
  have hm : (labMs s t).map (fun x => (oneX x).1) = labYs s t := by
    show [(oneX annFN).1, (oneX annN).1, (oneX (adrI [(nLABEL, [s])])).1, (oneX (lblI t)).1] = _
    rw [ann_one.1, ann_one.2, lab_one1, lab_one2]; rfl
  have ha : (labMs s t).all (fun x => (oneX x).2) = true := by
    show ((oneX annFN).2 && ((oneX annN).2 && ((oneX (adrI [(nLABEL, [s])])).2 && ((oneX (lblI t)).2 && true)))) = true
    rw [ann_one.1, ann_one.2, lab_one1, lab_one2]; rfl
  unfold upX
  rw [if_pos h3, lab_labels, if_pos ha, hm, if_pos (lab_right4 hl hs ht)]
theorem lab_all {P : It → Prop} {x y z : It} (h1 : P annFN) (h2 : P annN) (h3 : P x) (h4 : P y) (h5 : P z) : ∀ i ∈ annXs ++ [x, y, z], P i := by
  intro i hi
  simp only [annXs, List.mem_append, List.mem_cons, List.mem_nil_iff, or_false] at hi
  rcases hi with (rfl | rfl) | rfl | rfl | rfl <;> assumption
theorem lab_all2 {P : It → Prop} {x y : It} (h1 : P annFN) (h2 : P annN) (h3 : P x) (h4 : P y) : ∀ i ∈ annXs ++ [x, y], P i := by
  intro i hi
  simp only [annXs, List.mem_append, List.mem_cons, List.mem_nil_iff, or_false] at hi
  rcases hi with (rfl | rfl) | rfl | rfl <;> assumption
theorem sml_adr {ps : List Pm} (h : wideN ps ≤ 9000) : Sml (adrI ps) := ⟨by show 0 + nADR.length + wideN ps ≤ 10000; have : nADR.length = 3 := rfl; omega, by show ([] : List UInt8).length ≤ 4900; decide, by show sumP adrV.ps ≤ 4900; decide +kernel⟩
theorem sml_lbl {s : List UInt8} (h : s.length ≤ 400) : Sml (lblI s) ∧ Sml (lblY s) := by
  have he := escL_le s
  have hw : wideN [] = 0 := rfl
  have hn : nLABEL.length = 5 := rfl
  exact ⟨⟨by show 0 + nLABEL.length + wideN [] ≤ 10000; omega, by show s.length ≤ 4900; omega, by show sumP [] ≤ 4900; decide⟩, ⟨by show 0 + (88 :: 45 :: nLABEL).length + wideN [] ≤ 10000; simp only [List.length_cons]; omega, by show (escL s).length ≤ 4900; omega, by show sumP [] ≤ 4900; decide⟩⟩
theorem lab_smls {s t : List UInt8} (hl : s.length + t.length ≤ 400) : (∀ x ∈ labXs s t, Sml x) ∧ (∀ x ∈ labMs s t, Sml x) ∧ (∀ x ∈ labMs s t, Sml ⟨x.g, x.n, prefersL x.ps, x.v⟩) ∧ (∀ x ∈ labMs s t, ∀ p ∈ prefersL x.ps, p.2 ≠ []) ∧ (∀ x ∈ labMs s t, Sml (oneX x).1) := by
  have hw : wideN [(nLABEL, [s])] ≤ 9000 := by unfold wideN lensP; simp [nLABEL]; omega
  have a1 : Sml annFN := ⟨by decide, by decide, by decide⟩
  have a2 : Sml annN := ⟨by decide, by decide, by decide⟩
  have hadr := sml_adr hw
  obtain ⟨l1, l2⟩ := sml_lbl (s := s) (by omega)
  obtain ⟨m1, m2⟩ := sml_lbl (s := t) (by omega)
  refine ⟨lab_all a1 a2 (sml_adr (by decide)) l1 m1, lab_all2 a1 a2 hadr m1, lab_all2 ?_ ?_ ?_ ?_, lab_all2 ?_ ?_ ?_ ?_, lab_all2 ?_ ?_ ?_ ?_⟩
  · exact ⟨by decide +kernel, by decide, by decide⟩
  · exact ⟨by decide +kernel, by decide, by decide⟩
  · exact hadr
  · exact m1
  · decide +kernel
  · decide +kernel
  · intro p hp
    rw [lab_prefers] at hp
    rw [List.mem_singleton.1 hp]
    simp
  · intro p hp
    rw [show prefersL (lblI t).ps = [] from rfl] at hp
    cases hp
  · exact ⟨by decide +kernel, by decide +kernel, by decide +kernel⟩
  · exact ⟨by decide +kernel, by decide +kernel, by decide +kernel⟩
  · rw [lab_one1]; exact hadr
  · rw [lab_one2]; exact m2
end Go.Proofs.YtdmbhoagjjkogaaGreatDoor

namespace Go.Proofs.YtdmbhoagjjkogaaGreatDoor
open Go.RowKit
set_option linter.unusedVariables false
set_option linter.unusedSimpArgs false
def FreeR (hs : Nat) (W : World) (v : Value) (xs : List It) : Prop :=
  ∃ cs, (Lies W v xs.length cs ∧ ItRow W xs cs) ∧ ∀ Y, hs ≤ Y → IsZc W Y → Lies (Wo Y W) v xs.length cs ∧ ItRow (Wo Y W) xs cs
theorem FreeR.grow {hs : Nat} {W W' : World} {v : Value} {xs : List It} (h : FreeR hs W v xs) (g : G W W') : FreeR hs W' v xs := by
  obtain ⟨cs, ⟨h1, h2⟩, h3⟩ := h
  refine ⟨cs, ⟨h1.grow g, h2.grow g⟩, fun Y hY hz => ?_⟩
  by_cases hl : Y < W.heap.size
  · obtain ⟨a, b⟩ := h3 Y hY (hz.back g hl)
    exact ⟨a.grow (Wo.g g), b.grow (Wo.g g)⟩
  · exact ⟨h1.grow (Wo.of g (by omega)), h2.grow (Wo.of g (by omega))⟩
theorem FreeR.free {hs : Nat} {W : World} {v : Value} {xs : List It} (h : FreeR hs W v xs) : ItFree hs W v xs := by
  obtain ⟨cs, ⟨h1, h2⟩, h3⟩ := h
  exact ⟨Lies.items h1 h2, fun Y hY hz => Lies.items (h3 Y hY hz).1 (h3 Y hY hz).2⟩
theorem AnnAt.freeR {m hs : Nat} {W : World} (h : AnnAt m W) : FreeR hs W (.slice (some ⟨m + 7, 0, none⟩) 2 2) annXs :=
  ⟨annCs m, ⟨h.lies, h.row⟩, fun Y hY hz => by
    have ha : AnnAt m (Wo Y W) := h.wl (L := [Y]) (fun X hX => by rw [List.mem_singleton.1 hX]; exact h.zc hz)
    exact ⟨ha.lies, ha.row⟩⟩
theorem withMore_any (ver : Int) (a : Addr) (c : Nat) (xs : List It) (x : It) (pv lv : Value) (hs : Nat) (w : World) (h : FreeR hs w (.slice (some a) xs.length c) xs) (hl : xs.length ≤ 1000) (hok : ItOk w x pv lv) (hok2 : ∀ Y, hs ≤ Y → IsZc w Y → ItOk (Wo Y w) x pv lv) :
    Makes 9 #[cardV ver (.slice (some a) xs.length c), x.val pv lv] w (fun v w' => ∃ a' c', v = cardV ver (.slice (some a') (xs.length + 1) c') ∧ FreeR hs w' (.slice (some a') (xs ++ [x]).length c') (xs ++ [x])) := by
  obtain ⟨cs, ⟨h1, h2⟩, h3⟩ := h
  refine (with_any ver (.slice (some a) xs.length c) xs.length cs x pv lv w h1 (.inr ⟨_, _, _, rfl⟩) hok (by omega)).mono ?_
  rintro v w3 g3 ⟨u, rfl, how⟩
  have hr : ItRow w (xs ++ [x]) (cs ++ x.cells pv lv) := h2.append (ItRow.single hok)
  have hlen : (xs ++ [x]).length = xs.length + 1 := by simp
  have hi := OwnR.lies how (hr.grow g3).one
  have hf : ∀ Y, hs ≤ Y → IsZc w3 Y → Lies (Wo Y w3) u (xs ++ [x]).length (cs ++ x.cells pv lv) ∧ ItRow (Wo Y w3) (xs ++ [x]) (cs ++ x.cells pv lv) := by
    intro Y hY hz
    have hr3 : ItRow (Wo Y w3) (xs ++ [x]) (cs ++ x.cells pv lv) := by
      by_cases hl : Y < w.heap.size
      · have hz1 := hz.back g3 hl
        exact ((h3 Y hY hz1).2.append (ItRow.single (hok2 Y hY hz1))).grow (Wo.g g3)
      · exact hr.grow (Wo.of g3 (by omega))
    rw [hlen]
    exact ⟨OwnR.lies (own_zc how hz (by decide)) hr3.one, hr3⟩
  obtain ⟨g', cap', rfl⟩ := own_succ how
  exact ⟨_, _, rfl, cs ++ x.cells pv lv, by rw [hlen]; exact ⟨hi, hr.grow g3⟩, by rw [← hlen] at hf; exact hf⟩
end Go.Proofs.YtdmbhoagjjkogaaGreatDoor

namespace Go.Proofs.YtdmbhoagjjkogaaGreatDoor
open Go.ChangeShapes Go.WideShapes Go.RowKit
set_option linter.unusedVariables false
def putCells (h : Array Obj) (g : Nat) (cs : Array Value) : Array Obj := h.modify g fun
  | .cells _ t frozen => .cells cs t frozen
  | o => o
def tabCells : DataW Unit → Array Value
  | .agg l => (l.map fun
    | .lit (.int k z) => Value.int k z
    | _ => undef).toArray
  | _ => #[]
/-! Places apart, reckoned with numbers (a list of hundreds of places is too much for 'decide' on places themselves). -/
def placeN : MemPlace → Nat
  | .cell b o => Nat.add (Nat.mul b 4096) (Nat.add o 1)
  | .map _ => 0
def freshN : List Nat → Bool
  | [] => true
  | x :: l => (l.all fun y => !(Nat.beq x y)) && freshN l
theorem freshN_nodup : ∀ l : List Nat, freshN l = true → l.Nodup
  | [], _ => List.nodup_nil
  | x :: l, h => by
    simp only [freshN, Bool.and_eq_true, List.all_eq_true] at h
    refine List.nodup_cons.2 ⟨fun hx => ?_, freshN_nodup l h.2⟩
    have := h.1 x hx
    simp at this
theorem nodup_of_fresh (ps : List MemPlace) (h : freshN (ps.map placeN) = true) : ps.Nodup := by
  have h3 := freshN_nodup _ h
  clear h
  induction ps with
  | nil => exact List.nodup_nil
  | cons a ps ih =>
    rw [List.map_cons, List.nodup_cons] at h3
    refine List.nodup_cons.2 ⟨fun ha => h3.1 (List.mem_map_of_mem ha), ih h3.2⟩
theorem laidMet_of_fresh {P : Program} {w : World} {l : List (String × DataW Unit)} (fuel : Nat) (h : (DataW.laidRun P w fuel (l.map (·.1))).map (·.1) = some l)
    (hf : (DataW.laidRun P w fuel (l.map (·.1))).map (fun x => freshN (x.2.map placeN)) = some true)
    (hr : (DataW.laidRun P w fuel (l.map (·.1))).map (fun x => laidRowsB P w x.2) = some true) : laidMet P l w := by
  cases hx : DataW.laidRun P w fuel (l.map (·.1)) with
  | none => simp [hx] at h
  | some x =>
    obtain ⟨l', ps⟩ := x
    simp only [hx, Option.map_some, Option.some.injEq] at h hf hr
    subst h
    exact laidMet_of_run fuel hx (decide_eq_true (nodup_of_fresh ps hf)) hr
noncomputable def heldWorld (os : Os) : World :=
  let N := 17
  let bs : Array Obj := #[]
  let wN := N + bs.size
  let bs := (bs.push (.cells (Lib.whiteT.map fun (z : Nat) => Value.int .u16 (z : Int)).toArray 218)).push (.cells #[.slice (some ⟨wN, 0, none⟩) 7 7, .slice none 0 0, .int .i64 2] 215)
  let eN := N + bs.size
  let bs := (bs.push (.cells #[.string ⟨#[105, 110, 118, 97, 108, 105, 100, 32, 115, 121, 110, 116, 97, 120]⟩] 271)).push (.cells #[.string ⟨#[118, 97, 108, 117, 101, 32, 111, 117, 116, 32, 111, 102, 32, 114, 97, 110, 103, 101]⟩] 271)
  let w0 := World.holding Tryz.prog os ⟨bs, #[], []⟩
  let h0 := w0.heap
  let h0 := putCells h0 1 #[.iface 187 (.agg #[typeHandle Tryz.prog 39])]
  let h0 := putCells h0 6 (Lib.firstTab.map fun z => Value.int .u8 z).toArray
  let h0 := putCells h0 7 ((List.range 16).flatMap fun i => [Value.int .u8 (Lib.accLo i), Value.int .u8 (Lib.accHi i)]).toArray
  let h0 := putCells h0 0 (tabCells Rows.laid_strings_asciiSpace)
  let h0 := putCells h0 8 (tabCells Rows.laid_internal_strconv_uint64pow10)
  let h0 := putCells h0 9 (tabCells Rows.laid_math_bits_deBruijn32tab)
  let h0 := putCells h0 10 (tabCells Rows.laid_math_bits_deBruijn64tab)
  let h0 := putCells h0 2 #[.pointer (some ⟨wN + 1, 0, none⟩)]
  let h0 := putCells h0 3 #[.iface 269 (.pointer (some ⟨eN, 0, none⟩))]
  let h0 := putCells h0 4 #[.iface 269 (.pointer (some ⟨eN + 1, 0, none⟩))]
  { w0 with heap := h0 }
end Go.Proofs.YtdmbhoagjjkogaaGreatDoor

namespace Go.Proofs.YtdmbhoagjjkogaaGreatDoor
open Go.ChangeShapes Go.WideShapes Go.RowKit
set_option linter.unusedVariables false
theorem tabIs_of_reads {P : Program} {W : World} {name : String} {k : IntKind} {zs : List Int} {g : Nat} {t e : TypeId} {n : Nat}
    (hg : P.globalNamed name = some g) (hty : (P.globals[g]?).map (·.type) = some t) (ht : P.underlying t = some (.array n e)) (he : P.underlying e = some (.int k)) (hce : P.cellsOf e = 1) (hct : P.cellsOf t = n)
    (h : Lib.VarReads P W name (Lib.tabData k zs)) : Lib.TabIs P W name k zs := by
  obtain ⟨g', t', cs, fuel, p, hg', ht', hvar, hd⟩ := h
  obtain rfl := Option.some.inj (hg.symm.trans hg')
  obtain rfl := Option.some.inj (hty.symm.trans ht')
  unfold Lib.TabIs
  rw [hvar, ← Lib.cells_of_tab ht he hce hct hd]
theorem iface_of_trod {H : Type} {enc : TypeId × Value → H} {P : Program} {w : World} {base : Nat} {sp : Nat → Bool} {held : Bool} {fuel : Nat} {t : TypeId} {ms : Array (String × TypeId)} {cs : List Value} {d : DataW H} {p : List MemPlace}
    (ht : P.underlying t = some (.interface ms)) (h : DataW.trod enc P w base sp held fuel t cs = some (d, p)) : cs = [.nilIface] ∨ ∃ u v, cs = [.iface u v] := by
  cases fuel with
  | zero => simp [DataW.trod] at h
  | succ fuel =>
    unfold DataW.trod at h
    rw [ht] at h
    split at h <;> simp_all
theorem err_of_reads {P : Program} {W : World} {name : String} {d : DataW Unit} {g : Nat} {t : TypeId} {ms : Array (String × TypeId)}
    (hg : P.globalNamed name = some g) (hty : (P.globals[g]?).map (·.type) = some t) (ht : P.underlying t = some (.interface ms)) (h : Lib.VarReads P W name d) :
    ∃ ev, W.cell? ⟨g, 0, none⟩ = some ev ∧ (ev = .nilIface ∨ ∃ te pe, ev = .iface te pe) := by
  obtain ⟨g', t', cs, fuel, p, hg', ht', hvar, hd⟩ := h
  obtain rfl := Option.some.inj (hg.symm.trans hg')
  obtain rfl := Option.some.inj (hty.symm.trans ht')
  have hc := World.var?_cell hg hvar 0
  rcases iface_of_trod ht hd with e | ⟨u, v, e⟩
  · refine ⟨.nilIface, ?_, .inl rfl⟩
    obtain ⟨l⟩ := cs
    simp only at e
    subst e
    simpa using hc
  · refine ⟨.iface u v, ?_, .inr ⟨u, v, rfl⟩⟩
    obtain ⟨l⟩ := cs
    simp only at e
    subst e
    simpa using hc
theorem p10_data : Rows.laid_internal_strconv_uint64pow10 = (Lib.tabData .u64 Lib.pow10Tab : DataW Unit) := by kernel_rfl
theorem asp_data : Rows.laid_strings_asciiSpace = (Lib.tabData .u8 Lib.asciiSpaceTab : DataW Unit) := by kernel_rfl
theorem rmem_of {W : World} {l : List (String × DataW Unit)} (hL : laidMet Tryz.prog l W) (hs : W.ShapedOpen Tryz.prog)
    (h1 : ("strings.asciiSpace", Rows.laid_strings_asciiSpace) ∈ l) (h2 : ("internal/strconv.uint64pow10", Rows.laid_internal_strconv_uint64pow10) ∈ l)
    (h3 : ("strconv.ErrSyntax", Rows.laid_strconv_ErrSyntax) ∈ l) (h4 : ("strconv.ErrRange", Rows.laid_strconv_ErrRange) ∈ l) : RMem W := by
  rw [asp_data] at h1
  rw [p10_data] at h2
  refine ⟨tabIs_of_reads (g := 0) (t := 117) (e := 5) (n := 256) (by kernel_rfl) (by kernel_rfl) (by kernel_rfl) (by kernel_rfl) (by kernel_rfl) (by kernel_rfl) (Lib.laidMet.reads hL h1), tabIs_of_reads (g := 8) (t := 297) (e := 223) (n := 20) (by kernel_rfl) (by kernel_rfl) (by kernel_rfl) (by kernel_rfl) (by kernel_rfl) (by kernel_rfl) (Lib.laidMet.reads hL h2), ⟨err_of_reads (g := 3) (t := 39) (by kernel_rfl) (by kernel_rfl) Tryz.underlying39 (Lib.laidMet.reads hL h3), err_of_reads (g := 4) (t := 39) (by kernel_rfl) (by kernel_rfl) Tryz.underlying39 (Lib.laidMet.reads hL h4)⟩, Tryz.laysM145.s1_3 W hs⟩
end Go.Proofs.YtdmbhoagjjkogaaGreatDoor

namespace Go.Proofs.YtdmbhoagjjkogaaGreatDoor
open Go.ChangeShapes Go.WideShapes Go.RowKit
set_option linter.unusedVariables false
theorem doorV_et : Tryz.prog.globalNamed "errors.errorType" = some 1 := by kernel_rfl
theorem doorV_rt : (Tryz.prog.cutTypes.find? (·.1 == "internal/reflectlite.rtype")).map (·.2) = some 187 := by kernel_rfl
theorem doorV_one : ((List.range 399).filter fun t => Tryz.prog.rowNamed t [101, 114, 114, 111, 114]) = [39] := by kernel_rfl
theorem doorV_size : Tryz.prog.types.size = 399 := by kernel_rfl
theorem laidE_of_handles {W : World} (h : handlesMet Tryz.prog [("errors.errorType", Rows.laid_errors_errorType)] W) : LaidE W := by
  obtain ⟨name, u, ty, e1, e2, e3, e4, e5⟩ := h _ (List.mem_singleton.2 rfl)
  have en : name = [101, 114, 114, 111, 114] := (Option.some.inj e1).symm
  subst en
  obtain rfl := Option.some.inj (doorV_rt.symm.trans e2)
  have hm : ty ∈ (List.range 399).filter fun t => Tryz.prog.rowNamed t [101, 114, 114, 111, 114] := List.mem_filter.2 ⟨List.mem_range.2 (by rw [← doorV_size]; exact e3), e4⟩
  rw [doorV_one] at hm
  obtain rfl := List.mem_singleton.1 hm
  have hh : typeHandle Tryz.prog 39 = .pointer (some (hA 39)) := by kernel_rfl
  rw [hh] at e5
  unfold LaidE
  simpa using World.var?_cell doorV_et e5 0
end Go.Proofs.YtdmbhoagjjkogaaGreatDoor

namespace Go.Proofs.YtdmbhoagjjkogaaGreatDoor
open Go.ChangeShapes Go.WideShapes Go.RowKit
set_option linter.unusedVariables false
set_option maxRecDepth 100000 in
set_option maxHeartbeats 1000000 in
theorem rmixed_parts {W : World} (h : laidMetH Tryz.prog [("math/bits.deBruijn32tab", Rows.laid_math_bits_deBruijn32tab), ("math/bits.deBruijn64tab", Rows.laid_math_bits_deBruijn64tab), ("internal/strconv.uint64pow10", Rows.laid_internal_strconv_uint64pow10), ("unicode/utf8.acceptRanges", Rows.laid_unicode_utf8_acceptRanges), ("errors.errorType", Rows.laid_errors_errorType), ("strconv.ErrRange", Rows.laid_strconv_ErrRange), ("strconv.ErrSyntax", Rows.laid_strconv_ErrSyntax), ("unicode.White_Space", Rows.laid_unicode_White_Space), ("strings.asciiSpace", Rows.laid_strings_asciiSpace), ("unicode/utf8.first", Rows.laid_unicode_utf8_first)] W) (hs : W.ShapedOpen Tryz.prog) : RMem W ∧ LaidE W := by
  have h' : laidMet Tryz.prog [("math/bits.deBruijn32tab", Rows.laid_math_bits_deBruijn32tab), ("math/bits.deBruijn64tab", Rows.laid_math_bits_deBruijn64tab), ("internal/strconv.uint64pow10", Rows.laid_internal_strconv_uint64pow10), ("unicode/utf8.acceptRanges", Rows.laid_unicode_utf8_acceptRanges), ("strconv.ErrRange", Rows.laid_strconv_ErrRange), ("strconv.ErrSyntax", Rows.laid_strconv_ErrSyntax), ("unicode.White_Space", Rows.laid_unicode_White_Space), ("strings.asciiSpace", Rows.laid_strings_asciiSpace), ("unicode/utf8.first", Rows.laid_unicode_utf8_first)] W ∧ handlesMet Tryz.prog [("errors.errorType", Rows.laid_errors_errorType)] W := h
  exact ⟨rmem_of h'.1 hs (by repeat (first | exact List.Mem.head _ | apply List.Mem.tail)) (by repeat (first | exact List.Mem.head _ | apply List.Mem.tail)) (by repeat (first | exact List.Mem.head _ | apply List.Mem.tail)) (by repeat (first | exact List.Mem.head _ | apply List.Mem.tail)), laidE_of_handles h'.2⟩
end Go.Proofs.YtdmbhoagjjkogaaGreatDoor
