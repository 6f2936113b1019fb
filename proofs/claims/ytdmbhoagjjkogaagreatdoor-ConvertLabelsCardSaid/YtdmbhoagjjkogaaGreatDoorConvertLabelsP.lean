/-
  The law ConvertLabels returns true for every input that the statement speaks of, and the list of its row is tied to the program's text: the walk of the imported texts, lifted to the given card. No condition of its own.
-/
import Derived.Test.YtdmbhoagjjkogaaGreatDoorLabels
import Derived.Test.YtdmbhoagjjkogaaGreatDoorMA43
import Derived.Test.YtdmbhoagjjkogaaGreatDoorMA46
import Derived.Deep.DeepWitnessRowRef
import Derived.Test.YtdmbhoagjjkogaaGreatDoorCards
import Derived.Test.YtdmbhoagjjkogaaGreatDoorTie
import Derived.WalkKit
import Derived.ProofKit
import Derived.OpenShut
import Derived.ShutString
import Derived.ChangeOld
import Derived.Below
import Derived.SizedLaws
import Derived.Deep.DeepHandedRow
namespace Go.Proofs.YtdmbhoagjjkogaaGreatDoor.convertLabels
open Go.ChangeShapes Go.WideShapes Go.ChangeAt Go.RowKit
open Go.ChangeMaps (open_string shut_string)
set_option linter.unusedVariables false
set_option linter.unusedSimpArgs false

theorem own : ownKnob Tryz.prog.godebug = none := by kernel_rfl

theorem met (os : Os) (args : Array Value) : laidMetH Tryz.prog Rows.convertLabelsRow.laid ((heldWorld os).forCall (fun _ _ => 0) ⟨#[], args, []⟩).memory :=
  laidMetH_of_parts (laidMet_of_fresh 10 (by kernel_rfl) (by kernel_rfl) (by kernel_rfl)) (by kernel_rfl)

theorem reads (os : Os) {H : Type} (enc : TypeId × Value → H) : ∃ places, DataW.whole enc Tryz.prog ((heldWorld os).forCall (fun _ _ => 0) ⟨#[], #[.string ByteArray.empty, .string ByteArray.empty], []⟩).memory Tryz.f3.params.toList Rows.convertLabelsSpec.vars false (#[.string ByteArray.empty, .string ByteArray.empty] : Array Value).toList 8 = some ([.lit (.string []), .lit (.string [])], [], places) :=
  ⟨[], by kernel_rfl⟩

set_option maxRecDepth 200000 in
theorem lifted (os : Os) (started : os.Started) (H : Type) (enc : TypeId × Value → H) (F : Stop.Interp) :
    ReturnsInHanded {} Tryz.checked os 3 .any ((OpenSpec.ofChange Rows.convertLabelsSpec).preRow enc Tryz.prog Tryz.f3 Rows.convertLabelsRow.domain false Rows.convertLabelsRow.laid) (((OpenSpec.ofChange Rows.convertLabelsSpec).at F).post enc Tryz.prog Tryz.f3 false true false false) := by
  obtain ⟨places, hx⟩ := reads os enc
  refine returnsInHanded_of_row (C := Tryz.checked) (s := OpenSpec.ofChange Rows.convertLabelsSpec) own started (by kernel_rfl) Tryz.func3
    (witness_row_atRef (enc := enc) (C := Tryz.checked) false (heldWorld os) #[.string ByteArray.empty, .string ByteArray.empty] rfl (by kernel_rfl) (by kernel_rfl) (by kernel_rfl)
      (OpenSpec.preRow_of_cond 8 hx (by kernel_rfl) (fun k hk => by cases hk) (by kernel_rfl) (met os _))) ?_
  intro W base args ds gs before hval0 hW hdom hcnd hsz hL hsh _
  obtain ⟨hR, hE⟩ : RMem W ∧ LaidE W := rmixed_parts hL hsh
  have hval : ∀ (j : Nat) t v, Tryz.f3.params[j]? = some t → args[j]? = some v → Value.okWide Tryz.prog W .any base t v := hval0
  have hW' := hW
  obtain ⟨p, q, hA0, hV, rfl, hfz, hnd⟩ := hW
  have hA : DataW.TrodAll enc Tryz.prog W 0 (fun _ => true) true Tryz.f3.params.toList args.toList ds p := hA0
  rw [Tryz.params3] at hA hval
  obtain ⟨v0, vs0, d0, ds0, p0, q0, hargs, rfl, rfl, h0, r0⟩ := trodAll_cons hA
  obtain ⟨v1, vs1, d1, ds1, p1, q1, rfl, rfl, rfl, h1, r1⟩ := trodAll_cons r0
  obtain ⟨rfl, rfl, rfl⟩ := trodAll_nil r1
  obtain rfl : args = #[v0, v1] := by cases args; simp_all
  obtain ⟨rfl, rfl⟩ := trodVars_none hV
  obtain ⟨a0, rfl, rfl, rfl, w0⟩ := open_string Tryz.underlying9 (hval 0 9 v0 rfl rfl) h0
  obtain ⟨a1, rfl, rfl, rfl, w1⟩ := open_string Tryz.underlying9 (hval 1 9 v1 rfl rfl) h1
  have z0 : a0.data.toList.length ≤ 140737488351232 := by
    have := sized_string hsz (j := 0) (by rw [Tryz.params3]; rfl) rfl
    simpa [reachBytes] using this
  have z1 : a1.data.toList.length ≤ 140737488351232 := by
    have := sized_string hsz (j := 1) (by rw [Tryz.params3]; rfl) rfl
    simpa [reachBytes] using this
  clear hA0 hval0 hsz
  simp only [List.append_nil] at hW'
  refine (convertLabels_walk a0.data.toList a1.data.toList W z0 z1 hR hE).mono fun e W' ⟨he, bel⟩ => ?_
  subst he
  exact ⟨_, rfl, _, _, _, [], _, [], hW', trodAll_mk1 (shut_bool Tryz.underlying4 _), (trodAll_cons_mk (shut_string Tryz.underlying9 w0) (trodAll_cons_mk (shut_string Tryz.underlying9 w1) trodAll_mk0)), rfl, bel.frame _, fun h => by cases h⟩

theorem j0 : jf0 Tryz.pinned.checked.prog 3 Tryz.f3 (OpenSpec.ofChange Rows.convertLabelsSpec).bare Rows.convertLabelsRow = true := by kernel_rfl
theorem j1 : jf1 Tryz.pinned.checked.prog 3 Tryz.f3 (OpenSpec.ofChange Rows.convertLabelsSpec).bare Rows.convertLabelsRow = true := by kernel_rfl
theorem j2 : jf2 Tryz.pinned.checked.prog 3 Tryz.f3 (OpenSpec.ofChange Rows.convertLabelsSpec).bare Rows.convertLabelsRow = true := by kernel_rfl
theorem j3 : jf3 Tryz.pinned.checked.prog 3 Tryz.f3 (OpenSpec.ofChange Rows.convertLabelsSpec).bare Rows.convertLabelsRow = true := by kernel_rfl
theorem j4 : jf4 Tryz.pinned.checked.prog 3 Tryz.f3 (OpenSpec.ofChange Rows.convertLabelsSpec).bare Rows.convertLabelsRow = true := by kernel_rfl
theorem j5 : jf5 Tryz.pinned.checked.prog 3 Tryz.f3 (OpenSpec.ofChange Rows.convertLabelsSpec).bare Rows.convertLabelsRow = true := by kernel_rfl
theorem j6 : jf6 Tryz.pinned.checked.prog 3 Tryz.f3 (OpenSpec.ofChange Rows.convertLabelsSpec).bare Rows.convertLabelsRow = true := by kernel_rfl
theorem j7 : jf7 Tryz.pinned.checked.prog 3 Tryz.f3 (OpenSpec.ofChange Rows.convertLabelsSpec).bare Rows.convertLabelsRow = true := by kernel_rfl
theorem j8 : jf8 Tryz.pinned.checked.prog 3 Tryz.f3 (OpenSpec.ofChange Rows.convertLabelsSpec).bare Rows.convertLabelsRow = true := by kernel_rfl
theorem j9 : jf9 Tryz.pinned.checked.prog 3 Tryz.f3 (OpenSpec.ofChange Rows.convertLabelsSpec).bare Rows.convertLabelsRow = true := by kernel_rfl
theorem j10 : jf10 Tryz.pinned.checked.prog 3 Tryz.f3 (OpenSpec.ofChange Rows.convertLabelsSpec).bare Rows.convertLabelsRow = true := by kernel_rfl
theorem j11 : jf11 Tryz.pinned.checked.prog 3 Tryz.f3 (OpenSpec.ofChange Rows.convertLabelsSpec).bare Rows.convertLabelsRow = true := by kernel_rfl
theorem j12 : jf12 Tryz.pinned.checked.prog 3 Tryz.f3 (OpenSpec.ofChange Rows.convertLabelsSpec).bare Rows.convertLabelsRow = true := by kernel_rfl
theorem j13 : jf13 Tryz.pinned.checked.prog 3 Tryz.f3 (OpenSpec.ofChange Rows.convertLabelsSpec).bare Rows.convertLabelsRow = true := by kernel_rfl
theorem j14 : jf14 Tryz.pinned.checked.prog 3 Tryz.f3 (OpenSpec.ofChange Rows.convertLabelsSpec).bare Rows.convertLabelsRow = true := by kernel_rfl
theorem j15 : jf15 Tryz.pinned.checked.prog 3 Tryz.f3 (OpenSpec.ofChange Rows.convertLabelsSpec).bare Rows.convertLabelsRow = true := by kernel_rfl
theorem j16 : jf16 Tryz.pinned.checked.prog 3 Tryz.f3 (OpenSpec.ofChange Rows.convertLabelsSpec).bare Rows.convertLabelsRow = true := by kernel_rfl
theorem j17 : jf17 Tryz.pinned.checked.prog 3 Tryz.f3 (OpenSpec.ofChange Rows.convertLabelsSpec).bare Rows.convertLabelsRow = true := by kernel_rfl
theorem j18 : jf18 Tryz.pinned.checked.prog 3 Tryz.f3 (OpenSpec.ofChange Rows.convertLabelsSpec).bare Rows.convertLabelsRow = true := by kernel_rfl
theorem j19 : jf19 Tryz.pinned.checked.prog 3 Tryz.f3 (OpenSpec.ofChange Rows.convertLabelsSpec).bare Rows.convertLabelsRow = true := by kernel_rfl
theorem j20 : jf20 Tryz.pinned.checked.prog 3 Tryz.f3 (OpenSpec.ofChange Rows.convertLabelsSpec).bare Rows.convertLabelsRow = true := by kernel_rfl
theorem j21 : jf21 Tryz.pinned.checked.prog 3 Tryz.f3 (OpenSpec.ofChange Rows.convertLabelsSpec).bare Rows.convertLabelsRow = true := by kernel_rfl
theorem j22 : jf22 Tryz.pinned.checked.prog 3 Tryz.f3 (OpenSpec.ofChange Rows.convertLabelsSpec).bare Rows.convertLabelsRow = true := by kernel_rfl
theorem j23 : jf23 Tryz.pinned.checked.prog 3 Tryz.f3 (OpenSpec.ofChange Rows.convertLabelsSpec).bare Rows.convertLabelsRow = true := by kernel_rfl
theorem j24 : jf24 Tryz.pinned.checked.prog 3 Tryz.f3 (OpenSpec.ofChange Rows.convertLabelsSpec).bare Rows.convertLabelsRow = true := by kernel_rfl
theorem j25 : jf25 Tryz.pinned.checked.prog 3 Tryz.f3 (OpenSpec.ofChange Rows.convertLabelsSpec).bare Rows.convertLabelsRow = true := by kernel_rfl
theorem j26 : jf26 Tryz.pinned.checked.prog 3 Tryz.f3 (OpenSpec.ofChange Rows.convertLabelsSpec).bare Rows.convertLabelsRow = true := by kernel_rfl
theorem j27 : jf27 Tryz.pinned.checked.prog 3 Tryz.f3 (OpenSpec.ofChange Rows.convertLabelsSpec).bare Rows.convertLabelsRow = true := by kernel_rfl
theorem j28 : jf28 Tryz.pinned.checked.prog 3 Tryz.f3 (OpenSpec.ofChange Rows.convertLabelsSpec).bare Rows.convertLabelsRow = true := by kernel_rfl
theorem j29 : jf29 Tryz.pinned.checked.prog 3 Tryz.f3 (OpenSpec.ofChange Rows.convertLabelsSpec).bare Rows.convertLabelsRow = true := by kernel_rfl
theorem j30 : jf30 Tryz.pinned.checked.prog 3 Tryz.f3 (OpenSpec.ofChange Rows.convertLabelsSpec).bare Rows.convertLabelsRow = true := by kernel_rfl
theorem j31 : jf31 Tryz.pinned.checked.prog 3 Tryz.f3 (OpenSpec.ofChange Rows.convertLabelsSpec).bare Rows.convertLabelsRow = true := by kernel_rfl
theorem closed : joinedFacts Tryz.pinned.checked.prog 3 Tryz.f3 (OpenSpec.ofChange Rows.convertLabelsSpec).bare Rows.convertLabelsRow = true := joined_of j0 j1 j2 j3 j4 j5 j6 j7 j8 j9 j10 j11 j12 j13 j14 j15 j16 j17 j18 j19 j20 j21 j22 j23 j24 j25 j26 j27 j28 j29 j30 j31
theorem byText : Rows.convertLabelsRow.wfByText (OpenSpec.ofChange Rows.convertLabelsSpec) = true := by kernel_rfl
theorem goes : false = Rows.convertLabelsRow.goesBy Tryz.pinned.checked.prog := by kernel_rfl
theorem looksAll : true = Tryz.pinned.checked.prog.looks [] := by kernel_rfl
theorem named : Tryz.prog.funcNamed "visitingcard/visitingcardkeep.ConvertLabels" = some 3 := by kernel_rfl

theorem said : Rows.ConvertLabelsSaid :=
  OpenClaim.holds_of_cond 3 Tryz.f3 rfl rfl rfl rfl rfl rfl rfl ⟨rfl, rfl, rfl, rfl, rfl⟩ rfl rfl rfl rfl rfl named Tryz.func3 closed
    (of_decide_eq_true (by kernel_rfl)) (by unfold Func.isWrapper; first | (rw [if_pos (by decide +kernel)]; kernel_rfl) | (rw [if_neg (by decide +kernel)]; exact ⟨rfl, rfl⟩))
    (fun os started H enc _ F => by rw [OpenClaim.pre_eq_preRow]; exact lifted os started H enc F)

theorem plain (f : FuncId) (fn : Func) (hf : Tryz.pinned.checked.prog.funcNamed "visitingcard/visitingcardkeep.ConvertLabels" = some f) (hfn : Tryz.pinned.checked.prog.funcs[f]? = some fn) :
    true = Tryz.pinned.checked.prog.looks [] ∧ ∀ (j : Nat) t, fn.params[j]? = some t → Tryz.pinned.checked.prog.wantsStandIn t = false := by
  obtain rfl : f = 3 := Option.some.inj (named.symm.trans hf) |>.symm
  obtain rfl : fn = Tryz.f3 := (Option.some.inj (Tryz.func3.symm.trans hfn)).symm
  refine ⟨looksAll, fun j t ht => ?_⟩
  rw [Tryz.params3] at ht
  have hm := Array.mem_of_getElem? ht
  simp at hm
  subst hm
  exact (show Tryz.prog.wantsStandIn 9 = false by kernel_rfl)

/-- THE STATEMENT: the tied card -/
theorem proved : Rows.ConvertLabelsCardSaid :=
  Claim7.holds_tied_plain_at .later [] _ _ _ _ said (fun _ h => by cases h) byText (fun _ h => by cases h) convertLabels_row_tie rfl ⟨rfl, rfl⟩ (by kernel_rfl) rfl plain goes
end Go.Proofs.YtdmbhoagjjkogaaGreatDoor.convertLabels

