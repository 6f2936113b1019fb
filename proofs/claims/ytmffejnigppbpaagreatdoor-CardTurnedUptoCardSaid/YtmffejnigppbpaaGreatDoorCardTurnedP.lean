/-
 The law CardTurned returns true for every input that the statement speaks of (bulk at most 1048576), and the list of its row is tied to the program's text: the walk of the imported texts, lifted to the given card. No condition of its own.
-/
import Derived.Test.YtmffejnigppbpaaGreatDoorFXAdd
import Derived.Carry
import Derived.Deep.DeepWitnessRowRef
import Derived.Test.YtmffejnigppbpaaGreatDoorCards
import Derived.Test.YtmffejnigppbpaaGreatDoorTie
import Derived.WalkKit
import Derived.ProofKit
import Derived.OpenShut
import Derived.ShutString
import Derived.ChangeOld
import Derived.Below
import Derived.SizedLaws
import Derived.Deep.DeepHandedRow
set_option linter.unusedVariables false
set_option linter.unusedSimpArgs false
set_option maxRecDepth 200000
namespace Go.Proofs.YtmffejnigppbpaaGreatDoor.cardTurned
open Go.ChangeShapes Go.WideShapes Go.ChangeAt Go.RowKit
open Go.ChangeMaps (open_string shut_string)
theorem ajm:laidOutB Tryz.prog=true:=by kernel_rfl
theorem own:ownKnob Tryz.prog.godebug=none:=by kernel_rfl
theorem met(os:Os)(args:Array Value):laidMetH Tryz.prog Rows.cardTurnedUptoRow.laid ((aeK os).forCall (fun _ _=>0) ⟨#[],args,[]⟩).memory:=
 laidMetH_of_parts (afn 10 (by kernel_rfl) (by kernel_rfl) (by kernel_rfl)) (by kernel_rfl)
theorem reads(os:Os){H:Type}(enc:TypeId×Value→H):∃places,DataW.whole enc Tryz.prog ((aeK os).forCall (fun _ _=>0) ⟨#[],#[.agg #[.int .i64 0,.slice none 0 0],.int .i64 0],[]⟩).memory Tryz.f8.params.toList Rows.cardTurnedSpec.vars false (#[.agg #[.int .i64 0,.slice none 0 0],.int .i64 0]:Array Value).toList 8=some ([.agg [.lit (.int .i64 0),.nil],.lit (.int .i64 0)],[],places):=
 ⟨[],by kernel_rfl⟩
theorem lifted(os:Os)(started:os.Started)(H:Type)(enc:TypeId×Value→H)(F:Stop.Interp) :
  ReturnsInHanded {} Tryz.checked os 8 .any ((Rows.OpenSpec.upto Rows.cardTurnedSpec).preRow enc Tryz.prog Tryz.f8 Rows.cardTurnedUptoRow.domain false Rows.cardTurnedUptoRow.laid) (((Rows.OpenSpec.upto Rows.cardTurnedSpec).at F).post enc Tryz.prog Tryz.f8 false true false false):=by
 obtain⟨places,hx⟩:=reads os enc
 refine returnsInHanded_of_row (C:=Tryz.checked) (s:=Rows.OpenSpec.upto Rows.cardTurnedSpec) own started (by kernel_rfl) Tryz.func8
  (witness_row_atRef (enc:=enc) (C:=Tryz.checked) false (aeK os) #[.agg #[.int .i64 0,.slice none 0 0],.int .i64 0] rfl (by kernel_rfl) (by kernel_rfl) (by kernel_rfl)
   (OpenSpec.preRow_of_cond 8 hx (by kernel_rfl) (fun k hk=>by cases hk;kernel_rfl) (by kernel_rfl) (met os _))) ?_
 intro W base args ds gs before hval0 hW hdom hcnd hsz hL hsh _
 obtain⟨hR,hE⟩:aeV W∧UO W:=ag3 hL hsh
 have hval:∀(j:Nat) t v,Tryz.f8.params[j]?=some t→args[j]?=some v→Value.okWide Tryz.prog W .any base t v:=hval0
 have hW':=hW
 obtain⟨p,q,hA0,hV,rfl,hfz,hnd⟩:=hW
 have hA:DataW.TrodAll enc Tryz.prog W 0 (fun _=>true) true Tryz.f8.params.toList args.toList ds p:=hA0
 rw[Tryz.params8]at hA hval
 obtain⟨v0,vs0,d0,ds0,p0,q0,hargs,rfl,rfl,h0,r0⟩:=trodAll_cons hA
 obtain⟨v1,vs1,d1,ds1,p1,q1,rfl,rfl,rfl,h1,r1⟩:=trodAll_cons r0
 obtain⟨rfl,rfl,rfl⟩:=trodAll_nil r1
 obtain rfl:args=#[v0,v1]:=by cases args;simp_all
 obtain⟨rfl,rfl⟩:=trodVars_none hV
 have hb:=amy (hcnd _ rfl)
 have hlt:=fun x hx=>hW'.lt x hx
 have k0:=h0
 obtain⟨a0,b0,c0,rfl,hi0,hf0,hn0,hm0,vr0⟩:=ai3 (hval 0 24 v0 rfl rfl) h0
 obtain⟨a1,rfl,rfl,rfl,w1⟩:=open_int Tryz.underlying3 (hval 1 3 v1 rfl rfl) h1
 have z1 : -9223372036854775808≤a1∧a1≤9223372036854775807:=by simpa[Lit.wf,IntKind.min,IntKind.max,IntKind.signed,IntKind.bits]using w1
 simp only[List.append_nil,List.cons_append,List.nil_append,Rows.uptoBulkAll,Rows.uptoBulk]at hb
 clear hA0 hval0 hsz
 simp only[List.append_nil]at hW'
 refine(cardTurned_walk a0 b0 c0 a1 W hi0 hf0 (by omega) (fun y hy=>by have:=hm0 y hy;omega) z1 hR hE).mono fun e W' ⟨he,bel⟩=>?_
 subst he
 exact⟨_,rfl,_,_,_,[],_,[],hW',trodAll_mk1 (shut_bool Tryz.underlying4 _),(trodAll_cons_mk (Below.trod ajm (by kernel_rfl) (of_decide_eq_true (by kernel_rfl)) k0 bel (fun x hx=>hlt x (by simp[hx]))) (trodAll_cons_mk (shut_int Tryz.underlying3 w1) trodAll_mk0)),rfl,bel.frame _,fun h=>by cases h⟩
theorem j0:jf0 Tryz.pinned.checked.prog 8 Tryz.f8 (Rows.OpenSpec.upto Rows.cardTurnedSpec).bare Rows.cardTurnedUptoRow=true:=by kernel_rfl
theorem j1:jf1 Tryz.pinned.checked.prog 8 Tryz.f8 (Rows.OpenSpec.upto Rows.cardTurnedSpec).bare Rows.cardTurnedUptoRow=true:=by kernel_rfl
theorem j2:jf2 Tryz.pinned.checked.prog 8 Tryz.f8 (Rows.OpenSpec.upto Rows.cardTurnedSpec).bare Rows.cardTurnedUptoRow=true:=by kernel_rfl
theorem j3:jf3 Tryz.pinned.checked.prog 8 Tryz.f8 (Rows.OpenSpec.upto Rows.cardTurnedSpec).bare Rows.cardTurnedUptoRow=true:=by kernel_rfl
theorem j4:jf4 Tryz.pinned.checked.prog 8 Tryz.f8 (Rows.OpenSpec.upto Rows.cardTurnedSpec).bare Rows.cardTurnedUptoRow=true:=by kernel_rfl
theorem j5:jf5 Tryz.pinned.checked.prog 8 Tryz.f8 (Rows.OpenSpec.upto Rows.cardTurnedSpec).bare Rows.cardTurnedUptoRow=true:=by kernel_rfl
theorem j6:jf6 Tryz.pinned.checked.prog 8 Tryz.f8 (Rows.OpenSpec.upto Rows.cardTurnedSpec).bare Rows.cardTurnedUptoRow=true:=by kernel_rfl
theorem j7:jf7 Tryz.pinned.checked.prog 8 Tryz.f8 (Rows.OpenSpec.upto Rows.cardTurnedSpec).bare Rows.cardTurnedUptoRow=true:=by kernel_rfl
theorem j8:jf8 Tryz.pinned.checked.prog 8 Tryz.f8 (Rows.OpenSpec.upto Rows.cardTurnedSpec).bare Rows.cardTurnedUptoRow=true:=by kernel_rfl
theorem j9:jf9 Tryz.pinned.checked.prog 8 Tryz.f8 (Rows.OpenSpec.upto Rows.cardTurnedSpec).bare Rows.cardTurnedUptoRow=true:=by kernel_rfl
theorem j10:awI Tryz.pinned.checked.prog 8 Tryz.f8 (Rows.OpenSpec.upto Rows.cardTurnedSpec).bare Rows.cardTurnedUptoRow=true:=by kernel_rfl
theorem j11:awJ Tryz.pinned.checked.prog 8 Tryz.f8 (Rows.OpenSpec.upto Rows.cardTurnedSpec).bare Rows.cardTurnedUptoRow=true:=by kernel_rfl
theorem j12:awK Tryz.pinned.checked.prog 8 Tryz.f8 (Rows.OpenSpec.upto Rows.cardTurnedSpec).bare Rows.cardTurnedUptoRow=true:=by kernel_rfl
theorem j13:awL Tryz.pinned.checked.prog 8 Tryz.f8 (Rows.OpenSpec.upto Rows.cardTurnedSpec).bare Rows.cardTurnedUptoRow=true:=by kernel_rfl
theorem j14:awM Tryz.pinned.checked.prog 8 Tryz.f8 (Rows.OpenSpec.upto Rows.cardTurnedSpec).bare Rows.cardTurnedUptoRow=true:=by kernel_rfl
theorem j15:awN Tryz.pinned.checked.prog 8 Tryz.f8 (Rows.OpenSpec.upto Rows.cardTurnedSpec).bare Rows.cardTurnedUptoRow=true:=by kernel_rfl
theorem j16:awO Tryz.pinned.checked.prog 8 Tryz.f8 (Rows.OpenSpec.upto Rows.cardTurnedSpec).bare Rows.cardTurnedUptoRow=true:=by kernel_rfl
theorem j17:awP Tryz.pinned.checked.prog 8 Tryz.f8 (Rows.OpenSpec.upto Rows.cardTurnedSpec).bare Rows.cardTurnedUptoRow=true:=by kernel_rfl
theorem j18:awQ Tryz.pinned.checked.prog 8 Tryz.f8 (Rows.OpenSpec.upto Rows.cardTurnedSpec).bare Rows.cardTurnedUptoRow=true:=by kernel_rfl
theorem j19:awR Tryz.pinned.checked.prog 8 Tryz.f8 (Rows.OpenSpec.upto Rows.cardTurnedSpec).bare Rows.cardTurnedUptoRow=true:=by kernel_rfl
theorem j20:awS Tryz.pinned.checked.prog 8 Tryz.f8 (Rows.OpenSpec.upto Rows.cardTurnedSpec).bare Rows.cardTurnedUptoRow=true:=by kernel_rfl
theorem j21:awT Tryz.pinned.checked.prog 8 Tryz.f8 (Rows.OpenSpec.upto Rows.cardTurnedSpec).bare Rows.cardTurnedUptoRow=true:=by kernel_rfl
theorem j22:awU Tryz.pinned.checked.prog 8 Tryz.f8 (Rows.OpenSpec.upto Rows.cardTurnedSpec).bare Rows.cardTurnedUptoRow=true:=by kernel_rfl
theorem j23:awV Tryz.pinned.checked.prog 8 Tryz.f8 (Rows.OpenSpec.upto Rows.cardTurnedSpec).bare Rows.cardTurnedUptoRow=true:=by kernel_rfl
theorem j24:awW Tryz.pinned.checked.prog 8 Tryz.f8 (Rows.OpenSpec.upto Rows.cardTurnedSpec).bare Rows.cardTurnedUptoRow=true:=by kernel_rfl
theorem j25:awX Tryz.pinned.checked.prog 8 Tryz.f8 (Rows.OpenSpec.upto Rows.cardTurnedSpec).bare Rows.cardTurnedUptoRow=true:=by kernel_rfl
theorem j26:awY Tryz.pinned.checked.prog 8 Tryz.f8 (Rows.OpenSpec.upto Rows.cardTurnedSpec).bare Rows.cardTurnedUptoRow=true:=by kernel_rfl
theorem j27:awZ Tryz.pinned.checked.prog 8 Tryz.f8 (Rows.OpenSpec.upto Rows.cardTurnedSpec).bare Rows.cardTurnedUptoRow=true:=by kernel_rfl
theorem j28:aw0 Tryz.pinned.checked.prog 8 Tryz.f8 (Rows.OpenSpec.upto Rows.cardTurnedSpec).bare Rows.cardTurnedUptoRow=true:=by kernel_rfl
theorem j29:aw1 Tryz.pinned.checked.prog 8 Tryz.f8 (Rows.OpenSpec.upto Rows.cardTurnedSpec).bare Rows.cardTurnedUptoRow=true:=by kernel_rfl
theorem j30:aw2 Tryz.pinned.checked.prog 8 Tryz.f8 (Rows.OpenSpec.upto Rows.cardTurnedSpec).bare Rows.cardTurnedUptoRow=true:=by kernel_rfl
theorem j31:aw3 Tryz.pinned.checked.prog 8 Tryz.f8 (Rows.OpenSpec.upto Rows.cardTurnedSpec).bare Rows.cardTurnedUptoRow=true:=by kernel_rfl
theorem closed:joinedFacts Tryz.pinned.checked.prog 8 Tryz.f8 (Rows.OpenSpec.upto Rows.cardTurnedSpec).bare Rows.cardTurnedUptoRow=true:=akv j0 j1 j2 j3 j4 j5 j6 j7 j8 j9 j10 j11 j12 j13 j14 j15 j16 j17 j18 j19 j20 j21 j22 j23 j24 j25 j26 j27 j28 j29 j30 j31
theorem alS:Rows.cardTurnedUptoRow.wfByText (Rows.OpenSpec.upto Rows.cardTurnedSpec)=true:=by kernel_rfl
theorem asW:false=Rows.cardTurnedUptoRow.goesBy Tryz.pinned.checked.prog:=by kernel_rfl
theorem ahx:true=Tryz.pinned.checked.prog.looks []:=by kernel_rfl
theorem named : Tryz.prog.funcNamed "visitingcard/visitingcardkeep.CardTurned" = some 8 := by kernel_rfl
theorem auy:Rows.CardTurnedUptoSaid:=
 OpenClaim.holds_of_cond 8 Tryz.f8 rfl rfl rfl rfl rfl rfl rfl ⟨rfl,rfl,rfl,rfl,rfl⟩ rfl rfl rfl rfl rfl named Tryz.func8 closed
  (of_decide_eq_true (by kernel_rfl)) (by unfold Func.isWrapper;first|(rw[if_pos (by decide +kernel)];kernel_rfl)|(rw[if_neg (by decide +kernel)];exact⟨rfl,rfl⟩))
  (fun os started H enc _ F=>by rw[OpenClaim.pre_eq_preRow];exact lifted os started H enc F)
theorem plain(f : FuncId)(fn : Func)(hf : Tryz.pinned.checked.prog.funcNamed "visitingcard/visitingcardkeep.CardTurned" = some f)(hfn : Tryz.pinned.checked.prog.funcs[f]? = some fn) :
  true=Tryz.pinned.checked.prog.looks []∧∀(j:Nat) t,fn.params[j]?=some t→Tryz.pinned.checked.prog.wantsStandIn t=false:=by
 obtain rfl:f=8:=Option.some.inj (named.symm.trans hf) |>.symm
 obtain rfl:fn=Tryz.f8:=(Option.some.inj (Tryz.func8.symm.trans hfn)).symm
 refine⟨ahx,fun j t ht=>?_⟩
 rw[Tryz.params8]at ht
 have hm:=Array.mem_of_getElem? ht
 simp at hm
 rcases hm with rfl|rfl
 ·exact(show Tryz.prog.wantsStandIn 24=false by kernel_rfl)
 ·exact(show Tryz.prog.wantsStandIn 3=false by kernel_rfl)
theorem proved:Rows.CardTurnedUptoCardSaid:=
 Claim7.holds_tied_plain_at .later [] _ _ _ _ auy (fun _ h=>by cases h) alS (fun _ h=>by cases h) cardTurnedUpto_row_tie rfl ⟨rfl,rfl⟩ (by kernel_rfl) rfl plain asW
end Go.Proofs.YtmffejnigppbpaaGreatDoor.cardTurned
