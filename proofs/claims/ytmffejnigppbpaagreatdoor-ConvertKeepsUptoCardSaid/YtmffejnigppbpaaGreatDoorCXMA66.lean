/-
  Texts merged into one: ReplPlain, ReplLen, Once, WhenRight.
-/
import Derived.Test.YtmffejnigppbpaaGreatDoorCXMA59
import Derived.Defers
import Derived.Laws.Pointers
import Derived.Laws.LoneSync
import Derived.RegionTactic
import Derived.RegionCalls
import Derived.ChangeAlike
import Derived.Test.YtmffejnigppbpaaGreatDoorCXMTell
import Derived.Test.YtmffejnigppbpaaGreatDoorCXShelf
import Derived.Test.YtmffejnigppbpaaGreatDoorCXMA49
import Derived.Deep.RegionHeld3
import Derived.Deep.DeepCutAuto
import Derived.Deep.CutBlock
set_option linter.unusedVariables false
set_option linter.unusedSimpArgs false
namespace Go.Proofs.YtmffejnigppbpaaGreatDoor
open Go.RowKit
def kT(f:UInt8→Option (List UInt8))(c:UInt8):List UInt8:=(f c).getD [c]
def fQ(f:UInt8→Option (List UInt8))(s:List UInt8):List UInt8:=s.flatMap (kT f)
theorem wP(f:UInt8→Option (List UInt8))(a b:List UInt8):fQ f (a++b)=fQ f a++fQ f b:=by simp[fQ]
theorem AO(f:UInt8→Option (List UInt8))(c:UInt8)(t:List UInt8):fQ f (c::t)=kT f c++fQ f t:=by simp[fQ]
def rE(c:UInt8):Option (List UInt8):=if c=94 then some [94,94] else if c=10 then some [94,110] else if c=34 then some [94,39] else none
def Tn(s:List UInt8):List UInt8:=fQ rE s
theorem F5(s:List UInt8):s.length≤(Tn s).length∧(Tn s).length≤2*s.length:=by
 have h:∀c:UInt8,1≤(kT rE c).length∧(kT rE c).length≤2:=fun c=>of_decide_eq_true (ou (fun c=>decide (1≤(kT rE c).length∧(kT rE c).length≤2)) (by decide +kernel) c)
 induction s with
 |nil=>exact⟨Nat.le_refl _,Nat.le_refl _⟩
 |cons c t ih=>
  have:=h c
  show(c::t).length≤(kT rE c++Tn t).length∧(kT rE c++Tn t).length≤_
  simp only[List.length_append,List.length_cons]
  omega
def vP(c:UInt8):Option (List UInt8):=if c=92 then some [92,92] else if c=44 then some [92,44] else if c=59 then some [92,59] else if c=10 then some [92,110] else none
def kN(s:List UInt8):List UInt8:=fQ vP s
def Yz(s:List UInt8):Nat:=(s.filter fun c=>([92,44,59,10]:List UInt8).contains c).length
theorem Z7(s:List UInt8):(kN s).length=s.length+Yz s:=by
 have h:∀c:UInt8,(kT vP c).length=1+if ([92,44,59,10]:List UInt8).contains c=true then 1 else 0:=fun c=>of_decide_eq_true (ou (fun c=>decide ((kT vP c).length=1+if ([92,44,59,10]:List UInt8).contains c=true then 1 else 0)) (by decide +kernel) c)
 induction s with
 |nil=>rfl
 |cons c t ih=>
  have e:(kN (c::t)).length=(kT vP c).length+(kN t).length:=by
   show(kT vP c++kN t).length=_
   rw[List.length_append]
  rw[e,h,ih]
  unfold Yz
  rw[List.filter_cons]
  split<;>simp<;>omega
inductive jD where
 |good (texts:List (List UInt8)) (cuts:List UInt8)
 |bad (code:Int) (place:Nat)
def Ed(c:UInt8):Option UInt8:=if c=92∨c=44∨c=59 then some c else if c=110∨c=78 then some 10 else none
def eH(at_:List UInt8):List UInt8→Nat→List UInt8→List (List UInt8)→List UInt8→jD
 |[],_,cur,texts,cuts=>.good (texts++[cur]) cuts
 |[c],k,cur,texts,cuts=>if c=92 then .bad 7 (k+1)else if at_.contains c=true then .good (texts++[cur]++[[]]) (cuts++[c])else .good (texts++[cur++[c]]) cuts
 |c::d::t,k,cur,texts,cuts=>
  if c=92 then
   match Ed d with
   |some x=>eH at_ t (k+2) (cur++[x]) texts cuts
   |none=>.bad 3 (k+1)
  else if at_.contains c=true then eH at_ (d::t) (k+1) [] (texts++[cur]) (cuts++[c])
  else eH at_ (d::t) (k+1) (cur++[c]) texts cuts
theorem mO(a:List UInt8)(k:Nat)(cur:List UInt8)(ts:List (List UInt8))(cs:List UInt8):eH a [] k cur ts cs=.good (ts++[cur]) cs:=rfl
theorem IK(a:List UInt8)(k:Nat)(cur:List UInt8)(ts:List (List UInt8))(cs:List UInt8):eH a [92] k cur ts cs=.bad 7 (k+1):=rfl
theorem wQ{a:List UInt8}{d x:UInt8}{t:List UInt8}{k:Nat}{cur:List UInt8}{ts:List (List UInt8)}{cs:List UInt8}(h:Ed d=some x):eH a (92::d::t) k cur ts cs=eH a t (k+2) (cur++[x]) ts cs:=by
 show(if (92:UInt8)=92 then _ else _)=_
 rw[if_pos rfl,h]
theorem EW{a:List UInt8}{d:UInt8}{t:List UInt8}{k:Nat}{cur:List UInt8}{ts:List (List UInt8)}{cs:List UInt8}(h:Ed d=none):eH a (92::d::t) k cur ts cs=.bad 3 (k+1):=by
 show(if (92:UInt8)=92 then _ else _)=_
 rw[if_pos rfl,h]
theorem tC{a:List UInt8}{c:UInt8}{t:List UInt8}{k:Nat}{cur:List UInt8}{ts:List (List UInt8)}{cs:List UInt8}(h1:c≠92)(h2:a.contains c=true):eH a (c::t) k cur ts cs=eH a t (k+1) [] (ts++[cur]) (cs++[c]):=by
 cases t with
 |nil=>show(if c=92 then _ else _)=_;rw[if_neg h1,if_pos h2];rfl
 |cons d t=>show(if c=92 then _ else _)=_;rw[if_neg h1,if_pos h2]
theorem wR{a:List UInt8}{c:UInt8}{t:List UInt8}{k:Nat}{cur:List UInt8}{ts:List (List UInt8)}{cs:List UInt8}(h1:c≠92)(h2:a.contains c=false):eH a (c::t) k cur ts cs=eH a t (k+1) (cur++[c]) ts cs:=by
 cases t with
 |nil=>show(if c=92 then _ else _)=_;rw[if_neg h1,if_neg (by simpa using h2)];rfl
 |cons d t=>show(if c=92 then _ else _)=_;rw[if_neg h1,if_neg (by simpa using h2)]
theorem WC(c:UInt8):(∃d,kT vP c=[92,d]∧Ed d=some c)∨(kT vP c=[c]∧c≠92∧c≠44∧c≠59):=by
 by_cases h1:c=92
 ·subst h1;exact .inl ⟨92,rfl,rfl⟩
 by_cases h2:c=44
 ·subst h2;exact .inl ⟨44,rfl,rfl⟩
 by_cases h3:c=59
 ·subst h3;exact .inl ⟨59,rfl,rfl⟩
 by_cases h4:c=10
 ·subst h4;exact .inl ⟨110,rfl,rfl⟩
 ·right
  refine⟨?_,h1,h2,h3⟩
  unfold kT vP
  rw[if_neg h1,if_neg h2,if_neg h3,if_neg h4];rfl
theorem yu(a:List UInt8)(ha:∀c∈a,c=44∨c=59)(s:List UInt8):∀(r:List UInt8) (k:Nat) (cur:List UInt8) (ts:List (List UInt8)) (cs:List UInt8),eH a (kN s++r) k cur ts cs=eH a r (k+(kN s).length) (cur++s) ts cs:=by
 induction s with
 |nil=>intro r k cur ts cs;simp[kN,fQ]
 |cons c t ih=>
  intro r k cur ts cs
  have e:kN (c::t)=kT vP c++kN t:=rfl
  rcases WC c with⟨d,h1,h2⟩|⟨h1,h2,h3,h4⟩
  ·rw[e,h1]
   show eH a (92::d::(kN t++r)) k cur ts cs=_
   rw[wQ h2,ih]
   simp;congr 1;omega
  ·rw[e,h1]
   show eH a (c::(kN t++r)) k cur ts cs=_
   rw[wR h2 (by
    cases hc:a.contains c with
    |false=>rfl
    |true=>rcases ha c (by simpa using hc)with h|h;exact absurd h h3;exact absurd h h4),ih]
   simp;congr 1;omega
end Go.Proofs.YtmffejnigppbpaaGreatDoor

namespace Go.Proofs.YtmffejnigppbpaaGreatDoor
open Go.RowKit
structure wM(f:UInt8→Option (List UInt8))(keys:List UInt8):Prop where
 nodup:keys.Nodup
 iff:∀c,f c=none↔c∉keys
 pos:∀c l,f c=some l→1≤l.length
 small:∀c l,f c=some l→l.length≤10
def IJ(f:UInt8→Option (List UInt8))(c:UInt8):Nat:=(kT f c).length-1
def yt(f:UInt8→Option (List UInt8))(s:List UInt8)(keys:List UInt8):Nat:=(keys.map fun k=>s.count k*IJ f k).sum
theorem WB(f:UInt8→Option (List UInt8))(c:UInt8)(t:List UInt8)(keys:List UInt8)(hn:keys.Nodup):yt f (c::t) keys=yt f t keys+if c∈keys then IJ f c else 0:=by
 induction keys with
 |nil=>simp[yt]
 |cons k ks ih=>
  obtain⟨h1,h2⟩:=List.nodup_cons.1 hn
  have ih:=ih h2
  have e:∀l,yt f l (k::ks)=l.count k*IJ f k+yt f l ks:=fun l=>by simp[yt]
  rw[e,e,ih,List.count_cons]
  by_cases hc:c=k
  ·subst hc
   simp[h1,Nat.add_mul];omega
  ·have hck:(c==k)=false:=beq_eq_false_iff_ne.2 hc
   simp[hc,hck]
   omega
theorem P6{f:UInt8→Option (List UInt8)}{keys:List UInt8}(h:wM f keys)(s:List UInt8):(fQ f s).length=s.length+yt f s keys:=by
 induction s with
 |nil=>
  have h0:∀l:List UInt8,(l.map fun _=>0).sum=0:=fun l=>by induction l with
   |nil=>rfl
   |cons _ _ ih=>simpa using ih
  simp[fQ,yt,h0]
 |cons c t ih=>
  rw[AO,List.length_append,ih,WB f c t keys h.nodup]
  have hr:(kT f c).length=1+if c∈keys then IJ f c else 0:=by
   unfold IJ
   by_cases hc:c∈keys
   ·rw[if_pos hc]
    cases hf:f c with
    |none=>exact absurd hc ((h.iff c).1 hf)
    |some l=>
     have:=h.pos c l hf
     simp[kT,hf];omega
   ·rw[if_neg hc]
    have:=(h.iff c).2 hc
    simp[kT,this]
  rw[hr];simp;omega
theorem La{f:UInt8→Option (List UInt8)}(s:List UInt8)(h:∀c∈s,f c=none):fQ f s=s:=by
 induction s with
 |nil=>rfl
 |cons c t ih=>
  rw[AO,ih fun d hd=>h d (List.mem_cons_of_mem _ hd)]
  simp[kT,h c List.mem_cons_self]
theorem lF(f:UInt8→Option (List UInt8))(s:List UInt8)(k:Nat)(h:k<s.length):fQ f (s.take (k+1))=fQ f (s.take k)++kT f s[k]:=by
 rw[List.take_succ_eq_append_getElem h,wP];simp[fQ]
theorem U8{f:UInt8→Option (List UInt8)}{keys:List UInt8}(h:wM f keys)(s:List UInt8):s.length≤(fQ f s).length∧(fQ f s).length≤10*s.length:=by
 have h1:∀c,1≤(kT f c).length∧(kT f c).length≤10:=by
  intro c
  cases hf:f c with
  |none=>simp[kT,hf]
  |some l=>have:=h.pos c l hf;have:=h.small c l hf;simp[kT,hf];omega
 induction s with
 |nil=>simp[fQ]
 |cons c t ih=>
  have:=h1 c
  rw[AO];simp only[List.length_append,List.length_cons];omega
theorem wO(f:UInt8→Option (List UInt8))(s:List UInt8)(k:Nat):(fQ f (s.take k)).length≤(fQ f s).length:=by
 conv=>rhs;rw[←List.take_append_drop k s,wP]
 simp
end Go.Proofs.YtmffejnigppbpaaGreatDoor

set_option maxHeartbeats 4000000
set_option maxRecDepth 100000
namespace Go.Proofs.YtmffejnigppbpaaGreatDoor
open Go.RowKit
theorem BM(w:World):(callFunc 258 #[]).run Tryz.prog w=.ok (.value (.tuple #[])) w:=run_call_mark0 Tryz.func258 (by kernel_rfl) (by kernel_rfl) (by kernel_rfl) .disable (by kernel_rfl) w
theorem EP(w:World):(callFunc 260 #[]).run Tryz.prog w=.ok (.value (.tuple #[])) w:=run_call_mark0 Tryz.func260 (by kernel_rfl) (by kernel_rfl) (by kernel_rfl) .enable (by kernel_rfl) w
theorem Nb(a:Addr)(w:World):(callFunc 261 #[.pointer (some a)]).run Tryz.prog w=.ok (.value (.tuple #[])) w:=run_call_marked Tryz.func261 (by kernel_rfl) (by kernel_rfl) (by kernel_rfl) .acquire (by kernel_rfl) a w
theorem BN(a:Addr)(w:World):(callFunc 263 #[.pointer (some a)]).run Tryz.prog w=.ok (.value (.tuple #[])) w:=run_call_marked Tryz.func263 (by kernel_rfl) (by kernel_rfl) (by kernel_rfl) .releaseMerge (by kernel_rfl) a w
theorem Iw(a:Addr)(x:Value)(u:FrameMode)(w:World)(hc:w.cell? a=some x)(hz:w.frozen? a=false) :
  CallsD Tryz.prog 229 #[.pointer (some a),.bool true] u w fun e u' w'=>u'=u∧(e=.returned (.tuple #[])∧w'=w.drew.setCell a (.int .u32 1)):=by
 have hc':w.drew.cell? a=some x:=by go_simp
 have hz':w.drew.frozen? a=false:=by go_simp
 have hst:=run_call_store (P:=Tryz.prog) Tryz.func246 (by kernel_rfl) (by kernel_rfl) (by kernel_rfl) (by kernel_rfl) (k:=.u32) (y:=1) hc' hz'
 go_enter_d Tryz.func229,Tryz.ntmps229
 go_wp2
 go_region_calls
 all_goals (go_end0;exact⟨rfl,rfl⟩)
theorem FP(a:Addr)(u:FrameMode)(w:World)(hc:w.cell? a=some (.int .i32 1))(hz:w.frozen? a=false) :
  CallsD Tryz.prog 228 #[.pointer (some a)] u w fun e u' w'=>u'=u∧(e=.returned (.tuple #[])∧w'=w.setCell a (.int .i32 0)):=by
 have hd:=BM
 have he:=EP
 have hr:=BN
 have hadd:=run_call_add (P:=Tryz.prog) Tryz.func264 (by kernel_rfl) (by kernel_rfl) (by kernel_rfl) .i32 (by kernel_rfl) (y := -1) (s:=0) hc hz (by simp[go_sem];rfl)
 have hcv:=run_convert_to_unsafe (P:=Tryz.prog) (src:=355) (dst:=155) Tryz.underlying355 Tryz.underlying155 (by kernel_rfl) hc
 go_enter_d Tryz.func228,Tryz.ntmps228
 go_wp2
 go_end0
 go_wp2
 go_end0
 exact⟨rfl,rfl⟩
theorem Wn(a:Addr)(w:World)(hc:w.cell? a=some (.int .i32 0))(hz:w.frozen? a=false) :
  Calls Tryz.prog 227 #[.pointer (some a)] w fun e w'=>e=.returned (.tuple #[])∧w'=w.setCell a (.int .i32 1):=by
 have hd:=BM
 have he:=EP
 have ha:=Nb
 have hcas:=run_call_cas_hit (P:=Tryz.prog) Tryz.func259 (by kernel_rfl) (by kernel_rfl) (by kernel_rfl) .i32 (by kernel_rfl) (y:=1) hc hz
 have hc':(w.setCell a (.int .i32 1)).cell? a=some (.int .i32 1):=World.cell?_setCell_same w a _ hc
 have hcv:=run_convert_to_unsafe (P:=Tryz.prog) (src:=355) (dst:=155) Tryz.underlying355 Tryz.underlying155 (by kernel_rfl) hc'
 go_enter Tryz.func227,Tryz.ntmps227
 go_wp2
 first|go_end0|(simp only[Exit.inBlock,Exit.then];refine bodyPost_ret (results_none rfl _ _ _) rfl ?_)|refine bodyPost_ret (results_none rfl _ _ _) rfl ?_
 go_wp2
 go_end0
 exact⟨rfl,rfl⟩
theorem zS(a:Addr)(w:World)(h:w.cell? a=some (.int .u32 0)):nT 203 #[.pointer (some a)] w (.bool false):=by
 have hl:=run_call_load (P:=Tryz.prog) Tryz.func226 (by kernel_rfl) (by kernel_rfl) (by kernel_rfl) .u32 (by kernel_rfl) h
 go_enter Tryz.func203,Tryz.ntmps203
 go_wp2
 go_ret
 exact⟨rfl,rfl⟩
def aaI(w:World)(b off:Nat)(e:Ending)(w':World)(R:World→Prop):Prop:=
 e=.returned (.tuple #[])∧R w'∧w'.cell? ⟨b,off,none⟩=some (.int .u32 0)∧w'.frozen? ⟨b,off,none⟩=false∧w'.cell? ⟨b,off+1,none⟩=some (.int .i32 1)∧w'.frozen? ⟨b,off+1,none⟩=false
theorem Yj(p:Value)(b off:Nat)(w:World)(R:World→Prop)(h0:w.cell? ⟨b,off,none⟩=some (.int .u32 0))(h1:w.cell? ⟨b,off+1,none⟩=some (.int .i32 0))(f0:w.frozen? ⟨b,off,none⟩=false)(f1:w.frozen? ⟨b,off+1,none⟩=false)(hf:Calls Tryz.prog 172 #[p] (w.setCell ⟨b,off+1,none⟩ (.int .i32 1)) fun e w'=>aaI w b off e w' R) :
  Calls Tryz.prog 204 #[.pointer (some ⟨b,off,none⟩),.func (.func 172) #[p] #[]] w fun e w'=>e=.returned (.tuple #[])∧∃w1,R w1∧w'=(w1.drew.setCell ⟨b,off,none⟩ (.int .u32 1)).setCell ⟨b,off+1,none⟩ (.int .i32 0):=by
 have l0:(w.setCell ⟨b,off+1,none⟩ (.int .i32 1)).cell? ⟨b,off,none⟩=some (.int .u32 0):=(World.cell?_setCell_other _ ⟨b,off+1,none⟩ ⟨b,off,none⟩ _ (by simp)).trans h0
 have hnot:∀(x:Bool) (w:World),(Op.unary .not (.bool x)).run Tryz.prog w=.ok (.bool (!x)) w:=fun _ _=>rfl
 go_enter_defers Tryz.func204,Tryz.ntmps204
 go_wp2_with (go_at_call 227;refine(Wn ⟨b,off+1,none⟩ _ (by go_simp) (by go_simp)).mono ?_;rintro e w' ⟨rfl,rfl⟩)
 refine(zS ⟨b,off,none⟩ _ l0).use ?_
 go_wp2_with fail
 refine Calls.mono hf ?_
 rintro e w1 ⟨rfl,hr,a0,z0,a1,z1⟩
 go_wp2_with fail
 refine leaves_cons (f:=229) (args:=#[.pointer (some ⟨b,off,none⟩),.bool true]) (by simp) (by simp[go_sem]) ?_
 refine(Iw ⟨b,off,none⟩ (.int .u32 0) .returning _ a0 z0).mono ?_
 rintro e u' w2 ⟨rfl,rfl,rfl⟩
 refine leaves_cons (f:=228) (args:=#[.pointer (some ⟨b,off+1,none⟩)]) (by simp[settle]) (by simp[go_sem]) ?_
 refine(FP ⟨b,off+1,none⟩ _ _ ?_ (by simp[z1])).mono ?_
 ·refine(World.cell?_setCell_other _ ⟨b,off,none⟩ ⟨b,off+1,none⟩ _ (by simp)).trans ?_
  rw[World.cell?_drew]
  exact a1
 rintro e u' w2 ⟨rfl,rfl,rfl⟩
 simp[Leaves,settle,results,Tryz.results204]
 exact⟨w1,hr,rfl⟩
theorem SC(p:Value)(b off:Nat)(w:World)(R:World→Prop)(h0:w.cell? ⟨b,off,none⟩=some (.int .u32 0))(h1:w.cell? ⟨b,off+1,none⟩=some (.int .i32 0))(f0:w.frozen? ⟨b,off,none⟩=false)(f1:w.frozen? ⟨b,off+1,none⟩=false)(hf:Calls Tryz.prog 172 #[p] (w.setCell ⟨b,off+1,none⟩ (.int .i32 1)) fun e w'=>aaI w b off e w' R) :
  Calls Tryz.prog 171 #[.pointer (some ⟨b,off,none⟩),.func (.func 172) #[p] #[]] w fun e w'=>e=.returned (.tuple #[])∧∃w1,R w1∧w'=(w1.drew.setCell ⟨b,off,none⟩ (.int .u32 1)).setCell ⟨b,off+1,none⟩ (.int .i32 0):=by
 have hnot:∀(x:Bool) (w:World),(Op.unary .not (.bool x)).run Tryz.prog w=.ok (.bool (!x)) w:=fun _ _=>rfl
 go_enter Tryz.func171,Tryz.ntmps171
 go_wp2_with fail
 refine(zS ⟨b,off,none⟩ _ h0).use ?_
 go_wp2_with fail
 refine Calls.mono (Yj p b off w R h0 h1 f0 f1 hf) ?_
 rintro e w' ⟨rfl,hr⟩
 go_wp2_with fail
 go_end0
 exact⟨rfl,hr⟩
end Go.Proofs.YtmffejnigppbpaaGreatDoor

set_option maxHeartbeats 4000000
set_option maxRecDepth 100000
namespace Go.Proofs.YtmffejnigppbpaaGreatDoor
open Go.RowKit
theorem jA{W w1:World}(hb:G W w1):(∀b o,b<W.heap.size→w1.cell? ⟨b,o,none⟩=W.cell? ⟨b,o,none⟩):=
 fun b o h=>hb.cell (p:=⟨b,o,none⟩) h
theorem Dt(s sub:List UInt8)(w:World)(hm:nJ w)(hs:s.length≤1000000):nT 196 #[.string (S s),.string (S sub)] w (.bool (Lib.contains s sub)):=by
 obtain⟨m,hm⟩:=hm
 refine(Tryz.strings_Contains (S s) (S sub) m w (by simp;omega) hm).mono ?_
 rintro e w' ⟨rfl,rfl⟩
 exact⟨rfl,rfl⟩
theorem o8(w:World)(o:Obj)(cs:Array Value)(t:TypeId)(i:Nat):((w.alloc o).alloc (.cells cs t)).drew.cell? ⟨w.heap.size+1,i,none⟩=cs[i]?:=by
 simp
def xg:List UInt8:=[32,45,45,45,32,57,45,45,32,57,57,45,32,57,57,57,32,45,57,45,32,45,57,57,32,45,45,57,32]
def NZ:List UInt8:=[32,57,57,57,32,45,57,57,32,45,45,57,32]
def N7:List UInt8:=[32,57,45,45,32,57,57,45,32,57,57,57,32]
def qJ(D T:List UInt8):List UInt8:=if D≠[45,45,45]∧T≠[45,45,45] then NZ else xg
def qK(D T:List UInt8):List UInt8:=if D≠[45,45,45]∧T≠[45,45,45] then N7 else xg
def St.bad(t:St):Bool:=
 let D:=dh t.y t.m t.d;let T:=dh t.h t.n t.s
 (decide (D=[45,45,45])&&decide (T=[45,45,45])) || !(Lib.contains (qJ D T) (32::(D++[32]))) || !(Lib.contains (qK D T) (32::(T++[32])))||(t.zd&&decide (t.h = -1))||(!t.zd && !decide (t.zn=0))
def St.most(t:St):Int:=if t.m = -1 then 31 else yF t.y t.m
def St.fits(t:St):Bool:=wth t.y 0 9999&&wth t.m 1 12&&wth t.d 1 t.most&&wth t.h 0 23&&wth t.n 0 59&&wth t.s 0 59&&kU t.zn
def St.right(t:St):Int:=if t.bad then 3 else if t.fits then 0 else 2
theorem zY(t:St)(w:World)(hm:nJ w)(hy0 : -9223372036854775808≤t.y)(hy1:t.y≤9223372036854775807):dA 163 #[.agg #[.int .i64 t.y,.int .i64 t.m,.int .i64 t.d,.int .i64 t.h,.int .i64 t.n,.int .i64 t.s,.bool t.zd,.int .i64 t.zn]] w (N9 t.right):=by
 obtain⟨y,m,d,h,n,s,zd,zn⟩:=t
 have HM:=hid hm
 simp only at hy0 hy1
 clear hm
 obtain⟨w1,hw1⟩:∃w1,w.alloc (.cells #[.int .i64 y,.int .i64 m,.int .i64 d,.int .i64 h,.int .i64 n,.int .i64 s,.bool zd,.int .i64 zn] 34)=w1:=⟨_,rfl⟩
 obtain⟨B,hB⟩:∃B,w.heap.size=B:=⟨_,rfl⟩
 have f0:w1.cell? ⟨B,0,none⟩=some (.int .i64 y):=by rw[←hw1,←hB,World.cell?_alloc_new];rfl
 have f1:w1.cell? ⟨B,1,none⟩=some (.int .i64 m):=by rw[←hw1,←hB,World.cell?_alloc_new];rfl
 have f2:w1.cell? ⟨B,2,none⟩=some (.int .i64 d):=by rw[←hw1,←hB,World.cell?_alloc_new];rfl
 have f3:w1.cell? ⟨B,3,none⟩=some (.int .i64 h):=by rw[←hw1,←hB,World.cell?_alloc_new];rfl
 have f4:w1.cell? ⟨B,4,none⟩=some (.int .i64 n):=by rw[←hw1,←hB,World.cell?_alloc_new];rfl
 have f5:w1.cell? ⟨B,5,none⟩=some (.int .i64 s):=by rw[←hw1,←hB,World.cell?_alloc_new];rfl
 have f6:w1.cell? ⟨B,6,none⟩=some (.bool zd):=by rw[←hw1,←hB,World.cell?_alloc_new];rfl
 have f7:w1.cell? ⟨B,7,none⟩=some (.int .i64 zn):=by rw[←hw1,←hB,World.cell?_alloc_new];rfl
 have hBlt:B<w1.heap.size:=by rw[←hw1,←hB];simp
 have G1:Hid (G w w1):=hid (by rw[←hw1];exact(G.refl w).alloc _)
 go_enter Tryz.func163,Tryz.ntmps163
 go_upto_region 1 with fail
 clear hw1 hB
 go_cut [3,4] (fun a b wx=>a=.string (S (dh y m d))∧b=.string (S (dh h n s))∧G w1 wx)
 case first=>
  go_region_held3 (fun w'=>w'.cell? ⟨B,0,none⟩=some (.int .i64 y)∧w'.cell? ⟨B,1,none⟩=some (.int .i64 m)∧w'.cell? ⟨B,2,none⟩=some (.int .i64 d)∧w'.cell? ⟨B,3,none⟩=some (.int .i64 h)∧w'.cell? ⟨B,4,none⟩=some (.int .i64 n)∧w'.cell? ⟨B,5,none⟩=some (.int .i64 s)) (go_keep)
   (first
    |(go_at_call 195;refine(Dq y m d _ _ ?_ ?_ ?_ ?_).mono ?_;(· (first|(simp[*];done)|(rw[hc _ _ (by first|omega|(simp;done)|(simp;omega))];simp[*,o8];done)));(· (first|(simp[*];done)|(rw[hc _ _ (by first|omega|(simp;done)|(simp;omega))];simp[*,o8];done)));(· (first|(simp[*];done)|(rw[hc _ _ (by first|omega|(simp;done)|(simp;omega))];simp[*,o8];done)));(· (first|omega|(simp;done)|(simp;omega)));rintro e w' ⟨rfl,hg⟩;have s0:=hg.cell (p:=⟨B,0,none⟩) (by first|omega|(simp;done)|(simp;omega));have s1:=hg.cell (p:=⟨B,1,none⟩) (by first|omega|(simp;done)|(simp;omega));have s2:=hg.cell (p:=⟨B,2,none⟩) (by first|omega|(simp;done)|(simp;omega));have s3:=hg.cell (p:=⟨B,3,none⟩) (by first|omega|(simp;done)|(simp;omega));have s4:=hg.cell (p:=⟨B,4,none⟩) (by first|omega|(simp;done)|(simp;omega));have s5:=hg.cell (p:=⟨B,5,none⟩) (by first|omega|(simp;done)|(simp;omega));have hc:=jA hg;have hz:=hg.size;(try simp at hz);have hgx:=hid hg;clear hg)
    |(go_at_call 195;refine(Dq h n s _ _ ?_ ?_ ?_ ?_).mono ?_;(· (first|(simp[*];done)|(rw[hc _ _ (by first|omega|(simp;done)|(simp;omega))];simp[*,o8];done)));(· (first|(simp[*];done)|(rw[hc _ _ (by first|omega|(simp;done)|(simp;omega))];simp[*,o8];done)));(· (first|(simp[*];done)|(rw[hc _ _ (by first|omega|(simp;done)|(simp;omega))];simp[*,o8];done)));(· (first|omega|(simp;done)|(simp;omega)));rintro e w' ⟨rfl,hg⟩;have s0:=hg.cell (p:=⟨B,0,none⟩) (by first|omega|(simp;done)|(simp;omega));have s1:=hg.cell (p:=⟨B,1,none⟩) (by first|omega|(simp;done)|(simp;omega));have s2:=hg.cell (p:=⟨B,2,none⟩) (by first|omega|(simp;done)|(simp;omega));have s3:=hg.cell (p:=⟨B,3,none⟩) (by first|omega|(simp;done)|(simp;omega));have s4:=hg.cell (p:=⟨B,4,none⟩) (by first|omega|(simp;done)|(simp;omega));have s5:=hg.cell (p:=⟨B,5,none⟩) (by first|omega|(simp;done)|(simp;omega));have hc:=jA hg;have hz:=hg.size;(try simp at hz);have hgx:=hid hg;clear hg))
  all_goals (go_wp2_with fail;go_meet;refine⟨rfl,rfl,?_⟩;exact by repeat (first|exact G.refl _|apply G.drew|apply G.alloc|refine G.trans ?_ (Hid.out ‹Hid (G _ _)›)))
 case rest=>
  obtain⟨rfl,rfl,gx⟩:=hcut
  obtain⟨D,hD⟩:∃D,dh y m d=D:=⟨_,rfl⟩
  obtain⟨T,hT⟩:∃T,dh h n s=T:=⟨_,rfl⟩
  rw[hD,hT]
  have HD:=hid hD
  have HT:=hid hT
  have hDl:D.length=3:=by rw[←hD];rfl
  have hTl:T.length=3:=by rw[←hT];rfl
  have GX:=hid gx
  have HMX:=hid (HM.out.grow (G1.out.trans gx))
  have k3:=(jA gx B 3 hBlt).trans f3
  clear hD hT gx
  by_cases hA:D=[45,45,45]∧T=[45,45,45]
  ·obtain⟨rfl,rfl⟩:=hA
   have HR:Hid ((⟨y,m,d,h,n,s,zd,zn⟩:St).right=3):=hid (by unfold St.right St.bad;simp only[HD.out,HT.out];rfl)
   go_wp2_with fail
   go_ret
   exact⟨by rw[HR.out];rfl,G1.out.trans GX.out⟩
  ·obtain⟨X,hX⟩:∃X,X=qJ D T:=⟨_,rfl⟩
   obtain⟨Y,hY⟩:∃Y,Y=qK D T:=⟨_,rfl⟩
   have hA2:D=[45,45,45]∧(D==[45,45,45])=true∧T≠[45,45,45]∧(T==[45,45,45])=false∧(D==T)=false∧X=xg∧Y=xg∨D≠[45,45,45]∧(D==[45,45,45])=false∧T=[45,45,45]∧(T==[45,45,45])=true∧(D==T)=false∧X=xg∧Y=xg∨(D==[45,45,45])=false∧(T==[45,45,45])=false∧X=NZ∧Y=N7:=by
    by_cases hd:D=[45,45,45]
    ·have ht:T≠[45,45,45]:=fun e=>hA ⟨hd,e⟩
     refine .inl ⟨hd,beq_iff_eq.2 hd,ht,beq_eq_false_iff_ne.2 ht,beq_eq_false_iff_ne.2 (fun e=>ht (e▸hd)),?_,?_⟩
     ·rw[hX];unfold qJ;rw[if_neg (fun h=>h.1 hd)]
     ·rw[hY];unfold qK;rw[if_neg (fun h=>h.1 hd)]
    ·by_cases ht:T=[45,45,45]
     ·refine .inr (.inl ⟨hd,beq_eq_false_iff_ne.2 hd,ht,beq_iff_eq.2 ht,beq_eq_false_iff_ne.2 (fun e=>hd (e.trans ht)),?_,?_⟩)
      ·rw[hX];unfold qJ;rw[if_neg (fun h=>h.2 ht)]
      ·rw[hY];unfold qK;rw[if_neg (fun h=>h.2 ht)]
     ·refine .inr (.inr ⟨beq_eq_false_iff_ne.2 hd,beq_eq_false_iff_ne.2 ht,?_,?_⟩)
      ·rw[hX];unfold qJ;rw[if_pos ⟨hd,ht⟩]
      ·rw[hY];unfold qK;rw[if_pos ⟨hd,ht⟩]
   have HXY:=hid hA2
   have HX:=hid hX
   have HY:=hid hY
   have HA:=hid hA
   clear hA2 hX hY hA
   go_upto_block 0 with fail
   go_cut [5,6] (fun a b wz=>a=.string (S X)∧b=.string (S Y)∧wz=wc)
   case first=>
    rcases HXY.out with⟨q1,b1,q2,b2,b3,q3,q4⟩|⟨q1,b1,q2,b2,b3,q3,q4⟩|⟨b1,b2,q3,q4⟩
    all_goals
     have Q3:=hid q3
     have Q4:=hid q4
     clear q3 q4
     try clear q1
     try clear q2
     go_wp2_with fail
     go_meet
     exact⟨by rw[Q3.out];rfl,by rw[Q4.out];rfl,rfl⟩
   case rest=>
    obtain⟨rfl,rfl,rfl⟩:=hcut
    have hXl:X.length≤1000:=by rw[HX.out];unfold qJ;split<;>decide
    have hYl:Y.length≤1000:=by rw[HY.out];unfold qK;split<;>decide
    have g6:=(jA GX.out B 6 hBlt).trans f6
    have g7:=(jA GX.out B 7 hBlt).trans f7
    obtain⟨c1,hc1⟩:∃c,Lib.contains X (32::(D++[32]))=c:=⟨_,rfl⟩
    obtain⟨c2,hc2⟩:∃c,Lib.contains Y (32::(T++[32]))=c:=⟨_,rfl⟩
    have HC1:=hid hc1
    have HC2:=hid hc2
    have HBAD:Hid ((⟨y,m,d,h,n,s,zd,zn⟩:St).bad=(!c1 || !c2||(zd&&decide (h = -1))||(!zd && !decide (zn=0)))):=hid (by
     unfold St.bad
     simp only[HD.out,HT.out]
     rw[←HX.out,←HY.out,hc1,hc2]
     have:(decide (D=[45,45,45])&&decide (T=[45,45,45]))=false:=by
      cases e:(decide (D=[45,45,45])&&decide (T=[45,45,45]))with
      |false=>rfl
      |true=>simp only[Bool.and_eq_true,decide_eq_true_eq]at e;exact absurd e HA.out
     rw[this,Bool.false_or])
    clear hc1 hc2
    go_upto_region 7 with fail
    go_cut [68] (fun a wz=>a=.bool (!c1 || !c2||(zd&&decide (h = -1))||(!zd && !decide (zn=0)))∧wz=wc)
    case first=>
     go_wp2_with fail
     refine(Dt X (32::(D++[32])) _ HMX.out (by omega)).use ?_
     rw[HC1.out]
     cases c1 with
     |false=>go_wp2_with fail;go_meet;exact⟨by simp,rfl⟩
     |true=>
      go_wp2_with fail
      refine(Dt Y (32::(T++[32])) _ HMX.out (by omega)).use ?_
      rw[HC2.out]
      cases c2 with
      |false=>go_wp2_with fail;go_meet;exact⟨by simp,rfl⟩
      |true=>
       cases zd with
       |true=>
        by_cases hh:h = -1
        ·subst hh
         go_wp2_with fail;go_meet;exact⟨by simp,rfl⟩
        ·have bh:(h == -1)=false:=by simpa using hh
         have HH:=hid hh
         clear hh
         go_wp2_with fail;go_meet;exact⟨by simp[HH.out],rfl⟩
       |false=>
        by_cases hz:zn=0
        ·subst hz
         go_wp2_with fail;go_meet;exact⟨by simp,rfl⟩
        ·have bz:(zn != 0)=true:=by simpa[bne_iff_ne]using hz
         have HZ:=hid hz
         clear hz
         go_wp2_with fail;go_meet;exact⟨by simp[HZ.out],rfl⟩
    case rest=>
     obtain⟨rfl,rfl⟩:=hcut
     cases hb:(!c1 || !c2||(zd&&decide (h = -1))||(!zd && !decide (zn=0)))with
     |true=>
      have HR:Hid ((⟨y,m,d,h,n,s,zd,zn⟩:St).right=3):=hid (by unfold St.right;rw[HBAD.out,hb];rfl)
      clear hb
      go_wp2_with fail
      go_ret
      exact⟨by rw[HR.out];rfl,G1.out.trans GX.out⟩
     |false=>
      have HR:Hid ((⟨y,m,d,h,n,s,zd,zn⟩:St).right=if (⟨y,m,d,h,n,s,zd,zn⟩:St).fits then 0 else 2):=hid (by unfold St.right;rw[HBAD.out,hb];rfl)
      clear hb
      have g0:=(jA GX.out B 0 hBlt).trans f0
      have g1:=(jA GX.out B 1 hBlt).trans f1
      have g2:=(jA GX.out B 2 hBlt).trans f2
      have g4:=(jA GX.out B 4 hBlt).trans f4
      have g5:=(jA GX.out B 5 hBlt).trans f5
      obtain⟨M,hM⟩:∃M,(⟨y,m,d,h,n,s,zd,zn⟩:St).most=M:=⟨_,rfl⟩
      obtain⟨b1,hb1⟩:∃b,wth y 0 9999=b:=⟨_,rfl⟩
      obtain⟨b2,hb2⟩:∃b,wth m 1 12=b:=⟨_,rfl⟩
      obtain⟨b3,hb3⟩:∃b,wth d 1 M=b:=⟨_,rfl⟩
      obtain⟨b4,hb4⟩:∃b,wth h 0 23=b:=⟨_,rfl⟩
      obtain⟨b5,hb5⟩:∃b,wth n 0 59=b:=⟨_,rfl⟩
      obtain⟨b6,hb6⟩:∃b,wth s 0 59=b:=⟨_,rfl⟩
      obtain⟨b7,hb7⟩:∃b,kU zn=b:=⟨_,rfl⟩
      have HFITS:Hid ((⟨y,m,d,h,n,s,zd,zn⟩:St).fits=(b1&&b2&&b3&&b4&&b5&&b6&&b7)):=hid (by unfold St.fits;rw[hM];simp only[hb1,hb2,hb3,hb4,hb5,hb6,hb7])
      have HMM:=hid hM
      have HB1:=hid hb1
      have HB2:=hid hb2
      have HB3:=hid hb3
      have HB4:=hid hb4
      have HB5:=hid hb5
      have HB6:=hid hb6
      have HB7:=hid hb7
      clear hb1 hb2 hb3 hb4 hb5 hb6 hb7 hM
      have hmm:m = -1∧(m != -1)=false∧M=31∨(m != -1)=true∧M=yF y m:=by
       by_cases e:m = -1
       ·exact .inl ⟨e,by simp[e],by rw[←HMM.out];unfold St.most;rw[if_pos e]⟩
       ·exact .inr ⟨by simpa[bne_iff_ne]using e,by rw[←HMM.out];unfold St.most;rw[if_neg e]⟩
      rcases hmm with⟨e1,bm,e3⟩|⟨bm,e3⟩
      ·have E1:=hid e1
       clear e1
       subst e3
       go_upto_region 12 with fail
       go_cut [118] (fun a wz=>a=.bool (!(b1&&b2&&b3&&b4&&b5&&b6&&b7))∧wz=wc)
       case first=>
        go_wp2_with fail
        refine(kK y 0 9999 _).use ?_
        rw[HB1.out]
        cases b1 with
        |false=>go_wp2_with fail;go_meet;exact⟨by simp,rfl⟩
        |true=>
         go_wp2_with fail
         refine(kK m 1 12 _).use ?_
         rw[HB2.out]
         cases b2 with
         |false=>go_wp2_with fail;go_meet;exact⟨by simp,rfl⟩
         |true=>
          go_wp2_with fail
          refine(kK d 1 31 _).use ?_
          rw[HB3.out]
          cases b3 with
          |false=>go_wp2_with fail;go_meet;exact⟨by simp,rfl⟩
          |true=>
           go_wp2_with fail
           refine(kK h 0 23 _).use ?_
           rw[HB4.out]
           cases b4 with
           |false=>go_wp2_with fail;go_meet;exact⟨by simp,rfl⟩
           |true=>
            go_wp2_with fail
            refine(kK n 0 59 _).use ?_
            rw[HB5.out]
            cases b5 with
            |false=>go_wp2_with fail;go_meet;exact⟨by simp,rfl⟩
            |true=>
             go_wp2_with fail
             refine(kK s 0 59 _).use ?_
             rw[HB6.out]
             cases b6 with
             |false=>go_wp2_with fail;go_meet;exact⟨by simp,rfl⟩
             |true=>
              go_wp2_with fail
              refine(ny zn _).use ?_
              rw[HB7.out]
              cases b7 with
              |false=>go_wp2_with fail;go_meet;exact⟨by simp,rfl⟩
              |true=>
               go_wp2_with fail;go_meet;exact⟨by simp,rfl⟩
       case rest=>
        obtain⟨rfl,rfl⟩:=hcut
        cases hb:(b1&&b2&&b3&&b4&&b5&&b6&&b7)with
        |true=>
         have HR2:Hid (N9 (⟨y,m,d,h,n,s,zd,zn⟩:St).right=.nilIface):=hid (by rw[HR.out,HFITS.out,hb];rfl)
         clear hb
         go_wp2_with fail
         go_ret
         exact⟨by rw[HR2.out];rfl,G1.out.trans GX.out⟩
        |false=>
         have HR2:Hid (N9 (⟨y,m,d,h,n,s,zd,zn⟩:St).right=eno 2):=hid (by rw[HR.out,HFITS.out,hb];rfl)
         clear hb
         go_wp2_with fail
         go_ret
         exact⟨by rw[HR2.out];rfl,G1.out.trans GX.out⟩
      ·subst e3
       go_upto_region 12 with(go_at_call 197;refine(Zc y m _ ⟨hy0,hy1⟩).use ?_)
       go_cut [118] (fun a wz=>a=.bool (!(b1&&b2&&b3&&b4&&b5&&b6&&b7))∧wz=wc)
       case first=>
        go_wp2_with fail
        refine(kK y 0 9999 _).use ?_
        rw[HB1.out]
        cases b1 with
        |false=>go_wp2_with fail;go_meet;exact⟨by simp,rfl⟩
        |true=>
         go_wp2_with fail
         refine(kK m 1 12 _).use ?_
         rw[HB2.out]
         cases b2 with
         |false=>go_wp2_with fail;go_meet;exact⟨by simp,rfl⟩
         |true=>
          go_wp2_with fail
          refine(kK d 1 (yF y m) _).use ?_
          rw[HB3.out]
          cases b3 with
          |false=>go_wp2_with fail;go_meet;exact⟨by simp,rfl⟩
          |true=>
           go_wp2_with fail
           refine(kK h 0 23 _).use ?_
           rw[HB4.out]
           cases b4 with
           |false=>go_wp2_with fail;go_meet;exact⟨by simp,rfl⟩
           |true=>
            go_wp2_with fail
            refine(kK n 0 59 _).use ?_
            rw[HB5.out]
            cases b5 with
            |false=>go_wp2_with fail;go_meet;exact⟨by simp,rfl⟩
            |true=>
             go_wp2_with fail
             refine(kK s 0 59 _).use ?_
             rw[HB6.out]
             cases b6 with
             |false=>go_wp2_with fail;go_meet;exact⟨by simp,rfl⟩
             |true=>
              go_wp2_with fail
              refine(ny zn _).use ?_
              rw[HB7.out]
              cases b7 with
              |false=>go_wp2_with fail;go_meet;exact⟨by simp,rfl⟩
              |true=>
               go_wp2_with fail;go_meet;exact⟨by simp,rfl⟩
       case rest=>
        obtain⟨rfl,rfl⟩:=hcut
        cases hb:(b1&&b2&&b3&&b4&&b5&&b6&&b7)with
        |true=>
         have HR2:Hid (N9 (⟨y,m,d,h,n,s,zd,zn⟩:St).right=.nilIface):=hid (by rw[HR.out,HFITS.out,hb];rfl)
         clear hb
         go_wp2_with fail
         go_ret
         exact⟨by rw[HR2.out];rfl,G1.out.trans GX.out⟩
        |false=>
         have HR2:Hid (N9 (⟨y,m,d,h,n,s,zd,zn⟩:St).right=eno 2):=hid (by rw[HR.out,HFITS.out,hb];rfl)
         clear hb
         go_wp2_with fail
         go_ret
         exact⟨by rw[HR2.out];rfl,G1.out.trans GX.out⟩
end Go.Proofs.YtmffejnigppbpaaGreatDoor
