/-
 What the batch lacks.
-/
import Derived.Test.YtmffejnigppbpaaGreatDoorDXCardItem
import Derived.Test.YtmffejnigppbpaaGreatDoorDXCardOf
import Derived.Test.YtmffejnigppbpaaGreatDoorDXCardOne
import Derived.Test.YtmffejnigppbpaaGreatDoorDXCardPrint
import Derived.Test.YtmffejnigppbpaaGreatDoorDXCardRight
import Derived.Test.YtmffejnigppbpaaGreatDoorDXFold
import Derived.Test.YtmffejnigppbpaaGreatDoorDXLinePrint
import Derived.Test.YtmffejnigppbpaaGreatDoorDXMA52
import Derived.Test.YtmffejnigppbpaaGreatDoorDXMA56
import Derived.Test.YtmffejnigppbpaaGreatDoorDXMA59
import Derived.Test.YtmffejnigppbpaaGreatDoorDXMA60
import Derived.Test.YtmffejnigppbpaaGreatDoorDXMA62
import Derived.Test.YtmffejnigppbpaaGreatDoorDXMA63
import Derived.Test.YtmffejnigppbpaaGreatDoorDXMA64
import Derived.Test.YtmffejnigppbpaaGreatDoorDXMA65
import Derived.Test.YtmffejnigppbpaaGreatDoorDXMA66
import Derived.Test.YtmffejnigppbpaaGreatDoorDXMA67
import Derived.Test.YtmffejnigppbpaaGreatDoorDXMA68
import Derived.Test.YtmffejnigppbpaaGreatDoorDXMA69
import Derived.Test.YtmffejnigppbpaaGreatDoorDXMA70
import Derived.Test.YtmffejnigppbpaaGreatDoorDXMA71
import Derived.Test.YtmffejnigppbpaaGreatDoorDXMA72
import Derived.Test.YtmffejnigppbpaaGreatDoorDXMA73
import Derived.Test.YtmffejnigppbpaaGreatDoorDXMA74
import Derived.Test.YtmffejnigppbpaaGreatDoorDXMA75
import Derived.Test.YtmffejnigppbpaaGreatDoorDXMA76
import Derived.Test.YtmffejnigppbpaaGreatDoorDXMA77
import Derived.Test.YtmffejnigppbpaaGreatDoorDXMA78
import Derived.Test.YtmffejnigppbpaaGreatDoorDXMA79
import Derived.Test.YtmffejnigppbpaaGreatDoorDXMLaws
import Derived.Test.YtmffejnigppbpaaGreatDoorDXMLineP
import Derived.Test.YtmffejnigppbpaaGreatDoorDXMLineR
import Derived.Test.YtmffejnigppbpaaGreatDoorDXMParse
import Derived.Test.YtmffejnigppbpaaGreatDoorDXMPieces
import Derived.Test.YtmffejnigppbpaaGreatDoorDXMRepl
import Derived.Test.YtmffejnigppbpaaGreatDoorDXMRules
import Derived.Test.YtmffejnigppbpaaGreatDoorDXMTell
import Derived.Test.YtmffejnigppbpaaGreatDoorDXMUtf
import Derived.Test.YtmffejnigppbpaaGreatDoorDXMVal
import Derived.Test.YtmffejnigppbpaaGreatDoorDXMVeil
import Derived.Test.YtmffejnigppbpaaGreatDoorDXParts
import Derived.Test.YtmffejnigppbpaaGreatDoorDXShelf
import Derived.Test.YtmffejnigppbpaaGreatDoorDXValRight
import Derived.Test.YtmffejnigppbpaaGreatDoorDXWhenPrint
import Derived.Deep.RegionHeld3
import Derived.Deep.OwnRows
import Derived.Deep.Slices
import Derived.OwnWalk
import Derived.Lib.SliceRun
import Derived.Laws.Cover3
import Derived.Laws.AppendOwn
import Derived.Deep.CutRange
import Derived.Deep.AppendLies
set_option linter.unusedVariables false
set_option linter.unusedSimpArgs false
set_option maxHeartbeats 16000000
set_option maxRecDepth 100000
namespace Go.Proofs.YtmffejnigppbpaaGreatDoor
open Go.RowKit
variable {w0 W W':World} {B off:Nat} {l:List Int}
theorem SR.set(h:SR w0 B off l W)(p:Nat)(y:Int):SR w0 B off (l.set p y) (W.setCell ⟨B,off+p,none⟩ (.int .i64 y)):=by
 refine⟨ad9 h.mv,by simpa using h.lt,fun i x hx=>?_,fun cur T fr e=>?_⟩
 case refine_2=>
  obtain⟨cur',h1,h2⟩:=h.blk cur T fr e
  exact⟨cur'.setIfInBounds (off+p) (.int .i64 y),by rw[World.setCell];simp[Array.getElem?_modify,h1],by simp[h2]⟩
 rw[List.getElem?_set]at hx
 rw[World.frozen?_setCell]
 by_cases e:p=i
 ·subst e
  rw[if_pos rfl]at hx
  split at hx
  ·rename_i hp
   obtain⟨h1,h2⟩:=h.cell p _ (List.getElem?_eq_getElem hp)
   cases hx
   exact⟨World.cell?_setCell_same _ _ _ h1,h2⟩
  ·cases hx
 ·rw[if_neg e]at hx
  obtain⟨h1,h2⟩:=h.cell i x hx
  exact⟨by rw[World.cell?_setCell_other _ _ _ _ (by simp;try omega)];exact h1,h2⟩
end Go.Proofs.YtmffejnigppbpaaGreatDoor
namespace Go.Proofs.YtmffejnigppbpaaGreatDoor
open Go.RowKit
theorem afP.set{bs:List Nat}{w w':World}(h:afP bs w w')(b o:Nat)(v:Value)(hb:b∈bs∨w.heap.size≤b):afP bs w (w'.setCell ⟨b,o,none⟩ v):=
 ⟨by simpa[World.setCell]using h.size,fun c hc hn=>by
  rw[Below.heap_setCell _ _ _ _ (by
   have:b≠c:=by rintro rfl;rcases hb with h1|h1;exact hn h1;omega
   exact Ne.symm this)]
  exact h.bl c hc hn,fun c j hc=>by rw[World.frozen?_setCell];exact h.fz c j hc,h.os,h.tape,h.output⟩
end Go.Proofs.YtmffejnigppbpaaGreatDoor
namespace Go.Proofs.YtmffejnigppbpaaGreatDoor
open Go.RowKit
theorem ark.set{w0 w:World}{X R A B C D T U k:Nat}{d m d' m':Int}{v:Value}(h:ark w0 w X R A B C D T U d m)(hbl:w0.heap.size≤X)(hk:(k=0∧v=.int .u32 d'∧m'=m)∨(k=1∧v=.int .i32 m'∧d'=d)) :
  ark w0 (w.setCell ⟨X,k,none⟩ v) X R A B C D T U d' m':=by
 refine⟨h.g.below.setCell (p:=⟨X,k,none⟩) hbl _,h.tr.away ((afP.refl [X] w).set X k v (.inl (by simp))) (fun x hx=>by simpa using h.hi x hx),h.hi,?_,?_,?_,fun j=>by rw[World.frozen?_setCell];exact h.fz j⟩
 all_goals rcases hk with⟨rfl,rfl,rfl⟩|⟨rfl,rfl,rfl⟩
 ·exact World.cell?_setCell_same _ _ _ h.c0
 ·rw[World.cell?_setCell_other _ _ _ _ (by simp)];exact h.c0
 ·rw[World.cell?_setCell_other _ _ _ _ (by simp)];exact h.c1
 ·exact World.cell?_setCell_same _ _ _ h.c1
 ·rw[World.cell?_setCell_other _ _ _ _ (by simp)];exact h.c3
 ·rw[World.cell?_setCell_other _ _ _ _ (by simp)];exact h.c3
end Go.Proofs.YtmffejnigppbpaaGreatDoor
namespace Go.Proofs.YtmffejnigppbpaaGreatDoor
open Go.RowKit
theorem cellsPm_length:∀(ps:List Pm) (vs:List Value),vs.length=ps.length→(agx ps vs).length=ps.length*2
 |[],vs,h=>by cases vs with|nil=>rfl|cons _ _=>simp at h
 |p::ps,[],h=>by simp at h
 |p::ps,v::vs,h=>by
  have:=cellsPm_length ps vs (by simpa using h)
  simp only[agx,List.length_cons,this];omega
theorem cellsPm_append:∀(ps:List Pm) (vs:List Value) (qs:List Pm) (us:List Value),vs.length=ps.length→agx (ps++qs) (vs++us)=agx ps vs++agx qs us
 |[],vs,qs,us,h=>by cases vs with|nil=>rfl|cons _ _=>simp at h
 |p::ps,[],qs,us,h=>by simp at h
 |p::ps,v::vs,qs,us,h=>by
  have:=cellsPm_append ps vs qs us (by simpa using h)
  simp only[List.cons_append,agx,this]
theorem cellsPm_one:∀(ps:List Pm) (vs:List Value),(∀v∈vs,v.oneCell'=true)→∀u∈agx ps vs,u.oneCell'=true
 |[],_,_,u,hu=>by simp[agx]at hu
 |p::ps,[],_,u,hu=>by simp[agx]at hu
 |p::ps,v::vs,h,u,hu=>by
  simp only[agx,List.mem_cons]at hu
  rcases hu with rfl|rfl|hu
  ·rfl
  ·exact h _ (by simp)
  ·exact cellsPm_one ps vs (fun v hv=>h v (by simp[hv])) u hu
theorem UN.slices{w:World}{v:Value}{ps:List Pm}(h:UN w v ps)(h0:ps≠[]):∃(b off cap:Nat) (vs:List Value),v=.slice (some ⟨b,off,none⟩) ps.length cap∧b<w.heap.size∧vs.length=ps.length ∧
  (∀(i:Nat) (p:Pm) (u:Value),ps[i]?=some p→vs[i]?=some u→Ux w u p.2)∧(∀(j:Nat) (u:Value),(agx ps vs)[j]?=some u→w.cell? ⟨b,off+j,none⟩=some u):=by
 obtain⟨a,cap,rfl,hc,h⟩:=h
 obtain⟨b,off,rfl,hb,h⟩:=h h0
 obtain⟨f,hf⟩:=Deep.choose_lt (α:=Value) (n:=ps.length) (p:=fun i sv=>∀p,ps[i]?=some p→w.cell? ⟨b,off+i*2,none⟩=some (.string (S p.1))∧w.cell? ⟨b,off+i*2+1,none⟩=some sv∧Ux w sv p.2) (fun i hi=>by
  obtain⟨sv,h1,h2,h3⟩:=h i _ (List.getElem?_eq_getElem hi)
  refine⟨sv,fun p hp=>?_⟩
  rw[List.getElem?_eq_getElem hi]at hp
  injection hp with hp
  subst hp
  exact⟨h1,h2,h3⟩)
 have hlen:((List.range ps.length).map f).length=ps.length:=by simp
 have hat:∀i,i<ps.length→((List.range ps.length).map f)[i]?=some (f i):=fun i hi=>by simp[List.getElem?_range hi]
 refine⟨b,off,cap,(List.range ps.length).map f,rfl,hb,hlen,?_,?_⟩
 ·intro i p u hp hu
  have hi:i<ps.length:=(List.getElem?_eq_some_iff.1 hp).1
  rw[hat i hi]at hu
  injection hu with hu
  subst hu
  exact(hf i hi p hp).2.2
 ·intro j u hu
  have hj:j<ps.length*2:=by rw[←cellsPm_length ps _ hlen];exact(List.getElem?_eq_some_iff.1 hu).1
  have hi:j/2<ps.length:=by omega
  have hp:=List.getElem?_eq_getElem hi
  obtain⟨k1,k2,_⟩:=hf _ hi _ hp
  obtain⟨m1,m2⟩:=amz ps _ _ _ _ hp (hat _ hi)
  rcases Nat.mod_two_eq_zero_or_one j with h2|h2
  ·have ej:j/2*2=j:=by omega
   rw[ej]at k1 m1
   rw[k1,←hu,m1]
  ·have ej:j/2*2+1=j:=by omega
   rw[Nat.add_assoc,ej]at k2
   rw[ej]at m2
   rw[k2,←hu,m2]
theorem infoParam:(Tryz.prog.info? 41).map (fun i=>(i.zero,i.size,i.bytes))=some (some (.agg #[.string ⟨#[]⟩,.slice none 0 0]),2,40):=by kernel_rfl
theorem clone_params(v:Value)(ps:List Pm)(w:World)(hP:UN w v ps)(hf:v=.slice none 0 0∨∃a n c,v=.slice (some a) n c)(hl:ps.length≤100000) :
  ∃vs:List Value,vs.length=ps.length∧(∀(i:Nat) (p:Pm) (x:Value),ps[i]?=some p→vs[i]?=some x→Ux w x p.2)∧∀W,G w W →
  Calls Tryz.prog 38 #[v] W fun e w'=>∃u,e=.returned u∧w'.ownsRow W.heap.size 41 2 u ps.length (agx ps vs)∧G W w':=by
 obtain⟨i0,hi,hz0,hz1,hz2⟩:=info_parts infoParam
 have heq:=fun W a n c=>Lib.run_eql_slice_nil (P:=Tryz.prog) W 31 41 a n c 0 0 Tryz.underlying31
 by_cases h0:ps=[]
 ·subst h0
  refine⟨[],rfl,by simp,fun W gW=>?_⟩
  rcases hf with rfl|⟨a,n,c,rfl⟩
  ·clear gW
   go_enter Tryz.func38,Tryz.ntmps38
   go_wp2_with fail
   go_ret
   exact⟨_,rfl,World.ownsRow_nil _ _ _ _,(by repeat (first|exact G.refl _|assumption|apply G.drew|apply G.drewN|apply G.alloc|refine G.trans ?_ (by assumption)))⟩
  ·obtain⟨a',cap,e,_,_⟩:=hP
   cases e
   clear gW
   go_enter Tryz.func38,Tryz.ntmps38
   go_wp2_with fail
   go_ret
   exact⟨_,rfl,World.ownsRow_made W #[] 0 (Nat.le_refl _) (by unfold maxLen;omega) rfl,(by repeat (first|exact G.refl _|assumption|apply G.drew|apply G.drewN|apply G.alloc|refine G.trans ?_ (by assumption)))⟩
 ·obtain⟨b,off,cap,vs,rfl,hb,hvl,hs,hc⟩:=hP.slices h0
  have hnl:=cellsPm_length ps vs hvl
  have hone:∀u∈agx ps vs,u.oneCell'=true:=cellsPm_one ps vs (fun v hv=>by
   obtain⟨i,hi',rfl⟩:=List.mem_iff_getElem.1 hv
   obtain⟨a,c,e,_⟩:=(hs i _ _ (List.getElem?_eq_getElem (by omega)) (List.getElem?_eq_getElem hi')).len
   rw[e];rfl)
  have hadd:∀j,(⟨b,off,none⟩:Addr).add j=⟨b,off+j,none⟩:=fun j=>by unfold Addr.add;split<;>simp_all
  have hcc:∀(W:World),G w W→∀(j:Nat) (u:Value),(agx ps vs)[j]?=some u→W.cell? ((⟨b,off,none⟩:Addr).add j)=some u:=fun W g j u hu=>by rw[hadd,g.cell (p:=⟨b,off+j,none⟩) hb];exact hc j u hu
  refine⟨vs,hvl,hs,fun W gW=>?_⟩
  have HCC:=hid (hcc _ (gW.alloc (.cells #[] 41)))
  have HN:=hid hnl
  have HONE:=hid hone
  have hown0:(W.alloc (.cells #[] 41)).ownsRow W.heap.size 41 2 (.slice (some ⟨W.heap.size,0,none⟩) 0 0) 0 []:=World.ownsRow_made W #[] 0 (Nat.le_refl _) (by unfold maxLen;omega) rfl
  have HOWN:=hid hown0
  clear hcc hs hc hnl hone hvl hown0 hadd hP hf gW hb
  go_enter Tryz.func38,Tryz.ntmps38
  go_wp2_with (at_builtin;refine wpList_append_own _ rfl _ _ 31 rfl W.heap.size 41 i0 _ 2 40 Tryz.underlying31 hi hz0 hz1 hz2 rfl (by decide) _ _ _ rfl HOWN.out ⟨b,off,none⟩ ps.length cap (agx ps vs) rfl HN.out HCC.out HONE.out (by unfold maxLen;omega) (by omega) (by simp) ?_;intro v' w1 hown' hgrow _)
  go_ret
  have hgrow':(W.alloc (.cells #[] 41)).grownBy w1 (some W.heap.size):=hgrow
  have hG:G W w1:=Below.grown ((Below.refl W.heap.size W).alloc (Nat.le_refl _) (.cells #[] 41)) hgrow' (by simp) (fun j hj=>by cases hj;exact Nat.le_refl _)
  exact⟨_,rfl,by simpa using hown',hG⟩
end Go.Proofs.YtmffejnigppbpaaGreatDoor
namespace Go.Proofs.YtmffejnigppbpaaGreatDoor
open Go.RowKit
theorem UH.p{n:Nat}{x:Except Er Ln}{v:Value}{w:World}(h:UH n x v w):aow x v w:=by
 unfold UH at h
 unfold aow
 split at h
 ·obtain⟨pv,_,e,_,ho⟩:=h
  exact⟨pv,e,ho.params⟩
 ·exact h
section
variable {w wx wy:World} {P E R:Nat} {s:L8} {cf:Bool} {g n:L8} {pv:Value} {v l:L8}
end
section
variable {cf:Bool} {s:L8}
end
end Go.Proofs.YtmffejnigppbpaaGreatDoor
namespace Go.Proofs.YtmffejnigppbpaaGreatDoor
open Go.RowKit
theorem gOp_skip{P:Program}{ops:Array Oper}{R:World→World→Prop}{Φ:Value→World→Prop}{o:Oper}{u:List (Nat×Tmp)}{vals:Nat→Value}{a:Act}{W:World}{t tg:Tmp}{g:Nat}{w0:Bool}{x:Value}(hv:vals g=x)(hx:x≠.bool w0)(hg:o.guard=some (g,w0))(hgd:ajC ops g=some tg)(hm:(g,tg)∈u)(hu:u.all (fun p=>p.2 != tg||p.1==g)=true)(hts:decide (tg<a.tmps.size)=true)(hd:o.dst=some t)(htd:decide (t<a.tmps.size)=true)(h:Φ undef W):gOp P ops R Φ o (gFr vals u a) W:=by
 have ht:=of_decide_eq_true htd
 have hy:yielded ops (gFr vals u a).tmps g≠some w0:=by
  unfold yielded
  have:=asy vals g tg u a hm hu (of_decide_eq_true hts)
  unfold ajC at hgd
  rw[hgd]
  simp only[Option.bind_some]
  rw[this,hv]
  intro e
  split at e
  ·rename_i b hb
   cases hb
   cases e
   exact hx rfl
  ·cases e
 unfold gOp
 rw[if_neg (by unfold Region.wanted;rw[hg];simpa using hy)]
 unfold agK
 rw[hd]
 simp only
 rw[Act.put_same,if_pos (by rw[apX];exact ht)]
 exact h
theorem undef_no{b:Bool}:undef≠.bool b:=by intro h;cases h
theorem bool_no{a b:Bool}(h:a≠b):Value.bool a≠.bool b:=by intro e;cases e;exact h rfl
end Go.Proofs.YtmffejnigppbpaaGreatDoor
namespace Go.Proofs.YtmffejnigppbpaaGreatDoor
open Go.RowKit
theorem Wl.of{w w':World}(h:G w w'):∀ {L:List Nat},(∀X∈L,w.heap.size≤X)→G w (Wl L w'):=by
 intro L
 induction L generalizing w' with
 |nil=>intro _;exact h
 |cons X L ih=>intro hX;exact ih (Wo.of h (hX X List.mem_cons_self)) (fun Y hY=>hX Y (List.mem_cons_of_mem _ hY))
end Go.Proofs.YtmffejnigppbpaaGreatDoor
namespace Go.Proofs.YtmffejnigppbpaaGreatDoor
open Go.RowKit
theorem set_right{v:Int}{xs:List It}{i:Nat}{x y:It}(h:acN v xs=true)(hx:xs[i]?=some x)(hn:y.n=x.n):acN v (xs.set i y)=adY v y:=by
 obtain⟨hi,hxe⟩:=List.getElem?_eq_some_iff.1 hx
 have hm:xs.map It.n=(xs.set i y).map It.n:=by
  rw[List.map_set,hn,←hxe]
  apply List.ext_getElem (by simp)
  intro j h1 h2
  rw[List.getElem_set]
  split
  ·rename_i e;subst e;simp
  ·rfl
 rw[Bool.eq_iff_iff]
 constructor
 ·intro hr
  exact(aed.1 hr).2.2.1 y (List.mem_set hi y)
 ·intro ho
  refine aoj hm (fun z hz=>?_) h
  rcases List.mem_or_eq_of_mem_set hz with hz|rfl
  ·exact(aed.1 h).2.2.1 z hz
  ·exact ho
def nXOWN:List UInt8:=[88,45,79,87,78]
theorem find_app{ps:List Pm}{p:Pm}{n:List UInt8}:afm (ps++[p]) n=(match afm ps n with|some k=>some k|none=>if aeu p.1 n then some ps.length else none):=by
 unfold afm
 rw[List.findIdx?_append]
 cases h:ps.findIdx? (fun q=>aeu q.1 n)with
 |some k=>rfl
 |none=>
  simp only[List.findIdx?_cons,List.findIdx?_nil]
  cases aeu p.1 n<;>simp
theorem parE_app{ps:List Pm}{p:Pm}{i:Nat}(h:i<ps.length):alW (ps++[p]) i=alW ps i:=by
 have hs:afm ps ps[i].1≠none:=fun e=>by
  unfold afm at e
  rw[List.findIdx?_eq_none_iff]at e
  have:=e ps[i] (List.getElem_mem h)
  simp[aeu]at this
 rw[awt h,awt (by simp;omega),List.getElem_append_left h,find_app]
 cases hh:afm ps ps[i].1 with
 |none=>exact absurd hh hs
 |some k=>rfl
theorem pmE_of{cf:Bool}{q:Pm}(h:pmR cf q=true):pmE cf q=0:=by
 unfold pmR at h
 simp only[Bool.and_eq_true,Bool.not_eq_true',List.isEmpty_eq_false_iff]at h
 unfold pmE
 rw[if_neg (by simp[h.1.1]),if_neg h.1.2,if_pos h.2]
theorem own_pmE{cf:Bool}{t:List UInt8}:pmE cf (nXOWN,[t,t])=if aeD cf t then 0 else 3:=by
 show(if GH nXOWN=false then 5 else if [t,t]=[] then 8 else if [t,t].all (aeD cf)then 0 else 3:Int)=_
 rw[show GH nXOWN=true from by decide]
 cases h:aeD cf t<;>simp[h]
theorem own_front{v:Int}{x:It}{t:List UInt8}(h:adY v x=true)(hf:afm x.ps nXOWN=none)(h20:x.ps.length<20)(ht:aeD (v==4) t=true):aee v ⟨x.g,x.n,x.ps++[(nXOWN,[t,t])],x.v⟩=true:=by
 obtain⟨a,b,c,d,e,f,g⟩:=ajq.1 h
 refine anH.2 ⟨?_,b,?_,?_⟩
 ·unfold anF at a⊢
  simp only[Bool.and_eq_true,decide_eq_true_eq,List.all_append,List.length_append,List.length_singleton,List.all_cons,List.all_nil]at a⊢
  refine⟨⟨a.1.1,by omega⟩,a.2,?_,trivial⟩
  unfold pmR
  simp only[List.all_cons,List.all_nil,ht,Bool.and_true]
  rw[show GH nXOWN=true from by decide]
  rfl
 ·refine as6 fun i hi=>?_
  by_cases hlt:i<x.ps.length
  ·have c1:alW x.ps i=0:=by
    unfold ajs at c
    have:=List.all_eq_true.1 c i (List.mem_range.2 hlt)
    simpa using this
   exact(parE_app hlt).trans c1
  ·have hi2:i<x.ps.length+1:=by simpa using hi
   obtain rfl:i=x.ps.length:=by omega
   rw[awt (by simp)]
   have e1:(x.ps++[((nXOWN,[t,t]):Pm)])[x.ps.length]'(by simp)=(nXOWN,[t,t]):=by simp
   simp only[e1]
   rw[find_app,hf]
   have e2:afT (Eg nXOWN) [t,t]=true:=by
    unfold afT
    rw[if_neg (by decide),if_neg (by decide),if_neg (by decide),if_neg (by decide),if_neg (by decide)]
    rfl
   have e3:aeu nXOWN nXOWN=true:=by decide
   simp only[e2,e3,if_true,akZ]
   rw[if_neg (by decide),if_neg (by omega)]
 ·rw[←d]
  show typeOf (acM v x.n).1 (x.ps++[(nXOWN,[t,t])])=_
  unfold typeOf
  rw[find_app]
  cases hh:afm x.ps [86,65,76,85,69]with
  |none=>rw[show aeu ((nXOWN,[t,t]):Pm).1 [86,65,76,85,69]=false from by show aeu nXOWN _=false;decide];rfl
  |some k=>simp only;rw[List.getElem?_append_left (axn hh)]
theorem own_code{v:Int}{x:It}{t:List UInt8}{c:Int}(h:adY v x=true)(hf:afm x.ps nXOWN=none)(hc:agD v ⟨x.g,x.n,x.ps++[(nXOWN,[t,t])],x.v⟩ c)(h0:c≠0):c=4∨(c=3∧aeD (v==4) t=false):=by
 obtain⟨a,b,_,d,e,f,g⟩:=ajq.1 h
 unfold anF at a
 simp only[Bool.and_eq_true,decide_eq_true_eq,List.all_eq_true]at a
 obtain⟨⟨⟨a1,a2⟩,a3⟩,a4⟩:=a
 have hn:¬(GH x.n=false∨(x.g≠[]∧GH x.g=false)):=by
  rw[a1]
  simp only[Bool.or_eq_true,List.isEmpty_iff]at a2
  rintro(h|⟨h1,h2⟩)
  ·cases h
  ·rcases a2 with a2|a2
   ·exact h1 a2
   ·rw[a2]at h2;cases h2
 by_cases h20:x.ps.length=20
 ·refine .inl (hc.head 4 none ?_)
  unfold acL lnX
  rw[if_neg hn,if_pos (by simp;omega)]
 cases ht:aeD (v==4) t with
 |false=>
  refine .inr ⟨hc.head 3 (some x.ps.length) ?_,rfl⟩
  unfold acL lnX
  rw[if_neg hn,if_neg (by simp;omega)]
  have e1:(x.ps++[((nXOWN,[t,t]):Pm)]).findIdx? (fun q=>pmE (v==4) q != 0)=some x.ps.length:=by
   rw[List.findIdx?_append,show x.ps.findIdx? (fun q=>pmE (v==4) q != 0)=none from by rw[List.findIdx?_eq_none_iff];intro q hq;rw[pmE_of (a4 q hq)];rfl]
   simp[List.findIdx?_cons,own_pmE,ht]
  simp only[e1]
  have e2:(x.ps++[((nXOWN,[t,t]):Pm)]).getD x.ps.length ([],[])=(nXOWN,[t,t]):=by simp
  rw[e2,own_pmE,ht];rfl
 |true=>
  rcases hc.long (own_front h hf (by omega) ht) e f with e1|e1
  ·exact absurd e1 h0
  ·exact .inl e1
end Go.Proofs.YtmffejnigppbpaaGreatDoor
namespace Go.Proofs.YtmffejnigppbpaaGreatDoor
open Go.RowKit
theorem BR.put{w0:World}{B:Nat}{T:TypeId}:∀(vs:List Value) (o:Nat) {cur:List Value} {W:World},BR w0 B T cur W→o+vs.length≤cur.length→∃cur',BR w0 B T cur' (W.setCells B o vs)∧cur'.length=cur.length∧∀k,cur'[k]?=if o≤k∧k<o+vs.length then vs[k-o]? else cur[k]?
 |[],o,cur,W,h,_=>⟨cur,h,rfl,fun k=>by rw[if_neg (by rintro⟨h1,h2⟩;simp at h2;omega)]⟩
 |v::vs,o,cur,W,h,hl=>by
  obtain⟨cur',h1,h2,h3⟩:=BR.put vs (o+1) (h.set o v) (by simp at hl⊢;omega)
  refine⟨cur',h1,by simpa using h2,fun k=>?_⟩
  rw[h3 k]
  by_cases e:k=o
  ·subst e
   rw[if_neg (by omega),if_pos (by simp),List.getElem?_set,if_pos rfl,if_pos (by simp at hl;omega),Nat.sub_self]
   rfl
  ·by_cases c:o+1≤k∧k<o+1+vs.length
   ·rw[if_pos c,if_pos (by simp;omega),show k-o=(k-(o+1))+1 by omega,List.getElem?_cons_succ]
   ·rw[if_neg c,if_neg (by simp;omega),List.getElem?_set,if_neg (fun h=>e h.symm)]
theorem EX.putAll{w0 W:World}{D cap:Nat}{xs:List It}(h:EX w0 D cap xs (fun _=>Wo D) W){i:Nat}{x:It}(hx:xs[i]?=some x)(y:It)(pv' lv':Value)(hok:adE (Wo D W) y pv' lv'):EX w0 D cap (xs.set i y) (fun _=>Wo D) (W.setCells D (i*15) (y.cells pv' lv')):=by
 obtain⟨cur,h1,h2,h3,h4⟩:=h
 have hi:=(List.getElem?_eq_some_iff.1 hx).1
 have hm:=Nat.mul_le_mul_right 15 (show i+1≤cap by omega)
 have hW:∀(vs:List Value) (o:Nat) (V:World),Wo D (V.setCells D o vs)=Wo D V:=fun vs=>by
  induction vs with
  |nil=>intro o V;rfl
  |cons v vs ih=>intro o V;exact(ih (o+1) (V.setCell ⟨D,o,none⟩ v)).trans (Wo.set _ _ _ _)
 obtain⟨cur',b1,b2,b3⟩:=BR.put (y.cells pv' lv') (i*15) h1 (by show i*15+15≤_;omega)
 refine⟨cur',b1,by rw[b2];exact h2,by simpa using h3,fun j z hz=>?_⟩
 rw[List.getElem?_set]at hz
 by_cases e:i=j
 ·subst e
  rw[if_pos rfl,if_pos hi]at hz
  cases hz
  refine⟨pv',lv',by show adE (Wo D _) y pv' lv';rw[hW];exact hok,fun k u hu=>?_⟩
  have hk:k<15:=(List.getElem?_eq_some_iff.1 hu).1
  rw[b3,if_pos ⟨by omega,by show _<i*15+15;omega⟩,Nat.add_sub_cancel_left]
  exact hu
 ·rw[if_neg e]at hz
  obtain⟨qv,mv,k1,k2⟩:=h4 j z hz
  refine⟨qv,mv,by show adE (Wo D _) z qv mv;rw[hW];exact k1,fun k u hu=>?_⟩
  have hk:k<15:=(List.getElem?_eq_some_iff.1 hu).1
  rw[b3,if_neg (by show ¬(_∧_<i*15+15);omega)]
  exact k2 k u hu
end Go.Proofs.YtmffejnigppbpaaGreatDoor
namespace Go.Proofs.YtmffejnigppbpaaGreatDoor
open Go.RowKit
theorem strs_far{w w':World}{b n c:Nat}{ls:List (List UInt8)}(h:Ux w (.slice (some ⟨b,0,none⟩) n c) ls)(hb:w'.heap[b]?=w.heap[b]?)(hs:w.heap.size≤w'.heap.size):Ux w' (.slice (some ⟨b,0,none⟩) n c) ls:=by
 obtain⟨⟨h1,h2,h3⟩,h4⟩:=h
 refine⟨⟨h1,h2,?_⟩,h4⟩
 rcases h3 with h3|⟨b2,off,cap,e,hl,hn,hc⟩
 ·exact .inl h3
 ·cases e
  exact .inr ⟨_,_,_,rfl,Nat.lt_of_lt_of_le hl hs,hn,fun j hj=>by rw[World.cell?_of_block (w:=w) (w':=w') hb];exact hc j hj⟩
theorem wide_pm{ps:List Pm}{n:Nat}(h:adm ps≤n):ps.length≤n∧∀p∈ps,p.1.length≤n:=by
 refine⟨by unfold adm at h;omega,fun p hp=>?_⟩
 have h1:ac5 p≤(ps.map ac5).sum:=aeg (List.mem_map_of_mem hp)
 have h2:ac5 p=p.1.length+p.2.length+(p.2.map List.length).sum:=rfl
 unfold adm at h
 omega
def ownI(t:List UInt8)(x:It):It:=⟨x.g,x.n,x.ps++[(nXOWN,[t,t])],x.v⟩
theorem own_sml{x:It}{t:List UInt8}(h:adm x.ps+x.g.length+x.n.length≤2500∧x.v.tx.length≤1500∧acY x.v.ps≤1500)(ht:t.length≤200):Sml (ownI t x):=by
 have e:adm (x.ps++[(nXOWN,[t,t])])=adm x.ps+(1+(5+2+(t.length+t.length))):=by
  unfold adm ac5
  simp[nXOWN]
  omega
 refine⟨?_,?_,?_⟩
 ·show x.g.length+x.n.length+adm (x.ps++[(nXOWN,[t,t])])≤10000
  omega
 ·show x.v.tx.length≤4900
  omega
 ·show acY x.v.ps≤4900
  omega
def parPhiA(cb D n cap:Nat)(ver:Int)(t:List UInt8)(k:Nat)(v:Value)(W:World):Prop:=
 match k with
 |0=>v=.agg #[.int .i64 ver,.slice (some ⟨D,0,none⟩) n cap]
 |1=>v=.nilIface
 |2=>v=.bool true
 |3=>v=.nilIface
 |4=>v=.bool true
 |5=>v=.bool true
 |6=>v=.bool true
 |7=>v=.nilIface
 |8=>v=.bool true
 |9=>v=.bool true
 |10=>v=undef
 |11=>v=undef
 |12=>v=.bool true
 |13=>v=.bool true
 |14=>v=undef
 |15=>v=undef
 |16=>v=undef
 |17=>v=undef
 |18=>v=undef
 |19=>v=undef
 |20=>v=undef
 |_=>True
def parPhiB(cb D n cap:Nat)(ver:Int)(t:List UInt8)(k:Nat)(v:Value)(W:World):Prop:=
 match k with
 |0=>v=.agg #[.int .i64 ver,.slice (some ⟨D,0,none⟩) n cap]
 |1=>∃ty e,v=.iface ty e
 |2=>v=.bool false
 |3=>v=eno 4
 |4=>v=.bool false
 |5=>v=.bool true
 |6=>v=.bool true
 |7=>v=eno 4
 |8=>v=.bool false
 |9=>v=.bool false
 |10=>v=.int .i64 4
 |11=>v=.bool true
 |12=>v=.bool true
 |13=>v=.bool true
 |14=>v=undef
 |15=>v=undef
 |16=>v=undef
 |17=>v=undef
 |18=>v=undef
 |19=>v=undef
 |20=>v=undef
 |_=>True
def parPhiC(cb D n cap:Nat)(ver:Int)(t:List UInt8)(k:Nat)(v:Value)(W:World):Prop:=
 match k with
 |0=>v=.agg #[.int .i64 ver,.slice (some ⟨D,0,none⟩) n cap]
 |1=>∃ty e,v=.iface ty e
 |2=>v=.bool false
 |3=>v=eno 3
 |4=>v=.bool false
 |5=>v=.bool true
 |6=>v=.bool true
 |7=>v=eno 3
 |8=>v=.bool false
 |9=>v=.bool false
 |10=>v=.int .i64 3
 |11=>v=.bool false
 |12=>v=.bool false
 |13=>v=.bool false
 |14=>v=.int .i64 3
 |15=>v=.bool true
 |16=>v=.bool true
 |17=>v=.string (S t)
 |18=>v=.pointer (some ⟨cb,0,none⟩)
 |19=>v=.int .i64 ver
 |20=>v=.bool (ver==4)
 |_=>True
theorem cardParams_walk(ver:Int)(iv:Value)(xs:List It)(at_:Int)(t:List UInt8)(w:World)(h:UA w iv xs)(hf:iv=.slice none 0 0∨∃a n c,iv=.slice (some a) n c)(hl:xs.length≤1048576)(hL:∀y∈xs,ajS y≤1048576)(za : -9223372036854775808≤at_∧at_≤9223372036854775807)(zt:t.length≤140737488351232)(hR:aeV w)(hE:UO w) :
  Um 7 #[acH ver iv,.int .i64 at_,.string (S t)] w (.bool true):=by
 have WR:=hid (fun W (g:G w W)=>ah2 W (hR.grow g) (hR.grow g).hm (hE.grow g))
 have HL:=hid (fun W (g:G w W)=>apZ ver iv xs W (h.grow g) hl hL (hR.grow g) (hE.grow g))
 have HI:=hid h
 have HR:=hid hR
 have HE:=hid hE
 have HF:=hid hf
 obtain⟨hb,hhb⟩:∃hb,amj ver xs=hb:=⟨_,rfl⟩
 rw[hhb]at HL
 have HHB:=hid hhb
 obtain⟨ia,ic,rfl,_⟩:=h.len
 obtain⟨i0,hi,hz0,hz1,hz2⟩:=info_parts infoParam
 clear h hf hl hL hR hE hhb
 unfold acH at HL
 unfold acH
 go_enter Tryz.func7,Tryz.ntmps7
 go_wp2_with fail
 generalize hw1:w.alloc _=w1
 have HB1:=hid (show w1.heap[w.heap.size]?=some (.cells #[.int .i64 ver,.slice ia xs.length ic] 24 (0,0)) by rw[←hw1];exact heap_alloc_new w _)
 have G1:=hid (show G w w1 by rw[←hw1];exact(G.refl w).alloc _)
 clear hw1
 refine(WR.out w1 G1.out).use ?_
 intro w2 g2
 have G2:=hid (G1.out.trans g2)
 have HB2:=hid (uU HB1.out g2)
 clear g2 WR
 obtain⟨c0,c1⟩:=acP HB2.out
 go_wp2_with fail
 refine(HL.out w2 G2.out).use ?_
 intro w4 g4
 have G4:=hid (G2.out.trans g4)
 have HB4:=hid (uU HB2.out g4)
 clear g4 HL c0 c1
 cases hb with
 |false=>
  go_wp2_with fail
  go_ret
  exact⟨rfl,G4.out⟩
 |true=>
 obtain⟨hbig,hri⟩:ajl xs=false∧acN ver xs=true:=by
  have:=HHB.out
  unfold amj at this
  simpa using this
 obtain⟨h40,_⟩:=ajF hbig
 have HSS:=hid (aq2 hbig)
 have HRI:=hid hri
 have h0:=auv hri
 have HVR:=hid (aed.1 hri).1
 clear hri hbig
 obtain⟨c0,c1⟩:=acP HB4.out
 have hpos:0<xs.length:=List.length_pos_iff.2 h0
 have b0:((xs.length:Int)==0)=false:=by rw[beq_eq_false_iff_ne];omega
 by_cases h200:200<t.length
 ·have h200':(200:Int)<(t.length:Int):=by omega
  go_wp2_with fail
  go_ret
  exact⟨rfl,G4.out⟩
 have h200':¬(200:Int)<(t.length:Int):=by omega
 obtain⟨ib,off,ic2,e,hb4,hit⟩:=af5 (HI.out.grow G4.out) h0
 cases e
 have PK0:=fun W=>aqo at_ (xs.length:Int) W (by omega) (by omega)
 have hp:=amB at_ (n:=(xs.length:Int)) (by omega)
 obtain⟨i,hi2⟩:∃i,ak0 at_ (xs.length:Int)=i:=⟨_,rfl⟩
 rw[hi2]at PK0 hp
 have PK:=hid PK0
 have hilt:(i:Int)<(xs.length:Int):=hp
 have hx:=List.getElem?_eq_getElem (l:=xs) (i:=i) (by omega)
 obtain⟨x,hxe⟩:∃x,xs[i]'(by omega)=x:=⟨_,rfl⟩
 rw[hxe]at hx
 obtain⟨pv,lv,hat⟩:=hit i x hx
 have hok4:=hat.ok
 obtain⟨pa,pc,rfl⟩:=hok4.pv
 obtain⟨la,lc,rfl⟩:=hok4.lv
 obtain⟨k0,k1,k2,k3,k4,k5,k6,k7,k8,k9,k10,k11,k12,k13,k14⟩:=hat.e
 have HX:=hid hx
 have hxm:=List.mem_of_getElem? hx
 have hss:=HSS.out x hxm
 have HONE:=hid ((aed.1 HRI.out).2.2.1 x hxm)
 have hxs:Sml x:=⟨by omega,by omega,by omega⟩
 obtain⟨hpc,hpn⟩:=wide_pm (ps:=x.ps) (n:=2500) (by omega)
 have HSO:=hid (own_sml (t:=t) hss (by omega))
 have HOK:=hid hok4
 have FD:=hid (fun W (g:G w4 W)=>aqj (.slice pa x.ps.length pc) x.ps nXOWN W (HOK.out.p.grow g) (by omega) (fun p hp=>by have:=hpn p hp;omega) (by decide))
 clear hit hat hx hxe hxm PK0 hp hi2 hok4
 go_wp2_with fail
 refine(PK.out _).use ?_
 go_upto_region 7 with fail
 generalize hw5:w4.alloc _=w5
 have HX5:=hid (show w5.heap[w4.heap.size]?=some (.cells (x.cells (.slice pa x.ps.length pc) (.slice la x.v.ps.length lc)).toArray 38 (0,0)) by rw[←hw5];exact heap_alloc_new w4 _)
 have G45:=hid (show G w4 w5 by rw[←hw5];exact(G.refl w4).alloc _)
 have HC5:=hid (uU HB4.out G45.out)
 clear hw5 k0 k1 k2 k3 k4 k5 k6 k7 k8 k9 k10 k11 k12 k13 k14 c0 c1
 obtain⟨_,_,q2,_⟩:=UM HX5.out
 go_wp2_with fail
 refine(FD.out w5 G45.out).use ?_
 intro w6 g6
 have G46:=hid (G45.out.trans g6)
 have HX6:=hid (uU HX5.out g6)
 have HC6:=hid (uU HC5.out g6)
 clear g6 q2 FD
 cases hfd:afm x.ps nXOWN with
 |some j=>
  have hj:akZ (some j)=(j:Int):=rfl
  rw[hj]
  have hj0:(0:Int)≤(j:Int):=by omega
  go_wp2_with fail
  go_ret
  exact⟨rfl,G4.out.trans G46.out⟩
 |none=>
 have HFD:=hid hfd
 rw[show akZ none = -1 from rfl]
 clear hfd
 obtain⟨vs0,hvl,hvs,hcl⟩:=clone_params (.slice pa x.ps.length pc) x.ps w4 HOK.out.p HOK.out.f (by omega)
 have HVL:=hid hvl
 have HVS:=hid hvs
 have HCL:=hid hcl
 clear hvl hvs hcl
 obtain⟨_,_,q2,_⟩:=UM HX6.out
 go_wp2_with fail
 refine(HCL.out w6 G46.out).mono ?_
 rintro e w7 ⟨u,rfl,hown,g7⟩
 have HOWN:=hid hown
 have HX7:=hid (uU HX6.out g7)
 have HC7:=hid (uU HC6.out g7)
 have G47:=hid (G46.out.trans g7)
 have G67:=hid g7
 have hx46:w4.heap.size<w6.heap.size:=UI HX6.out
 clear hown g7 q2 HCL
 go_wp2_with (at_builtin;go_loud (refine wpList_append_own _ rfl _ _ 31 rfl w6.heap.size 41 i0 _ 2 40 Tryz.underlying31 hi hz0 hz1 hz2 rfl (by decide) u x.ps.length _ rfl (apJ HOWN.out (((G.refl _).alloc _).alloc _)) ⟨w7.heap.size+1,0,none⟩ 1 1 [.string ⟨#[88,45,79,87,78]⟩,.slice (some ⟨w7.heap.size,0,none⟩) 2 2] rfl rfl (fun j x hx=>by rw[ajI,Nat.zero_add,cell_of_row _ _ j _ _ _ (apK w7 _ _)];simpa using hx) (by intro x hx;simp at hx;rcases hx with rfl|rfl<;>rfl) (by unfold maxLen;omega) (by omega) (by simp;have:=G67.out.size;omega) ?_);intro v2 w10 hown2 hgrow hnil;refine ahX.out ?_)
 generalize hw9:World.alloc (World.alloc w7 _) _=w9 at hgrow
 have hob:∀j,u.ownBlock=some j→w6.heap.size≤j∧j<w7.heap.size:=fun j hj=>HOWN.out.lt j hj
 have G79:=hid (show G w7 w9 by rw[←hw9];exact((G.refl _).alloc _).alloc _)
 have SV9:=hid (show Ux w9 (.slice (some ⟨w7.heap.size,0,none⟩) 2 2) [t,t] by rw[←hw9];exact(aiO w7 _ [t,t] (by simp)).grow ((G.refl _).alloc _))
 have hsz9:w7.heap.size<w9.heap.size:=by rw[←hw9];simp;omega
 have hs67:=G67.out.size
 have HX10:=hid ((hgrow.block _ (UI (uU HX7.out G79.out)) (fun e=>by have:=hob _ e.symm;omega)).trans (uU HX7.out G79.out))
 have hwc:w.heap.size<w4.heap.size:=UI HB4.out
 have HC10:=hid ((hgrow.block _ (UI (uU HC7.out G79.out)) (fun e=>by have:=hob _ e.symm;omega)).trans (uU HC7.out G79.out))
 have G410:=hid (show G w4 w10 from Below.grown (G47.out.trans G79.out).below hgrow (by have:=(G47.out.trans G79.out).size;exact this) (fun j hj=>by have:=hob j hj;omega))
 have SV10:=hid (strs_far SV9.out (hgrow.block w7.heap.size hsz9 (fun e=>by have:=hob _ e.symm;omega)) hgrow.size)
 have hs910:=hgrow.size
 have HOWN2:=hid hown2
 clear hw9 hgrow hown2 hob
 obtain⟨q0,q1,q2,q3,q4,q5,q6,q7,q8,q9,q10,q11,q12,q13,q14⟩:=UM HX10.out
 have fx:=fun i=>Lib.frozen_of_heap HX10.out i
 obtain⟨vb,vcap,rfl⟩:∃b c,v2=.slice (some ⟨b,0,none⟩) (x.ps.length+1) c:=by
  rcases HOWN2.out.2 with⟨_,h0⟩|⟨b,c,_,e,_⟩
  ·omega
  ·exact⟨b,c,e⟩
 clear hnil
 refine⟨?_⟩
 go_upto_region 10 with fail
 generalize hw11:World.setCell w10 _ _=w11
 have HX11:=hid (show w11.heap[w4.heap.size]?=some (.cells ((ownI t x).cells (.slice (some ⟨vb,0,none⟩) (x.ps.length+1) vcap) (.slice la x.v.ps.length lc)).toArray 38 (0,0)) by rw[←hw11];exact UJ HX10.out rfl)
 have HC11:=hid (show w11.heap[w.heap.size]?=some (.cells #[.int .i64 ver,.slice (some ⟨ib,off,none⟩) xs.length ic] 24 (0,0)) by rw[←hw11];exact((afi w10 w4.heap.size 2 _).block _ (UI HC10.out) (by intro e;have:=Option.some.inj e;omega)).trans HC10.out)
 have G411:=hid (show G w4 w11 by rw[←hw11];exact afK G410.out (Nat.le_refl _))
 have OWN11:=hid (show w11.ownsRow w6.heap.size 41 2 (.slice (some ⟨vb,0,none⟩) (x.ps.length+1) vcap) (x.ps.length+1) (agx x.ps vs0++[.string (S nXOWN),.slice (some ⟨w7.heap.size,0,none⟩) 2 2]) by rw[←hw11];exact aj3 HOWN2.out hx46)
 have SV11:=hid (show Ux w11 (.slice (some ⟨w7.heap.size,0,none⟩) 2 2) [t,t] by
  rw[←hw11]
  have hl:w7.heap.size<w10.heap.size:=Nat.lt_of_lt_of_le hsz9 (hs910)
  exact strs_far SV10.out ((afi w10 w4.heap.size 2 _).block _ hl (by intro e;have:=Option.some.inj e;omega)) (by simp))
 have hpar:UN w11 (.slice (some ⟨vb,0,none⟩) (x.ps.length+1) vcap) (x.ps++[(nXOWN,[t,t])]):=by
  refine anq (vs:=vs0++[.slice (some ⟨w7.heap.size,0,none⟩) 2 2]) (base:=w6.heap.size) (t:=41) (by simp[HVL.out]) (fun j p v hp hv=>?_) (by rw[List.length_append,cellsPm_append _ _ _ _ HVL.out];exact OWN11.out)
  rcases Nat.lt_or_ge j x.ps.length with hj|hj
  ·rw[List.getElem?_append_left hj]at hp
   rw[List.getElem?_append_left (by rw[HVL.out];omega)]at hv
   exact(HVS.out j p v hp hv).grow G411.out
  ·have hj2:j=x.ps.length:=by
    have:=(List.getElem?_eq_some_iff.1 hp).1
    simp at this
    omega
   subst hj2
   rw[List.getElem?_append_right (Nat.le_refl _)]at hp
   rw[List.getElem?_append_right (by rw[HVL.out];omega)]at hv
   simp at hp
   rw[HVL.out]at hv
   simp at hv
   subst hp hv
   exact SV11.out
 have OK11:=hid (show adE w11 (ownI t x) (.slice (some ⟨vb,0,none⟩) (x.ps.length+1) vcap) (.slice la x.v.ps.length lc)from⟨hpar,HOK.out.l.grow G411.out,.inr ⟨_,_,_,rfl⟩,HOK.out.y,HOK.out.t⟩)
 clear hw11 hpar HX10 HC10 HOWN2 SV10 SV11 OWN11 SV9 q0 q1 q2 q3 q4 q5 q6 q7 q8 q9 q10 q11 q12 q13 q14 fx
 obtain⟨c0,c1⟩:=acP HC11.out
 go_upto_region 11 with fail
 generalize hw12:w11.alloc _=w12
 have G1112:=hid (show G w11 w12 by rw[←hw12];exact(G.refl w11).alloc _)
 have HD12:=hid (show w12.heap[w11.heap.size]?=some (.cells #[.int .i64 ver,.slice (some ⟨ib,off,none⟩) xs.length ic] 24 (0,0)) by rw[←hw12];exact heap_alloc_new w11 _)
 have HC12:=hid (uU HC11.out G1112.out)
 have HX12:=hid (uU HX11.out G1112.out)
 have G11:=hid (G4.out.trans G411.out)
 clear hw12 c0 c1
 obtain⟨cs,hlies,hrow⟩:=(HI.out.grow G11.out).lies
 have CL:=hid (akS (.slice (some ⟨ib,off,none⟩) xs.length ic) xs.length cs w11 hlies HF.out (by omega) w12 G1112.out w12.heap.size (Nat.le_refl _))
 have HROW:=hid hrow
 have hsz12:w11.heap.size<w12.heap.size:=UI HD12.out
 clear hlies hrow
 obtain⟨c0,c1⟩:=acP HC12.out
 go_wp2_with fail
 refine CL.out.mono ?_
 rintro e w13 ⟨u2,rfl,hown3,g13⟩
 have G1113:=hid (G1112.out.trans g13)
 have HD13:=hid (uU HD12.out g13)
 have HC13:=hid (uU HC12.out g13)
 have HX13:=hid (uU HX12.out g13)
 clear c0 c1 CL g13
 rcases hown3.2 with⟨_,hz⟩|⟨D,cap,cur,rfl,hD,_⟩
 ·omega
 have HOWN3:=hid hown3
 clear hown3
 obtain⟨d0,d1⟩:=acP HD13.out
 have fd:=fun i=>Lib.frozen_of_heap HD13.out i
 go_upto_region 12 with fail
 generalize hw14:World.setCell w13 _ _=w14
 have hle11:w4.heap.size<w11.heap.size:=UI HX11.out
 have HD14:=hid (show w14.heap[w11.heap.size]?=some (.cells #[.int .i64 ver,.slice (some ⟨D,0,none⟩) xs.length cap] 24 (0,0)) by rw[←hw14];exact UJ HD13.out rfl)
 have HC14:=hid (show w14.heap[w.heap.size]?=some (.cells #[.int .i64 ver,.slice (some ⟨ib,off,none⟩) xs.length ic] 24 (0,0)) by rw[←hw14];exact((afi w13 w11.heap.size 1 _).block _ (UI HC13.out) (by intro e;have:=Option.some.inj e;omega)).trans HC13.out)
 have HX14:=hid (show w14.heap[w4.heap.size]?=some (.cells ((ownI t x).cells (.slice (some ⟨vb,0,none⟩) (x.ps.length+1) vcap) (.slice la x.v.ps.length lc)).toArray 38 (0,0)) by rw[←hw14];exact((afi w13 w11.heap.size 1 _).block _ (UI HX13.out) (by intro e;have:=Option.some.inj e;omega)).trans HX13.out)
 have G1114:=hid (show G w11 w14 by rw[←hw14];exact afK G1113.out (Nat.le_refl _))
 have OWN14:=hid (show aeP w12.heap.size w14 (.slice (some ⟨D,0,none⟩) xs.length cap) xs.length cs by rw[←hw14];exact aj3 HOWN3.out hsz12)
 have EX14:=hid (EX.start OWN14.out HROW.out rfl G1114.out (by omega))
 clear hw14 d0 d1 fd HOWN3 OWN14
 obtain⟨d0,d1⟩:=acP HD14.out
 obtain⟨q0,q1,q2,q3,q4,q5,q6,q7,q8,q9,q10,q11,q12,q13,q14⟩:=UM HX14.out
 obtain⟨pv0,lv0,hok0,hcell0⟩:=EX14.out.at_ HX.out
 have hat0:alo w14 D (i*15) x pv0 lv0:=⟨hcell0,hok0.sub (Wo.sub D w14)⟩
 obtain⟨k0,k1,k2,k3,k4,k5,k6,k7,k8,k9,k10,k11,k12,k13,k14⟩:=hat0.e
 have fz:=fun i=>EX14.out.fz i
 clear hok0 hcell0 hat0
 go_upto_region 13 with fail
 generalize hw15:World.setCell _ _ _=w15
 have EX15:=hid (show EX w14 D cap (xs.set i (ownI t x)) (fun _=>Wo D) w15 by rw[←hw15];exact EX14.out.putAll HX.out (ownI t x) _ _ (OK11.out.grow (Wo.of G1114.out (by omega))))
 clear hw15 d0 d1 q0 q1 q2 q3 q4 q5 q6 q7 q8 q9 q10 q11 q12 q13 q14 k0 k1 k2 k3 k4 k5 k6 k7 k8 k9 k10 k11 k12 k13 k14 fz
 have hmv:=EX15.out.mv
 have HC15:=hid ((hmv.block _ (UI HC14.out) (by intro e;have:=Option.some.inj e;omega)).trans HC14.out)
 have HX15:=hid ((hmv.block _ (UI HX14.out) (by intro e;have:=Option.some.inj e;omega)).trans HX14.out)
 have HD15:=hid ((hmv.block _ (UI HD14.out) (by intro e;have:=Option.some.inj e;omega)).trans HD14.out)
 have G1115:=hid (alz G1114.out hmv (by omega))
 have G15:=hid (G11.out.trans G1115.out)
 have LN:=hid (aok ver HVR.out (ownI t x) _ _ w15 (OK11.out.grow G1115.out) HSO.out (HR.out.grow G15.out) (HR.out.grow G15.out).hm (HE.out.grow G15.out))
 clear hmv
 obtain⟨c0,c1⟩:=acP HC15.out
 obtain⟨q0,q1,q2,q3,q4,q5,q6,q7,q8,q9,q10,q11,q12,q13,q14⟩:=UM HX15.out
 go_wp2_with fail
 refine LN.out.use ?_
 intro r w16 hr g16
 have G16:=hid (G15.out.trans g16)
 have HD16:=hid (uU HD15.out g16)
 have HC16:=hid (uU HC15.out g16)
 have hit:UA w16 (.slice (some ⟨D,0,none⟩) xs.length cap) (xs.set i (ownI t x)):=by
  have:=(EX15.out.grow (fun _ _ _ h=>Wo.g h) g16).items (fun _=>Wo.sub D w16)
  simpa using this
 have RT:=hid (fun W (g:G w16 W)=>aem ver _ (xs.set i (ownI t x)) W (hit.grow g) (by simp;omega) (fun y hy=>by
  rcases List.mem_or_eq_of_mem_set hy with hy|rfl
  ·have:=HSS.out y hy
   exact⟨by omega,by omega,by omega⟩
  ·exact HSO.out) (HR.out.grow (G16.out.trans g)) (HR.out.grow (G16.out.trans g)).hm (HE.out.grow (G16.out.trans g)))
 have HRT:=hid (set_right (v:=ver) HRI.out HX.out (y:=ownI t x) rfl)
 unfold acH at RT
 clear hit g16 LN q0 q1 q2 q3 q4 q5 q6 q7 q8 q9 q10 q11 q12 q13 q14 c0 c1
 rcases hr with⟨hone,rfl⟩|⟨hno,c,rfl,hc0,hoc⟩
 ·rw[hone]at HRT
  go_wp2_with fail
  refine(avF _).use ?_
  intro w17 g17
  have G17:=hid g17
  have HC17:=hid (uU HC16.out g17)
  have HD17:=hid (uU HD16.out g17)
  clear g17 hone
  go_upto_region 15 with fail
  refine wp_region_any (by kernel_rfl) ?_
  refine acJ (E:=#[false,false,false,false,false,false,false,false,false,false,false,false,false,false,false,false,false,false,false,false,false,false,false,false,false,false,false]) G 21 (parPhiA w.heap.size D xs.length cap ver t) [some [],some [(0,71)],some [(1,72)],some [],some [(3,74)],some [(2,73),(4,75)],some [(5,76)],some [(6,77)],some [(7,78),(6,77)],some [(8,79),(6,77),(6,77)],some [(9,80)],some [(10,81),(9,80)],some [(9,80),(11,82),(6,77)],some [(12,83),(6,77)],some [(13,84)],some [(14,85),(13,84)],some [(15,86),(13,84),(13,84)],some [(16,87)],some [(16,87)],some [(18,89),(16,87)],some [(19,90),(16,87)],none,none,none,none,none,none] [(0,71),(1,72),(2,73),(3,74),(4,75),(5,76),(6,77),(7,78),(8,79),(9,80),(10,81),(11,82),(12,83),(13,84),(14,85),(15,86),(16,87),(17,88),(18,89),(19,90),(20,91)] _ (by kernel_rfl) (by decide) (by kernel_rfl) (by kernel_rfl) rfl G.refl (fun _ _ _=>G.trans) (w0:=w17) ((G.refl w17).drew) ?_ ?_ ?_
  ·intro k v W W' g h
   match k,h with
   |0,h=>exact h
   |1,h=>exact h
   |2,h=>exact h
   |3,h=>exact h
   |4,h=>exact h
   |5,h=>exact h
   |6,h=>exact h
   |7,h=>exact h
   |8,h=>exact h
   |9,h=>exact h
   |10,h=>exact h
   |11,h=>exact h
   |12,h=>exact h
   |13,h=>exact h
   |14,h=>exact h
   |15,h=>exact h
   |16,h=>exact h
   |17,h=>exact h
   |18,h=>exact h
   |19,h=>exact h
   |20,h=>exact h
   |n+21,h=>trivial
  ·refine lW (fun vals W g d=>?_)<|lW (fun vals W g d=>?_)<|lW (fun vals W g d=>?_)<|lW (fun vals W g d=>?_)<|lW (fun vals W g d=>?_)<|lW (fun vals W g d=>?_)<|lW (fun vals W g d=>?_)<|lW (fun vals W g d=>?_)<|lW (fun vals W g d=>?_)<|lW (fun vals W g d=>?_)<|lW (fun vals W g d=>?_)<|lW (fun vals W g d=>?_)<|lW (fun vals W g d=>?_)<|lW (fun vals W g d=>?_)<|lW (fun vals W g d=>?_)<|lW (fun vals W g d=>?_)<|lW (fun vals W g d=>?_)<|lW (fun vals W g d=>?_)<|lW (fun vals W g d=>?_)<|lW (fun vals W g d=>?_)<|lW (fun vals W g d=>?_)<|UB<|UB<|UB<|UB<|UB<|UB adJ
   ·refine nX rfl rfl rfl fun K hK=>?_
    simp only[gFr]at hK⊢
    obtain⟨d0',d1'⟩:=acP (uU HD17.out g)
    go_simp
    exact hK _ _ (G.refl _) rfl
   ·obtain⟨d0,_⟩:=d
    change vals 0=_ at d0
    refine nX rfl rfl rfl fun K hK=>?_
    simp only[gFr,d0]at hK⊢
    go_simp
    refine(RT.out W (G17.out.trans g)).use ?_
    intro r W' hr hg
    rcases hr with⟨_,rfl⟩|⟨hno,_⟩
    ·exact hK _ _ hg rfl
    ·rw[HRT.out]at hno;cases hno
   ·obtain⟨d1,_⟩:=d
    change vals 1=_ at d1
    refine nX rfl rfl rfl fun K hK=>?_
    simp only[gFr,d1]at hK⊢
    go_simp
    exact hK _ _ (G.refl _) rfl
   ·refine nX rfl rfl rfl fun K hK=>?_
    simp only[gFr]at hK⊢
    go_simp
    exact hK _ _ (G.refl _) rfl
   ·obtain⟨d3,_⟩:=d
    change vals 3=_ at d3
    refine nX rfl rfl rfl fun K hK=>?_
    simp only[gFr,d3]at hK⊢
    go_simp
    exact hK _ _ (G.refl _) rfl
   ·obtain⟨d2,d4,_⟩:=d
    change vals 2=_ at d2
    change vals 4=_ at d4
    refine nX rfl rfl rfl fun K hK=>?_
    simp only[gFr,d2,d4]at hK⊢
    go_simp
    exact hK _ _ (G.refl _) rfl
   ·obtain⟨d5,_⟩:=d
    change vals 5=_ at d5
    refine nX rfl rfl rfl fun K hK=>?_
    simp only[gFr,d5]at hK⊢
    go_simp
    exact hK _ _ (G.refl _) rfl
   ·obtain⟨d6,_⟩:=d
    change vals 6=_ at d6
    refine agN (t:=78) (g:=6) (tg:=77) rfl rfl (by decide) (by decide) rfl d6 rfl rfl fun K hK=>?_
    simp only[gFr,d6]at hK⊢
    go_simp
    exact hK _ _ (G.refl _) rfl
   ·obtain⟨d7,d6,_⟩:=d
    change vals 7=_ at d7
    change vals 6=_ at d6
    refine agN (t:=79) (g:=6) (tg:=77) rfl rfl (by decide) (by decide) rfl d6 rfl rfl fun K hK=>?_
    simp only[gFr,d7,d6]at hK⊢
    go_simp
    exact hK _ _ (G.refl _) rfl
   ·obtain⟨d8,d6,_,_⟩:=d
    change vals 8=_ at d8
    change vals 6=_ at d6
    refine agN (t:=80) (g:=6) (tg:=77) rfl rfl (by decide) (by decide) rfl d6 rfl rfl fun K hK=>?_
    simp only[gFr,d8,d6]at hK⊢
    go_simp
    exact hK _ _ (G.refl _) rfl
   ·obtain⟨d9,_⟩:=d
    change vals 9=_ at d9
    exact gOp_skip (t:=81) (g:=9) (tg:=80) d9 (bool_no (by decide)) rfl rfl (by decide) (by decide) rfl rfl rfl rfl
   ·obtain⟨d10,d9,_⟩:=d
    change vals 10=_ at d10
    change vals 9=_ at d9
    exact gOp_skip (t:=82) (g:=9) (tg:=80) d9 (bool_no (by decide)) rfl rfl (by decide) (by decide) rfl rfl rfl rfl
   ·obtain⟨d9,d11,d6,_⟩:=d
    change vals 9=_ at d9
    change vals 11=_ at d11
    change vals 6=_ at d6
    refine agN (t:=83) (g:=6) (tg:=77) rfl rfl (by decide) (by decide) rfl d6 rfl rfl fun K hK=>?_
    simp only[gFr,d9,d11,d6]at hK⊢
    go_simp
    exact hK _ _ (G.refl _) rfl
   ·obtain⟨d12,d6,_⟩:=d
    change vals 12=_ at d12
    change vals 6=_ at d6
    refine agN (t:=84) (g:=6) (tg:=77) rfl rfl (by decide) (by decide) rfl d6 rfl rfl fun K hK=>?_
    simp only[gFr,d12,d6]at hK⊢
    go_simp
    exact hK _ _ (G.refl _) rfl
   ·obtain⟨d13,_⟩:=d
    change vals 13=_ at d13
    exact gOp_skip (t:=85) (g:=13) (tg:=84) d13 (bool_no (by decide)) rfl rfl (by decide) (by decide) rfl rfl rfl rfl
   ·obtain⟨d14,d13,_⟩:=d
    change vals 14=_ at d14
    change vals 13=_ at d13
    exact gOp_skip (t:=86) (g:=13) (tg:=84) d13 (bool_no (by decide)) rfl rfl (by decide) (by decide) rfl rfl rfl rfl
   ·obtain⟨d15,d13,_,_⟩:=d
    change vals 15=_ at d15
    change vals 13=_ at d13
    exact gOp_skip (t:=87) (g:=13) (tg:=84) d13 (bool_no (by decide)) rfl rfl (by decide) (by decide) rfl rfl rfl rfl
   ·obtain⟨d16,_⟩:=d
    change vals 16=_ at d16
    exact gOp_skip (t:=88) (g:=16) (tg:=87) d16 undef_no rfl rfl (by decide) (by decide) rfl rfl rfl rfl
   ·obtain⟨d16,_⟩:=d
    change vals 16=_ at d16
    exact gOp_skip (t:=89) (g:=16) (tg:=87) d16 undef_no rfl rfl (by decide) (by decide) rfl rfl rfl rfl
   ·obtain⟨d18,d16,_⟩:=d
    change vals 18=_ at d18
    change vals 16=_ at d16
    exact gOp_skip (t:=90) (g:=16) (tg:=87) d16 undef_no rfl rfl (by decide) (by decide) rfl rfl rfl rfl
   ·obtain⟨d19,d16,_⟩:=d
    change vals 19=_ at d19
    change vals 16=_ at d16
    exact gOp_skip (t:=91) (g:=16) (tg:=87) d16 undef_no rfl rfl (by decide) (by decide) rfl rfl rfl rfl
  ·intro vals W g d
   simp only[acS,ac1]at d
   obtain⟨d0,d1,d2,d3,d4,d5,d6,d7,d8,d9,d10,d11,d12,d13,d14,d15,d16,d17,d18,d19,d20,_⟩:=d
   change vals 0=_ at d0
   change vals 1=_ at d1
   change vals 2=_ at d2
   change vals 3=_ at d3
   change vals 4=_ at d4
   change vals 5=_ at d5
   change vals 6=_ at d6
   change vals 7=_ at d7
   change vals 8=_ at d8
   change vals 9=_ at d9
   change vals 10=_ at d10
   change vals 11=_ at d11
   change vals 12=_ at d12
   change vals 13=_ at d13
   change vals 14=_ at d14
   change vals 15=_ at d15
   change vals 16=_ at d16
   change vals 17=_ at d17
   change vals 18=_ at d18
   change vals 19=_ at d19
   change vals 20=_ at d20
   have GW:=hid (G17.out.trans g)
   clear g
   refine⟨?_⟩
   show wpList _ _ _ [_,_,_,_,_,_] _ _
   simp only[gFr,d0,d1,d2,d3,d4,d5,d6,d7,d8,d9,d10,d11,d12,d13,d14,d15,d16,d17,d18,d19,d20]
   clear d0 d1 d2 d3 d4 d5 d6 d7 d8 d9 d10 d11 d12 d13 d14 d15 d16 d17 d18 d19 d20
   go_wp2_with fail
   all_goals first
    |(rename_i h1 h2;exact absurd (Option.some.inj h1) undef_no)
    |(go_ret;exact⟨rfl,G16.out.trans GW.out⟩)
 ·rw[hno]at HRT
  have hcc:=own_code HONE.out HFD.out hoc hc0
  clear hno hoc hc0
  rcases hcc with rfl|⟨rfl,hth⟩
  ·go_wp2_with fail
   refine(agX 4 _ (HE.out.grow G16.out)).use ?_
   intro w17 g17
   have G17:=hid g17
   have HC17:=hid (uU HC16.out g17)
   have HD17:=hid (uU HD16.out g17)
   clear g17
   go_upto_region 15 with fail
   refine wp_region_any (by kernel_rfl) ?_
   refine acJ (E:=#[false,false,false,false,false,false,false,false,false,false,false,false,false,false,false,false,false,false,false,false,false,false,false,false,false,false,false]) G 21 (parPhiB w.heap.size D xs.length cap ver t) [some [],some [(0,71)],some [(1,72)],some [],some [(3,74)],some [(2,73),(4,75)],some [(5,76)],some [(6,77)],some [(7,78),(6,77)],some [(8,79),(6,77),(6,77)],some [(9,80)],some [(10,81),(9,80)],some [(9,80),(11,82),(6,77)],some [(12,83),(6,77)],some [(13,84)],some [(14,85),(13,84)],some [(15,86),(13,84),(13,84)],some [(16,87)],some [(16,87)],some [(18,89),(16,87)],some [(19,90),(16,87)],none,none,none,none,none,none] [(0,71),(1,72),(2,73),(3,74),(4,75),(5,76),(6,77),(7,78),(8,79),(9,80),(10,81),(11,82),(12,83),(13,84),(14,85),(15,86),(16,87),(17,88),(18,89),(19,90),(20,91)] _ (by kernel_rfl) (by decide) (by kernel_rfl) (by kernel_rfl) rfl G.refl (fun _ _ _=>G.trans) (w0:=w17) ((G.refl w17).drew) ?_ ?_ ?_
   ·intro k v W W' g h
    match k,h with
    |0,h=>exact h
    |1,h=>exact h
    |2,h=>exact h
    |3,h=>exact h
    |4,h=>exact h
    |5,h=>exact h
    |6,h=>exact h
    |7,h=>exact h
    |8,h=>exact h
    |9,h=>exact h
    |10,h=>exact h
    |11,h=>exact h
    |12,h=>exact h
    |13,h=>exact h
    |14,h=>exact h
    |15,h=>exact h
    |16,h=>exact h
    |17,h=>exact h
    |18,h=>exact h
    |19,h=>exact h
    |20,h=>exact h
    |n+21,h=>trivial
   ·refine lW (fun vals W g d=>?_)<|lW (fun vals W g d=>?_)<|lW (fun vals W g d=>?_)<|lW (fun vals W g d=>?_)<|lW (fun vals W g d=>?_)<|lW (fun vals W g d=>?_)<|lW (fun vals W g d=>?_)<|lW (fun vals W g d=>?_)<|lW (fun vals W g d=>?_)<|lW (fun vals W g d=>?_)<|lW (fun vals W g d=>?_)<|lW (fun vals W g d=>?_)<|lW (fun vals W g d=>?_)<|lW (fun vals W g d=>?_)<|lW (fun vals W g d=>?_)<|lW (fun vals W g d=>?_)<|lW (fun vals W g d=>?_)<|lW (fun vals W g d=>?_)<|lW (fun vals W g d=>?_)<|lW (fun vals W g d=>?_)<|lW (fun vals W g d=>?_)<|UB<|UB<|UB<|UB<|UB<|UB adJ
    ·refine nX rfl rfl rfl fun K hK=>?_
     simp only[gFr]at hK⊢
     obtain⟨d0',d1'⟩:=acP (uU HD17.out g)
     go_simp
     exact hK _ _ (G.refl _) rfl
    ·obtain⟨d0,_⟩:=d
     change vals 0=_ at d0
     refine nX rfl rfl rfl fun K hK=>?_
     simp only[gFr,d0]at hK⊢
     go_simp
     refine(RT.out W (G17.out.trans g)).use ?_
     intro r W' hr hg
     rcases hr with⟨hok,_⟩|⟨_,c2,k2,he,_⟩
     ·rw[HRT.out]at hok;cases hok
     ·obtain⟨ty,e,rfl⟩:=ad8.iface he
      exact hK _ _ hg ⟨ty,e,rfl⟩
    ·obtain⟨d1,_⟩:=d
     refine nX rfl rfl rfl fun K hK=>?_
     obtain⟨ty,e,e1⟩:=d1
     simp only[gFr]at hK⊢
     simp only[e1]at hK⊢
     go_simp
     exact hK _ _ (G.refl _) rfl
    ·refine nX rfl rfl rfl fun K hK=>?_
     simp only[gFr]at hK⊢
     go_simp
     exact hK _ _ (G.refl _) rfl
    ·obtain⟨d3,_⟩:=d
     change vals 3=_ at d3
     refine nX rfl rfl rfl fun K hK=>?_
     simp only[gFr,d3]at hK⊢
     go_simp
     exact hK _ _ (G.refl _) rfl
    ·obtain⟨d2,d4,_⟩:=d
     change vals 2=_ at d2
     change vals 4=_ at d4
     refine nX rfl rfl rfl fun K hK=>?_
     simp only[gFr,d2,d4]at hK⊢
     go_simp
     exact hK _ _ (G.refl _) rfl
    ·obtain⟨d5,_⟩:=d
     change vals 5=_ at d5
     refine nX rfl rfl rfl fun K hK=>?_
     simp only[gFr,d5]at hK⊢
     go_simp
     exact hK _ _ (G.refl _) rfl
    ·obtain⟨d6,_⟩:=d
     change vals 6=_ at d6
     refine agN (t:=78) (g:=6) (tg:=77) rfl rfl (by decide) (by decide) rfl d6 rfl rfl fun K hK=>?_
     simp only[gFr,d6]at hK⊢
     go_simp
     exact hK _ _ (G.refl _) rfl
    ·obtain⟨d7,d6,_⟩:=d
     change vals 7=_ at d7
     change vals 6=_ at d6
     refine agN (t:=79) (g:=6) (tg:=77) rfl rfl (by decide) (by decide) rfl d6 rfl rfl fun K hK=>?_
     simp only[gFr,d7,d6]at hK⊢
     go_simp
     exact hK _ _ (G.refl _) rfl
    ·obtain⟨d8,d6,_,_⟩:=d
     change vals 8=_ at d8
     change vals 6=_ at d6
     refine agN (t:=80) (g:=6) (tg:=77) rfl rfl (by decide) (by decide) rfl d6 rfl rfl fun K hK=>?_
     simp only[gFr,d8,d6]at hK⊢
     go_simp
     exact hK _ _ (G.refl _) rfl
    ·obtain⟨d9,_⟩:=d
     change vals 9=_ at d9
     refine agN (t:=81) (g:=9) (tg:=80) rfl rfl (by decide) (by decide) rfl d9 rfl rfl fun K hK=>?_
     simp only[gFr,d9]at hK⊢
     go_simp
     exact hK _ _ (G.refl _) rfl
    ·obtain⟨d10,d9,_⟩:=d
     change vals 10=_ at d10
     change vals 9=_ at d9
     refine agN (t:=82) (g:=9) (tg:=80) rfl rfl (by decide) (by decide) rfl d9 rfl rfl fun K hK=>?_
     simp only[gFr,d10,d9]at hK⊢
     go_simp
     exact hK _ _ (G.refl _) rfl
    ·obtain⟨d9,d11,d6,_⟩:=d
     change vals 9=_ at d9
     change vals 11=_ at d11
     change vals 6=_ at d6
     refine agN (t:=83) (g:=6) (tg:=77) rfl rfl (by decide) (by decide) rfl d6 rfl rfl fun K hK=>?_
     simp only[gFr,d9,d11,d6]at hK⊢
     go_simp
     exact hK _ _ (G.refl _) rfl
    ·obtain⟨d12,d6,_⟩:=d
     change vals 12=_ at d12
     change vals 6=_ at d6
     refine agN (t:=84) (g:=6) (tg:=77) rfl rfl (by decide) (by decide) rfl d6 rfl rfl fun K hK=>?_
     simp only[gFr,d12,d6]at hK⊢
     go_simp
     exact hK _ _ (G.refl _) rfl
    ·obtain⟨d13,_⟩:=d
     change vals 13=_ at d13
     exact gOp_skip (t:=85) (g:=13) (tg:=84) d13 (bool_no (by decide)) rfl rfl (by decide) (by decide) rfl rfl rfl rfl
    ·obtain⟨d14,d13,_⟩:=d
     change vals 14=_ at d14
     change vals 13=_ at d13
     exact gOp_skip (t:=86) (g:=13) (tg:=84) d13 (bool_no (by decide)) rfl rfl (by decide) (by decide) rfl rfl rfl rfl
    ·obtain⟨d15,d13,_,_⟩:=d
     change vals 15=_ at d15
     change vals 13=_ at d13
     exact gOp_skip (t:=87) (g:=13) (tg:=84) d13 (bool_no (by decide)) rfl rfl (by decide) (by decide) rfl rfl rfl rfl
    ·obtain⟨d16,_⟩:=d
     change vals 16=_ at d16
     exact gOp_skip (t:=88) (g:=16) (tg:=87) d16 undef_no rfl rfl (by decide) (by decide) rfl rfl rfl rfl
    ·obtain⟨d16,_⟩:=d
     change vals 16=_ at d16
     exact gOp_skip (t:=89) (g:=16) (tg:=87) d16 undef_no rfl rfl (by decide) (by decide) rfl rfl rfl rfl
    ·obtain⟨d18,d16,_⟩:=d
     change vals 18=_ at d18
     change vals 16=_ at d16
     exact gOp_skip (t:=90) (g:=16) (tg:=87) d16 undef_no rfl rfl (by decide) (by decide) rfl rfl rfl rfl
    ·obtain⟨d19,d16,_⟩:=d
     change vals 19=_ at d19
     change vals 16=_ at d16
     exact gOp_skip (t:=91) (g:=16) (tg:=87) d16 undef_no rfl rfl (by decide) (by decide) rfl rfl rfl rfl
   ·intro vals W g d
    simp only[acS,ac1]at d
    obtain⟨d0,d1,d2,d3,d4,d5,d6,d7,d8,d9,d10,d11,d12,d13,d14,d15,d16,d17,d18,d19,d20,_⟩:=d
    change vals 0=_ at d0
    change vals 2=_ at d2
    change vals 3=_ at d3
    change vals 4=_ at d4
    change vals 5=_ at d5
    change vals 6=_ at d6
    change vals 7=_ at d7
    change vals 8=_ at d8
    change vals 9=_ at d9
    change vals 10=_ at d10
    change vals 11=_ at d11
    change vals 12=_ at d12
    change vals 13=_ at d13
    change vals 14=_ at d14
    change vals 15=_ at d15
    change vals 16=_ at d16
    change vals 17=_ at d17
    change vals 18=_ at d18
    change vals 19=_ at d19
    change vals 20=_ at d20
    have GW:=hid (G17.out.trans g)
    clear g d1
    refine⟨?_⟩
    show wpList _ _ _ [_,_,_,_,_,_] _ _
    simp only[gFr,d0,d2,d3,d4,d5,d6,d7,d8,d9,d10,d11,d12,d13,d14,d15,d16,d17,d18,d19,d20]
    clear d0 d2 d3 d4 d5 d6 d7 d8 d9 d10 d11 d12 d13 d14 d15 d16 d17 d18 d19 d20
    go_wp2_with fail
    all_goals first
     |(rename_i h1 h2;exact absurd (Option.some.inj h1) undef_no)
     |(go_ret;exact⟨rfl,G16.out.trans GW.out⟩)
  ·have LH:=hid (fun W=>ank t (ver==4) W (by omega))
   rw[hth]at LH
   go_wp2_with fail
   refine(agX 3 _ (HE.out.grow G16.out)).use ?_
   intro w17 g17
   have G17:=hid g17
   have HC17:=hid (uU HC16.out g17)
   have HD17:=hid (uU HD16.out g17)
   clear g17 hth
   go_upto_region 15 with fail
   refine wp_region_any (by kernel_rfl) ?_
   refine acJ (E:=#[false,false,false,false,false,false,false,false,false,false,false,false,false,false,false,false,false,false,false,false,false,false,false,false,false,false,false]) G 21 (parPhiC w.heap.size D xs.length cap ver t) [some [],some [(0,71)],some [(1,72)],some [],some [(3,74)],some [(2,73),(4,75)],some [(5,76)],some [(6,77)],some [(7,78),(6,77)],some [(8,79),(6,77),(6,77)],some [(9,80)],some [(10,81),(9,80)],some [(9,80),(11,82),(6,77)],some [(12,83),(6,77)],some [(13,84)],some [(14,85),(13,84)],some [(15,86),(13,84),(13,84)],some [(16,87)],some [(16,87)],some [(18,89),(16,87)],some [(19,90),(16,87)],none,none,none,none,none,none] [(0,71),(1,72),(2,73),(3,74),(4,75),(5,76),(6,77),(7,78),(8,79),(9,80),(10,81),(11,82),(12,83),(13,84),(14,85),(15,86),(16,87),(17,88),(18,89),(19,90),(20,91)] _ (by kernel_rfl) (by decide) (by kernel_rfl) (by kernel_rfl) rfl G.refl (fun _ _ _=>G.trans) (w0:=w17) ((G.refl w17).drew) ?_ ?_ ?_
   ·intro k v W W' g h
    match k,h with
    |0,h=>exact h
    |1,h=>exact h
    |2,h=>exact h
    |3,h=>exact h
    |4,h=>exact h
    |5,h=>exact h
    |6,h=>exact h
    |7,h=>exact h
    |8,h=>exact h
    |9,h=>exact h
    |10,h=>exact h
    |11,h=>exact h
    |12,h=>exact h
    |13,h=>exact h
    |14,h=>exact h
    |15,h=>exact h
    |16,h=>exact h
    |17,h=>exact h
    |18,h=>exact h
    |19,h=>exact h
    |20,h=>exact h
    |n+21,h=>trivial
   ·refine lW (fun vals W g d=>?_)<|lW (fun vals W g d=>?_)<|lW (fun vals W g d=>?_)<|lW (fun vals W g d=>?_)<|lW (fun vals W g d=>?_)<|lW (fun vals W g d=>?_)<|lW (fun vals W g d=>?_)<|lW (fun vals W g d=>?_)<|lW (fun vals W g d=>?_)<|lW (fun vals W g d=>?_)<|lW (fun vals W g d=>?_)<|lW (fun vals W g d=>?_)<|lW (fun vals W g d=>?_)<|lW (fun vals W g d=>?_)<|lW (fun vals W g d=>?_)<|lW (fun vals W g d=>?_)<|lW (fun vals W g d=>?_)<|lW (fun vals W g d=>?_)<|lW (fun vals W g d=>?_)<|lW (fun vals W g d=>?_)<|lW (fun vals W g d=>?_)<|UB<|UB<|UB<|UB<|UB<|UB adJ
    ·refine nX rfl rfl rfl fun K hK=>?_
     simp only[gFr]at hK⊢
     obtain⟨d0',d1'⟩:=acP (uU HD17.out g)
     go_simp
     exact hK _ _ (G.refl _) rfl
    ·obtain⟨d0,_⟩:=d
     change vals 0=_ at d0
     refine nX rfl rfl rfl fun K hK=>?_
     simp only[gFr,d0]at hK⊢
     go_simp
     refine(RT.out W (G17.out.trans g)).use ?_
     intro r W' hr hg
     rcases hr with⟨hok,_⟩|⟨_,c2,k2,he,_⟩
     ·rw[HRT.out]at hok;cases hok
     ·obtain⟨ty,e,rfl⟩:=ad8.iface he
      exact hK _ _ hg ⟨ty,e,rfl⟩
    ·obtain⟨d1,_⟩:=d
     refine nX rfl rfl rfl fun K hK=>?_
     obtain⟨ty,e,e1⟩:=d1
     simp only[gFr]at hK⊢
     simp only[e1]at hK⊢
     go_simp
     exact hK _ _ (G.refl _) rfl
    ·refine nX rfl rfl rfl fun K hK=>?_
     simp only[gFr]at hK⊢
     go_simp
     exact hK _ _ (G.refl _) rfl
    ·obtain⟨d3,_⟩:=d
     change vals 3=_ at d3
     refine nX rfl rfl rfl fun K hK=>?_
     simp only[gFr,d3]at hK⊢
     go_simp
     exact hK _ _ (G.refl _) rfl
    ·obtain⟨d2,d4,_⟩:=d
     change vals 2=_ at d2
     change vals 4=_ at d4
     refine nX rfl rfl rfl fun K hK=>?_
     simp only[gFr,d2,d4]at hK⊢
     go_simp
     exact hK _ _ (G.refl _) rfl
    ·obtain⟨d5,_⟩:=d
     change vals 5=_ at d5
     refine nX rfl rfl rfl fun K hK=>?_
     simp only[gFr,d5]at hK⊢
     go_simp
     exact hK _ _ (G.refl _) rfl
    ·obtain⟨d6,_⟩:=d
     change vals 6=_ at d6
     refine agN (t:=78) (g:=6) (tg:=77) rfl rfl (by decide) (by decide) rfl d6 rfl rfl fun K hK=>?_
     simp only[gFr,d6]at hK⊢
     go_simp
     exact hK _ _ (G.refl _) rfl
    ·obtain⟨d7,d6,_⟩:=d
     change vals 7=_ at d7
     change vals 6=_ at d6
     refine agN (t:=79) (g:=6) (tg:=77) rfl rfl (by decide) (by decide) rfl d6 rfl rfl fun K hK=>?_
     simp only[gFr,d7,d6]at hK⊢
     go_simp
     exact hK _ _ (G.refl _) rfl
    ·obtain⟨d8,d6,_,_⟩:=d
     change vals 8=_ at d8
     change vals 6=_ at d6
     refine agN (t:=80) (g:=6) (tg:=77) rfl rfl (by decide) (by decide) rfl d6 rfl rfl fun K hK=>?_
     simp only[gFr,d8,d6]at hK⊢
     go_simp
     exact hK _ _ (G.refl _) rfl
    ·obtain⟨d9,_⟩:=d
     change vals 9=_ at d9
     refine agN (t:=81) (g:=9) (tg:=80) rfl rfl (by decide) (by decide) rfl d9 rfl rfl fun K hK=>?_
     simp only[gFr,d9]at hK⊢
     go_simp
     exact hK _ _ (G.refl _) rfl
    ·obtain⟨d10,d9,_⟩:=d
     change vals 10=_ at d10
     change vals 9=_ at d9
     refine agN (t:=82) (g:=9) (tg:=80) rfl rfl (by decide) (by decide) rfl d9 rfl rfl fun K hK=>?_
     simp only[gFr,d10,d9]at hK⊢
     go_simp
     exact hK _ _ (G.refl _) rfl
    ·obtain⟨d9,d11,d6,_⟩:=d
     change vals 9=_ at d9
     change vals 11=_ at d11
     change vals 6=_ at d6
     refine agN (t:=83) (g:=6) (tg:=77) rfl rfl (by decide) (by decide) rfl d6 rfl rfl fun K hK=>?_
     simp only[gFr,d9,d11,d6]at hK⊢
     go_simp
     exact hK _ _ (G.refl _) rfl
    ·obtain⟨d12,d6,_⟩:=d
     change vals 12=_ at d12
     change vals 6=_ at d6
     refine agN (t:=84) (g:=6) (tg:=77) rfl rfl (by decide) (by decide) rfl d6 rfl rfl fun K hK=>?_
     simp only[gFr,d12,d6]at hK⊢
     go_simp
     exact hK _ _ (G.refl _) rfl
    ·obtain⟨d13,_⟩:=d
     change vals 13=_ at d13
     refine agN (t:=85) (g:=13) (tg:=84) rfl rfl (by decide) (by decide) rfl d13 rfl rfl fun K hK=>?_
     simp only[gFr,d13]at hK⊢
     go_simp
     exact hK _ _ (G.refl _) rfl
    ·obtain⟨d14,d13,_⟩:=d
     change vals 14=_ at d14
     change vals 13=_ at d13
     refine agN (t:=86) (g:=13) (tg:=84) rfl rfl (by decide) (by decide) rfl d13 rfl rfl fun K hK=>?_
     simp only[gFr,d14,d13]at hK⊢
     go_simp
     exact hK _ _ (G.refl _) rfl
    ·obtain⟨d15,d13,_,_⟩:=d
     change vals 15=_ at d15
     change vals 13=_ at d13
     refine agN (t:=87) (g:=13) (tg:=84) rfl rfl (by decide) (by decide) rfl d13 rfl rfl fun K hK=>?_
     simp only[gFr,d15,d13]at hK⊢
     go_simp
     exact hK _ _ (G.refl _) rfl
    ·obtain⟨d16,_⟩:=d
     change vals 16=_ at d16
     refine agN (t:=88) (g:=16) (tg:=87) rfl rfl (by decide) (by decide) rfl d16 rfl rfl fun K hK=>?_
     simp only[gFr,d16]at hK⊢
     go_simp
     exact hK _ _ (G.refl _) rfl
    ·obtain⟨d16,_⟩:=d
     change vals 16=_ at d16
     refine agN (t:=89) (g:=16) (tg:=87) rfl rfl (by decide) (by decide) rfl d16 rfl rfl fun K hK=>?_
     simp only[gFr,d16]at hK⊢
     go_simp
     exact hK _ _ (G.refl _) rfl
    ·obtain⟨d18,d16,_⟩:=d
     change vals 18=_ at d18
     change vals 16=_ at d16
     refine agN (t:=90) (g:=16) (tg:=87) rfl rfl (by decide) (by decide) rfl d16 rfl rfl fun K hK=>?_
     simp only[gFr,d18,d16]at hK⊢
     obtain⟨c0',c1'⟩:=acP (uU HC17.out g)
     go_simp
     exact hK _ _ (G.refl _) rfl
    ·obtain⟨d19,d16,_⟩:=d
     change vals 19=_ at d19
     change vals 16=_ at d16
     refine agN (t:=91) (g:=16) (tg:=87) rfl rfl (by decide) (by decide) rfl d16 rfl rfl fun K hK=>?_
     simp only[gFr,d19,d16]at hK⊢
     go_simp
     exact hK _ _ (G.refl _) rfl
   ·intro vals W g d
    simp only[acS,ac1]at d
    obtain⟨d0,d1,d2,d3,d4,d5,d6,d7,d8,d9,d10,d11,d12,d13,d14,d15,d16,d17,d18,d19,d20,_⟩:=d
    change vals 0=_ at d0
    change vals 2=_ at d2
    change vals 3=_ at d3
    change vals 4=_ at d4
    change vals 5=_ at d5
    change vals 6=_ at d6
    change vals 7=_ at d7
    change vals 8=_ at d8
    change vals 9=_ at d9
    change vals 10=_ at d10
    change vals 11=_ at d11
    change vals 12=_ at d12
    change vals 13=_ at d13
    change vals 14=_ at d14
    change vals 15=_ at d15
    change vals 16=_ at d16
    change vals 17=_ at d17
    change vals 18=_ at d18
    change vals 19=_ at d19
    change vals 20=_ at d20
    have GW:=hid (G17.out.trans g)
    clear g d1
    refine⟨?_⟩
    show wpList _ _ _ [_,_,_,_,_,_] _ _
    simp only[gFr,d0,d2,d3,d4,d5,d6,d7,d8,d9,d10,d11,d12,d13,d14,d15,d16,d17,d18,d19,d20]
    clear d0 d2 d3 d4 d5 d6 d7 d8 d9 d10 d11 d12 d13 d14 d15 d16 d17 d18 d19 d20
    go_wp2_with fail
    refine(LH.out _).use ?_
    intro wz gz
    go_wp2_with fail
    go_ret
    exact⟨rfl,G16.out.trans (GW.out.trans gz)⟩
end Go.Proofs.YtmffejnigppbpaaGreatDoor
