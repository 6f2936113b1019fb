/-
  Texts merged into one: Open, OpenLists, OpenParams, FoldPieces, Joined.
-/
import Derived.Test.YtmffejnigppbpaaGreatDoorDXMA52
import Derived.Deep.Slices
import Derived.Carry
import Derived.Test.YtmffejnigppbpaaGreatDoorDXMA65
import Derived.Test.YtmffejnigppbpaaGreatDoorDXMA64
import Derived.ChangeArms
import Derived.ChangeSame
import Derived.WideShapes
import Derived.Test.YtmffejnigppbpaaGreatDoorDXMA56
import Derived.JoinedCond
set_option linter.unusedVariables false
set_option linter.unusedSimpArgs false
namespace Go.Proofs.YtmffejnigppbpaaGreatDoor
open Go.RowKit Go.ChangeShapes Go.WideShapes
theorem ahO{α:Type}{k:Nat}(CS:Nat→List α):∀n,(∀i,i<n→(CS i).length=k)→((List.range n).flatMap CS).length=n*k:=by
 intro n
 induction n with
 |zero=>intro _;simp
 |succ n ih=>
  intro h
  rw[List.range_succ,List.flatMap_append,List.length_append,ih fun i hi=>h i (by omega)]
  simp[h n (by omega),Nat.succ_mul]
theorem aoI{α:Type}{k:Nat}(CS:Nat→List α):∀n,(∀i,i<n→(CS i).length=k)→∀i,i<n→∀j,j<k→((List.range n).flatMap CS)[i*k+j]?=(CS i)[j]?:=by
 intro n
 induction n with
 |zero=>intro _ i hi;omega
 |succ n ih=>
  intro h i hi j hj
  have hl:=ahO CS n fun i hi=>h i (by omega)
  rw[List.range_succ,List.flatMap_append]
  rcases Nat.lt_or_ge i n with hlt|hge
  ·have:i*k+j<n*k:=by
    have:(i+1)*k≤n*k:=Nat.mul_le_mul_right k hlt
    rw[Nat.succ_mul]at this;omega
   rw[List.getElem?_append_left (by omega)]
   exact ih (fun i hi=>h i (by omega)) i hlt j hj
  ·obtain rfl:i=n:=by omega
   rw[List.getElem?_append_right (by omega),hl]
   simp
theorem arJ{w:World}{p:Addr}{v:Value}(h:w.cell? p=some v):p.block<w.heap.size:=World.block_lt_of_cell? w p h
theorem aoJ{w:World}{p:Addr}{v:Value}(h:w.cell? p=some v):p=⟨p.block,p.off,none⟩:=by
 obtain⟨b,o,s⟩:=p
 cases s with
 |none=>rfl
 |some s=>
  unfold World.cell? at h
  split at h
  ·simp at h
  ·cases h
theorem axc(b o j:Nat):(⟨b,o,none⟩:Addr).add j=⟨b,o+j,none⟩:=by unfold Addr.add;split<;>simp_all
section
variable {H:Type} {enc:TypeId×Value→H} {w:World}
theorem anp(D:Nat→DataW H)(n:Nat):Rows.uptoBulkAll ((List.range n).map D)=((List.range n).map fun i=>Rows.uptoBulk (D i)).sum:=by
 have key:∀l:List (DataW H),Rows.uptoBulkAll l=(l.map Rows.uptoBulk).sum:=by
  intro l
  induction l with
  |nil=>simp[Rows.uptoBulkAll]
  |cons a l ih=>simp[Rows.uptoBulkAll,ih]
 rw[key,List.map_map];rfl
theorem agS{t e:TypeId}{k fuel:Nat}{cs:List Value}{x:DataW H×List MemPlace}(ht:Tryz.prog.underlying t=some (.slice e))(hk:Tryz.prog.cellsOf e=k)(hk0:0<k)(hone:∀(m:Nat) (cs:List Value) (y:DataW H×List MemPlace),DataW.trod enc Tryz.prog w 0 (fun _=>true) true m e cs=some y→∀u∈cs,u.oneCell'=true)(h:DataW.trod enc Tryz.prog w 0 (fun _=>true) true fuel t cs=some x) :
  ∃(v:Value) (n m:Nat) (CS:Nat→List Value) (D:Nat→DataW H),cs=[v]∧afJ k w v n ((List.range n).flatMap CS)∧ap0 v
   ∧ (∀i,i<n→(CS i).length=k∧∃Pl,DataW.trod enc Tryz.prog w 0 (fun _=>true) true m e (CS i)=some (D i,Pl))
   ∧ 1+((List.range n).map fun i=>Rows.uptoBulk (D i)).sum≤Rows.uptoBulk x.1:=by
 rcases Deep.open_slice ht h with⟨rfl,rfl⟩|⟨a,len,cap,m,n,D,Pl,rfl,_,hl,hm,hmm,rfl,hx⟩
 ·exact⟨_,0,0,fun _=>[],fun _=>.nil,rfl,⟨by simp,by simp,.inl ⟨rfl,.inl rfl⟩⟩,Nat.le_refl _,by omega,by simp[Rows.uptoBulk]⟩
 ·have hmc:m=cap:=by simpa using hmm
  subst hmc
  rw[hk]at hx
  obtain⟨CS,hCS⟩:=Deep.choose_lt (α:=List Value) (p:=fun i c=>w.cells? 0 (a.add (i*k)) k=some c∧DataW.trod enc Tryz.prog w 0 (fun _=>true) true n e c=some (D i,Pl i)) hx
  have hlen:∀i,i<len→(CS i).length=k:=fun i hi=>(World.cells?_some (hCS i (by omega)).1).2.1
  have hcell:∀i,i<len→∀j,j<k→w.cell? (a.add (i*k+j))=(CS i)[j]?:=fun i hi j hj=>by
   have:=(World.cells?_some (hCS i (by omega)).1).2.2 j hj
   rwa [Deep.add_add]at this
  have hbulk:1+((List.range len).map fun i=>Rows.uptoBulk (D i)).sum≤Rows.uptoBulk (DataW.slice ((List.range len).map D) ((List.range (m-len)).map fun j=>D (len+j))):=by
   simp only[Rows.uptoBulk,anp];omega
  refine⟨_,len,n,CS,D,rfl,⟨ahO CS len hlen,?_,?_⟩,hl,fun i hi=>⟨hlen i hi,Pl i,(hCS i (by omega)).2⟩,hbulk⟩
  ·intro u hu
   obtain⟨i,hi,hu⟩:=List.mem_flatMap.1 hu
   exact hone n (CS i) _ (hCS i (by have:=List.mem_range.1 hi;omega)).2 u hu
  ·rcases Nat.eq_zero_or_pos len with h0|h0
   ·subst h0;exact .inl ⟨rfl,.inr ⟨_,_,rfl⟩⟩
   ·right
    have h1:=hcell 0 h0 0 hk0
    rw[List.getElem?_eq_getElem (by rw[hlen 0 h0];exact hk0)]at h1
    have e0:a.add (0*k+0)=a:=by simp[Addr.add]
    rw[e0]at h1
    have hs:=aoJ h1
    refine⟨a.block,a.off,m,by rw[←hs],arJ h1,h0,fun q hq=>?_⟩
    have hql:q<len*k:=by rw[ahO CS len hlen]at hq;exact hq
    have hi:q/k<len:=Nat.div_lt_of_lt_mul (by rw[Nat.mul_comm];exact hql)
    have hj:q%k<k:=Nat.mod_lt _ hk0
    have e:q/k*k+q%k=q:=by rw[Nat.mul_comm];exact Nat.div_add_mod q k
    have c1:=hcell _ hi _ hj
    have c2:=aoI CS len hlen _ hi _ hj
    rw[e]at c1 c2
    rw[List.getElem?_eq_getElem hq]at c2
    rw[←c2]at c1
    rw[←c1,hs,axc]
theorem agT{t:TypeId}{fuel:Nat}{cs:List Value}{x:DataW H×List MemPlace}(ht:Tryz.prog.underlying t=some .string)(h:DataW.trod enc Tryz.prog w 0 (fun _=>true) true fuel t cs=some x):∃l,cs=[.string (S l)]∧l.length+1=Rows.uptoBulk x.1:=by
 obtain⟨s,rfl,rfl,_⟩:=DataW.trod_string ht h
 obtain⟨l,rfl⟩:=aza s
 exact⟨l,rfl,by simp[Rows.uptoBulk]⟩
theorem agG{α:Type}(L:Nat→α)(n i:Nat)(x:α)(h:((List.range n).map L)[i]?=some x):i<n∧L i=x:=by
 rw[List.getElem?_map]at h
 rcases Nat.lt_or_ge i n with hi|hi
 ·rw[List.getElem?_range hi]at h
  exact⟨hi,by simpa using h⟩
 ·rw[List.getElem?_eq_none (by simpa using hi)]at h;cases h
theorem aqf(CS:Nat→List Value)(V:Nat→Value)(n:Nat)(h:∀i,i<n→CS i=[V i]):(List.range n).flatMap CS=(List.range n).map V:=by
 induction n with
 |zero=>rfl
 |succ n ih=>rw[List.range_succ,List.flatMap_append,List.map_append,ih fun i hi=>h i (by omega)];simp[h n (by omega)]
theorem aha(f g:Nat→Nat)(n:Nat)(h:∀i,i<n→f i≤g i):((List.range n).map f).sum≤((List.range n).map g).sum:=by
 induction n with
 |zero=>simp
 |succ n ih=>
  rw[List.range_succ,List.map_append,List.map_append,List.sum_append,List.sum_append]
  have:=ih fun i hi=>h i (by omega)
  have:=h n (by omega)
  simp;omega
def ajR(ls:List (List UInt8)):Nat:=(ls.map fun l=>l.length+1).sum
theorem akz{t e:TypeId}{fuel:Nat}{cs:List Value}{x:DataW H×List MemPlace}(ht:Tryz.prog.underlying t=some (.slice e))(he:Tryz.prog.underlying e=some .string)(hk:Tryz.prog.cellsOf e=1)(h:DataW.trod enc Tryz.prog w 0 (fun _=>true) true fuel t cs=some x):∃v ls,cs=[v]∧Ux w v ls∧ajR ls+1≤Rows.uptoBulk x.1:=by
 obtain⟨v,n,m,CS,D,rfl,hrow,hcap,hel,hb⟩:=agS ht hk (by omega) (fun m cs y hy u hu=>by
  obtain⟨l,rfl,_⟩:=agT he hy
  rw[List.mem_singleton.1 hu];rfl) h
 obtain⟨L,hL⟩:=Deep.choose_lt (α:=List UInt8) (p:=fun i l=>CS i=[.string (S l)]∧l.length+1=Rows.uptoBulk (D i)) (fun i hi=>by
  obtain⟨_,Pl,hp⟩:=hel i hi
  exact agT he hp)
 rw[aqf CS (fun i=>.string (S (L i))) n fun i hi=>(hL i hi).1]at hrow
 refine⟨v,(List.range n).map L,rfl,⟨?_,hcap⟩,?_⟩
 ·have e1:((List.range n).map L).length=n:=by simp
  have e2:(((List.range n).map L).map fun l=>Value.string (S l))=(List.range n).map fun i=>Value.string (S (L i)):=by rw[List.map_map];rfl
  rw[e1,e2];exact hrow
 ·have e3:ajR ((List.range n).map L)=((List.range n).map fun i=>(L i).length+1).sum:=by unfold ajR;rw[List.map_map];rfl
  have:=aha (fun i=>(L i).length+1) (fun i=>Rows.uptoBulk (D i)) n fun i hi=>Nat.le_of_eq (hL i hi).2
  rw[e3];omega
theorem amy{d:List (DataW H)}(hk:Rows.uptoSmall H d=true):Rows.uptoBulkAll d≤1048576:=of_decide_eq_true hk
end
end Go.Proofs.YtmffejnigppbpaaGreatDoor

namespace Go.Proofs.YtmffejnigppbpaaGreatDoor
open Go.RowKit Go.ChangeShapes Go.WideShapes
section
variable {H:Type} {enc:TypeId×Value→H} {w:World}
theorem arM{t e s:TypeId}{fuel:Nat}{cs:List Value}{x:DataW H×List MemPlace}(ht:Tryz.prog.underlying t=some (.slice e))(he:Tryz.prog.underlying e=some (.slice s))(hs:Tryz.prog.underlying s=some .string)(hk:Tryz.prog.cellsOf e=1)(hk1:Tryz.prog.cellsOf s=1)(h:DataW.trod enc Tryz.prog w 0 (fun _=>true) true fuel t cs=some x):∃v ls,cs=[v]∧Uw w v ls∧acY ls+1≤Rows.uptoBulk x.1:=by
 obtain⟨v,n,m,CS,D,rfl,hrow,hcap,hel,hb⟩:=agS ht hk (by omega) (fun m cs y hy u hu=>by
  obtain⟨v,l,rfl,hl,_⟩:=akz he hs hk1 hy
  obtain⟨a,c,e,_⟩:=hl.len
  rw[List.mem_singleton.1 hu,e];rfl) h
 obtain⟨V,hV⟩:=Deep.choose_lt (α:=Value) (p:=fun i v=>∃ls,CS i=[v]∧Ux w v ls∧ajR ls+1≤Rows.uptoBulk (D i)) (fun i hi=>by
  obtain⟨_,Pl,hp⟩:=hel i hi
  exact akz he hs hk1 hp)
 obtain⟨L,hL⟩:=Deep.choose_lt (α:=List (List UInt8)) (p:=fun i ls=>CS i=[V i]∧Ux w (V i) ls∧ajR ls+1≤Rows.uptoBulk (D i)) hV
 rw[aqf CS V n fun i hi=>(hL i hi).1]at hrow
 refine⟨v,(List.range n).map L,rfl,⟨(List.range n).map V,by simpa using hrow,hcap,fun i l hl=>?_⟩,?_⟩
 ·obtain⟨hi,rfl⟩:=agG L n i l hl
  exact⟨V i,by simp[List.getElem?_range hi],(hL i hi).2.1⟩
 ·have e3:acY ((List.range n).map L)=((List.range n).map fun i=>ajR (L i)+1).sum:=by unfold acY;rw[List.map_map];rfl
  have:=aha (fun i=>ajR (L i)+1) (fun i=>Rows.uptoBulk (D i)) n fun i hi=>(hL i hi).2.2
  rw[e3];omega
end
end Go.Proofs.YtmffejnigppbpaaGreatDoor

set_option maxHeartbeats 400000
set_option maxRecDepth 100000
namespace Go.Proofs.YtmffejnigppbpaaGreatDoor
open Go.RowKit Go.ChangeShapes Go.WideShapes
theorem aqg(x:List (List UInt8)):ajR x=x.length+(x.map List.length).sum:=by
 unfold ajR
 induction x with
 |nil=>rfl
 |cons a x ih=>simp only[List.map_cons,List.sum_cons,List.length_cons,ih];omega
section
variable {H:Type} {enc:TypeId×Value→H} {w:World}
theorem ai4{fuel:Nat}{cs:List Value}{x:DataW H×List MemPlace}(h:DataW.trod enc Tryz.prog w 0 (fun _=>true) true fuel 41 cs=some x) :
  ∃(p:Pm) (sv:Value),cs=[.string (S p.1),sv]∧Ux w sv p.2∧ac5 p+2≤Rows.uptoBulk x.1:=by
 obtain⟨xs,n,_,hx,hl,hlen,hfs⟩:=DataW.trod_struct Tryz.underlying41 h
 have hxl:xs.length=2:=hlen
 have h2:cs.length=2:=hl.trans (by kernel_rfl)
 match cs,h2 with
 |[c0,c1],_=>
 match xs,hxl with
 |[x0,x1],_=>
 have k0:=hfs 0 _ rfl
 have k1:=hfs 1 _ rfl
 obtain⟨l,e0,z0⟩:=agT Tryz.underlying9 k0
 obtain⟨sv,ls,e1,hL,z1⟩:=akz Tryz.underlying39 Tryz.underlying9 (by kernel_rfl) k1
 have g0:c0=.string (S l):=(List.cons.inj e0).1
 have g1:c1=sv:=(List.cons.inj e1).1
 subst g0 g1
 refine⟨(l,ls),_,rfl,hL,?_⟩
 have hd:x.1=.agg [x0.1,x1.1]:=(Prod.mk.injEq _ _ _ _▸hx).1
 rw[hd]
 have:=aqg ls
 simp only[Rows.uptoBulk,Rows.uptoBulkAll,ac5]
 omega
theorem akA{fuel:Nat}{cs:List Value}{x:DataW H×List MemPlace}(h:DataW.trod enc Tryz.prog w 0 (fun _=>true) true fuel 31 cs=some x) :
  ∃v,cs=[v]∧(v=.slice none 0 0∨∃a n c,v=.slice (some a) n c):=by
 obtain⟨v,n,m,CS,D,rfl,hrow,hcap,hel,hb⟩:=agS (k:=2) Tryz.underlying31 (by kernel_rfl) (by omega) (fun m cs y hy u hu=>by
  obtain⟨p,sv,rfl,hs,_⟩:=ai4 hy
  obtain⟨a,c,e,_⟩:=hs.len
  simp only[List.mem_cons,List.mem_nil_iff,or_false]at hu
  rcases hu with rfl|rfl
  ·rfl
  ·rw[e];rfl) h
 obtain⟨_,_,hr⟩:=hrow
 refine⟨v,rfl,?_⟩
 rcases hr with⟨_,hv|⟨a,c,hv⟩⟩|⟨b,off,cap,hv,_⟩
 ·exact .inl hv
 ·exact .inr ⟨_,_,_,hv⟩
 ·exact .inr ⟨_,_,_,hv⟩
theorem aqh{fuel:Nat}{cs:List Value}{x:DataW H×List MemPlace}(h:DataW.trod enc Tryz.prog w 0 (fun _=>true) true fuel 31 cs=some x) :
  ∃v ps,cs=[v]∧UN w v ps∧adm ps+1≤Rows.uptoBulk x.1:=by
 obtain⟨v,n,m,CS,D,rfl,hrow,hcap,hel,hb⟩:=agS (k:=2) Tryz.underlying31 (by kernel_rfl) (by omega) (fun m cs y hy u hu=>by
  obtain⟨p,sv,rfl,hs,_⟩:=ai4 hy
  obtain⟨a,c,e,_⟩:=hs.len
  simp only[List.mem_cons,List.mem_nil_iff,or_false]at hu
  rcases hu with rfl|rfl
  ·rfl
  ·rw[e];rfl) h
 obtain⟨L,hL⟩:=Deep.choose_lt (α:=Pm) (p:=fun i p=>∃sv,CS i=[.string (S p.1),sv]∧Ux w sv p.2∧ac5 p+2≤Rows.uptoBulk (D i)) (fun i hi=>by
  obtain⟨_,Pl,hp⟩:=hel i hi
  exact ai4 hp)
 obtain⟨hlen,hone,hr⟩:=hrow
 have hll:((List.range n).map L).length=n:=by simp
 refine⟨v,(List.range n).map L,rfl,?_,?_⟩
 ·rcases hr with⟨rfl,hv⟩|⟨b,off,cap,rfl,hbl,hn,hc⟩
  ·rcases hv with rfl|⟨a,c,rfl⟩
   ·exact⟨_,_,rfl,by simp,fun h=>absurd rfl h⟩
   ·exact⟨_,_,rfl,by simp,fun h=>absurd rfl h⟩
  ·refine⟨_,_,by rw[hll],by rw[hll];exact hcap,fun _=>⟨b,off,rfl,hbl,fun i p hp=>?_⟩⟩
   obtain⟨hi,rfl⟩:=agG L n i p hp
   obtain⟨sv,e1,e2,_⟩:=hL i hi
   have hcell:∀j,j<2→w.cell? ⟨b,off+(i*2+j),none⟩=(CS i)[j]?:=fun j hj=>by
    have h1:=aoI CS n (fun i hi=>(hel i hi).1) i hi j hj
    have h3:i*2+j<((List.range n).flatMap CS).length:=by rw[hlen];omega
    have h2:=hc (i*2+j) h3
    rw[h2,←h1,List.getElem?_eq_getElem h3]
   have h0:=hcell 0 (by decide)
   have h1:=hcell 1 (by decide)
   rw[e1]at h0 h1
   exact⟨sv,by simpa using h0,by simpa[Nat.add_assoc]using h1,e2⟩
 ·have e3:adm ((List.range n).map L)=n+((List.range n).map fun i=>ac5 (L i)).sum:=by unfold adm;rw[List.map_map,hll];rfl
  have h4:=aha (fun i=>ac5 (L i)+1) (fun i=>Rows.uptoBulk (D i)) n fun i hi=>by obtain⟨sv,_,_,h⟩:=hL i hi;omega
  have h5:((List.range n).map fun i=>ac5 (L i)+1).sum=n+((List.range n).map fun i=>ac5 (L i)).sum:=by
   clear h4 e3 hll hr hone hlen hb hel h hL
   induction n with
   |zero=>rfl
   |succ n ih=>rw[List.range_succ,List.map_append,List.map_append,List.sum_append,List.sum_append,ih];simp;omega
  rw[e3];omega
end
end Go.Proofs.YtmffejnigppbpaaGreatDoor

namespace Go.Proofs.YtmffejnigppbpaaGreatDoor
open Go.RowKit
def afR(x:UInt8)(p:List UInt8):List (List UInt8)→List UInt8
 |[]=>p++[13,10]
 |q::ps=>p++13::10::x::afR x q ps
def apR(r:List UInt8)(rm width:Nat):Nat:=
 if h:r.drop (adf r rm)=[]∨adf r rm=0 then 1 else 1+apR (r.drop (adf r rm)) (width-1) width
termination_by r.length
decreasing_by
 have:r≠[]:=by rintro rfl;simp at h
 have:0<r.length:=by cases r with|nil=>contradiction|cons _ _=>simp
 simp;omega
theorem akO(width:Nat)(hw:5≤width):∀(n:Nat) (r:List UInt8) (rm:Nat),r.length≤n→UL r=none→4≤rm →
  ∃p ps,ac6 r rm width=afR 32 p ps∧p++ps.flatten=r∧p.length≤rm∧(∀q∈ps,q.length≤width-1∧q≠[]∧UL q=none)∧UL p=none∧(r≠[]→p≠[])∧apR r rm width=1+ps.length:=by
 intro n
 induction n with
 |zero=>
  intro r rm hl hb hr
  have:r=[]:=List.eq_nil_of_length_eq_zero (by omega)
  subst this
  refine⟨[],[],?_,by simp,by simp,by simp,hb,by simp,?_⟩
  ·rw[aeN (by simp)];simp[afR]
  ·rw[apR,dif_pos (.inl (by simp))];rfl
 |succ n ih=>
  intro r rm hl hb hr
  rcases anO hb hr with⟨c1,c2,c3⟩|⟨c1,c2,c3,c4,c5,c6⟩
  ·refine⟨r,[],?_,by simp,c3,by simp,hb,fun h=>h,?_⟩
   ·rw[aeN c1,c2];rfl
   ·rw[apR,dif_pos (.inl c1)];rfl
  ·obtain⟨p,ps,h1,h2,h3,h4,h5,h6,h7⟩:=ih (r.drop (adf r rm)) (width-1) (by simp;omega) c5 (by omega)
   refine⟨r.take (adf r rm),p::ps,?_,?_,?_,?_,c6,?_,?_⟩
   ·rw[ag5 c1 c2,h1];rfl
   ·rw[List.flatten_cons,h2,List.take_append_drop]
   ·simp;omega
   ·intro q hq
    rcases List.mem_cons.1 hq with rfl|hq
    ·exact⟨h3,h6 c1,h5⟩
    ·exact h4 q hq
   ·intro h e
    have:=congrArg List.length e
    have h0:0<r.length:=by cases r with|nil=>exact absurd rfl h|cons _ _=>simp
    rw[List.length_take]at this
    simp only[List.length_nil]at this;omega
   ·rw[apR,dif_neg (by rintro(h|h);exact c1 h;omega),h7];simp;omega
theorem ajA(x:UInt8)(p:List UInt8)(ps:List (List UInt8)):(afR x p ps).length=(p++ps.flatten).length+2+3*ps.length:=by
 induction ps generalizing p with
 |nil=>simp[afR]
 |cons q ps ih=>simp[afR,ih];omega
theorem anQ(ps:List (List UInt8))(h:∀q∈ps,q≠[]):ps.length≤ps.flatten.length:=by
 induction ps with
 |nil=>simp
 |cons q ps ih=>
  have h1:=ih fun q hq=>h q (List.mem_cons_of_mem _ hq)
  have h2:0<q.length:=by
   have:=h q List.mem_cons_self
   cases q with|nil=>exact absurd rfl this|cons _ _=>simp
  rw[List.flatten_cons,List.length_append,List.length_cons];omega
theorem ard{x:UInt8}(hx:(x==32||x==9)=true)(q:List UInt8):ae3 (x::q)=true:=hx
theorem aou{x:UInt8}(hx:(x==32||x==9)=true)(hx2:nlB x=false)(ps:List (List UInt8)):∀(p:List UInt8) (k:Nat) (out init:List FLn) (l:FLn),
  (∀c∈p,nlB c=false)→(∀q∈ps,∀c∈q,nlB c=false)→acU p k out=.good (init++[l])→l.text.length+ps.flatten.length≤1500 →
  ∃fs,Us (afR x p ps) k out=.good (init++[⟨l.text++ps.flatten,l.pos,l.folds++fs⟩])∧fs=(List.range ps.length).map (fun i=>l.text.length+((ps.take i).flatten).length):=by
 induction ps with
 |nil=>
  intro p k out init l hp hq ha hl
  refine⟨[],?_,rfl⟩
  show Us (p++13::10::[]) k out=_
  rw[afU _ _ _ hp,ha]
  show Us [] _ _=_
  rw[ae8];simp
 |cons q ps ih=>
  intro p k out init l hp hq ha hl
  simp at hl
  obtain⟨fs,h1,h2⟩:=ih (x::q) (k+p.length+2) (init++[l]) init ⟨l.text++q,l.pos,l.folds++[l.text.length]⟩ (by
    intro c hc
    rcases List.mem_cons.1 hc with rfl|hc
    ·exact hx2
    ·exact hq q List.mem_cons_self c hc) (fun q' hq'=>hq q' (List.mem_cons_of_mem _ hq')) (by
    unfold acU
    rw[if_pos (ard hx q),List.getLast?_concat,List.dropLast_concat]
    simp
    omega) (by simp;omega)
  refine⟨l.text.length::fs,?_,?_⟩
  ·show Us (p++13::10::x::afR x q ps) k out=_
   rw[afU _ _ _ hp,ha]
   have e:afR x (x::q) ps=x::afR x q ps:=by cases ps<;>rfl
   rw[←e]
   refine h1.trans ?_
   simp
  ·rw[h2,List.length_cons,List.range_succ_eq_map]
   simp[List.map_map,Function.comp_def,Nat.add_assoc]
theorem anR{s:List UInt8}(h:aeO s=s.length):∀c∈s,nlB c=false:=by
 have:=List.findIdx_eq_length.1 h
 intro c hc;simpa using this c hc
theorem apS{x:UInt8}(hx:(x==32||x==9)=true)(hx2:nlB x=false){p:List UInt8}{ps:List (List UInt8)}{s:List UInt8}(hs:p++ps.flatten=s)(hn:∀c∈s,nlB c=false)(hl:s.length≤1500)(hb:ae3 s=false)(hp:s≠[]→p≠[]) :
  Us (afR x p ps) 0 []=.good [⟨s,0,(List.range ps.length).map (fun i=>p.length+((ps.take i).flatten).length)⟩]:=by
 have hbp:ae3 p=false:=by
  cases p with
  |nil=>rfl
  |cons c p=>rw[←hs]at hb;exact hb
 have hpl:p.length≤s.length:=by rw[←hs];simp
 obtain⟨fs,h1,h2⟩:=aou hx hx2 ps p 0 [] [] ⟨p,0,[]⟩ (fun c hc=>hn c (by rw[←hs];exact List.mem_append_left _ hc)) (fun q hq c hc=>hn c (by rw[←hs];exact List.mem_append_right _ (List.mem_flatten.2 ⟨q,hq,hc⟩))) (by
  unfold acU;rw[if_neg (by simp[hbp]),if_neg (by omega)]) (by rw[←hs]at hl;simpa using hl)
 rw[h1,h2,hs];simp
end Go.Proofs.YtmffejnigppbpaaGreatDoor

namespace Go.Proofs.YtmffejnigppbpaaGreatDoor
theorem ac2{a b:Bool}(h:a=true)(k:b=true):(a&&b)=true:=by rw[h,k];rfl
def jf0(P:Program)(f:FuncId)(fn:Func)(s:ChangeSpec)(c:OpenClaim):Bool:=c.wf (OpenSpec.ofChange s)
def jf1(P:Program)(f:FuncId)(fn:Func)(s:ChangeSpec)(c:OpenClaim):Bool:=laidOutB P
def jf2(P:Program)(f:FuncId)(fn:Func)(s:ChangeSpec)(c:OpenClaim):Bool:=mapsRowed P
def jf3(P:Program)(f:FuncId)(fn:Func)(s:ChangeSpec)(c:OpenClaim):Bool:=fn.params.all (P.readableRec ·)
def jf4(P:Program)(f:FuncId)(fn:Func)(s:ChangeSpec)(c:OpenClaim):Bool:=namedTie P c.named s.vars
def jf5(P:Program)(f:FuncId)(fn:Func)(s:ChangeSpec)(c:OpenClaim):Bool:=(c.stops==[])
def jf6(P:Program)(f:FuncId)(fn:Func)(s:ChangeSpec)(c:OpenClaim):Bool:=(P.stops==[])
def jf7(P:Program)(f:FuncId)(fn:Func)(s:ChangeSpec)(c:OpenClaim):Bool:=(c.knobs==[])
def jf8(P:Program)(f:FuncId)(fn:Func)(s:ChangeSpec)(c:OpenClaim):Bool:=(P.stopKnobs==[])
def jf9(P:Program)(f:FuncId)(fn:Func)(s:ChangeSpec)(c:OpenClaim):Bool:=(c.inPlace==P.inPlace f)
def awI(P:Program)(f:FuncId)(fn:Func)(s:ChangeSpec)(c:OpenClaim):Bool:=(c.unfollowed==P.unfollowed f)
def awJ(P:Program)(f:FuncId)(fn:Func)(s:ChangeSpec)(c:OpenClaim):Bool:=(c.recurses==P.recurses f)
def awK(P:Program)(f:FuncId)(fn:Func)(s:ChangeSpec)(c:OpenClaim):Bool:=(c.named==P.varsNamed f)
def awL(P:Program)(f:FuncId)(fn:Func)(s:ChangeSpec)(c:OpenClaim):Bool:=(c.maps==(fn.params.toList++s.plain.varTypes P).any (P.mapsRec ·))
def awM(P:Program)(f:FuncId)(fn:Func)(s:ChangeSpec)(c:OpenClaim):Bool:=(c.ifaces==(fn.params.toList++s.plain.varTypes P).any (P.ifacesRec ·))
def awN(P:Program)(f:FuncId)(fn:Func)(s:ChangeSpec)(c:OpenClaim):Bool:=(c.mapsOut==P.mapsAmong fn.resultTypes.toList)
def awO(P:Program)(f:FuncId)(fn:Func)(s:ChangeSpec)(c:OpenClaim):Bool:=(c.loops==(fn.params.toList++s.plain.varTypes P).any (P.loopsFrom ·))
def awP(P:Program)(f:FuncId)(fn:Func)(s:ChangeSpec)(c:OpenClaim):Bool:=(c.wideKeys==(fn.params.toList++s.plain.varTypes P++fn.resultTypes.toList).any (P.wideKeysFrom ·))
def awQ(P:Program)(f:FuncId)(fn:Func)(s:ChangeSpec)(c:OpenClaim):Bool:=s.vars.all (P.varReadable ·)
def awR(P:Program)(f:FuncId)(fn:Func)(s:ChangeSpec)(c:OpenClaim):Bool:=fn.resultTypes.all (fun t=>P.readableRec t&&decide (t<P.types.size))
def awS(P:Program)(f:FuncId)(fn:Func)(s:ChangeSpec)(c:OpenClaim):Bool:=(c.ifacesOut==fn.resultTypes.toList.any (P.ifacesRec ·))
def awT(P:Program)(f:FuncId)(fn:Func)(s:ChangeSpec)(c:OpenClaim):Bool:=(c.loopsOut==fn.resultTypes.toList.any (P.loopsFrom ·))
def awU(P:Program)(f:FuncId)(fn:Func)(s:ChangeSpec)(c:OpenClaim):Bool:=(c.plainKeys==P.plainKeys)
def awV(P:Program)(f:FuncId)(fn:Func)(s:ChangeSpec)(c:OpenClaim):Bool:=c.shortTexts.isNone
def awW(P:Program)(f:FuncId)(fn:Func)(s:ChangeSpec)(c:OpenClaim):Bool:=P.stopsHeard
def awX(P:Program)(f:FuncId)(fn:Func)(s:ChangeSpec)(c:OpenClaim):Bool:=P.mayEnter
def awY(P:Program)(f:FuncId)(fn:Func)(s:ChangeSpec)(c:OpenClaim):Bool:=(c.lifted==P.liftsFinal)
def awZ(P:Program)(f:FuncId)(fn:Func)(s:ChangeSpec)(c:OpenClaim):Bool:=(P.make==some c.make)
def aw0(P:Program)(f:FuncId)(fn:Func)(s:ChangeSpec)(c:OpenClaim):Bool:=(c.kinds==(if c.domain.isEmpty then[] else fn.params.toList.map fun t=>match P.underlying t with|some (.int k)=>some k|_=>none))
def aw1(P:Program)(f:FuncId)(fn:Func)(s:ChangeSpec)(c:OpenClaim):Bool:=(c.pinned==c.pinnedBy)
def aw2(P:Program)(f:FuncId)(fn:Func)(s:ChangeSpec)(c:OpenClaim):Bool:=(c.veiled==(fn.params.toList++s.plain.varTypes P++fn.resultTypes.toList).any (P.veiledRec ·))
def aw3(P:Program)(f:FuncId)(fn:Func)(s:ChangeSpec)(c:OpenClaim):Bool:=c.veiledFits P fn.params.toList (fn.params.toList++s.plain.varTypes P++fn.resultTypes.toList)
theorem akv{P:Program}{f:FuncId}{fn:Func}{s:ChangeSpec}{c:OpenClaim}(h0:jf0 P f fn s c=true)(h1:jf1 P f fn s c=true)(h2:jf2 P f fn s c=true)(h3:jf3 P f fn s c=true)(h4:jf4 P f fn s c=true)(h5:jf5 P f fn s c=true)(h6:jf6 P f fn s c=true)(h7:jf7 P f fn s c=true)(h8:jf8 P f fn s c=true)(h9:jf9 P f fn s c=true)(h10:awI P f fn s c=true)(h11:awJ P f fn s c=true)(h12:awK P f fn s c=true)(h13:awL P f fn s c=true)(h14:awM P f fn s c=true)(h15:awN P f fn s c=true)(h16:awO P f fn s c=true)(h17:awP P f fn s c=true)(h18:awQ P f fn s c=true)(h19:awR P f fn s c=true)(h20:awS P f fn s c=true)(h21:awT P f fn s c=true)(h22:awU P f fn s c=true)(h23:awV P f fn s c=true)(h24:awW P f fn s c=true)(h25:awX P f fn s c=true)(h26:awY P f fn s c=true)(h27:awZ P f fn s c=true)(h28:aw0 P f fn s c=true)(h29:aw1 P f fn s c=true)(h30:aw2 P f fn s c=true)(h31:aw3 P f fn s c=true):joinedFacts P f fn s c=true:=by
 exact ac2 (ac2 (ac2 (ac2 (ac2 (ac2 (ac2 (ac2 (ac2 (ac2 (ac2 (ac2 (ac2 (ac2 (ac2 (ac2 (ac2 (ac2 (ac2 (ac2 (ac2 (ac2 (ac2 (ac2 (ac2 (ac2 (ac2 (ac2 (ac2 (ac2 (ac2 h0 h1) h2) h3) h4) h5) h6) h7) h8) h9) h10) h11) h12) h13) h14) h15) h16) h17) h18) h19) h20) h21) h22) h23) h24) h25) h26) h27) h28) h29) h30) h31
end Go.Proofs.YtmffejnigppbpaaGreatDoor
