/-
  Texts merged into one: LinePlain, LinePlain2.
-/
import Derived.Test.YtmffejnigppbpaaGreatDoorDXMA77
import Derived.Test.YtmffejnigppbpaaGreatDoorDXMA63
import Derived.Test.YtmffejnigppbpaaGreatDoorDXMA69
import Derived.Test.YtmffejnigppbpaaGreatDoorDXMA75
set_option linter.unusedVariables false
set_option linter.unusedSimpArgs false
namespace Go.Proofs.YtmffejnigppbpaaGreatDoor
open Go.RowKit
abbrev L8:=List UInt8
abbrev Er:=Int×Nat
abbrev Rs(α:Type):=Except Er (α×L8)
def Rs.next{α β:Type}(x:Except Er (α×L8))(f:α→L8→Except Er β):Except Er β:=match x with|.ok (a,t)=>f a t|.error e=>.error e
theorem adr{α β:Type}{x:Except Er (α×L8)}{f:α→L8→Except Er β}{b:β}:Rs.next x f=.ok b↔∃a t,x=.ok (a,t)∧f a t=.ok b:=by
 cases x with
 |ok p=>obtain⟨a,t⟩:=p;exact⟨fun h=>⟨a,t,rfl,h⟩,fun ⟨a',t',h,h2⟩=>by injection h with h;injection h with h1 h3;subst h1;subst h3;exact h2⟩
 |error e=>exact⟨fun h=>(by cases h),fun ⟨_,_,h,_⟩=>(by cases h)⟩
theorem adS{α β:Type}(a:α)(t:L8)(f:α→L8→Except Er β):Rs.next (.ok (a,t)) f=f a t:=rfl
def agP(c:UInt8):Bool:=!(af7 false c)
def ad6(c:UInt8):Bool:=aeh c.toNat
def aet(l:L8):Rs L8:=if GH (l.takeWhile ad6)then .ok (l.takeWhile ad6,l.dropWhile ad6)else .error (5,l.length)
def isB(c:UInt8):L8→Option L8
 |[]=>none
 |d::r=>if d=c then some r else none
def arw(q:Bool)(c:UInt8):Bool:=c==34||(!q&&(c==44||c==59||c==58))
def ahp(q:Bool):L8→Rs L8
 |[]=>.ok ([],[])
 |c::r=>if arw q c then .ok ([],c::r)else if agP c then .error (3,r.length+1)else
   Rs.next (ahp q r) fun v t=>.ok (c::v,t)
def atw(cf:Bool)(v:L8):L8:=if cf then alm v else v
def afq(cf:Bool)(l:L8):Rs L8:=
 match isB 34 l with
 |some r=>Rs.next (ahp true r) fun v t=>match isB 34 t with
  |some u=>.ok (atw cf v,u)
  |none=>.error (7,t.length)
 |none=>Rs.next (ahp false l) fun v t=>.ok (atw cf v,t)
theorem amo(c d:UInt8)(r:L8):isB c (d::r)=if d=c then some r else none:=rfl
theorem ad7{c:UInt8}{l r:L8}(h:isB c l=some r):l=c::r:=by
 cases l with
 |nil=>cases h
 |cons d l=>
  rw[amo]at h
  by_cases e:d=c
  ·rw[if_pos e]at h;injection h with h;rw[e,h]
  ·rw[if_neg e]at h;cases h
theorem afF(c:UInt8)(r:L8):isB c (c::r)=some r:=by rw[amo,if_pos rfl]
theorem alx{c:UInt8}{l:L8}(h:l.head?≠some c):isB c l=none:=by
 cases l with
 |nil=>rfl
 |cons d l=>rw[amo,if_neg (by simpa using h)]
theorem agQ{q:Bool}:∀ {l v t:L8},ahp q l=.ok (v,t)→l=v++t∧(∀c∈v,arw q c=false∧agP c=false)∧(∀c r,t=c::r→arw q c=true)
 |[],v,t,h=>by
  unfold ahp at h
  injection h with h;injection h with h1 h2;subst h1;subst h2
  exact⟨rfl,by simp,by simp⟩
 |c::r,v,t,h=>by
  unfold ahp at h
  split at h
  ·rename_i he
   injection h with h;injection h with h1 h2;subst h1;subst h2
   exact⟨rfl,by simp,fun d r' e=>by injection e with e1 e2;subst e1;exact he⟩
  ·split at h
   ·cases h
   ·rename_i he hc
    obtain⟨v',t',h1,h2⟩:=adr.1 h
    injection h2 with h2;injection h2 with h3 h4;subst h3;subst h4
    obtain⟨a,b,d⟩:=agQ h1
    refine⟨by rw[a];rfl,fun x hx=>?_,d⟩
    rcases List.mem_cons.1 hx with rfl|hx
    ·exact⟨by simpa using he,by simpa using hc⟩
    ·exact b x hx
theorem aoy{q:Bool}:∀(v t:L8),(∀c∈v,arw q c=false∧agP c=false)→(∀c r,t=c::r→arw q c=true)→ahp q (v++t)=.ok (v,t)
 |[],[],_,_=>rfl
 |[],c::r,_,h=>by
  show ahp q (c::r)=_
  unfold ahp;rw[if_pos (h c r rfl)]
 |c::v,t,h,h2=>by
  obtain⟨a,b⟩:=h c List.mem_cons_self
  show ahp q (c::(v++t))=_
  unfold ahp
  rw[if_neg (by simp[a]),if_neg (by simp[b]),aoy v t (fun x hx=>h x (List.mem_cons_of_mem _ hx)) h2]
  rfl
theorem akx{cf:Bool}{l v t:L8}(h:afq cf l=.ok (v,t)):t.length≤l.length:=by
 unfold afq at h
 split at h
 ·rename_i r hr
  obtain⟨a,t2,h1,h2⟩:=adr.1 h
  have e:=ad7 hr
  obtain⟨e2,_⟩:=agQ h1
  split at h2
  ·rename_i u hu
   have e3:=ad7 hu
   injection h2 with h2;injection h2 with h3 h4;subst h4
   rw[e,e2,e3];simp;omega
  ·cases h2
 ·obtain⟨a,t2,h1,h2⟩:=adr.1 h
  injection h2 with h2;injection h2 with h3 h4;subst h4
  obtain⟨e2,_⟩:=agQ h1
  rw[e2];simp
def agR(cf:Bool)(l:L8):Rs (List L8):=
 match h:isB 44 l with
 |none=>.ok ([],l)
 |some r=>match h2:afq cf r with
  |.error e=>.error e
  |.ok (v,t)=>Rs.next (agR cf t) fun vs u=>.ok (v::vs,u)
termination_by l.length
decreasing_by
 have e:=ad7 h
 have:=akx h2
 rw[e];simp;omega
theorem af1{cf:Bool}{l:L8}(h:isB 44 l=none):agR cf l=.ok ([],l):=by
 rw[agR]
 split
 ·rfl
 ·rename_i r hr;rw[h]at hr;cases hr
theorem aid{cf:Bool}{l r:L8}(h:isB 44 l=some r):agR cf l=Rs.next (afq cf r) fun v t=>Rs.next (agR cf t) fun vs u=>.ok (v::vs,u):=by
 rw[agR]
 split
 ·rename_i hr;rw[h]at hr;cases hr
 ·rename_i r' hr
  rw[h]at hr
  injection hr with hr
  subst hr
  split
  ·rename_i e he;rw[he];rfl
  ·rename_i v t he;rw[he];rfl
theorem avi{cf:Bool}:∀(n:Nat) {l t:L8} {vs:List L8},l.length≤n→agR cf l=.ok (vs,t)→t.length≤l.length:=by
 intro n
 induction n with
 |zero=>
  intro l t vs hl h
  have:l=[]:=List.length_eq_zero_iff.1 (by omega)
  subst this
  rw[af1 rfl]at h
  injection h with h;injection h with _ h;subst h;exact Nat.le_refl _
 |succ n ih=>
  intro l t vs hl h
  cases hb:isB 44 l with
  |none=>
   rw[af1 hb]at h
   injection h with h;injection h with _ h;subst h;exact Nat.le_refl _
  |some r=>
   rw[aid hb]at h
   obtain⟨v,t1,h1,h2⟩:=adr.1 h
   obtain⟨vs',u,h3,h4⟩:=adr.1 h2
   injection h4 with h4;injection h4 with _ h4;subst h4
   have e:=ad7 hb
   have l1:=akx h1
   have hl':l.length=r.length+1:=by rw[e];rfl
   have:=ih (by omega) h3
   omega
def pmP(cf:Bool)(l:L8):Rs Pm:=
 Rs.next (aet l) fun n t=>match isB 61 t with
  |none=>.error (7,t.length)
  |some r=>Rs.next (afq cf r) fun v t2=>Rs.next (agR cf t2) fun vs t3=>.ok ((n,v::vs),t3)
theorem aly{l n t:L8}(h:aet l=.ok (n,t)):l=n++t∧GH n=true∧(∀c r,t=c::r→ad6 c=false):=by
 unfold aet at h
 split at h
 ·rename_i hn
  injection h with h;injection h with h1 h2;subst h1;subst h2
  refine⟨List.takeWhile_append_dropWhile.symm,hn,fun c r e=>?_⟩
  have:=List.head?_dropWhile_not ad6 l
  rw[e]at this
  simpa using this
 ·cases h
theorem ayh{cf:Bool}{l t:L8}{p:Pm}(h:pmP cf l=.ok (p,t)):t.length≤l.length:=by
 obtain⟨n,t1,h1,h2⟩:=adr.1 h
 obtain⟨e1,_,_⟩:=aly h1
 split at h2
 ·cases h2
 ·rename_i r hr
  have e2:=ad7 hr
  obtain⟨v,t2,h3,h4⟩:=adr.1 h2
  obtain⟨vs,t3,h5,h6⟩:=adr.1 h4
  injection h6 with h6;injection h6 with _ h6;subst h6
  have a:=akx h3
  have b:=avi _ (Nat.le_refl _) h5
  have l1:l.length=n.length+t1.length:=by rw[e1];simp
  have l2:t1.length=r.length+1:=by rw[e2];rfl
  omega
def adi(cf:Bool)(k:Nat)(l:L8):Rs (List Pm):=
 match h:isB 59 l with
 |none=>.ok ([],l)
 |some r=>match h2:pmP cf r with
  |.error e=>.error e
  |.ok (p,t)=>if k=20 then .error (4,r.length)else Rs.next (adi cf (k+1) t) fun ps u=>.ok (p::ps,u)
termination_by l.length
decreasing_by
 have e:=ad7 h
 have:=ayh h2
 rw[e];simp;omega
theorem agt{cf:Bool}{k:Nat}{l:L8}(h:isB 59 l=none):adi cf k l=.ok ([],l):=by
 rw[adi]
 split
 ·rfl
 ·rename_i r hr;rw[h]at hr;cases hr
theorem ahI{cf:Bool}{k:Nat}{l r:L8}(h:isB 59 l=some r):adi cf k l=Rs.next (pmP cf r) fun p t=>if k=20 then .error (4,r.length)else Rs.next (adi cf (k+1) t) fun ps u=>.ok (p::ps,u):=by
 rw[adi]
 split
 ·rename_i hr;rw[h]at hr;cases hr
 ·rename_i r' hr
  rw[h]at hr
  injection hr with hr
  subst hr
  split
  ·rename_i e he;rw[he];rfl
  ·rename_i v t he;rw[he];rfl
structure Hd where
 group:L8
 name:L8
 params:List Pm
def ahq(cf:Bool)(l:L8):Rs Hd:=
 Rs.next (aet l) fun n t=>Rs.next (match isB 46 t with
  |some r=>Rs.next (aet r) fun m u=>.ok ((n,m),u)
  |none=>.ok (([],n),t):Rs (L8×L8)) fun gn t2=>Rs.next (adi cf 0 t2) fun ps t3=>match isB 58 t3 with
  |none=>.error (7,t3.length)
  |some r=>.ok (⟨gn.1,gn.2,ps⟩,r)
structure Ln where
 hd:Hd
 value:L8
def acZ(cf:Bool)(s:L8):Except Er Ln:=
 match UL s with
 |some i=>.error (3,i)
 |none=>match ahq cf s with
  |.error (e,k)=>.error (e,s.length-k)
  |.ok (h,r)=>match r.findIdx? agP with
   |some i=>.error (3,s.length-r.length+i)
   |none=>.ok ⟨h,r⟩
def aky(cf:Bool)(v:L8):L8:=if cf then aoP v else v
def ajM(v:L8):Bool:=v.any fun c=>c==44||c==59||c==58
def afW(cf:Bool)(v:L8):L8:=if ajM (aky cf v)then 34::(aky cf v++[34])else aky cf v
def aeQ(cf:Bool):List L8→L8
 |[]=>[]
 |v::vs=>61::afW cf v++vs.flatMap fun u=>44::afW cf u
def pmW(cf:Bool)(p:Pm):L8:=59::p.1++aeQ cf p.2
def amq(cf:Bool)(h:Hd):L8:=(if h.group=[] then[] else h.group++[46])++h.name++h.params.flatMap (pmW cf)
def aeC(cf:Bool)(p:Ln):L8:=amq cf p.hd++58::p.value
def aeD(cf:Bool)(v:L8):Bool:=Af (aky cf v) false && !((aky cf v).contains 34)
def pmR(cf:Bool)(p:Pm):Bool:=GH p.1 && !p.2.isEmpty&&p.2.all (aeD cf)
def agE(cf:Bool)(p:Ln):Bool:=GH p.hd.name&&(p.hd.group.isEmpty||GH p.hd.group)&&decide (p.hd.params.length≤20)&&p.hd.params.all (pmR cf)&&Af p.value false
end Go.Proofs.YtmffejnigppbpaaGreatDoor

namespace Go.Proofs.YtmffejnigppbpaaGreatDoor
open Go.RowKit
theorem ag7{n:L8}(h:GH n=true):∀c∈n,ad6 c=true:=by
 unfold GH at h
 rw[Bool.and_eq_true,List.all_eq_true]at h
 exact h.1
theorem aw5{n:L8}(h:GH n=true):n≠[]:=by
 rintro rfl
 cases h
theorem aoz{c:UInt8}(h:ad6 c=true):32≤c.toNat∧c.toNat≤126:=by
 unfold ad6 aeh at h
 rw[decide_eq_true_iff]at h
 omega
theorem ai0{n:L8}(h:GH n=true):Af n false=true:=afD fun c hc=>aoz (ag7 h c hc)
theorem aoA{n t:L8}(h:GH n=true)(ht:∀c r,t=c::r→ad6 c=false):aet (n++t)=.ok (n,t):=by
 have e1:(n++t).takeWhile ad6=n:=by
  rw[List.takeWhile_append_of_pos (ag7 h)]
  cases t with
  |nil=>simp
  |cons c r=>rw[List.takeWhile_cons_of_neg (by simp[ht c r rfl])];simp
 have e2:(n++t).dropWhile ad6=t:=by
  rw[List.dropWhile_append_of_pos (ag7 h)]
  cases t with
  |nil=>rfl
  |cons c r=>rw[List.dropWhile_cons_of_neg (by simp[ht c r rfl])]
 unfold aet
 rw[e1,e2,if_pos h]
theorem ap2(cf:Bool)(v:L8):atw cf (aky cf v)=v:=by
 cases cf with
 |false=>rfl
 |true=>exact auP v
theorem amr{cf:Bool}{v:L8}:aeD cf v=true↔Af (aky cf v) false=true∧(34:UInt8)∉aky cf v:=by
 unfold aeD
 rw[Bool.and_eq_true,Bool.not_eq_true',←Bool.not_eq_true,List.contains_iff_mem]
theorem aoB{cf:Bool}{e t:L8}(h1:Af e false=true)(h2:(34:UInt8)∉e):afq cf (34::(e++34::t))=.ok (atw cf e,t):=by
 have hs:ahp true (e++34::t)=.ok (e,34::t):=aoy e (34::t) (fun c hc=>⟨by
  have:c≠34:=fun h=>h2 (h▸hc)
  unfold arw;simp[this],by unfold agP;rw[(adH.1 h1).1 c hc];rfl⟩) (fun c r h=>by injection h with h _;subst h;rfl)
 unfold afq
 simp only[afF,hs,adS]
theorem ap3{cf:Bool}{e t:L8}(h1:Af e false=true)(h2:(34:UInt8)∉e)(h3:ajM e=false)(ht:∀c r,t=c::r→c=44∨c=59∨c=58):afq cf (e++t)=.ok (atw cf e,t):=by
 have hq:isB 34 (e++t)=none:=by
  apply alx
  cases e with
  |nil=>
   cases t with
   |nil=>simp
   |cons c r=>
    have:=ht c r rfl
    simp
    rintro rfl
    revert this;decide
  |cons c e=>
   simp
   rintro rfl
   exact h2 List.mem_cons_self
 unfold afq
 rw[hq]
 simp only
 rw[aoy e t (fun c hc=>⟨?_,?_⟩) (fun c r h=>?_)]
 ·rfl
 ·have n1:c≠34:=fun h=>h2 (h▸hc)
  have n2:¬(c==44||c==59||c==58)=true:=by
   intro h
   have:ajM e=true:=List.any_eq_true.2 ⟨c,hc,h⟩
   rw[h3]at this;cases this
  have n2':(c==44||c==59||c==58)=false:=by simpa using n2
  unfold arw
  rw[show(c==34)=false from by simpa using n1,n2'];rfl
 ·unfold agP;rw[(adH.1 h1).1 c hc];rfl
 ·rcases ht c r h with rfl|rfl|rfl<;>rfl
theorem ap4{cf:Bool}{v t:L8}(h:aeD cf v=true)(ht:∀c r,t=c::r→c=44∨c=59∨c=58):afq cf (afW cf v++t)=.ok (v,t):=by
 obtain⟨h1,h2⟩:=amr.1 h
 unfold afW
 cases hq:ajM (aky cf v)with
 |true=>
  rw[if_pos rfl]
  have:=aoB (cf:=cf) (t:=t) h1 h2
  rw[ap2]at this
  simpa using this
 |false=>
  rw[if_neg (by simp)]
  have:=ap3 (cf:=cf) h1 h2 hq ht
  rwa [ap2]at this
theorem asA{cf:Bool}:∀(vs:List L8) (t:L8),vs.all (aeD cf)=true→(∀c r,t=c::r→c=59∨c=58)→agR cf ((vs.flatMap fun u=>44::afW cf u)++t)=.ok (vs,t)
 |[],t,_,ht=>by
  show agR cf t=_
  rw[af1 (alx ?_)]
  cases t with
  |nil=>simp
  |cons c r=>
   have:=ht c r rfl
   simp
   rintro rfl
   revert this;decide
 |v::vs,t,h,ht=>by
  rw[List.all_cons,Bool.and_eq_true]at h
  have ih:=asA vs t h.2 ht
  have e:((v::vs).flatMap fun u=>44::afW cf u)++t=44::(afW cf v++((vs.flatMap fun u=>44::afW cf u)++t)):=by simp
  rw[e,aid (afF _ _),ap4 h.1 (fun c r hc=>?_)]
  ·show Rs.next (agR cf _) _=_
   rw[ih];rfl
  ·cases vs with
   |nil=>exact .inr (ht c r (by simpa using hc))
   |cons u us=>left;simp at hc;exact hc.1.symm
theorem ayY{cf:Bool}{p:Pm}{t:L8}(h:pmR cf p=true)(ht:∀c r,t=c::r→c=59∨c=58):pmP cf (p.1++aeQ cf p.2++t)=.ok (p,t):=by
 unfold pmR at h
 rw[Bool.and_eq_true,Bool.and_eq_true]at h
 obtain⟨⟨h1,h2⟩,h3⟩:=h
 obtain⟨n,vs⟩:=p
 cases vs with
 |nil=>cases h2
 |cons v vs=>
  simp only at h1 h3⊢
  rw[List.all_cons,Bool.and_eq_true]at h3
  have e:n++aeQ cf (v::vs)++t=n++61::(afW cf v++((vs.flatMap fun u=>44::afW cf u)++t)):=by simp[aeQ]
  have hv:=ap4 (cf:=cf) (t:=(vs.flatMap fun u=>44::afW cf u)++t) h3.1 (fun c r hc=>by
   cases vs with
   |nil=>exact .inr (ht c r (by simpa using hc))
   |cons u us=>left;simp at hc;exact hc.1.symm)
  unfold pmP
  rw[e,aoA h1 (fun c r hc=>by injection hc with hc _;subst hc;rfl)]
  simp only[adS,afF,hv,asA vs t h3.2 ht]
theorem anT{cf:Bool}{t:L8}:∀(ps:List Pm) (k:Nat),ps.all (pmR cf)=true→k+ps.length≤20→adi cf k (ps.flatMap (pmW cf)++58::t)=.ok (ps,58::t)
 |[],k,_,_=>agt (alx (by simp))
 |p::ps,k,h,hk=>by
  rw[List.all_cons,Bool.and_eq_true]at h
  simp only[List.length_cons]at hk
  have ih:=anT (t:=t) ps (k+1) h.2 (by omega)
  have e:(p::ps).flatMap (pmW cf)++58::t=59::(p.1++aeQ cf p.2++(ps.flatMap (pmW cf)++58::t)):=by simp[pmW]
  rw[e,ahI (afF _ _),ayY h.1 (fun c r hc=>?_)]
  ·show(if k=20 then _ else Rs.next (adi cf (k+1) _) _)=_
   rw[if_neg (by omega),ih];rfl
  ·cases ps with
   |nil=>right;simp at hc;exact hc.1.symm
   |cons q qs=>left;simp[pmW]at hc;exact hc.1.symm
theorem agu{cf:Bool}{p:Ln}(h:agE cf p=true):GH p.hd.name=true∧(p.hd.group=[]∨GH p.hd.group=true)∧p.hd.params.length≤20∧p.hd.params.all (pmR cf)=true∧Af p.value false=true:=by
 unfold agE at h
 simp only[Bool.and_eq_true,Bool.or_eq_true,decide_eq_true_iff,List.isEmpty_iff]at h
 exact⟨h.1.1.1.1,h.1.1.1.2,h.1.1.2,h.1.2,h.2⟩
theorem akT{cf:Bool}{ps:List Pm}{t c r}(h:ps.flatMap (pmW cf)++58::t=c::r):c=59∨c=58:=by
 cases ps with
 |nil=>right;simp at h;exact h.1.symm
 |cons q qs=>left;simp[pmW]at h;exact h.1.symm
theorem aw6{cf:Bool}{h:Hd}{t:L8}(h1:GH h.name=true)(h2:h.group=[]∨GH h.group=true)(h3:h.params.length≤20)(h4:h.params.all (pmR cf)=true):ahq cf (amq cf h++58::t)=.ok (h,t):=by
 obtain⟨g,n,ps⟩:=h
 simp only at h1 h2 h3 h4
 have hp:=anT (cf:=cf) (t:=t) ps 0 h4 (by omega)
 have hw:=aoA (n:=n) (t:=ps.flatMap (pmW cf)++58::t) h1 (fun c r hc=>by rcases akT hc with rfl|rfl<;>rfl)
 unfold ahq amq
 by_cases hg:g=[]
 ·subst hg
  have e:(if ([]:L8)=[] then[] else[]++[46])++n++ps.flatMap (pmW cf)++58::t=n++(ps.flatMap (pmW cf)++58::t):=by simp
  have hnot:isB 46 (ps.flatMap (pmW cf)++58::t)=none:=alx (fun hh=>by
   cases hx:ps.flatMap (pmW cf)++58::t with
   |nil=>rw[hx]at hh;cases hh
   |cons c r=>rw[hx]at hh;injection hh with hh;subst hh;rcases akT hx with h|h<;>revert h<;>decide)
  show Rs.next (aet ((if ([]:L8)=[] then[] else[]++[46])++n++ps.flatMap (pmW cf)++58::t)) _=_
  rw[e,hw]
  simp only[adS,hnot,hp,afF]
 ·have hgn:GH g=true:=h2.resolve_left hg
  have hwg:=aoA (n:=g) (t:=46::(n++(ps.flatMap (pmW cf)++58::t))) hgn (fun c r hc=>by injection hc with hc _;subst hc;rfl)
  have e:(if g=[] then[] else g++[46])++n++ps.flatMap (pmW cf)++58::t=g++46::(n++(ps.flatMap (pmW cf)++58::t)):=by simp[hg]
  show Rs.next (aet ((if g=[] then[] else g++[46])++n++ps.flatMap (pmW cf)++58::t)) _=_
  rw[e,hwg]
  simp only[adS,afF,hw,hp]
theorem ai1{α:Type}{f:α→L8}:∀(l:List α),(∀a∈l,Af (f a) false=true)→Af (l.flatMap f) false=true
 |[],_=>ah6 _
 |a::l,h=>by
  rw[List.flatMap_cons]
  exact adp (h a List.mem_cons_self) (ai1 l fun b hb=>h b (List.mem_cons_of_mem _ hb))
theorem anU(c:UInt8)(h1:c.toNat<128)(h2:af7 false c=true):Af [c] false=true:=aez h1 h2 (ah6 _)
theorem ams{cf:Bool}{v:L8}(h:aeD cf v=true):Af (afW cf v) false=true:=by
 obtain⟨h1,h2⟩:=amr.1 h
 unfold afW
 split
 ·exact aez (by decide) (by decide) (adp h1 (anU 34 (by decide) (by decide)))
 ·exact h1
theorem atx{cf:Bool}{p:Pm}(h:pmR cf p=true):Af (pmW cf p) false=true:=by
 unfold pmR at h
 rw[Bool.and_eq_true,Bool.and_eq_true]at h
 obtain⟨⟨h1,h2⟩,h3⟩:=h
 obtain⟨n,vs⟩:=p
 rw[List.all_eq_true]at h3
 unfold pmW
 refine adp (aez (by decide) (by decide) (ai0 h1)) ?_
 cases vs with
 |nil=>cases h2
 |cons v vs=>
  unfold aeQ
  refine adp (aez (by decide) (by decide) (ams (h3 v List.mem_cons_self))) (ai1 _ fun u hu=>?_)
  exact aez (by decide) (by decide) (ams (h3 u (List.mem_cons_of_mem _ hu)))
theorem ap5{cf:Bool}{p:Ln}(h:agE cf p=true):Af (amq cf p.hd) false=true:=by
 obtain⟨h1,h2,h3,h4,h5⟩:=agu h
 rw[List.all_eq_true]at h4
 unfold amq
 refine adp (adp ?_ (ai0 h1)) (ai1 _ fun q hq=>atx (h4 q hq))
 split
 ·exact ah6 _
 ·rename_i hg
  exact adp (ai0 (h2.resolve_left hg)) (anU 46 (by decide) (by decide))
theorem ajN{cf:Bool}{p:Ln}(h:agE cf p=true):Af (aeC cf p) false=true:=by
 unfold aeC
 exact adp (ap5 h) (aez (by decide) (by decide) (agu h).2.2.2.2)
theorem ayi{r:L8}(h:Af r false=true):r.findIdx? agP=none:=by
 rw[List.findIdx?_eq_none_iff]
 intro c hc
 unfold agP;rw[(adH.1 h).1 c hc];rfl
theorem avj{cf:Bool}{s r:L8}{h:Hd}(hb:UL s=none)(hh:ahq cf s=.ok (h,r))(hr:Af r false=true):acZ cf s=.ok ⟨h,r⟩:=by
 unfold acZ
 rw[hb]
 simp only
 rw[hh]
 simp only
 rw[ayi hr]
theorem ahJ{cf:Bool}{p:Ln}(h:agE cf p=true):acZ cf (aeC cf p)=.ok p:=by
 obtain⟨h1,h2,h3,h4,h5⟩:=agu h
 have:=avj (adH.1 (ajN h)).2 (aw6 (cf:=cf) (t:=p.value) h1 h2 h3 h4) h5
 exact this
theorem avk{cf:Bool}{s:L8}{p:Ln}(h:acZ cf s=.ok p):UL s=none∧ahq cf s=.ok (p.hd,p.value)∧p.value.findIdx? agP=none:=by
 unfold acZ at h
 split at h
 ·cases h
 ·rename_i hb
  split at h
  ·cases h
  ·rename_i hd r hh
   split at h
   ·cases h
   ·rename_i hc
    injection h with h
    subst h
    exact⟨hb,hh,hc⟩
end Go.Proofs.YtmffejnigppbpaaGreatDoor
