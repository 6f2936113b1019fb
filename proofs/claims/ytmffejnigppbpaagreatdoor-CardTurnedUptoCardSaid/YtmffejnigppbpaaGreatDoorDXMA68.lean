/-
  Texts merged into one: CardText, LineSmall, PiecesSum, ValBound, ParsePlain, DoorRE, CardLineE.
-/
import Derived.Test.YtmffejnigppbpaaGreatDoorDXMA67
import Derived.Test.YtmffejnigppbpaaGreatDoorDXMA78
import Derived.Test.YtmffejnigppbpaaGreatDoorDXLinePrint
import Derived.Test.YtmffejnigppbpaaGreatDoorDXMParse
import Derived.Test.YtmffejnigppbpaaGreatDoorDXMA75
import Derived.Test.YtmffejnigppbpaaGreatDoorDXMA77
import Derived.Test.YtmffejnigppbpaaGreatDoorDXMVal
import Derived.Test.YtmffejnigppbpaaGreatDoorDXMA72
import Derived.Test.YtmffejnigppbpaaGreatDoorDXMA52
import Derived.Test.YtmffejnigppbpaaGreatDoorDXMA56
import Derived.Test.YtmffejnigppbpaaGreatDoorDXMA70
import Derived.Test.YtmffejnigppbpaaGreatDoorDXMA73
set_option linter.unusedVariables false
set_option linter.unusedSimpArgs false
namespace Go.Proofs.YtmffejnigppbpaaGreatDoor
open Go.RowKit
def ada:List UInt8:=[66,69,71,73,78,58,86,67,65,82,68]
def aju:List UInt8:=[69,78,68,58,86,67,65,82,68]
def apL:List UInt8:=[86,69,82,83,73,79,78,58,51,46,48]
def ajv:List UInt8:=[86,69,82,83,73,79,78,58,52,46,48]
def afC(v:Int):List UInt8:=if v=3 then apL else ajv
def UF(v:Int)(xs:List It):List (List UInt8):=ada::afC v::(xs.map (aey v)++[aju])
def aes(n:Nat)(ss:List (List UInt8)):List UInt8:=ss.flatMap fun s=>ac6 s n n
def ad3(v:Int)(n:Nat)(xs:List It):List UInt8:=aes n (UF v xs)
def adG(v:Int)(t:List UInt8):Option It:=match acZ (v==4) t with
 |.error _=>none
 |.ok p=>match ady p.value (typeOf (acM v p.hd.name).1 p.hd.params)with
  |none=>none
  |some y=>some ⟨p.hd.group,p.hd.name,p.hd.params,y⟩
def aiB(t:List UInt8):Option Int:=if aeu t apL=true then some 3 else if aeu t ajv=true then some 4 else none
def adI(v:Int):List (List UInt8)→Option (List It)
 |[]=>some []
 |t::ts=>match adG v t with
  |none=>none
  |some x=>match adI v ts with
   |none=>none
   |some xs=>some (x::xs)
def ofT(ts:List (List UInt8)):Option (Int×List It):=
 if ts.length<3 then none
 else if aeu (ts.getD 0 []) ada=false then none
 else match aiB (ts.getD 1 [])with
  |none=>none
  |some v=>match adI v ((ts.take (ts.length-1)).drop 2)with
   |none=>none
   |some xs=>if aeu (ts.getD (ts.length-1) []) aju=false then none else if acN v xs=true then some (v,xs)else none
def ahz(t:List UInt8):Option (Int×List It):=match Us t 0 []with
 |.bad _ _=>none
 |.good ls=>ofT (ls.map FLn.text)
theorem alv{s:List UInt8}(h:Af s false=true)(hl:s.length≤1500):ahC s:=by
 unfold Af at h
 rw[Bool.and_eq_true,List.all_eq_true,Option.isNone_iff_eq_none]at h
 refine⟨h.2,arf fun c hc=>?_,hl⟩
 have:=h.1 c hc
 unfold af7 at this
 rw[decide_eq_true_iff]at this
 unfold nlB
 rw[Bool.or_eq_false_iff,beq_eq_false_iff_ne,beq_eq_false_iff_ne]
 constructor<;>(rintro rfl;revert this;decide)
theorem alZ{n r:List UInt8}(h:GH n=true):ae3 (n++r)=false:=by
 cases n with
 |nil=>exact absurd rfl (aw5 h)
 |cons c t=>
  have:=ag7 h c List.mem_cons_self
  show(c==32||c==9)=false
  rw[Bool.or_eq_false_iff,beq_eq_false_iff_ne,beq_eq_false_iff_ne]
  constructor<;>(rintro rfl;revert this;decide)
theorem as8{v:Int}{x:It}(h:adY v x=true):ahC (aey v x)∧ae3 (aey v x)=false:=by
 obtain⟨h1,_,_,_,ho,_,hl⟩:=ajq.1 h
 have hb:agE (v==4) (lnX x x.v.text)=true:=by rw[akh,h1,(aka x.v ho).2];rfl
 rw[(ag2 h1 ho).2]
 refine⟨alv (ajN hb) hl,?_⟩
 obtain⟨r1,r2,_⟩:=agu hb
 unfold aeC amq
 split
 ·simp only[List.nil_append,List.append_assoc];exact alZ r1
 ·rename_i hg
  simp only[List.append_assoc]
  exact alZ (r2.resolve_left hg)
theorem as9{v:Int}{x:It}(h:adY v x=true):adG v (aey v x)=some x:=by
 obtain⟨h1,_,_,ht,ho,_,_⟩:=ajq.1 h
 have hb:agE (v==4) (lnX x x.v.text)=true:=by rw[akh,h1,(aka x.v ho).2];rfl
 rw[(ag2 h1 ho).2]
 unfold adG
 rw[ahJ hb]
 show(match ady x.v.text (typeOf (acM v x.n).1 x.ps)with|none=>none|some y=>some (⟨x.g,x.n,x.ps,y⟩:It))=some x
 rw[ht,(aka x.v ho).1]
theorem al0{v:Int}:∀ {xs:List It},(∀x∈xs,adY v x=true)→adI v (xs.map (aey v))=some xs
 |[],_=>rfl
 |x::xs,h=>by
  show(match adG v (aey v x)with|none=>none|some y=>match adI v (xs.map (aey v))with|none=>none|some ys=>some (y::ys))=_
  rw[as9 (h x List.mem_cons_self)]
  simp only
  rw[al0 fun y hy=>h y (List.mem_cons_of_mem _ hy)]
theorem aq7{v:Int}:(ahC ada∧ae3 ada=false)∧(ahC (afC v)∧ae3 (afC v)=false)∧(ahC aju∧ae3 aju=false):=by
 refine⟨⟨alv (afD (by decide)) (by decide),by decide⟩,⟨?_,?_⟩,⟨alv (afD (by decide)) (by decide),by decide⟩⟩
 ·unfold afC;split<;>exact alv (afD (by decide)) (by decide)
 ·unfold afC;split<;>decide
theorem afd{v:Int}{xs:List It}(h:∀x∈xs,adY v x=true):∀s∈UF v xs,ahC s∧ae3 s=false:=by
 intro s hs
 obtain⟨f1,f2,f3⟩:=aq7 (v:=v)
 simp only[UF,List.mem_cons,List.mem_append,List.mem_map,List.mem_nil_iff,or_false]at hs
 rcases hs with rfl|rfl|⟨x,hx,rfl⟩|rfl
 ·exact f1
 ·exact f2
 ·exact as8 (h x hx)
 ·exact f3
theorem akj{n:Nat}(hn:10≤n):∀ {ss:List (List UInt8)},(∀s∈ss,ahC s∧ae3 s=false)→∃ls,Us (aes n ss) 0 []=.good ls∧ls.map FLn.text=ss
 |[],_=>⟨[],ae8 _ _,rfl⟩
 |s::ss,h=>by
  obtain⟨g,b⟩:=h s List.mem_cons_self
  obtain⟨fs,e1,_,_⟩:=anP g b n hn
  obtain⟨ls,e2,e3⟩:=akj hn (ss:=ss) fun q hq=>h q (List.mem_cons_of_mem _ hq)
  refine⟨⟨s,0,fs⟩::ls.map (FLn.shift (ac6 s n n).length),?_,?_⟩
  ·show Us (ac6 s n n++aes n ss) 0 []=_
   rw[apU e1 e2];rfl
  ·rw[List.map_cons,List.map_map,←e3]
   rfl
theorem ata{v:Int}(h:v=3∨v=4):aiB (afC v)=some v:=by rcases h with rfl|rfl<;>decide +kernel
theorem auO{v:Int}{xs:List It}(h:acN v xs=true):ofT (UF v xs)=some (v,xs):=by
 obtain⟨hv,_,ho,_⟩:=adn.1 h
 have hl:(UF v xs).length=xs.length+3:=by simp[UF]
 have e0:(UF v xs).getD 0 []=ada:=rfl
 have e1:(UF v xs).getD 1 []=afC v:=rfl
 have e2:(UF v xs).getD (xs.length+3-1) []=aju:=by
  have:xs.length+3-1=(xs.length+1)+1:=rfl
  rw[this,List.getD_eq_getElem?_getD]
  simp[UF,List.getElem?_append]
 have e3:((UF v xs).take (xs.length+3-1)).drop 2=xs.map (aey v):=by
  have:xs.length+3-1=(xs.length+1)+1:=rfl
  rw[this]
  simp[UF]
 unfold ofT
 rw[hl,if_neg (by omega),e0,if_neg (by decide +kernel),e1,ata hv]
 simp only
 rw[e3,al0 ho]
 simp only
 rw[e2,if_neg (by decide +kernel),if_pos h]
theorem atb{v:Int}{n:Nat}{xs:List It}(h:acN v xs=true)(hn:10≤n):ahz (ad3 v n xs)=some (v,xs):=by
 obtain⟨ls,e1,e2⟩:=akj hn (afd (adn.1 h).2.2.1)
 unfold ahz ad3
 rw[e1]
 simp only
 rw[e2,auO h]
end Go.Proofs.YtmffejnigppbpaaGreatDoor

namespace Go.Proofs.YtmffejnigppbpaaGreatDoor
open Go.RowKit
theorem arz:∀(n:Nat) (l:L8),l.length≤n→(alm l).length≤l.length:=by
 intro n
 induction n with
 |zero=>
  intro l hl
  have:l=[]:=List.length_eq_zero_iff.1 (by omega)
  subst this;exact Nat.le_refl _
 |succ n ih=>
  intro l hl
  cases l with
  |nil=>exact Nat.le_refl _
  |cons c t=>
   simp only[List.length_cons]at hl
   cases hm:mtL (c::t)with
   |some v=>
    have h2:=awy hm
    cases t with
    |nil=>simp at h2
    |cons d r=>
     simp only[List.length_cons]at hl
     rw[ah5 hm]
     have:=ih r (by omega)
     simp only[List.length_cons];omega
   |none=>
    rw[anL hm]
    have:=ih t (by omega)
    simp only[List.length_cons];omega
theorem amu(cf:Bool)(l:L8):(atw cf l).length≤l.length:=by
 cases cf with
 |false=>exact Nat.le_refl _
 |true=>exact arz _ l (Nat.le_refl _)
theorem akV{cf:Bool}{l v t:L8}(h:afq cf l=.ok (v,t)):v.length+t.length≤l.length:=by
 unfold afq at h
 split at h
 ·rename_i r hr
  obtain⟨a,t2,h1,h2⟩:=adr.1 h
  have e:=ad7 hr
  obtain⟨e2,_⟩:=agQ h1
  split at h2
  ·rename_i u hu
   have e3:=ad7 hu
   injection h2 with h2;injection h2 with h3 h4;subst h4;subst h3
   have:=amu cf a
   rw[e,e2,e3];simp;omega
  ·cases h2
 ·obtain⟨a,t2,h1,h2⟩:=adr.1 h
  injection h2 with h2;injection h2 with h3 h4;subst h4;subst h3
  obtain⟨e2,_⟩:=agQ h1
  have:=amu cf a
  rw[e2];simp;omega
theorem arA{cf:Bool}:∀(n:Nat) {l t:L8} {vs:List L8},l.length≤n→agR cf l=.ok (vs,t)→vs.length+(vs.map List.length).sum+t.length≤l.length:=by
 intro n
 induction n with
 |zero=>
  intro l t vs hl h
  have:l=[]:=List.length_eq_zero_iff.1 (by omega)
  subst this
  rw[af1 rfl]at h
  injection h with h;injection h with h1 h;subst h;subst h1;simp
 |succ n ih=>
  intro l t vs hl h
  cases hb:isB 44 l with
  |none=>
   rw[af1 hb]at h
   injection h with h;injection h with h1 h;subst h;subst h1;simp
  |some r=>
   rw[aid hb]at h
   obtain⟨v,t1,h1,h2⟩:=adr.1 h
   obtain⟨vs',u,h3,h4⟩:=adr.1 h2
   injection h4 with h4;injection h4 with h5 h4;subst h4;subst h5
   have l1:=akV h1
   have hl':l.length=r.length+1:=by rw[ad7 hb];rfl
   have:=ih (by omega) h3
   simp only[List.length_cons,List.map_cons,List.sum_cons]
   omega
theorem avn{cf:Bool}{l t:L8}{p:Pm}(h:pmP cf l=.ok (p,t)):ac5 p+t.length≤l.length:=by
 obtain⟨n,t1,h1,h2⟩:=adr.1 h
 obtain⟨e1,_,_⟩:=aly h1
 split at h2
 ·cases h2
 ·rename_i r hr
  have e2:=ad7 hr
  obtain⟨v,t2,h3,h4⟩:=adr.1 h2
  obtain⟨vs,t3,h5,h6⟩:=adr.1 h4
  injection h6 with h6;injection h6 with h7 h6;subst h6;subst h7
  have a:=akV h3
  have b:=arA _ (Nat.le_refl _) h5
  have l1:l.length=n.length+t1.length:=by rw[e1];simp
  have l2:t1.length=r.length+1:=by rw[e2];rfl
  simp only[ac5,List.length_cons,List.map_cons,List.sum_cons]
  omega
theorem arB(p:Pm)(ps:List Pm):adm (p::ps)=1+ac5 p+adm ps:=by unfold adm;simp only[List.length_cons,List.map_cons,List.sum_cons];omega
theorem aoD{cf:Bool}:∀(n k:Nat) {l t:L8} {ps:List Pm},l.length≤n→adi cf k l=.ok (ps,t)→adm ps+t.length≤l.length:=by
 intro n
 induction n with
 |zero=>
  intro k l t vs hl h
  have:l=[]:=List.length_eq_zero_iff.1 (by omega)
  subst this
  rw[agt rfl]at h
  injection h with h;injection h with h1 h;subst h;subst h1;simp[adm]
 |succ n ih=>
  intro k l t vs hl h
  cases hx:isB 59 l with
  |none=>
   rw[agt hx]at h
   injection h with h;injection h with h1 h;subst h;subst h1;simp[adm]
  |some r=>
   rw[ahI hx]at h
   obtain⟨p,t1,h1,h2⟩:=adr.1 h
   split at h2
   ·cases h2
   ·obtain⟨ps',u,h3,h4⟩:=adr.1 h2
    injection h4 with h4;injection h4 with h5 h4;subst h4;subst h5
    have l1:=avn h1
    have hl':l.length=r.length+1:=by rw[ad7 hx];rfl
    have:=ih (k+1) (by omega) h3
    rw[arB];omega
def ap9(p:Ln):Nat:=p.hd.group.length+p.hd.name.length+adm p.hd.params+p.value.length
theorem amv{cf:Bool}{l t:L8}{h:Hd}(hh:ahq cf l=.ok (h,t)):h.group.length+h.name.length+adm h.params+t.length≤l.length:=by
 obtain⟨n,t1,h1,h2⟩:=adr.1 hh
 obtain⟨gn,t2,h3,h4⟩:=adr.1 h2
 obtain⟨ps,t3,h5,h6⟩:=adr.1 h4
 obtain⟨e1,_,_⟩:=aly h1
 have l1:l.length=n.length+t1.length:=by rw[e1];simp
 have a:=aoD _ 0 (Nat.le_refl _) h5
 split at h6
 ·cases h6
 ·rename_i r hr
  have l2:t3.length=r.length+1:=by rw[ad7 hr];rfl
  injection h6 with h6;injection h6 with h7 h6;subst h6;subst h7
  have key:gn.1.length+gn.2.length+t2.length≤n.length+t1.length:=by
   split at h3
   ·rename_i r2 hr2
    obtain⟨m,u,h8,h9⟩:=adr.1 h3
    obtain⟨e2,_,_⟩:=aly h8
    injection h9 with h9;injection h9 with h10 h9;subst h9;subst h10
    have l3:t1.length=r2.length+1:=by rw[ad7 hr2];rfl
    have l4:r2.length=m.length+u.length:=by rw[e2];simp
    simp only;omega
   ·injection h3 with h3;injection h3 with h10 h9;subst h9;subst h10
    simp
  simp only;omega
theorem ahK{cf:Bool}{s:L8}{p:Ln}(h:acZ cf s=.ok p):ap9 p≤s.length:=(by
 obtain⟨_,hh,_⟩:=avk h
 have:=amv hh
 unfold ap9;omega)
theorem arC{ps:List Pm}{n:Nat}(h:adm ps≤n)(hn:n≤1000000):ail ps∧ps.length≤1000000:=by
 refine⟨fun p hp=>?_,by unfold adm at h;omega⟩
 have h1:ac5 p≤(ps.map ac5).sum:=aeg (List.mem_map_of_mem hp)
 have h2:ac5 p=p.1.length+p.2.length+(p.2.map List.length).sum:=rfl
 unfold adm at h
 constructor<;>omega
theorem adu.good{cf:Bool}{p:Ln}{v:Value}{w:World}(h:acL cf p=none)(hp:adu cf p v w):v=.tuple #[.string (S (aeC cf p)),.nilIface]:=by unfold adu at hp;rw[h]at hp;exact hp
theorem adu.bad{cf:Bool}{p:Ln}{v:Value}{w:World}{o:Int×Option Nat}(h:acL cf p=some o)(hp:adu cf p v w):∃t x,v=.tuple #[.string (S []),.iface t x]:=by unfold adu at hp;rw[h]at hp;obtain⟨e,rfl,_,t,x,rfl⟩:=hp;exact⟨t,x,rfl⟩
def avo(w:World)(B:Nat)(p:Ln)(pv:Value):Prop:=w.heap[B]?=some (.cells #[.string (S p.hd.group),.string (S p.hd.name),pv,.string (S p.value)] 109)
section
variable {w w':World} {B:Nat} {p:Ln} {pv:Value}
theorem avo.grow(h:avo w B p pv)(g:G w w'):avo w' B p pv:=(g.below.block B (UI h)).trans h
theorem avo.lt(h:avo w B p pv):B<w.heap.size:=UI h
end
end Go.Proofs.YtmffejnigppbpaaGreatDoor

namespace Go.Proofs.YtmffejnigppbpaaGreatDoor
open Go.RowKit
theorem ak1(a:List UInt8):∀(n:Nat) (s:List UInt8),s.length≤n→∀(k:Nat) (cur:List UInt8) (ts:List (List UInt8)) (cs:List UInt8) (T:List (List UInt8)) (C:List UInt8),C9 a s k cur ts cs=.good T C→adq T≤adq ts+cur.length+1+s.length:=by
 intro n
 induction n with
 |zero=>
  intro s hs k cur ts cs T C h
  have:s=[]:=List.eq_nil_of_length_eq_zero (by omega)
  subst this
  rw[adc]at h
  injection h with h1 h2
  subst h1
  rw[ags];simp[adq];omega
 |succ n ih=>
  intro s hs k cur ts cs T C h
  match s,hs,h with
  |[],_,h=>
   rw[adc]at h
   injection h with h1 h2
   subst h1
   rw[ags];simp[adq];omega
  |c::t,hs,h=>
   by_cases h92:c=92
   ·subst h92
    match t,hs,h with
    |[],_,h=>rw[agi]at h;cases h
    |d::t,hs,h=>
     cases hu:afs d with
     |none=>rw[afI hu]at h;cases h
     |some x=>
      rw[ae4 hu]at h
      have:=ih t (by simp at hs;omega) _ _ _ _ _ _ h
      simp at this⊢;omega
   ·cases hc:a.contains c with
    |true=>
     rw[aeG h92 hc]at h
     have:=ih t (by simp at hs;omega) _ _ _ _ _ _ h
     rw[ags]at this
     simp[adq]at this⊢;omega
    |false=>
     rw[ae5 h92 hc]at h
     have:=ih t (by simp at hs;omega) _ _ _ _ _ _ h
     simp at this⊢;omega
theorem arQ:∀(cs:List UInt8) (ts:List (List UInt8)) (cur:List (List UInt8)),acY (UD cur cs ts)≤adq cur+1+2*adq ts:=by
 intro cs
 induction cs with
 |nil=>intro ts cur;simp[UD,acY]
 |cons c cs ih=>
  intro ts cur
  cases ts with
  |nil=>simp[UD,acY];try omega
  |cons t ts=>
   rw[afX]
   have hc:=afp t ts
   split
   ·rw[af0]
    have:=ih ts [t]
    have h1:adq [t]=t.length+1:=by simp[adq]
    omega
   ·have:=ih ts (cur++[t])
    rw[ags]at this
    have h1:adq [t]=t.length+1:=by simp[adq]
    omega
theorem aqr{s:List UInt8}{T:List (List UInt8)}{C:List UInt8}(h:C9 [44,59] s 0 [] [] []=.good T C):acY (UD [T.headD []] C T.tail)≤2*s.length+5:=by
 have h1:=ak1 [44,59] s.length s (Nat.le_refl _) _ _ _ _ _ _ h
 have h2:=agY h
 have h3:=arQ C T.tail [T.headD []]
 cases T with
 |nil=>simp at h2
 |cons t T=>
  rw[afp]at h1
  simp only[List.headD_cons,List.tail_cons]at h3⊢
  have h4:adq [t]=t.length+1:=by simp[adq]
  simp[adq]at h1 h3 h4⊢
  omega
end Go.Proofs.YtmffejnigppbpaaGreatDoor

namespace Go.Proofs.YtmffejnigppbpaaGreatDoor
open Go.RowKit
theorem am0{a s:List UInt8}{T:List (List UInt8)}{C:List UInt8}(h:C9 a s 0 [] [] []=.good T C):adq T≤s.length+1:=by
 have:=ak1 a s.length s (Nat.le_refl _) _ _ _ _ _ _ h
 simp[adq]at this⊢;omega
structure Vl.Small(x:Vl)(n:Nat):Prop where
 tx:x.tx.length≤n+1
 ps:acY x.ps≤2*n+5
 y : -9223372036854775808≤x.st.y∧x.st.y≤9223372036854775807
theorem am1{s:List UInt8}{k:Int}{v:Vl}(h:ady s k=some v):v.Small s.length:=by
 have y0 : -9223372036854775808≤St0.y∧St0.y≤9223372036854775807:=by decide
 have p0:acY []≤2*s.length+5:=by simp[acY]
 unfold ady at h
 split at h
 ·cases h
 split at h
 ·cases h
 split at h
 ·split at h
  ·rename_i t q _ hp
   cases h
   have h1:=am0 hp
   have h2:=ajG (ls:=t::q) (l:=t) List.mem_cons_self
   exact⟨by show t.length≤_;omega,p0,y0⟩
  ·cases h
 split at h
 ·split at h
  ·rename_i T _ hp
   cases h
   have h1:=am0 hp
   exact⟨by simp,by show acY [T]≤_;simp[acY];omega,y0⟩
  ·cases h
 split at h
 ·split at h
  ·rename_i t ts cs hp
   cases h
   have h1:=aqr hp
   exact⟨by simp,h1,y0⟩
  ·cases h
 split at h
 ·split at h
  ·cases h;exact⟨by show s.length≤_;omega,p0,y0⟩
  ·cases h
 split at h
 ·split at h
  ·rename_i hz
   cases h
   refine⟨by simp,p0,?_⟩
   have hr:(afw s).1.right=0:=by
    rcases ape s with⟨_,h⟩|⟨h,_⟩
    ·exact h
    ·exact absurd hz h
   have:=(St.good hr).y
   show -9223372036854775808≤(afw s).1.y∧(afw s).1.y≤9223372036854775807
   omega
  ·cases h
 split at h
 ·split at h
  ·cases h;exact⟨by simp,p0,y0⟩
  ·cases h
 split at h
 ·split at h
  ·cases h;exact⟨by show s.length≤_;omega,p0,y0⟩
  ·cases h
 ·cases h;exact⟨by show s.length≤_;omega,p0,y0⟩
end Go.Proofs.YtmffejnigppbpaaGreatDoor

namespace Go.Proofs.YtmffejnigppbpaaGreatDoor
open Go.RowKit
theorem aqk{p:List UInt8}{k:Nat}{out out':List FLn}(h:acU p k out=.good out')(ho:∀l∈out,l.pos+l.text.length+3*l.folds.length+2≤k):∀l∈out',l.pos+l.text.length+3*l.folds.length+2≤k+p.length+2:=by
 unfold acU at h
 split at h
 ·rename_i hb
  have hp:1≤p.length:=by cases p with|nil=>cases hb|cons _ _=>simp
  cases hl:out.getLast? with
  |none=>rw[hl]at h;cases h
  |some l0=>
   rw[hl]at h
   dsimp only at h
   have hm:=ho l0 (List.mem_of_getLast? hl)
   split at h
   ·cases h
   ·injection h with h
    subst h
    intro l hl2
    rcases List.mem_append.1 hl2 with h2|h2
    ·have:=ho l ((List.dropLast_sublist _).subset h2);omega
    ·have:l=_:=List.mem_singleton.1 h2
     subst this
     simp;omega
 ·split at h
  ·cases h
  ·injection h with h
   subst h
   intro l hl2
   rcases List.mem_append.1 hl2 with h2|h2
   ·have:=ho l h2;omega
   ·have:l=_:=List.mem_singleton.1 h2
    subst this
    simp
theorem atK{t:List UInt8}{x:List FLn}(h:Us t 0 []=.good x):∀l∈x,l.pos+l.text.length+3*l.folds.length+2≤t.length:=by
 have key:=agJ (P:=fun r k out x=>(∀l∈out,l.pos+l.text.length+3*l.folds.length+2≤k)→∀l∈x,l.pos+l.text.length+3*l.folds.length+2≤k+r.length) ?_ ?_ t.length t 0 [] x (Nat.le_refl _) h
 ·intro l hl;have:=key (by simp) l hl;omega
 ·intro k out ho l hl;have:=ho l hl;omega
 ·intro p r k out out' y hp ha hg ih ho l hl
  have:=ih (aqk ha ho) l hl
  simp;omega
theorem amA(l:FLn){i:Nat}(hi:i≤l.text.length):ad4 l i≤l.pos+l.text.length+3*l.folds.length:=by
 unfold ad4 arh
 have:=List.length_filter_le (fun f=>decide (f≤i)) l.folds
 omega
theorem aql{p:List UInt8}{k:Nat}{out:List FLn}{c:Int}{q:Nat}(h:acU p k out=.bad c q)(ho:∀l∈out,l.pos≤k):c≠0∧q≤k:=by
 unfold acU at h
 split at h
 ·cases hl:out.getLast? with
  |none=>rw[hl]at h;injection h with h1 h2;subst h1;subst h2;exact⟨by decide,by omega⟩
  |some l0=>
   rw[hl]at h
   dsimp only at h
   have hm:=ho l0 (List.mem_of_getLast? hl)
   split at h
   ·injection h with h1 h2;subst h1;subst h2;exact⟨by decide,hm⟩
   ·cases h
 ·split at h
  ·injection h with h1 h2;subst h1;subst h2;exact⟨by decide,Nat.le_refl _⟩
  ·cases h
theorem aqm:∀(n:Nat) (r:List UInt8) (k:Nat) (out:List FLn) (c:Int) (q:Nat),r.length≤n→Us r k out=.bad c q→(∀l∈out,l.folds.length≤k∧l.pos≤k∧l.text.length≤1500)→c≠0∧q≤k+r.length:=by
 intro n
 induction n with
 |zero=>
  intro r k out c q hl h ho
  have:r=[]:=List.length_eq_zero_iff.1 (by omega)
  subst this
  rw[ae8]at h;cases h
 |succ n ih=>
  intro r k out c q hl h ho
  rw[Us]at h
  split at h
  ·cases h
  ·rename_i h0
   have hb:=ajB r
   split at h
   ·injection h with h1 h2;subst h1;subst h2;exact⟨by decide,by omega⟩
   split at h
   ·injection h with h1 h2;subst h1;subst h2;exact⟨by decide,by omega⟩
   ·rename_i hne hp
    cases ha:acU (r.take (aeO r)) k out with
    |bad c' q'=>
     rw[ha]at h
     injection h with h1 h2;subst h1;subst h2
     obtain⟨h1,h2⟩:=aql ha (fun l hl=>(ho l hl).2.1)
     exact⟨h1,by omega⟩
    |good out'=>
     rw[ha]at h
     have hlen:(r.take (aeO r)).length=aeO r:=by simp;omega
     have h2:2≤(r.drop (aeO r)).length:=by
      rw[Bool.not_eq_false]at hp
      have:=asI hp
      rw[this];simp
     have h3:aeO r+2≤r.length:=by rw[List.length_drop]at h2;omega
     have hs:=aiD ha ho
     rw[hlen]at hs
     obtain⟨h1,h4⟩:=ih _ _ _ _ _ (by rw[List.length_drop];omega) h hs
     rw[List.length_drop]at h4
     exact⟨h1,by omega⟩
theorem aoK{t:List UInt8}{c:Int}{q:Nat}(h:Us t 0 []=.bad c q):c≠0∧q≤t.length:=by
 have:=aqm t.length t 0 [] c q (Nat.le_refl _) h (by simp)
 omega
theorem axg:∀(n:Nat) (l:List UInt8),l.length≤n→∀k,UL l=some k→k≤l.length:=by
 intro n
 induction n with
 |zero=>
  intro l hl k h
  have:l=[]:=List.length_eq_zero_iff.1 (by omega)
  subst this
  rw[aea]at h;cases h
 |succ n ih=>
  intro l hl k h
  by_cases h0:l=[]
  ·subst h0;rw[aea]at h;cases h
  by_cases hs:Ut l=0
  ·rw[akE h0 hs]at h;cases h;omega
  ·rw[aeo hs]at h
   cases hb:UL (l.drop (Ut l))with
   |none=>rw[hb]at h;cases h
   |some k'=>
    rw[hb]at h
    cases h
    have:=ih _ (by rw[List.length_drop];omega) k' hb
    rw[List.length_drop]at this
    by_cases hl2:Ut l≤l.length
    ·show k'+Ut l≤l.length;omega
    ·have e:l.drop (Ut l)=[]:=List.drop_eq_nil_of_le (by omega)
     rw[e,aea]at hb;cases hb
theorem aqn{cf:Bool}{s:L8}{c:Int}{k:Nat}(h:acZ cf s=.error (c,k)):k≤s.length:=by
 unfold acZ at h
 split at h
 ·rename_i i hi
  cases h
  exact axg _ s (Nat.le_refl _) _ hi
 ·split at h
  ·cases h;omega
  ·rename_i hd r hh
   split at h
   ·rename_i i hi
    cases h
    have h1:=amv hh
    have h2:i<r.length:=(List.findIdx?_eq_some_iff_getElem.1 hi).1
    omega
   ·cases h
theorem avw{v:Int}{t:List UInt8}{x:It}(h:adG v t=some x)(hl:t.length≤1500):Sml x:=by
 unfold adG at h
 split at h
 ·cases h
 ·rename_i p hp
  split at h
  ·cases h
  ·rename_i y hy
   injection h with h
   subst h
   have h1:=ahK hp
   have h2:=am1 hy
   unfold ap9 at h1
   have h3:=h2.tx
   have h4:=h2.ps
   exact⟨by dsimp only;omega,by dsimp only;omega,by dsimp only;omega⟩
theorem an1{v:Int}:∀ {ts:List (List UInt8)} {xs:List It},adI v ts=some xs→(∀t∈ts,t.length≤1500)→(∀x∈xs,Sml x)∧xs.length=ts.length
 |[],xs,h,_=>by cases h;exact⟨by simp,rfl⟩
 |t::ts,xs,h,hl=>by
  unfold adI at h
  split at h
  ·cases h
  ·rename_i x hx
   split at h
   ·cases h
   ·rename_i ys hys
    cases h
    obtain⟨a,b⟩:=an1 hys (fun u hu=>hl u (List.mem_cons_of_mem _ hu))
    refine⟨fun z hz=>?_,by simp[b]⟩
    rcases List.mem_cons.1 hz with rfl|hz
    ·exact avw hx (hl t List.mem_cons_self)
    ·exact a z hz
end Go.Proofs.YtmffejnigppbpaaGreatDoor

set_option maxHeartbeats 1000000
set_option maxRecDepth 100000
namespace Go.Proofs.YtmffejnigppbpaaGreatDoor
open Go.ChangeShapes Go.WideShapes Go.RowKit
theorem ag3{W : World}(h : laidMetH Tryz.prog [("math/bits.deBruijn32tab", Rows.laid_math_bits_deBruijn32tab), ("math/bits.deBruijn64tab", Rows.laid_math_bits_deBruijn64tab), ("internal/strconv.uint64pow10", Rows.laid_internal_strconv_uint64pow10), ("unicode/utf8.acceptRanges", Rows.laid_unicode_utf8_acceptRanges), ("errors.errorType", Rows.laid_errors_errorType), ("strconv.ErrRange", Rows.laid_strconv_ErrRange), ("strconv.ErrSyntax", Rows.laid_strconv_ErrSyntax), ("unicode.White_Space", Rows.laid_unicode_White_Space), ("strings.asciiSpace", Rows.laid_strings_asciiSpace), ("unicode/utf8.first", Rows.laid_unicode_utf8_first)] W)(hs : W.ShapedOpen Tryz.prog) : aeV W ∧ UO W := by
 have h' : laidMet Tryz.prog [("math/bits.deBruijn32tab", Rows.laid_math_bits_deBruijn32tab), ("math/bits.deBruijn64tab", Rows.laid_math_bits_deBruijn64tab), ("internal/strconv.uint64pow10", Rows.laid_internal_strconv_uint64pow10), ("unicode/utf8.acceptRanges", Rows.laid_unicode_utf8_acceptRanges), ("strconv.ErrRange", Rows.laid_strconv_ErrRange), ("strconv.ErrSyntax", Rows.laid_strconv_ErrSyntax), ("unicode.White_Space", Rows.laid_unicode_White_Space), ("strings.asciiSpace", Rows.laid_strings_asciiSpace), ("unicode/utf8.first", Rows.laid_unicode_utf8_first)] W ∧ handlesMet Tryz.prog [("errors.errorType", Rows.laid_errors_errorType)] W := h
 exact⟨awE h'.1 hs (by repeat (first|exact List.Mem.head _|apply List.Mem.tail)) (by repeat (first|exact List.Mem.head _|apply List.Mem.tail)) (by repeat (first|exact List.Mem.head _|apply List.Mem.tail)) (by repeat (first|exact List.Mem.head _|apply List.Mem.tail)),ako h'.2⟩
end Go.Proofs.YtmffejnigppbpaaGreatDoor

set_option maxHeartbeats 4000000
set_option maxRecDepth 100000
namespace Go.Proofs.YtmffejnigppbpaaGreatDoor
open Go.RowKit
theorem auG(ver:Int)(hv:ver=3∨ver=4)(x:It)(pv lv:Value)(w:World)(h:adE w x pv lv)(hs:Sml x)(hR:aeV w)(hM:aer w)(hE:UO w)(h1:adY ver x=false):Uz 36 #[x.val pv lv,.int .i64 ver] w (fun r _=>∃c,r=.tuple #[.string ⟨#[]⟩,eno c]∧c≠0∧agD ver x c):=by
 have ON:=hid (fun W (g:G w W)=>aon ver hv x pv lv W (h.grow g) hs (hR.grow g) (hM.grow g) (hE.grow g))
 obtain⟨pa,pc,rfl⟩:=h.pv
 obtain⟨la,lc,rfl⟩:=h.lv
 have H1:=hid h1
 clear h hs hR hM hE h1
 have ways:(ver != 3)=false∨((ver != 3)=true∧(ver != 4)=false):=by rcases hv with rfl|rfl<;>simp
 clear hv
 rcases ways with b3|⟨b3,b4⟩
 all_goals
  go_enter Tryz.func36,Tryz.ntmps36
  go_wp2_with fail
  generalize hw1:w.alloc _=w1
  have G1:=hid (show G w w1 by rw[←hw1];exact(G.refl w).alloc _)
  clear hw1
  refine(ON.out w1 G1.out).use ?_
  rintro r w2 ⟨c,rfl,hoc⟩ g2
  have hc:c≠0:=fun e=>by have:=hoc.ok.1 e;rw[H1.out]at this;cases this
  have hcb:(c != 0)=true:=by simpa using hc
  have HOC:=hid hoc
  have HC:=hid hc
  have G2:=hid (G1.out.trans g2)
  clear hoc g2 hc
  go_wp2_with fail
  go_ret2
  exact⟨_,rfl,⟨c,rfl,HC.out,HOC.out⟩,G2.out⟩
def aiy(ver:Int)(x:It)(r:Value):Prop:=(adY ver x=true∧r=.tuple #[.string (S (aeC (ver==4) (lnX x x.v.text))),.nilIface])∨(adY ver x=false∧∃c,r=.tuple #[.string ⟨#[]⟩,eno c]∧c≠0∧agD ver x c)
theorem aok(ver:Int)(hv:ver=3∨ver=4)(x:It)(pv lv:Value)(w:World)(h:adE w x pv lv)(hs:Sml x)(hR:aeV w)(hM:aer w)(hE:UO w):Uz 36 #[x.val pv lv,.int .i64 ver] w (fun r _=>aiy ver x r):=by
 cases h1:adY ver x with
 |true=>
  refine Calls.mono (auF ver hv x pv lv w h hs hR hM hE h1) ?_
  rintro e w' ⟨rfl,hg⟩
  exact⟨_,rfl,.inl ⟨h1,rfl⟩,hg⟩
 |false=>
  refine Calls.mono (auG ver hv x pv lv w h hs hR hM hE h1) ?_
  rintro e w' ⟨r,rfl,hr,hg⟩
  exact⟨_,rfl,.inr ⟨h1,hr⟩,hg⟩
end Go.Proofs.YtmffejnigppbpaaGreatDoor
