/-
  Texts merged into one: LineIs, LineParams, ValRead.
-/
import Derived.Test.YtmffejnigppbpaaGreatDoorDXMA65
import Derived.Test.YtmffejnigppbpaaGreatDoorDXMLineP
import Derived.Test.YtmffejnigppbpaaGreatDoorDXMA59
import Derived.Test.YtmffejnigppbpaaGreatDoorDXMLineR
import Derived.Test.YtmffejnigppbpaaGreatDoorDXMA62
import Derived.Deep.DeepCutAuto
import Derived.Deep.CutBlock
import Derived.Test.YtmffejnigppbpaaGreatDoorDXMA78
import Derived.Deep.RegionHeld3
import Derived.Deep.RegionLaw
import Derived.Deep.Onto
import Derived.Test.YtmffejnigppbpaaGreatDoorDXMA72
import Derived.Test.YtmffejnigppbpaaGreatDoorDXMA70
import Derived.Test.YtmffejnigppbpaaGreatDoorDXMLaws
import Derived.Test.YtmffejnigppbpaaGreatDoorDXMA77
import Derived.Test.YtmffejnigppbpaaGreatDoorDXMA64
set_option linter.unusedVariables false
set_option linter.unusedSimpArgs false
set_option maxHeartbeats 2000000
set_option maxRecDepth 100000
namespace Go.Proofs.YtmffejnigppbpaaGreatDoor
open Go.RowKit
def aiZ(e p:Int):Value:=.iface 295 (.agg #[.int .i64 e,.int .i64 p])
theorem aia(p:Value)(e a:Int)(w:World):Calls Tryz.prog 219 #[p,.int .i64 e,.int .i64 a] w fun x w'=>x=.panicked [{ v:=aiZ e a,recovered:=false }]∧w'=w:=by
 go_enter Tryz.func219,Tryz.ntmps219
 go_wp2_with fail
 exact⟨rfl,rfl,rfl⟩
abbrev LRd(w:World)(R:Nat)(s:L8)(cf:Bool)(l:L8):Prop:=RdL 299 [.bool cf] w R s l
theorem ajJ(w:World)(R:Nat)(s:L8)(cf:Bool)(l:L8)(c:UInt8)(h:LRd w R s cf l)(hs:s.length≤1000000) :
  Calls Tryz.prog 217 #[.pointer (some ⟨R,0,none⟩),.int .u8 (c.toNat:Int)] w fun e w'=>e=.returned (.bool (isB c l).isSome)∧w.grownBy w' (some R)∧LRd w' R s cf ((isB c l).getD l):=by
 obtain⟨p,he,ho⟩:=h
 have c0:=ho.c0
 have c1:=ho.c1
 have z1:=ho.fz 1
 have HO:=hid ho
 have hlen:s.length=p.length+l.length:=by rw[he];simp
 have HE:=hid he
 clear ho he
 cases l with
 |nil=>
  have hno:¬(p.length:Int)<(s.length:Int):=by simp at hlen;omega
  have hno2:¬p.length<s.length:=by simp at hlen;omega
  clear hlen
  go_enter Tryz.func217,Tryz.ntmps217
  go_wp2_with fail
  go_quiet (fail)
  go_wp2_with fail
  go_ret
  exact⟨rfl,(by repeat (first|exact aev _ _|assumption|apply afG|apply agy|apply ad9|apply afH)),⟨p,HE.out,HO.out.drewN _⟩⟩
 |cons d r=>
  have hlt:p.length<s.length:=by simp at hlen;omega
  have hlti:(p.length:Int)<(s.length:Int):=by omega
  have hg:s[p.length]'hlt=d:=by have:=HE.out;subst this;simp
  have hle:p.length+1≤1000000:=by omega
  clear hlen
  by_cases hdc:d=c
  ·subst hdc
   go_enter Tryz.func217,Tryz.ntmps217
   go_wp2_with fail
   go_quiet (fail)
   go_wp2_with fail
   go_ret
   refine⟨by rw[afF];rfl,(by repeat (first|exact aev _ _|assumption|apply afG|apply agy|apply ad9|apply afH)),?_⟩
   rw[afF]
   exact⟨p++[d],by rw[HE.out];simp,(HO.out.drewN _).setN _ _ (by simp)⟩
  ·have hdn:(d.toNat==c.toNat)=false:=beq_eq_false_iff_ne.2 fun e=>hdc (UInt8.toNat_inj.1 e)
   have hdi:((d.toNat:Int)==(c.toNat:Int))=false:=beq_eq_false_iff_ne.2 fun e=>hdc (UInt8.toNat_inj.1 (by omega))
   have HDC:=hid hdc
   clear hdc
   go_enter Tryz.func217,Tryz.ntmps217
   go_wp2_with fail
   go_quiet (fail)
   go_wp2_with fail
   go_ret
   refine⟨by rw[amo,if_neg HDC.out];rfl,(by repeat (first|exact aev _ _|assumption|apply afG|apply agy|apply ad9|apply afH)),?_⟩
   rw[amo,if_neg HDC.out]
   exact⟨p,HE.out,HO.out.drewN _⟩
theorem avd{a b:L8}(ha:∀c∈a,ad6 c=true)(hb:∀c r,b=c::r→ad6 c=false):aet (a++b)=if GH a=true then .ok (a,b)else .error (5,(a++b).length):=by
 have e1:(a++b).takeWhile ad6=a:=by
  rw[List.takeWhile_append_of_pos ha]
  cases b with
  |nil=>simp
  |cons c r=>rw[List.takeWhile_cons_of_neg (by simp[hb c r rfl])];simp
 have e2:(a++b).dropWhile ad6=b:=by
  rw[List.dropWhile_append_of_pos ha]
  cases b with
  |nil=>rfl
  |cons c r=>rw[List.dropWhile_cons_of_neg (by simp[hb c r rfl])]
 unfold aet
 rw[e1,e2]
theorem aml(n:L8)(u:Bool)(hu:GH n=u)(W:World)(q:Nat)(hn:n.length≤140737488355328):Calls Tryz.prog 34 #[.string (S n)] (W.drewN q) fun e w''=>e=.returned (.bool u)∧∃m,w''=W.drewN m:=by
 subst hu;exact(ag8 n _ hn).quiet
theorem aib(n:L8)(u:Bool)(hu:GH n=u)(W:World)(q q0:Nat)(hn:n.length≤140737488355328):Calls Tryz.prog 34 #[.string (S n)] (W.drewN (q0+q)) fun e w''=>e=.returned (.bool u)∧∃m,w''=W.drewN (q0+m):=by
 subst hu;exact Calls.mono (ag8 n (W.drewN (q0+q)) hn) (by rintro e w2 ⟨rfl,rfl⟩;exact⟨rfl,q,rfl⟩)
theorem art{p a b s:L8}(h:s=p++(a++b)):(s.take (p.length+a.length)).drop p.length=a:=by subst h;simp[←List.append_assoc]
theorem ave(c:UInt8):GH [c]=ad6 c:=by unfold GH ad6;simp
def RdP{α:Type}(s:L8)(cf:Bool)(R:Nat)(V:α→Value→World→Prop)(x:Rs α)(w:World)(e:Ending)(w':World):Prop:=
 w.grownBy w' (some R)∧match x with
  |.ok (a,t)=>∃v,e=.returned v∧V a v w'∧LRd w' R s cf t
  |.error (c,k)=>e=.panicked [{ v:=aiZ c (s.length-k:Nat),recovered:=false }]
theorem RdP.yes{α:Type}{s:L8}{cf:Bool}{R:Nat}{V:α→Value→World→Prop}{x:Rs α}{w w':World}{a:α}{t:L8}{v:Value}(m:w.grownBy w' (some R))(h:x=.ok (a,t))(hv:V a v w')(hr:LRd w' R s cf t):RdP s cf R V x w (.returned v) w':=by
 subst h;exact⟨m,v,rfl,hv,hr⟩
theorem RdP.no{α:Type}{s:L8}{cf:Bool}{R:Nat}{V:α→Value→World→Prop}{x:Rs α}{w w':World}{c:Int}{k:Nat}{q:Nat}(m:w.grownBy w' (some R))(h:x=.error (c,k))(hq:s.length-k=q):RdP s cf R V x w (.panicked [{ v:=aiZ c (q:Nat),recovered:=false }]) w':=by
 subst h;subst hq;exact⟨m,rfl⟩
def VS(n:L8)(v:Value)(w:World):Prop:=v=.string (S n)
theorem ajK(w:World)(R:Nat)(s:L8)(cf:Bool)(l:L8)(h:LRd w R s cf l)(hs:s.length≤1000000) :
  Calls Tryz.prog 216 #[.pointer (some ⟨R,0,none⟩)] w (RdP s cf R VS (aet l) w):=by
 obtain⟨p,he,ho⟩:=h
 have c0:=ho.c0
 have c1:=ho.c1
 have HO:=hid ho
 have hlen:s.length=p.length+l.length:=by rw[he];simp
 have HL:=hid hlen
 have HE:=hid he
 have hlt0:=ho.lt
 clear ho he hlen
 go_enter Tryz.func216,Tryz.ntmps216
 go_wp2_with fail
 go_loopw [] (fun wr=>∃a b:L8,l=a++b∧(∀c∈a,ad6 c=true)∧w.grownBy wr (some R)∧RdO 299 [.bool cf] wr R s (p.length+a.length)) (fun wr=>s.length-(intOf ((wr.cell? ⟨R,1,none⟩).getD .nilIface)).toNat)
 case atStart=>exact⟨[],l,rfl,by simp,aev _ _,by simpa using HO.out⟩
 case round=>
  obtain⟨a,b,hl,ha,gm,hr⟩:=hrel
  have d0:=hr.c0
  have d1:=hr.c1
  have z1:=hr.fz 1
  have HR:=hid hr
  have GM:=hid gm
  have HA:=hid ha
  have hsl:=HL.out
  have hse:s=p++(a++b):=by rw[HE.out,hl]
  have hll:l.length=a.length+b.length:=by rw[hl];simp
  have hca:=art hse
  obtain⟨k,hk⟩:∃k,k=p.length+a.length:=⟨_,rfl⟩
  have hks:s.length=k+b.length:=by omega
  rw[←hk]at hca d1
  have hkp:p.length≤k:=by omega
  have HLL:=hid hl
  have HK:=hid hk
  have HSE:=hid hse
  have hal:a.length≤1000000:=by omega
  clear ha hr gm hl hll hsl hk c0 c1 hse
  have atEnd:(∀c r,b=c::r→ad6 c=false)→aet l=if GH a=true then .ok (a,b)else .error (5,l.length):=fun hb=>by rw[HLL.out];exact avd HA.out hb
  cases b with
  |nil=>
   have HEND:=hid (atEnd (by simp))
   have hno:¬(k:Int)<(s.length:Int):=by simp at hks;omega
   have hno2:¬k<s.length:=by simp at hks;omega
   have hkl:k≤s.length:=by omega
   clear atEnd hks
   cases hn:GH a with
   |true=>
    have HN:=hid hn
    clear hn
    go_wp2_with fail
    go_quiet (fail)
    go_wp2_with fail
    go_quiet ((go_at_call 34;exact aib a true HN.out _ _ _ (by omega)))
    go_wp2_with fail
    go_quiet (fail)
    go_wp2_with fail
    go_ret
    exact RdP.yes (aeU GM.out (by repeat (first|exact aev _ _|assumption|apply afG|apply agy|apply ad9|apply afH))) (by rw[HEND.out,if_pos HN.out]) rfl ⟨p++a,by rw[HSE.out];simp,by rw[List.length_append];exact HR.out⟩
   |false=>
    have HN:=hid hn
    clear hn
    go_wp2_with fail
    go_quiet (fail)
    go_wp2_with fail
    go_quiet ((go_at_call 34;exact aib a false HN.out _ _ _ (by omega)))
    go_wp2_with fail
    refine(aia _ _ _ _).mono ?_
    rintro e w2 ⟨rfl,rfl⟩
    exact⟨rfl,RdP.no (aeU GM.out (by repeat (first|exact aev _ _|assumption|apply afG|apply agy|apply ad9|apply afH))) (by rw[HEND.out,if_neg (by rw[HN.out];simp)]) (by rw[HL.out];omega)⟩
  |cons c b=>
   have hlt:k<s.length:=by simp at hks;omega
   have hlti:(k:Int)<(s.length:Int):=by omega
   have hone:(s.take (k+1)).drop k=[c]:=by
    have:=art (p:=p++a) (a:=[c]) (b:=b) (s:=s) (by rw[HSE.out];simp)
    rw[HK.out]
    simpa[Nat.add_assoc]using this
   have hk1:k+1≤s.length:=by omega
   cases hc:ad6 c with
   |true=>
    have HC:=hid (show GH [c]=true by rw[ave];exact hc)
    have HM:=hid hc
    clear atEnd hc hks
    go_wp2_with fail
    go_quiet ((go_at_call 34;exact aml [c] true HC.out _ _ (by simp)))
    go_wp2_with fail
    go_roundw
    case rel=>
     refine⟨a++[c],b,by rw[HLL.out];simp,fun x hx=>?_,aeU GM.out (by repeat (first|exact aev _ _|assumption|apply afG|apply agy|apply ad9|apply afH)),(HR.out.drewN _).setN _ _ (by rw[HK.out];simp;omega)⟩
     rcases List.mem_append.1 hx with hx|hx
     ·exact HA.out x hx
     ·simp at hx;rw[hx];exact HM.out
    case measure=>
     rw[World.cell?_setCell_same _ _ _ (show(wr.drewN _).cell? ⟨R,1,none⟩=some _ from d1),d1]
     simp[intOf];omega
   |false=>
    have HC:=hid (show GH [c]=false by rw[ave];exact hc)
    have HEND:=hid (atEnd (fun x r e=>by injection e with e _;rw[←e];exact hc))
    clear atEnd hc hks
    cases hn:GH a with
    |true=>
     have HN:=hid hn
     clear hn
     go_wp2_with fail
     go_quiet ((go_at_call 34;exact aml [c] false HC.out _ _ (by simp)))
     go_wp2_with fail
     go_quiet ((go_at_call 34;exact aib a true HN.out _ _ _ (by omega)))
     go_wp2_with fail
     go_quiet (fail)
     go_wp2_with fail
     go_ret
     exact RdP.yes (aeU GM.out (by repeat (first|exact aev _ _|assumption|apply afG|apply agy|apply ad9|apply afH))) (by rw[HEND.out,if_pos HN.out]) rfl ⟨p++a,by rw[HSE.out];simp,by rw[List.length_append];exact HR.out⟩
    |false=>
     have HN:=hid hn
     clear hn
     go_wp2_with fail
     go_quiet ((go_at_call 34;exact aml [c] false HC.out _ _ (by simp)))
     go_wp2_with fail
     go_quiet ((go_at_call 34;exact aib a false HN.out _ _ _ (by omega)))
     go_wp2_with fail
     refine(aia _ _ _ _).mono ?_
     rintro e w2 ⟨rfl,rfl⟩
     exact⟨rfl,RdP.no (aeU GM.out (by repeat (first|exact aev _ _|assumption|apply afG|apply agy|apply ad9|apply afH))) (by rw[HEND.out,if_neg (by rw[HN.out];simp)]) (by rw[HL.out];omega)⟩
end Go.Proofs.YtmffejnigppbpaaGreatDoor

set_option maxHeartbeats 4000000
set_option maxRecDepth 100000
namespace Go.Proofs.YtmffejnigppbpaaGreatDoor
open Go.RowKit
def ayg(w:World)(base:Nat)(v:Value)(l:List L8):Prop:=w.ownsRow base 9 1 v l.length (l.map fun x=>.string (S x))
structure aru(w wr:World)(R:Nat)(s:L8)(cf:Bool)(l:L8)(v:Value)(ps:List Pm)(vs:List Value)(t:L8):Prop where
 mv:w.grownBy wr (some R)
 rd:LRd wr R s cf t
 len:vs.length=ps.length
 own:∀(i:Nat) (p:Pm) (u:Value),ps[i]?=some p→vs[i]?=some u→ayg wr w.heap.size u p.2
 row:wr.ownsRow w.heap.size 41 2 v ps.length (agx ps vs)
 le:ps.length≤20
 eq:adi cf 0 l=Rs.next (adi cf ps.length t) fun qs u=>.ok (ps++qs,u)
theorem agO{w:World}{b:Nat}{e:TypeId}{k n:Nat}{v:Value}{x:List Value}(h:w.ownsRow b e k v n x):∃a c,v=.slice a n c:=by
 rcases h.2 with⟨rfl,rfl⟩|⟨g,cap,cur,rfl,_⟩
 ·exact⟨_,_,rfl⟩
 ·exact⟨_,_,rfl⟩
structure aw4(wr wq:World)(R:Nat)(s:L8)(cf:Bool)(B:Nat)(n r:L8)(us:List L8)(sv:Value)(t:L8):Prop where
 mv:wr.grownBy wq (some R)
 rd:LRd wq R s cf t
 box:wq.heap[B]?=some (.cells #[.string (S n),sv] 41)
 own:ayg wq (B+1) sv us
 cnt:us.length+t.length≤s.length
 lt:t.length<r.length
 eq:pmP cf r=Rs.next (agR cf t) fun vs u=>.ok ((n,us++vs),u)
def ad5(w:World)(base:Nat)(v:Value)(ps:List Pm):Prop:=∃vs:List Value,vs.length=ps.length∧(∀(i:Nat) (p:Pm) (u:Value),ps[i]?=some p→vs[i]?=some u→ayg w base u p.2)∧w.ownsRow base 41 2 v ps.length (agx ps vs)
theorem ad5.params{w:World}{base:Nat}{v:Value}{ps:List Pm}(h:ad5 w base v ps):UN w v ps:=by
 obtain⟨vs,h1,h2,h3⟩:=h
 exact anq h1 (fun i p u hp hu=>aeF (h2 i p u hp hu)) h3
theorem ad5.kept{w w':World}{base:Nat}{v:Value}{ps:List Pm}{k:Nat}(h:ad5 w base v ps)(g:w.grownBy w' (some k))(hk:k<base):ad5 w' base v ps:=by
 obtain⟨vs,h1,h2,h3⟩:=h
 exact⟨vs,h1,fun i p u hp hu=>(h2 i p u hp hu).kept g (af2 (h2 i p u hp hu) hk),h3.kept g (af2 h3 hk)⟩
theorem ad5.grow{w w':World}{base:Nat}{v:Value}{ps:List Pm}(h:ad5 w base v ps)(g:G w w'):ad5 w' base v ps:=by
 have e:∀v:Value,v.ownBlock=none∨v.ownBlock≠none:=fun v=>by cases v.ownBlock with|none=>exact .inl rfl|some _=>exact .inr (by simp)
 obtain⟨vs,h1,h2,h3⟩:=h
 exact⟨vs,h1,fun i p u hp hu=>(h2 i p u hp hu).kept (ak2 none g) (e _),h3.kept (ak2 none g) (e _)⟩
def VP(base:Nat)(ps:List Pm)(v:Value)(w:World):Prop:=ad5 w base v ps
theorem aru.params{w wr:World}{R:Nat}{s:L8}{cf:Bool}{l:L8}{v:Value}{ps:List Pm}{vs:List Value}{t:L8}(h:aru w wr R s cf l v ps vs t):ad5 wr w.heap.size v ps:=⟨vs,h.len,h.own,h.row⟩
def ayX(s:L8)(R:Nat)(w:World):Nat:=s.length-(intOf ((w.cell? ⟨R,1,none⟩).getD .nilIface)).toNat
theorem aw4.end{wr wq:World}{R:Nat}{s:L8}{cf:Bool}{B:Nat}{n r:L8}{us:List L8}{sv:Value}{t:L8}(h:aw4 wr wq R s cf B n r us sv t)(hb:isB 44 t=none):pmP cf r=.ok ((n,us),t):=by
 rw[h.eq,af1 hb,adS];simp
theorem aw4.bad{wr wq:World}{R:Nat}{s:L8}{cf:Bool}{B:Nat}{n r:L8}{us:List L8}{sv:Value}{t u:L8}{e:Er}(h:aw4 wr wq R s cf B n r us sv t)(hb:isB 44 t=some u)(hv:afq cf u=.error e):pmP cf r=.error e:=by
 rw[h.eq,aid hb,hv];rfl
section
variable {w wr:World} {R:Nat} {s:L8} {cf:Bool} {l:L8} {v:Value} {ps:List Pm} {vs:List Value} {t:L8}
theorem aru.end(h:aru w wr R s cf l v ps vs t)(hb:isB 59 t=none):adi cf 0 l=.ok (ps,t):=by
 rw[h.eq,agt hb,adS];simp
theorem aru.bad{r:L8}{e:Er}(h:aru w wr R s cf l v ps vs t)(hb:isB 59 t=some r)(hp:pmP cf r=.error e):adi cf 0 l=.error e:=by
 rw[h.eq,ahI hb,hp];rfl
end
theorem amm(w:World)(R:Nat)(s:L8)(cf:Bool)(l:L8)(h:LRd w R s cf l)(hs:s.length≤10000)(hn:isB 59 l=none) :
  Calls Tryz.prog 218 #[.pointer (some ⟨R,0,none⟩)] w (RdP s cf R (VP w.heap.size) (adi cf 0 l) w):=by
 have H0:=hid h
 have hlt0:=h.lt
 have HB:=hid hn
 clear h hn
 go_enter Tryz.func218,Tryz.ntmps218
 go_wp2_with fail
 go_loopw [3] (fun v wr=>aru w wr R s cf l v [] [] l) (fun _ wr=>ayX s R wr)
 case atStart=>exact⟨aev _ _,H0.out,rfl,by simp,World.ownsRow_nil _ _ _ _,by simp,by cases adi cf 0 l<;>rfl⟩
 case round=>
  have HST:=hid hrel
  obtain⟨oa,oc,rfl⟩:=agO hrel.row
  clear hrel
  go_wp2_with fail
  refine(ajJ _ R s cf l 59 HST.out.rd (by omega)).mono ?_
  rw[HB.out]
  rintro e w1 ⟨rfl,m1,h1⟩
  have M1:=hid m1
  have H1:=hid h1
  clear m1 h1
  go_wp2_with fail
  go_ret
  exact RdP.yes (aeU HST.out.mv M1.out) (HST.out.end HB.out) (HST.out.params.kept M1.out hlt0) H1.out
end Go.Proofs.YtmffejnigppbpaaGreatDoor

set_option maxHeartbeats 4000000
set_option maxRecDepth 100000
namespace Go.Proofs.YtmffejnigppbpaaGreatDoor
open Go.RowKit
def IsE(n:Nat)(w:World)(e:Value):Prop:=∃c:Int,c≠0∧(e=eno c∨∃k:Nat,k≤n∧UE w e c k)
theorem ayy{n:Nat}{w:World}{e:Value}{c:Int}{k:Nat}(h:UE w e c k)(hc:c≠0)(hk:k≤n):IsE n w e:=⟨c,hc,.inr ⟨k,hk,h⟩⟩
theorem IsE.grow{n:Nat}{w w':World}{e:Value}(h:IsE n w e)(g:G w w'):IsE n w' e:=by
 obtain⟨c,hc,h|⟨k,hk,h⟩⟩:=h
 ·exact⟨c,hc,.inl h⟩
 ·exact⟨c,hc,.inr ⟨k,hk,h.grow g⟩⟩
def Vl0:Vl:=⟨0,[],[],St0,0⟩
def ahU(n m:Nat)(o:Option Vl)(r:Value)(w':World):Prop:=
 match o with
 |some x=>∃pv base,r=.tuple #[x.v pv,.nilIface]∧m≤base∧adM w' base pv x.ps
 |none=>∃e,r=.tuple #[Vl0.v (.slice none 0 0),e]∧IsE n w' e
theorem aqJ{w:World}{base X Y:Nat}{v:Value}{ls:List (List (List UInt8))}(h:adM w base v ls)(hX:X<base)(hY:Y<base){a a0 a1 a2 a3 a4 a5 a6 a7 a8 a9 a10 a11:Value}:adM (((((((((((((w.setCell ⟨Y,2,none⟩ a).setCell ⟨X,0,none⟩ a0).setCell ⟨X,1,none⟩ a1).setCell ⟨X,2,none⟩ a2).setCell ⟨X,3,none⟩ a3).setCell ⟨X,4,none⟩ a4).setCell ⟨X,5,none⟩ a5).setCell ⟨X,6,none⟩ a6).setCell ⟨X,7,none⟩ a7).setCell ⟨X,8,none⟩ a8).setCell ⟨X,9,none⟩ a9).setCell ⟨X,10,none⟩ a10).setCell ⟨X,11,none⟩ a11) base v ls:=
 ((((((((((((h.put hY).put hX).put hX).put hX).put hX).put hX).put hX).put hX).put hX).put hX).put hX).put hX).put hX
theorem ahU.no{n m:Nat}{o:Option Vl}{e:Value}{w':World}(h:o=none)(he:IsE n w' e):ahU n m o (.tuple #[Vl0.v (.slice none 0 0),e]) w':=by subst h;exact⟨e,rfl,he⟩
theorem ahU.yes{n m base:Nat}{o:Option Vl}{x:Vl}{pv:Value}{w':World}(h:o=some x)(hb:m≤base)(hp:adM w' base pv x.ps):ahU n m o (.tuple #[x.v pv,.nilIface]) w':=by subst h;exact⟨pv,base,rfl,hb,hp⟩
section
variable {W w:World} {b:Nat} {T:TypeId} {c0 c1 c2 c3 c4 c5 c6 c7 c8 c9 c10 c11:Value}
theorem ais(a0 a1 a2 a3 a4 a5 a6 a7 a8 a9 a10 a11:Value)(h:W.heap[b]?=some (.cells #[c0,c1,c2,c3,c4,c5,c6,c7,c8,c9,c10,c11] T (0,0))):((((((((((((W.setCell ⟨b,0,none⟩ a0).setCell ⟨b,1,none⟩ a1).setCell ⟨b,2,none⟩ a2).setCell ⟨b,3,none⟩ a3).setCell ⟨b,4,none⟩ a4).setCell ⟨b,5,none⟩ a5).setCell ⟨b,6,none⟩ a6).setCell ⟨b,7,none⟩ a7).setCell ⟨b,8,none⟩ a8).setCell ⟨b,9,none⟩ a9).setCell ⟨b,10,none⟩ a10).setCell ⟨b,11,none⟩ a11).heap[b]?=some (.cells #[a0,a1,a2,a3,a4,a5,a6,a7,a8,a9,a10,a11] T (0,0)):=by
 have h0:=UJ (i:=0) (v:=a0) (cs':=#[a0,c1,c2,c3,c4,c5,c6,c7,c8,c9,c10,c11]) h rfl
 have h1:=UJ (i:=1) (v:=a1) (cs':=#[a0,a1,c2,c3,c4,c5,c6,c7,c8,c9,c10,c11]) h0 rfl
 have h2:=UJ (i:=2) (v:=a2) (cs':=#[a0,a1,a2,c3,c4,c5,c6,c7,c8,c9,c10,c11]) h1 rfl
 have h3:=UJ (i:=3) (v:=a3) (cs':=#[a0,a1,a2,a3,c4,c5,c6,c7,c8,c9,c10,c11]) h2 rfl
 have h4:=UJ (i:=4) (v:=a4) (cs':=#[a0,a1,a2,a3,a4,c5,c6,c7,c8,c9,c10,c11]) h3 rfl
 have h5:=UJ (i:=5) (v:=a5) (cs':=#[a0,a1,a2,a3,a4,a5,c6,c7,c8,c9,c10,c11]) h4 rfl
 have h6:=UJ (i:=6) (v:=a6) (cs':=#[a0,a1,a2,a3,a4,a5,a6,c7,c8,c9,c10,c11]) h5 rfl
 have h7:=UJ (i:=7) (v:=a7) (cs':=#[a0,a1,a2,a3,a4,a5,a6,a7,c8,c9,c10,c11]) h6 rfl
 have h8:=UJ (i:=8) (v:=a8) (cs':=#[a0,a1,a2,a3,a4,a5,a6,a7,a8,c9,c10,c11]) h7 rfl
 have h9:=UJ (i:=9) (v:=a9) (cs':=#[a0,a1,a2,a3,a4,a5,a6,a7,a8,a9,c10,c11]) h8 rfl
 have h10:=UJ (i:=10) (v:=a10) (cs':=#[a0,a1,a2,a3,a4,a5,a6,a7,a8,a9,a10,c11]) h9 rfl
 have h11:=UJ (i:=11) (v:=a11) (cs':=#[a0,a1,a2,a3,a4,a5,a6,a7,a8,a9,a10,a11]) h10 rfl
 exact h11
theorem alH(hb:w.heap.size≤b)(g:G w W)(a0 a1 a2 a3 a4 a5 a6 a7 a8 a9 a10 a11:Value):G w ((((((((((((W.setCell ⟨b,0,none⟩ a0).setCell ⟨b,1,none⟩ a1).setCell ⟨b,2,none⟩ a2).setCell ⟨b,3,none⟩ a3).setCell ⟨b,4,none⟩ a4).setCell ⟨b,5,none⟩ a5).setCell ⟨b,6,none⟩ a6).setCell ⟨b,7,none⟩ a7).setCell ⟨b,8,none⟩ a8).setCell ⟨b,9,none⟩ a9).setCell ⟨b,10,none⟩ a10).setCell ⟨b,11,none⟩ a11):=afK (afK (afK (afK (afK (afK (afK (afK (afK (afK (afK (afK g hb) hb) hb) hb) hb) hb) hb) hb) hb) hb) hb) hb
theorem cell_far{eb i j:Nat}(h:eb≠b)(v:Value):(W.setCell ⟨b,i,none⟩ v).cell? ⟨eb,j,none⟩=W.cell? ⟨eb,j,none⟩:=World.cell?_setCell_other _ _ _ _ (by intro e;injection e with e;exact h e.symm)
theorem asM{n i:Nat}{e v x:Value}(he:IsE n W e)(h:W.cell? ⟨b,1,none⟩=some x)(hx:∀k:Int,x≠.int .i64 k):IsE n (W.setCell ⟨b,i,none⟩ v) e:=by
 obtain⟨c,hc,h1|⟨k,hk,eb,h1,h2,h3,h4⟩⟩:=he
 ·exact⟨c,hc,.inl h1⟩
 ·have hne:eb≠b:=by rintro rfl;rw[h]at h3;exact hx _ (Option.some.inj h3)
  exact⟨c,hc,.inr ⟨k,hk,eb,h1,by rw[cell_far hne];exact h2,by rw[cell_far hne];exact h3,by simpa using h4⟩⟩
theorem aob{n:Nat}{e:Value}(he:IsE n W e)(a0 a1 a2 a3 a4 a5 a6 a7 a8 a9 a10 a11:Value)(h:W.heap[b]?=some (.cells #[c0,c1,c2,c3,c4,c5,c6,c7,c8,c9,c10,c11] T (0,0)))(hx:∀k:Int,c1≠.int .i64 k):IsE n ((((((((((((W.setCell ⟨b,0,none⟩ a0).setCell ⟨b,1,none⟩ a1).setCell ⟨b,2,none⟩ a2).setCell ⟨b,3,none⟩ a3).setCell ⟨b,4,none⟩ a4).setCell ⟨b,5,none⟩ a5).setCell ⟨b,6,none⟩ a6).setCell ⟨b,7,none⟩ a7).setCell ⟨b,8,none⟩ a8).setCell ⟨b,9,none⟩ a9).setCell ⟨b,10,none⟩ a10).setCell ⟨b,11,none⟩ a11) e:=by
 obtain⟨c,hc,h1|⟨k,hk,eb,h1,h2,h3,h4⟩⟩:=he
 ·exact⟨c,hc,.inl h1⟩
 ·have hne:eb≠b:=by rintro rfl;rw[(adl h).2.1]at h3;exact hx _ (Option.some.inj h3)
  refine⟨c,hc,.inr ⟨k,hk,eb,h1,?_,?_,by simpa using h4⟩⟩
  ·simp only[cell_far hne];exact h2
  ·simp only[cell_far hne];exact h3
theorem ao8{fn:Func}{Q:Ending→World→Prop}{a:Act}{X s t:Nat}{e:Value}(hres:fn.results=#[.cell s 36,.tmp t])(hp:a.tmps.getD s undef=.pointer (some ⟨X,0,none⟩))(hb:a.tmps.getD t undef=e)(hd:a.defers=[])(hrow:W.heap[X]?=some (.cells #[c0,c1,c2,c3,c4,c5,c6,c7,c8,c9,c10,c11] 36 (0,0)))(hQ:Q (.returned (.tuple #[.agg #[c0,c1,c2,c3,c4,c5,c6,c7,c8,c9,c10,c11],e])) W):bodyPost Tryz.prog fn Q .ret a W:=by
 obtain⟨e0,e1,e2,e3,e4,e5,e6,e7,e8,e9,e10,e11⟩:=adl hrow
 refine bodyPost_ret (v:=.tuple #[.agg #[c0,c1,c2,c3,c4,c5,c6,c7,c8,c9,c10,c11],e]) ?_ hd hQ
 have hp2:a.tmps[s]?.getD undef=.pointer (some ⟨X,0,none⟩):=by simpa using hp
 have hb2:a.tmps[t]?.getD undef=e:=by simpa using hb
 simp only[results,hres]
 go_simp
end
theorem Uw.kept{w w':World}{v:Value}{ls:List (List (List UInt8))}(h:Uw w v ls)(hne:∀l∈ls,l≠[])(k:Kp w w'):Uw w' v ls:=by
 obtain⟨cells,⟨h1,h2,h3⟩,hc,hl⟩:=h
 refine⟨cells,⟨h1,h2,?_⟩,hc,fun i l hi=>?_⟩
 ·rcases h3 with h3|⟨b,off,cap,e,hb,h0,hcell⟩
  ·exact .inl h3
  ·refine .inr ⟨b,off,cap,e,Nat.lt_of_lt_of_le hb k.1,h0,fun j hj=>k.2 _ _ (hcell j hj) ?_⟩
   have hj2:j<ls.length:=by simpa using(by omega:j<ls.length*1)
   obtain⟨sv,e1,e2⟩:=hl j _ (List.getElem?_eq_getElem hj2)
   rw[List.getElem?_eq_getElem hj]at e1
   obtain rfl:=Option.some.inj e1
   obtain⟨b',o',c',ev,_⟩:=e2.at_ (hne _ (List.getElem_mem hj2))
   rw[ev];rfl
 ·obtain⟨sv,e1,e2⟩:=hl i l hi
  exact⟨sv,e1,e2.kept k⟩
theorem ao9{a:List UInt8}:∀(n:Nat) (s:List UInt8),s.length≤n→∀(k:Nat) (cur:List UInt8) (ts:List (List UInt8)) (cs:List UInt8) (c:Int) (q:Nat),C9 a s k cur ts cs=.bad c q→c≠0∧q≤k+s.length:=by
 intro n
 induction n with
 |zero=>
  intro s hs k cur ts cs c q h
  have:s=[]:=List.eq_nil_of_length_eq_zero (by omega)
  subst this
  rw[adc]at h;cases h
 |succ n ih=>
  intro s hs k cur ts cs c q h
  match s,hs,h with
  |[],_,h=>rw[adc]at h;cases h
  |e::t,hs,h=>
   by_cases h92:e=92
   ·subst h92
    match t,hs,h with
    |[],_,h=>rw[agi]at h;injection h with h1 h2;subst h1;subst h2;exact⟨by decide,by simp⟩
    |d::t,hs,h=>
     cases hu:afs d with
     |none=>rw[afI hu]at h;injection h with h1 h2;subst h1;subst h2;exact⟨by decide,by simp⟩
     |some x=>
      rw[ae4 hu]at h
      have:=ih t (by simp at hs;omega) _ _ _ _ _ _ h
      exact⟨this.1,by have:=this.2;simp;omega⟩
   ·cases hc:a.contains e with
    |true=>
     rw[aeG h92 hc]at h
     have:=ih t (by simp at hs;omega) _ _ _ _ _ _ h
     exact⟨this.1,by have:=this.2;simp;omega⟩
    |false=>
     rw[ae5 h92 hc]at h
     have:=ih t (by simp at hs;omega) _ _ _ _ _ _ h
     exact⟨this.1,by have:=this.2;simp;omega⟩
theorem am3{a s:List UInt8}{c:Int}{q:Nat}{w:World}{e:Value}(h:C9 a s 0 [] [] []=.bad c q)(he:UE w e c q):IsE s.length w e:=by
 have:=ao9 s.length s (Nat.le_refl _) 0 [] [] [] c q h
 exact ayy he this.1 (by omega)
theorem ayz(s:List UInt8)(w:World)(hs:s.length≤100000)(hh:Af s false=true):Uz 194 #[.string (S s),.int .i64 1] w (ahU s.length w.heap.size (ady s 1)):=by
 have HH:=hid hh
 clear hh
 go_enter Tryz.func194,Tryz.ntmps194
 go_wp2_with fail
 refine(afZ s false _ (by omega)).use ?_
 rw[HH.out]
 go_wp2_with fail
 refine(ao1 s _ (by omega)).use ?_
 intro v w2 hv g2
 have rz:=hid (amH g2)
 have rv:=hid (amI g2)
 have G2:=hid (show G w w2 from G.trans (((G.refl w).alloc _).alloc _) g2)
 clear g2
 cases hp:C9 [] s 0 [] [] []with
 |good ts cs=>
  rw[hp]at hv
  cases ts with
  |nil=>have:=agY hp;simp at this
  |cons t ts=>
   have HN:Hid (ady s 1=some (tV 1 t)):=hid (by unfold ady;rw[if_neg (by decide),if_neg (by rw[HH.out];decide),if_pos rfl];rw[hp])
   obtain rfl:v=.tuple #[.string (S t),.nilIface]:=hv
   clear hp
   obtain⟨w4,hw4⟩:∃w4,w2.setCell ⟨w.heap.size+1,1,none⟩ (.string (S t))=w4:=⟨_,rfl⟩
   have rvS:=hid (show w4.heap[w.heap.size+1]?=some (.cells #[.int .i64 1,.string (S t),(.slice none 0 0),.int .i64 0,.int .i64 0,.int .i64 0,.int .i64 0,.int .i64 0,.int .i64 0,.bool false,.int .i64 0,.int .i64 0] 36 (0,0)) by rw[←hw4];exact(UJ rv.out rfl))
   have rzS:=hid (show w4.heap[w.heap.size]?=some (.cells #[.int .i64 0,.string ⟨#[]⟩,(.slice none 0 0),.int .i64 0,.int .i64 0,.int .i64 0,.int .i64 0,.int .i64 0,.int .i64 0,.bool false,.int .i64 0,.int .i64 0] 36 (0,0)) by rw[←hw4,Below.heap_setCell _ _ _ _ (by simp)];exact rz.out)
   have GS:=hid (show G w w4 by rw[←hw4];exact afK (G2.out) (by omega))
   obtain⟨_,d1,_,_,_,_,_,_,_,_,_,_⟩:=adl rv.out
   have fv:=fun i=>Lib.frozen_of_heap rv.out i
   obtain⟨c0,c1,c2,c3,c4,c5,c6,c7,c8,c9,c10,c11⟩:=adl rvS.out
   obtain⟨t0,t1,t2,t3,t4,t5,t6,t7,t8,t9,t10,t11⟩:=adl rzS.out
   have fz:=fun i=>Lib.frozen_of_heap rzS.out i
   go_wp2_with fail
   generalize hWF:World.setCell (World.setCell (World.setCell (World.setCell (World.setCell (World.setCell (World.setCell (World.setCell (World.setCell (World.setCell (World.setCell (World.setCell w4 _ _) _ _) _ _) _ _) _ _) _ _) _ _) _ _) _ _) _ _) _ _) _ _=WF
   have hrow:WF.heap[w.heap.size]?=some (.cells #[.int .i64 1,.string (S t),(.slice none 0 0),.int .i64 0,.int .i64 0,.int .i64 0,.int .i64 0,.int .i64 0,.int .i64 0,.bool false,.int .i64 0,.int .i64 0] 36 (0,0)):=by rw[←hWF];exact ais _ _ _ _ _ _ _ _ _ _ _ _ rzS.out
   have hgw:G w WF:=by rw[←hWF];exact alH (Nat.le_refl _) GS.out _ _ _ _ _ _ _ _ _ _ _ _
   exact ao8 rfl rfl rfl rfl hrow ⟨_,rfl,ahU.yes HN.out (Nat.le_refl _) (atL _ _),hgw⟩
 |bad c q=>
  have HN:Hid (ady s 1=none):=hid (by unfold ady;rw[if_neg (by decide),if_neg (by rw[HH.out];decide),if_pos rfl];rw[hp])
  rw[hp]at hv
  obtain⟨e,rfl,he⟩:=hv
  have HE:=hid (am3 hp he)
  obtain⟨eb,rfl,_⟩:=id he
  clear hp he
  obtain⟨w4,hw4⟩:∃w4,w2.setCell ⟨w.heap.size+1,1,none⟩ (.string (S []))=w4:=⟨_,rfl⟩
  have rvS:=hid (show w4.heap[w.heap.size+1]?=some (.cells #[.int .i64 1,.string (S []),(.slice none 0 0),.int .i64 0,.int .i64 0,.int .i64 0,.int .i64 0,.int .i64 0,.int .i64 0,.bool false,.int .i64 0,.int .i64 0] 36 (0,0)) by rw[←hw4];exact(UJ rv.out rfl))
  have rzS:=hid (show w4.heap[w.heap.size]?=some (.cells #[.int .i64 0,.string ⟨#[]⟩,(.slice none 0 0),.int .i64 0,.int .i64 0,.int .i64 0,.int .i64 0,.int .i64 0,.int .i64 0,.bool false,.int .i64 0,.int .i64 0] 36 (0,0)) by rw[←hw4,Below.heap_setCell _ _ _ _ (by simp)];exact rz.out)
  have GS:=hid (show G w w4 by rw[←hw4];exact afK (G2.out) (by omega))
  have HE4:=hid (show IsE s.length w4 (.iface 80 (.pointer (some ⟨eb,0,none⟩))) by rw[←hw4];exact asM HE.out (adl rv.out).2.1 (by intro k hk;cases hk))
  obtain⟨_,d1,_,_,_,_,_,_,_,_,_,_⟩:=adl rv.out
  have fv:=fun i=>Lib.frozen_of_heap rv.out i
  obtain⟨t0,t1,t2,t3,t4,t5,t6,t7,t8,t9,t10,t11⟩:=adl rzS.out
  have fz:=fun i=>Lib.frozen_of_heap rzS.out i
  go_wp2_with fail
  generalize hWF:World.setCell (World.setCell (World.setCell (World.setCell (World.setCell (World.setCell (World.setCell (World.setCell (World.setCell (World.setCell (World.setCell (World.setCell w4 _ _) _ _) _ _) _ _) _ _) _ _) _ _) _ _) _ _) _ _) _ _) _ _=WF
  have hrow:WF.heap[w.heap.size]?=some (.cells #[.int .i64 0,.string ⟨#[]⟩,(.slice none 0 0),.int .i64 0,.int .i64 0,.int .i64 0,.int .i64 0,.int .i64 0,.int .i64 0,.bool false,.int .i64 0,.int .i64 0] 36 (0,0)):=by rw[←hWF];exact ais _ _ _ _ _ _ _ _ _ _ _ _ rzS.out
  have hgw:G w WF:=by rw[←hWF];exact alH (Nat.le_refl _) GS.out _ _ _ _ _ _ _ _ _ _ _ _
  have hke:IsE s.length WF (.iface 80 (.pointer (some ⟨eb,0,none⟩))):=by rw[←hWF];exact aob HE4.out _ _ _ _ _ _ _ _ _ _ _ _ rzS.out (by intro k hk;cases hk)
  exact ao8 rfl rfl rfl rfl hrow ⟨_,rfl,ahU.no HN.out hke,hgw⟩
theorem ayA(s:List UInt8)(w:World)(hs:s.length≤100000)(hh:Af s false=true):Uz 194 #[.string (S s),.int .i64 3] w (ahU s.length w.heap.size (ady s 3)):=by
 have HH:=hid hh
 clear hh
 go_enter Tryz.func194,Tryz.ntmps194
 go_wp2_with fail
 refine(afZ s false _ (by omega)).use ?_
 rw[HH.out]
 go_wp2_with fail
 refine(atM s _ (by omega)).use ?_
 intro v w2 hv g2
 have rz:=hid (amH g2)
 have rv:=hid (amI g2)
 have G2:=hid (show G w w2 from G.trans (((G.refl w).alloc _).alloc _) g2)
 clear g2
 cases hp:C9 [44,59] s 0 [] [] []with
 |good ts cs=>
  rw[hp]at hv
  cases ts with
  |nil=>have:=agY hp;simp at this
  |cons t ts=>
   have HN:Hid (ady s 3=some ⟨3,[],UD [t] cs ts,St0,0⟩):=hid (by unfold ady;rw[if_neg (by decide),if_neg (by rw[HH.out];decide),if_neg (by decide),if_neg (by decide),if_pos rfl];rw[hp])
   obtain⟨tv,base,hbase,rfl,htv⟩:=hv
   have HNE:=hid (avK cs ts [t] (by simp)).2
   obtain⟨pl,hpl⟩:∃pl,UD [t] cs ts=pl:=⟨_,rfl⟩
   simp only[List.headD_cons,List.tail_cons]at htv
   rw[hpl]at HN HNE htv
   have HTV:=hid htv
   obtain⟨ta,tc,rfl,_⟩:=htv.lists.len
   have HBS:=hid hbase
   clear hbase
   clear hp htv hpl
   obtain⟨w4,hw4⟩:∃w4,w2.setCell ⟨w.heap.size+1,2,none⟩ ((.slice ta pl.length tc))=w4:=⟨_,rfl⟩
   have rvS:=hid (show w4.heap[w.heap.size+1]?=some (.cells #[.int .i64 3,.string ⟨#[]⟩,(.slice ta pl.length tc),.int .i64 0,.int .i64 0,.int .i64 0,.int .i64 0,.int .i64 0,.int .i64 0,.bool false,.int .i64 0,.int .i64 0] 36 (0,0)) by rw[←hw4];exact(UJ rv.out rfl))
   have rzS:=hid (show w4.heap[w.heap.size]?=some (.cells #[.int .i64 0,.string ⟨#[]⟩,(.slice none 0 0),.int .i64 0,.int .i64 0,.int .i64 0,.int .i64 0,.int .i64 0,.int .i64 0,.bool false,.int .i64 0,.int .i64 0] 36 (0,0)) by rw[←hw4,Below.heap_setCell _ _ _ _ (by simp)];exact rz.out)
   have GS:=hid (show G w w4 by rw[←hw4];exact afK (G2.out) (by omega))
   have HK:=hid (show Kp w2 w4 by rw[←hw4];exact Kp.set (adl rv.out).2.2.1 (.inl rfl))
   obtain⟨_,_,d2,_,_,_,_,_,_,_,_,_⟩:=adl rv.out
   have fv:=fun i=>Lib.frozen_of_heap rv.out i
   obtain⟨c0,c1,c2,c3,c4,c5,c6,c7,c8,c9,c10,c11⟩:=adl rvS.out
   obtain⟨t0,t1,t2,t3,t4,t5,t6,t7,t8,t9,t10,t11⟩:=adl rzS.out
   have fz:=fun i=>Lib.frozen_of_heap rzS.out i
   go_wp2_with fail
   generalize hWF:World.setCell (World.setCell (World.setCell (World.setCell (World.setCell (World.setCell (World.setCell (World.setCell (World.setCell (World.setCell (World.setCell (World.setCell w4 _ _) _ _) _ _) _ _) _ _) _ _) _ _) _ _) _ _) _ _) _ _) _ _=WF
   have hrow:WF.heap[w.heap.size]?=some (.cells #[.int .i64 3,.string ⟨#[]⟩,(.slice ta pl.length tc),.int .i64 0,.int .i64 0,.int .i64 0,.int .i64 0,.int .i64 0,.int .i64 0,.bool false,.int .i64 0,.int .i64 0] 36 (0,0)):=by rw[←hWF];exact ais _ _ _ _ _ _ _ _ _ _ _ _ rzS.out
   have hgw:G w WF:=by rw[←hWF];exact alH (Nat.le_refl _) GS.out _ _ _ _ _ _ _ _ _ _ _ _
   have hbs:w.heap.size+1+1≤base:=by simpa using HBS.out
   have hkf:=show adM WF base (.slice ta pl.length tc) pl by rw[←hWF,←hw4];exact aqJ HTV.out (by omega) (by omega)
   exact ao8 rfl rfl rfl rfl hrow ⟨_,rfl,ahU.yes HN.out (by omega) hkf,hgw⟩
 |bad c q=>
  have HN:Hid (ady s 3=none):=hid (by unfold ady;rw[if_neg (by decide),if_neg (by rw[HH.out];decide),if_neg (by decide),if_neg (by decide),if_pos rfl];rw[hp])
  rw[hp]at hv
  obtain⟨e,rfl,he⟩:=hv
  have HE:=hid (am3 hp he)
  obtain⟨eb,rfl,_⟩:=id he
  clear hp he
  obtain⟨w4,hw4⟩:∃w4,w2.setCell ⟨w.heap.size+1,2,none⟩ ((.slice none 0 0))=w4:=⟨_,rfl⟩
  have rvS:=hid (show w4.heap[w.heap.size+1]?=some (.cells #[.int .i64 3,.string ⟨#[]⟩,(.slice none 0 0),.int .i64 0,.int .i64 0,.int .i64 0,.int .i64 0,.int .i64 0,.int .i64 0,.bool false,.int .i64 0,.int .i64 0] 36 (0,0)) by rw[←hw4];exact(UJ rv.out rfl))
  have rzS:=hid (show w4.heap[w.heap.size]?=some (.cells #[.int .i64 0,.string ⟨#[]⟩,(.slice none 0 0),.int .i64 0,.int .i64 0,.int .i64 0,.int .i64 0,.int .i64 0,.int .i64 0,.bool false,.int .i64 0,.int .i64 0] 36 (0,0)) by rw[←hw4,Below.heap_setCell _ _ _ _ (by simp)];exact rz.out)
  have GS:=hid (show G w w4 by rw[←hw4];exact afK (G2.out) (by omega))
  have HE4:=hid (show IsE s.length w4 (.iface 80 (.pointer (some ⟨eb,0,none⟩))) by rw[←hw4];exact asM HE.out (adl rv.out).2.1 (by intro k hk;cases hk))
  obtain⟨_,_,d2,_,_,_,_,_,_,_,_,_⟩:=adl rv.out
  have fv:=fun i=>Lib.frozen_of_heap rv.out i
  obtain⟨t0,t1,t2,t3,t4,t5,t6,t7,t8,t9,t10,t11⟩:=adl rzS.out
  have fz:=fun i=>Lib.frozen_of_heap rzS.out i
  go_wp2_with fail
  generalize hWF:World.setCell (World.setCell (World.setCell (World.setCell (World.setCell (World.setCell (World.setCell (World.setCell (World.setCell (World.setCell (World.setCell (World.setCell w4 _ _) _ _) _ _) _ _) _ _) _ _) _ _) _ _) _ _) _ _) _ _) _ _=WF
  have hrow:WF.heap[w.heap.size]?=some (.cells #[.int .i64 0,.string ⟨#[]⟩,(.slice none 0 0),.int .i64 0,.int .i64 0,.int .i64 0,.int .i64 0,.int .i64 0,.int .i64 0,.bool false,.int .i64 0,.int .i64 0] 36 (0,0)):=by rw[←hWF];exact ais _ _ _ _ _ _ _ _ _ _ _ _ rzS.out
  have hgw:G w WF:=by rw[←hWF];exact alH (Nat.le_refl _) GS.out _ _ _ _ _ _ _ _ _ _ _ _
  have hke:IsE s.length WF (.iface 80 (.pointer (some ⟨eb,0,none⟩))):=by rw[←hWF];exact aob HE4.out _ _ _ _ _ _ _ _ _ _ _ _ rzS.out (by intro k hk;cases hk)
  exact ao8 rfl rfl rfl rfl hrow ⟨_,rfl,ahU.no HN.out hke,hgw⟩
end Go.Proofs.YtmffejnigppbpaaGreatDoor
