/-
  Texts merged into one: PickAll, CardPlain, ConvPlain, CardLemmas, Edit, Wl, Hole, LineIs, LineParams, LineCatch, LineParse, LineSmall, Ann.
-/
import Derived.Test.YtmffejnigppbpaaGreatDoorCXMA49
import Derived.Deep.DrawnRows
import Derived.Deep.LoopGhost
import Derived.BigRegion
import Derived.Deep.DeepCutAuto
import Derived.Deep.CutBlock
import Derived.Test.YtmffejnigppbpaaGreatDoorCXMA67
import Derived.Test.YtmffejnigppbpaaGreatDoorCXMA58
import Derived.Test.YtmffejnigppbpaaGreatDoorCXMA70
import Derived.Test.YtmffejnigppbpaaGreatDoorCXLinePrint
import Derived.Test.YtmffejnigppbpaaGreatDoorCXMA62
import Derived.Test.YtmffejnigppbpaaGreatDoorCXMA68
import Derived.Test.YtmffejnigppbpaaGreatDoorCXMRules
import Derived.Test.YtmffejnigppbpaaGreatDoorCXMA47
import Derived.Test.YtmffejnigppbpaaGreatDoorCXMFn
import Derived.Test.YtmffejnigppbpaaGreatDoorCXMA60
import Derived.Test.YtmffejnigppbpaaGreatDoorCXMA52
import Derived.Test.YtmffejnigppbpaaGreatDoorCXMA59
import Derived.Test.YtmffejnigppbpaaGreatDoorCXMLineR
import Derived.Test.YtmffejnigppbpaaGreatDoorCXMA54
import Derived.Deep.RegionHeld3
import Derived.Deep.RegionLaw
import Derived.Deep.Onto
import Derived.Recover
import Derived.Stop.Asserts
import Derived.Deep.CutRange
import Derived.Test.YtmffejnigppbpaaGreatDoorCXMA50
import Derived.Test.YtmffejnigppbpaaGreatDoorCXMVeil
set_option linter.unusedVariables false
set_option linter.unusedSimpArgs false
namespace Go.Proofs.YtmffejnigppbpaaGreatDoor
open Go.RowKit Stab
theorem dX.at_{w:World}{v:Value}{xs:List It}(h:dX w v xs)(h0:xs≠[]):∃b off cap,v=.slice (some ⟨b,off,none⟩) xs.length cap∧b<w.heap.size∧∀(i:Nat) (x:It),xs[i]?=some x→∃pv lv,xZ w b (off+i*15) x pv lv:=by
 obtain⟨a,c,e,h1,h2⟩:=h
 obtain⟨b,off,e2,hb,h3⟩:=h2 h0
 subst e2
 exact⟨b,off,c,e,hb,h3⟩
end Go.Proofs.YtmffejnigppbpaaGreatDoor

namespace Go.Proofs.YtmffejnigppbpaaGreatDoor
open Go.RowKit
def QM:List UInt8:=[66,69,71,73,78]
def aaV:List UInt8:=[69,78,68]
def Gw:List UInt8:=[86,69,82,83,73,79,78]
def gJ:List UInt8:=[84,89,80,69]
def uj(n:List UInt8):Bool:=bU n==QM||bU n==aaV||bU n==Gw
def Gx(ps:List Pm)(i:Nat):Int:=
 let p:=ps.getD i ([],[])
 if rO (bU p.1) p.2=false then 3 else if dC p.1 gJ=false∧kF (gZ ps p.1)<i then 9 else 0
def Bd(ps:List Pm):Bool:=(List.range ps.length).all fun i=>Gx ps i==0
def jE(v:Int)(n:List UInt8):Int×Int×Int×Int:=iM (fM v) (bU n)
def lnX(x:It)(t:List UInt8):Ln:=⟨⟨x.g,x.n,x.ps⟩,t⟩
def Gy(v:Int)(x:It):List UInt8:=if gV (v==4) (lnX x x.v.text)=none then pO (v==4) (lnX x x.v.text)else[]
def nz(v:Int)(x:It):Bool:=(gV (v==4) (lnX x [])).isNone && !uj x.n&&Bd x.ps&&typeOf (jE v x.n).1 x.ps==x.v.ty
def EE(v:Int)(x:It):Bool:=!(decide (x.v.ty=3∧0<(jE v x.n).2.2.2∧(x.v.ps.length:Int)≠(jE v x.n).2.2.2))&&decide ((Gy v x).length≤1500)
def qM(v:Int)(x:It):Bool:=nz v x&&x.v.ok&&EE v x
def vk(n:List UInt8)(ns:List (List UInt8)):Nat:=(ns.filter fun x=>bU x==n).length
def qW(v:Int)(ns:List (List UInt8))(i:Nat):Bool:=match ns[i]? with
 |some n=>!(decide (0<(jE v n).2.2.1∧(jE v n).2.2.1<(vk (bU n) (ns.take (i+1)):Int)))
 |none=>true
def Gz(v:Int)(ns:List (List UInt8)):Bool:=(List.range ns.length).all fun i=>qW v ns i
def MH(v:Int)(ns:List (List UInt8)):Bool:=(fM v).all fun e=>!(decide ((vk e.name ns:Int)<(jE v e.name).2.1))
def jq(v:Int)(xs:List It):Bool:=decide (v=3∨v=4)&&decide (xs.length≤60)&&xs.all (qM v)&&Gz v (xs.map It.n)&&MH v (xs.map It.n)
theorem VG(t:St):t.text.length≤40:=by
 have hd:t.date.length≤10:=by unfold St.date;split<;>split<;>split<;>simp[bM]
 have hc:t.clock.length≤9:=by
  unfold St.clock
  simp only[List.length_append]
  have h1:(if t.h = -1 then[45] else dm t.h 2).length≤2:=by split<;>simp[bM]
  have h2:(if t.n = -1 then(if t.h = -1 then[45] else[])else dm t.n 2).length≤2:=by split<;>(try split)<;>simp[bM]
  have h3:(if t.s = -1 then(if t.h = -1∧t.n = -1 then[45] else[])else dm t.s 2).length≤2:=by split<;>(try split)<;>simp[bM]
  omega
 have hz:(if t.zd then kD t.zn else[]).length≤5:=by
  split
  ·unfold kD;split<;>(try split)<;>simp[zB]
  ·simp
 unfold St.text
 split
 ·omega
 ·simp only[List.length_append,List.length_cons];omega
structure Sml(x:It):Prop where
 h:x.g.length+x.n.length+fK x.ps≤10000
 t:x.v.tx.length≤4900
 p:iL x.v.ps≤4900
theorem Xx{x:It}(h:Sml x):x.v.text.length≤10000:=by
 have h1:=CY x.v.tx
 have h2:=Qc x.v.ps
 have h3:=VG x.v.st
 have hz:(kD x.v.n).length≤5:=by unfold kD;split<;>(try split)<;>simp[zB]
 have h4:=h.t
 have h5:=h.p
 unfold Vl.text
 split
 ·omega
 split
 ·omega
 split
 ·omega
 split
 ·omega
 ·omega
theorem Sml.bounds{x:It}(h:Sml x):x.g.length≤10000∧x.n.length≤10000∧fK x.ps≤10000∧x.v.tx.length≤100000∧iL x.v.ps≤100000∧x.v.text.length≤10000:=by
 have h1:=h.h
 have h2:=h.t
 have h3:=h.p
 exact⟨by omega,by omega,by omega,by omega,by omega,Xx h⟩
theorem Zt{ps:List Pm}{i:Nat}(h:i<ps.length):Gx ps i=if rO (bU ps[i].1) ps[i].2=false then 3 else if dC ps[i].1 gJ=false∧kF (gZ ps ps[i].1)<i then 9 else 0:=by
 unfold Gx
 simp only[List.getD_eq_getElem?_getD,List.getElem?_eq_getElem h,Option.getD_some]
theorem VH{ps:List Pm}(h:∀i,i<ps.length→Gx ps i=0):Bd ps=true:=by
 unfold Bd
 rw[List.all_eq_true]
 intro i hi
 rw[h i (List.mem_range.1 hi)];rfl
theorem Ox{ps:List Pm}{i:Nat}(h:i<ps.length)(hi:Gx ps i≠0):Bd ps=false:=by
 unfold Bd
 rw[List.all_eq_false]
 exact⟨i,List.mem_range.2 h,by simpa using hi⟩
end Go.Proofs.YtmffejnigppbpaaGreatDoor

namespace Go.Proofs.YtmffejnigppbpaaGreatDoor
open Go.RowKit
def bP:List UInt8:=[86,65,76,85,69]
def oV:List UInt8:=[80,82,69,70]
def l7:List UInt8:=[69,78,67,79,68,73,78,71]
def dN:List UInt8:=[76,65,66,69,76]
def xn:List UInt8:=[65,68,82]
def mf:List UInt8:=[112,114,101,102]
def aO(l:List Pm)(n:List UInt8):List Pm:=l.filter fun p=>!dC p.1 n
def qN(vs:List (List UInt8)):List (List UInt8):=vs.filter fun v=>!dC v mf
def dU(p:Pm):List Pm:=if dC p.1 gJ=true then(if qN p.2=[] then[] else[(p.1,qN p.2)])else[p]
def ed(p:Pm):Bool:=dC p.1 gJ&&p.2.any (fun v=>dC v mf)
def bG(l:List Pm):List Pm:=
 if (l.any ed&&(gZ (l.flatMap dU) oV).isNone)=true then l.flatMap dU++[(oV,[[49]])] else l.flatMap dU
def xE:List UInt8:=[80,72,79,84,79]
def EG:List UInt8:=[76,79,71,79]
def xG:List UInt8:=[83,79,85,78,68]
def aa1:List UInt8:=[75,69,89]
def EH(n:List UInt8):List UInt8:=if n=xE∨n=EG then[105,109,97,103,101,47] else if n=xG then[97,117,100,105,111,47] else[97,112,112,108,105,99,97,116,105,111,110,47]
def MK:List UInt8:=[97,112,112,108,105,99,97,116,105,111,110,47,111,99,116,101,116,45,115,116,114,101,97,109]
def xH(l:List Pm)(i:Nat):List UInt8:=(l.getD i ([],[])).2.getD 0 []
def lS(n:List UInt8)(l:List Pm):List UInt8:=match gZ l gJ with
 |none=>MK
 |some i=>EH n++uP (xH l i)
def vY(n:List UInt8)(x:It):It×Bool:=match gZ x.ps l7 with
 |none=>if x.v.ty=4 then(⟨x.g,x.n,aO x.ps bP,x.v⟩,true)else(x,false)
 |some i=>
  if dC (xH x.ps i) [98]=true∧x.v.ty=8 then
   (if x.v.tx.length%4≠0 then(x,false)else match qi x.v.tx with
    |.error _=>(x,false)
    |.ok bs=>(⟨x.g,x.n,aO (aO (aO x.ps l7) gJ) bP,tV 4 (if oP (lS n x.ps)=true then E5 (lS n x.ps) bs else[])⟩,oP (lS n x.ps)))
  else(x,false)
def nC(n:List UInt8)(x:It):It:=⟨x.g,88::45::n,aO x.ps bP,tV 8 (if x.v.ty=1 then kN x.v.tx else x.v.tx)⟩
def zq:List UInt8:=[103,101,111,58]
def rq(x:It):It×Bool:=
 if x.v.ty=3 then(match x.v.ps with
  |[[a],[b]]=>(⟨x.g,x.n,aO x.ps bP,tV 4 (zq++a++[44]++b)⟩,o9 (zq++a++[44]++b))
  |_=>(x,false))
 else(x,false)
def xI(x:It):It:=⟨x.g,x.n,aO x.ps bP++[(bP,[mD x.v.ty])],x.v⟩
def DI(n:List UInt8):Bool:=n==xE||n==EG||n==xG||n==aa1
def ML:List UInt8:=[65,71,69,78,84]
def MM:List UInt8:=[67,76,65,83,83]
def FZ:List UInt8:=[77,65,73,76,69,82]
def U0:List UInt8:=[78,65,77,69]
def U1:List UInt8:=[83,79,82,84,45,83,84,82,73,78,71]
def QZ:List UInt8:=[71,69,79]
def nTZ:List UInt8:=[84,90]
def Q5:List UInt8:=[85,73,68]
def sH(n:List UInt8):Bool:=n==ML||n==MM||n==FZ||n==U0||n==U1||n==dN
def jX(y:It):It×Bool:=
 let n:=bU y.n
 let x:It:=⟨y.g,y.n,bG y.ps,y.v⟩
 if DI n=true then vY n x
 else if sH n=true then(nC n x,decide (x.v.ty=1∨x.v.ty=8))
 else if n=QZ then rq x
 else if n=nTZ then(xI x,true)
 else if n=Q5 then(if x.v.ty=1∧o9 x.v.tx=true then(⟨x.g,x.n,aO x.ps bP,⟨4,x.v.tx,x.v.ps,x.v.st,x.v.n⟩⟩,true)else(xI x,true))
 else(x,true)
def uk(n:List UInt8)(l:List It):Option Nat:=(List.range l.length).reverse.find? fun i=>match l[i]? with|some x=>dC x.n n|none=>false
def ja(out:List It)(x:It):List It:=
 if dC x.n dN=true∧x.v.ty=1 then(match uk xn out with
  |some k=>(match out[k]? with
   |some y=>if (gZ y.ps dN).isNone=true then out.set k ⟨y.g,y.n,y.ps++[(dN,[x.v.tx])],y.v⟩else out++[x]
   |none=>out++[x])
  |none=>out++[x])
 else out++[x]
def dS(l:List It):List It:=l.foldl ja []
def upX(xs:List It):Option (List It):=
 if jq 3 xs=true then
  (if (dS xs).all (fun x=>(jX x).2)=true then(if jq 4 ((dS xs).map fun x=>(jX x).1)=true then some ((dS xs).map fun x=>(jX x).1)else none)else none)
 else none
end Go.Proofs.YtmffejnigppbpaaGreatDoor

namespace Go.Proofs.YtmffejnigppbpaaGreatDoor
open Go.RowKit
theorem nK{v:Int}{xs:List It}:jq v xs=true↔(v=3∨v=4)∧xs.length≤60∧(∀x∈xs,qM v x=true)∧Gz v (xs.map It.n)=true∧MH v (xs.map It.n)=true:=by
 unfold jq
 simp only[Bool.and_eq_true,decide_eq_true_eq,List.all_eq_true,and_assoc]
def J3(cf:Bool)(x:It):Bool:=fH x.n&&(x.g.isEmpty||fH x.g)&&decide (x.ps.length≤20)&&x.ps.all (pmR cf)
theorem Vz{cf:Bool}{x:It}{t:List UInt8}:Sj cf (lnX x t)=(J3 cf x&&dF t false):=rfl
theorem J4{cf:Bool}{x:It}{t:List UInt8}:gV cf (lnX x t)=none↔J3 cf x=true∧dF t false=true:=by
 rw[Pi,Vz,Bool.and_eq_true]
theorem VA{v:Int}{x:It}:nz v x=true↔J3 (v==4) x=true∧uj x.n=false∧Bd x.ps=true∧typeOf (jE v x.n).1 x.ps=x.v.ty:=by
 unfold nz
 simp only[Bool.and_eq_true,Option.isNone_iff_eq_none,J4,beq_iff_eq,Bool.not_eq_true',and_assoc]
 exact⟨fun ⟨a,_,b⟩=>⟨a,b⟩,fun ⟨a,b⟩=>⟨a,VL false,b⟩⟩
theorem L9{v:Int}{x:It}(h:J3 (v==4) x=true)(ho:x.v.ok=true):gV (v==4) (lnX x x.v.text)=none∧Gy v x=pO (v==4) (lnX x x.v.text):=by
 have e:=J4.2 ⟨h,(Qx x.v ho).2⟩
 refine⟨e,?_⟩
 unfold Gy
 rw[if_pos e]
theorem Un{v:Int}{x:It}:qM v x=true↔J3 (v==4) x=true∧uj x.n=false∧Bd x.ps=true∧typeOf (jE v x.n).1 x.ps=x.v.ty∧x.v.ok=true∧¬(x.v.ty=3∧0<(jE v x.n).2.2.2∧(x.v.ps.length:Int)≠(jE v x.n).2.2.2)∧(pO (v==4) (lnX x x.v.text)).length≤1500:=by
 unfold qM EE
 simp only[Bool.and_eq_true,VA,Bool.not_eq_true',decide_eq_false_iff_not,decide_eq_true_eq,and_assoc]
 constructor
 ·rintro⟨a,b,c,d,e,f,g⟩
  rw[(L9 a e).2]at g
  exact⟨a,b,c,d,e,f,g⟩
 ·rintro⟨a,b,c,d,e,f,g⟩
  rw[(L9 a e).2]
  exact⟨a,b,c,d,e,f,g⟩
end Go.Proofs.YtmffejnigppbpaaGreatDoor

set_option maxHeartbeats 1000000
set_option maxRecDepth 100000
namespace Go.Proofs.YtmffejnigppbpaaGreatDoor
open Go.RowKit
theorem OG(v:Value)(n:Nat)(cs:List Value)(w:World)(hP:mi 2 w v n cs)(hl:n≤100000)(W:World)(gW:G w W) :
  Calls Tryz.prog 38 #[v] W fun e w'=>∃u,e=.returned u∧w'.ownsRow W.heap.size 41 2 u n cs∧G W w':=by
 obtain⟨i0,hi,hz0,hz1,hz2⟩:=info_parts Ea
 have heq:=fun W a n c=>Lib.run_eql_slice_nil (P:=Tryz.prog) W 31 41 a n c 0 0 Tryz.underlying31
 obtain⟨hnl,hone,⟨rfl,rfl|⟨a,c,rfl⟩⟩|⟨b,off,cap,rfl,hb,h0,hc⟩⟩:=hP
 ·obtain rfl:cs=[]:=List.eq_nil_of_length_eq_zero (by simpa using hnl)
  clear gW
  go_enter Tryz.func38,Tryz.ntmps38
  go_wp2_with fail
  go_ret
  exact⟨_,rfl,World.ownsRow_nil _ _ _ _,(by repeat (first|exact G.refl _|assumption|apply G.drew|apply G.drewN|apply G.alloc|refine G.trans ?_ (by assumption)))⟩
 ·obtain rfl:cs=[]:=List.eq_nil_of_length_eq_zero (by simpa using hnl)
  clear gW
  go_enter Tryz.func38,Tryz.ntmps38
  go_wp2_with fail
  go_ret
  exact⟨_,rfl,World.ownsRow_made W #[] 0 (Nat.le_refl _) (by unfold maxLen;omega) rfl,(by repeat (first|exact G.refl _|assumption|apply G.drew|apply G.drewN|apply G.alloc|refine G.trans ?_ (by assumption)))⟩
 ·have hadd:∀j,(⟨b,off,none⟩:Addr).add j=⟨b,off+j,none⟩:=fun j=>by unfold Addr.add;split<;>simp_all
  have hcc:∀(j:Nat) (u:Value),cs[j]?=some u→(W.alloc (.cells #[] 41)).cell? ((⟨b,off,none⟩:Addr).add j)=some u:=fun j u hu=>by
   obtain⟨hj,rfl⟩:=List.getElem?_eq_some_iff.1 hu
   rw[hadd,(gW.alloc _).cell (p:=⟨b,off+j,none⟩) hb];exact hc j hj
  have HCC:=hid hcc
  have HN:=hid hnl
  have HONE:=hid hone
  have hown0:(W.alloc (.cells #[] 41)).ownsRow W.heap.size 41 2 (.slice (some ⟨W.heap.size,0,none⟩) 0 0) 0 []:=World.ownsRow_made W #[] 0 (Nat.le_refl _) (by unfold maxLen;omega) rfl
  have HOWN:=hid hown0
  clear hcc hc hnl hone hown0 hadd gW hb
  go_enter Tryz.func38,Tryz.ntmps38
  go_wp2_with (at_builtin;refine wpList_append_own _ rfl _ _ 31 rfl W.heap.size 41 i0 _ 2 40 Tryz.underlying31 hi hz0 hz1 hz2 rfl (by decide) _ _ _ rfl HOWN.out ⟨b,off,none⟩ n cap cs rfl HN.out HCC.out HONE.out (by unfold maxLen;omega) (by omega) (by simp) ?_;intro v' w1 hown' hgrow _)
  go_ret
  have hgrow':(W.alloc (.cells #[] 41)).grownBy w1 (some W.heap.size):=hgrow
  have hG:G W w1:=Below.grown ((Below.refl W.heap.size W).alloc (Nat.le_refl _) (.cells #[] 41)) hgrow' (by simp) (fun j hj=>by cases hj;exact Nat.le_refl _)
  exact⟨_,rfl,by simpa using hown',hG⟩
theorem OH{w w':World}{base:Nat}{u sv:Value}{xs:List PmC}{nm:List UInt8}{vs:List (List UInt8)}{t:TypeId}(hs:∀x∈xs,di w (slP x) x.1.2)(hsv:di w sv vs)(hg:G w w')(hr:w'.ownsRow base t 2 u (xs.length+1) (xs.flatMap lU++[.string (S nm),sv])):eu w' u (xs.map (·.1)++[(nm,vs)]):=by
 rw[BP]at hr
 refine PI (ps:=xs.map (·.1)) (vs0:=xs.map slP) (by simp) (fun i p x hp hx=>?_) hsv hg (by simpa using hr)
 rw[List.getElem?_map]at hp hx
 cases hi:xs[i]? with
 |none=>rw[hi]at hp;cases hp
 |some y=>
  rw[hi]at hp hx
  cases hp;cases hx
  exact hs y (List.mem_of_getElem? hi)
theorem EJ{w w':World}{base:Nat}{u:Value}{xs:List PmC}{t:TypeId}(hs:∀x∈xs,di w' (slP x) x.1.2)(hr:w'.ownsRow base t 2 u xs.length (xs.flatMap lU)):eu w' u (xs.map (·.1)):=by
 rw[BP]at hr
 refine uY (ps:=xs.map (·.1)) (vs:=xs.map slP) (by simp) (fun i p x hp hx=>?_) (by simpa using hr)
 rw[List.getElem?_map]at hp hx
 cases hi:xs[i]? with
 |none=>rw[hi]at hp;cases hp
 |some y=>
  rw[hi]at hp hx
  cases hp;cases hx
  exact hs y (List.mem_of_getElem? hi)
theorem fO.setPs{w:World}:∀ {xs:List It} {cs:List Value},fO w xs cs→∀ {i:Nat} {x:It},xs[i]?=some x→∃pv lv,dG w x pv lv∧(∀(j:Nat) (u:Value),(x.cells pv lv)[j]?=some u→cs[i*15+j]?=some u) ∧
  ∀(ps':List Pm) (pv':Value),dG w { x with ps:=ps' } pv' lv→fO w (xs.set i { x with ps:=ps' }) (cs.set (i*15+2) pv')
 |[],_,_,i,x,h=>by simp at h
 |y::xs,cs,⟨pv,lv,ds,e,h1,h2⟩,0,x,h=>by
  simp at h
  subst h
  refine⟨pv,lv,h1,fun j u hu=>?_,fun ps' pv' hok=>?_⟩
  ·rw[e,Nat.zero_mul,Nat.zero_add,List.getElem?_append_left (List.getElem?_eq_some_iff.1 hu).1];exact hu
  ·exact⟨pv',lv,ds,by rw[e];rfl,hok,h2⟩
 |y::xs,cs,⟨pv,lv,ds,e,h1,h2⟩,i+1,x,h=>by
  obtain⟨pv2,lv2,k1,k2,k3⟩:=fO.setPs h2 (i:=i) (x:=x) (by simpa using h)
  have hl:(y.cells pv lv).length=15:=rfl
  refine⟨pv2,lv2,k1,fun j u hu=>?_,fun ps' pv' hok=>?_⟩
  ·rw[e,List.getElem?_append_right (by rw[hl];omega),hl,show(i+1)*15+j-15=i*15+j by omega]
   exact k2 j u hu
  ·refine⟨pv,lv,ds.set (i*15+2) pv',?_,h1,k3 ps' pv' hok⟩
   rw[e,List.set_append_right _ _ (by rw[hl];omega),hl,show(i+1)*15+2-15=i*15+2 by omega]
def ED(w0:World)(D cap:Nat)(xs:List It)(W:World):Prop:=
 ∃cur,BR w0 D 38 cur W∧cur.length=cap*15∧xs.length≤cap∧fO (Wo D W) xs (cur.take (xs.length*15))
section
variable {w0 W W':World} {D cap:Nat} {xs:List It}
theorem ED.mv(h:ED w0 D cap xs W):w0.grownBy W (some D):=by obtain⟨cur,h1,_⟩:=h;exact h1.mv
theorem ED.lt(h:ED w0 D cap xs W):D<W.heap.size:=by obtain⟨cur,h1,_⟩:=h;exact h1.lt
theorem ED.grow(h:ED w0 D cap xs W)(g:G W W'):ED w0 D cap xs W':=by
 obtain⟨cur,h1,h2,h3,h4⟩:=h
 exact⟨cur,h1.grow g,h2,h3,h4.grow (Wo.g g)⟩
theorem ED.at_(h:ED w0 D cap xs W){i:Nat}{x:It}(hx:xs[i]?=some x):∃pv lv,dG (Wo D W) x pv lv∧(∀(j:Nat) (u:Value),(x.cells pv lv)[j]?=some u→W.cell? ⟨D,i*15+j,none⟩=some u)∧(∀j,W.frozen? ⟨D,j,none⟩=false) ∧
  ∀(W':World) (ps':List Pm) (pv':Value),G W W'→dG (Wo D W') { x with ps:=ps' } pv' lv→ED w0 D cap (xs.set i { x with ps:=ps' }) (W'.setCell ⟨D,i*15+2,none⟩ pv'):=by
 obtain⟨cur,h1,h2,h3,h4⟩:=h
 obtain⟨pv,lv,k1,k2,_⟩:=h4.setPs hx
 have hi:=(List.getElem?_eq_some_iff.1 hx).1
 refine⟨pv,lv,k1,fun j u hu=>?_,fun j=>h1.fz j,fun W' ps' pv' g hok=>?_⟩
 ·have:=k2 j u hu
  rw[List.getElem?_take]at this
  split at this
  ·exact h1.cell this
  ·cases this
 ·obtain⟨pv3,lv3,m1,m2,m3⟩:=(h4.grow (Wo.g g)).setPs hx
  have e3:lv3=lv:=by
   have a1:=k2 5 lv rfl
   have a2:=m2 5 lv3 rfl
   rw[a1]at a2
   exact(Option.some.inj a2).symm
  subst e3
  refine⟨cur.set (i*15+2) pv',(h1.grow g).set _ _,by simpa using h2,by simpa using h3,?_⟩
  rw[Wo.set,List.length_set,List.take_set]
  exact m3 ps' pv' hok
theorem ED.items(h:ED w0 D cap xs W):dX W (.slice (some ⟨D,0,none⟩) xs.length cap) xs:=by
 obtain⟨cur,h1,h2,h3,h4⟩:=h
 refine sZ (h4.sub (Wo.sub D W)) h1.lt (fun j u hu=>?_) h3
 rw[List.getElem?_take]at hu
 split at hu
 ·rw[Nat.zero_add];exact h1.cell hu
 ·cases hu
end
end Go.Proofs.YtmffejnigppbpaaGreatDoor

namespace Go.Proofs.YtmffejnigppbpaaGreatDoor
open Go.RowKit
def Frm(v:Value):Prop:=v=.slice none 0 0∨∃a n c,v=.slice (some a) n c
theorem N8{w:World}{base:Nat}{t:TypeId}{k n:Nat}{v:Value}{cs:List Value}(h:w.ownsRow base t k v n cs):Frm v:=by
 rcases h.2 with⟨e,_⟩|⟨g,cap,cur,e,_⟩
 ·exact .inl e
 ·exact .inr ⟨_,_,_,e⟩
theorem ug{w:World}{base:Nat}{t:TypeId}{k n:Nat}{v:Value}{cs:List Value}(h:w.ownsRow base t k v n cs):∃a c,v=.slice a n c:=by
 rcases h.2 with⟨e,h0⟩|⟨g,cap,cur,e,_⟩
 ·exact⟨none,0,by rw[e,h0]⟩
 ·exact⟨_,_,e⟩
theorem Zk{w:World}{base:Nat}{t:TypeId}{k n:Nat}{v:Value}{cs:List Value}(h:w.ownsRow base t k v (n+1) cs):∃g cap,v=.slice (some ⟨g,0,none⟩) (n+1) cap:=by
 rcases h.2 with⟨_,h0⟩|⟨g,cap,cur,e,_⟩
 ·omega
 ·exact⟨g,cap,e⟩
theorem aaB{w:World}{D base:Nat}{t:TypeId}{k n:Nat}{v:Value}{cs:List Value}(h:w.ownsRow base t k v n cs)(hD:D<base):(Wo D w).ownsRow base t k v n cs:=by
 refine⟨h.1,?_⟩
 rcases h.2 with e|⟨g,cap,cur,e,hb,hg,r⟩
 ·exact .inl e
 ·exact .inr ⟨g,cap,cur,e,hb,by rw[Wo.other D w g (by omega)];exact hg,r⟩
theorem Sub.refl(w:World):Sub w w:=⟨Nat.le_refl _,fun _ _ h=>h⟩
theorem Sub.trans{a b c:World}(h:Sub a b)(k:Sub b c):Sub a c:=⟨Nat.le_trans h.size k.size,fun p u e=>k.cell p u (h.cell p u e)⟩
theorem Wo.not{C:Nat}{w:World}{p:Addr}{u:Value}(h:(Wo C w).cell? p=some u):p.block≠C:=by
 intro hb
 unfold World.cell? at h
 by_cases hl:C<w.heap.size
 ·have:(Wo C w).heap[p.block]?=some (.cells #[] 0 (0,0)):=by rw[hb];unfold Wo;simp[hl]
  rw[this]at h
  simp at h
 ·have:(Wo C w).heap[p.block]?=none:=by rw[hb];exact Array.getElem?_eq_none (by rw[Wo.size];omega)
  rw[this]at h
  simp at h
theorem Sub.wo{a b:World}(h:Sub a b)(C:Nat):Sub (Wo C a) (Wo C b):=⟨by rw[Wo.size,Wo.size];exact h.size,fun p u e=>by
 have hn:=Wo.not e
 rw[World.cell?_of_block (Wo.other C b _ hn)]
 exact h.cell p u (Wo.cell C a p u e)⟩
def Wl:List Nat→World→World
 |[],w=>w
 |X::L,w=>Wl L (Wo X w)
theorem Wl.size:∀(L:List Nat) (w:World),(Wl L w).heap.size=w.heap.size
 |[],w=>rfl
 |X::L,w=>(Wl.size L _).trans (Wo.size X w)
theorem Wl.g{w w':World}(h:G w w'):∀ {L:List Nat},G (Wl L w) (Wl L w'):=by
 intro L
 induction L generalizing w w' with
 |nil=>exact h
 |cons X L ih=>exact ih (Wo.g h)
theorem Wl.sub:∀(L:List Nat) (w:World),Sub (Wl L w) w
 |[],w=>Sub.refl w
 |X::L,w=>(Wl.sub L _).trans (Wo.sub X w)
theorem Wl.mono{a b:World}(h:Sub a b):∀ {L:List Nat},Sub (Wl L a) (Wl L b):=by
 intro L
 induction L generalizing a b with
 |nil=>exact h
 |cons X L ih=>exact ih (h.wo X)
theorem Wl.tail(X:Nat)(L:List Nat)(w:World):Sub (Wl (X::L) w) (Wl L w):=Wl.mono (Wo.sub X w)
theorem Wl.own{base:Nat}{t:TypeId}{k n:Nat}{v:Value}{cs:List Value}:∀ {L:List Nat} {w:World},w.ownsRow base t k v n cs→(∀X∈L,X<base)→(Wl L w).ownsRow base t k v n cs
 |[],w,h,_=>h
 |X::L,w,h,hX=>Wl.own (L:=L) (aaB h (hX X List.mem_cons_self)) (fun Y hY=>hX Y (List.mem_cons_of_mem _ hY))
theorem Wl.other{b:Nat}:∀ {L:List Nat} {w:World},(∀X∈L,b≠X)→(Wl L w).heap[b]?=w.heap[b]?
 |[],w,_=>rfl
 |X::L,w,h=>(Wl.other (L:=L) (fun Y hY=>h Y (List.mem_cons_of_mem _ hY))).trans (Wo.other X w b (h X List.mem_cons_self))
theorem Wl.set(X:Nat)(L:List Nat)(w:World)(i:Nat)(v:Value):Wl (X::L) (w.setCell ⟨X,i,none⟩ v)=Wl (X::L) w:=by
 show Wl L (Wo X _)=Wl L (Wo X w)
 rw[Wo.set]
theorem Wl.into{X:Nat}{L:List Nat}{w w':World}(h:G w w')(hX:w.heap.size≤X):G (Wl L w) (Wl (X::L) w'):=Wl.g (Wo.of h hX)
theorem Wo.comm{C X i:Nat}{w:World}{v:Value}(h:C≠X):Wo C (w.setCell ⟨X,i,none⟩ v)=(Wo C w).setCell ⟨X,i,none⟩ v:=by
 unfold Wo World.setCell
 congr 1
 apply Array.ext_getElem?
 intro j
 simp only[Array.getElem?_setIfInBounds,Array.getElem?_modify,Array.size_modify]
 by_cases h1:C=j
 ·subst h1
  have hn:¬X=C:=fun e=>h e.symm
  simp[hn]
 ·simp[h1]
theorem Wl.setm{X i:Nat}{v:Value}:∀ {L:List Nat} {w:World},X∈L→Wl L (w.setCell ⟨X,i,none⟩ v)=Wl L w
 |[],w,h=>by cases h
 |C::L,w,h=>by
  by_cases e:C=X
  ·subst e;exact Wl.set C L w i v
  ·show Wl L (Wo C _)=Wl L (Wo C w)
   rw[Wo.comm e]
   exact Wl.setm (by rcases List.mem_cons.1 h with h|h;(· exact absurd h.symm e);exact h)
theorem dG.wo{w w':World}{x:It}{pv lv:Value}{L:List Nat}(h:dG (Wl L w) x pv lv)(g:G w w'):dG (Wl L w') x pv lv:=h.grow (Wl.g g)
theorem Zl{W:World}{X:Nat}{a0 a1 b1:Value}{T:TypeId}(h:W.heap[X]?=some (.cells #[a0,a1] T (0,0))):(W.setCell ⟨X,1,none⟩ b1).heap[X]?=some (.cells #[a0,b1] T (0,0)):=by
 simp[World.setCell,Array.getElem?_modify,h]
theorem Dv{w w':World}{base:Nat}{t:TypeId}{k n:Nat}{v:Value}{cs:List Value}(h:w.ownsRow base t k v n cs)(g:G w w'):w'.ownsRow base t k v n cs:=h.kept (rM none g) (by
 cases hv:v.ownBlock with
 |none=>exact .inl rfl
 |some b=>exact .inr (by simp))
theorem Ez{a b c:World}{R:Nat}{row:Option Nat}(h:a.grownBy b (some R))(k:b.grownBy c row)(hr:∀j,row=some j→j=R∨a.heap.size≤j):a.grownBy c (some R):=
 ⟨k.os.trans h.os,k.tape.trans h.tape,k.output.trans h.output,Nat.le_trans h.size k.size,fun i hi hne=>(k.block i (Nat.lt_of_lt_of_le hi h.size) (fun e=>by rcases hr i e.symm with h'|h';(· exact hne (by rw[h']));omega)).trans (h.block i hi hne)⟩
end Go.Proofs.YtmffejnigppbpaaGreatDoor

namespace Go.Proofs.YtmffejnigppbpaaGreatDoor
open Go.RowKit
theorem Wo.mv{B:Nat}{a b:World}(h:a.grownBy b (some B)):G (Wo B a) (Wo B b):=by
 refine⟨h.os,h.tape,h.output,by rw[Wo.size,Wo.size];exact h.size,fun k hk=>?_⟩
 rw[Wo.size]at hk
 by_cases e:k=B
 ·subst e
  have hk':=Nat.lt_of_lt_of_le hk h.size
  unfold Wo
  simp[hk,hk']
 ·rw[Wo.other B _ _ e,Wo.other B _ _ e]
  exact h.block k hk (fun e2=>e (Option.some.inj e2))
def EX(w0:World)(D cap:Nat)(xs:List It)(f:Nat→World→World)(W:World):Prop:=
 ∃cur,BR w0 D 38 cur W∧cur.length=cap*15∧xs.length≤cap∧∀(i:Nat) (x:It),xs[i]?=some x→∃pv lv,dG (f i W) x pv lv∧∀(j:Nat) (u:Value),(x.cells pv lv)[j]?=some u→cur[i*15+j]?=some u
section
variable {w0 W W':World} {D cap:Nat} {xs:List It} {f:Nat→World→World}
theorem EX.mv(h:EX w0 D cap xs f W):w0.grownBy W (some D):=by obtain⟨cur,h1,_⟩:=h;exact h1.mv
theorem EX.lt(h:EX w0 D cap xs f W):D<W.heap.size:=by obtain⟨cur,h1,_⟩:=h;exact h1.lt
theorem EX.turn(h:EX w0 D cap xs f W){f':Nat→World→World}(hm:w0.grownBy W' (some D))(hD:W'.heap[D]?=W.heap[D]?)(hf:∀(i:Nat) (x:It) (pv lv:Value),xs[i]?=some x→(∀(j:Nat) (u:Value),(x.cells pv lv)[j]?=some u→W.cell? ⟨D,i*15+j,none⟩=some u)→dG (f i W) x pv lv→dG (f' i W') x pv lv):EX w0 D cap xs f' W':=by
 obtain⟨cur,h1,h2,h3,h4⟩:=h
 refine⟨cur,⟨hm,hD.trans h1.b⟩,h2,h3,fun i x hx=>?_⟩
 obtain⟨pv,lv,k1,k2⟩:=h4 i x hx
 exact⟨pv,lv,hf i x pv lv hx (fun j u hu=>h1.cell (k2 j u hu)) k1,k2⟩
theorem EX.grow(h:EX w0 D cap xs f W)(hfm:∀i a b,G a b→G (f i a) (f i b))(g:G W W'):EX w0 D cap xs f W':=
 h.turn (Wy h.mv g) (g.below.block _ h.lt) fun i x pv lv _ _ hk=>hk.grow (hfm i _ _ g)
theorem EX.set(h:EX w0 D cap xs f W){i:Nat}{x:It}(hx:xs[i]?=some x){pv lv:Value}(hc:∀(j:Nat) (u:Value),(x.cells pv lv)[j]?=some u→W.cell? ⟨D,i*15+j,none⟩=some u){f':Nat→World→World}(ps':List Pm)(pv':Value)(hok:dG (f' i (W.setCell ⟨D,i*15+2,none⟩ pv')) { x with ps:=ps' } pv' lv)(hf:∀(j:Nat) (y:It) (qv mv:Value),xs[j]?=some y→j≠i→dG (f j W) y qv mv→dG (f' j (W.setCell ⟨D,i*15+2,none⟩ pv')) y qv mv):EX w0 D cap (xs.set i { x with ps:=ps' }) f' (W.setCell ⟨D,i*15+2,none⟩ pv'):=by
 obtain⟨cur,h1,h2,h3,h4⟩:=h
 refine⟨cur.set (i*15+2) pv',h1.set _ _,by simpa using h2,by simpa using h3,fun j y hy=>?_⟩
 rw[List.getElem?_set]at hy
 by_cases e:i=j
 ·subst e
  rw[if_pos rfl]at hy
  split at hy
  ·cases hy
   refine⟨pv',lv,hok,fun k u hu=>?_⟩
   rw[List.getElem?_set]
   have hk:k<15:=by
    have:=(List.getElem?_eq_some_iff.1 hu).1
    exact this
   have hi:=(List.getElem?_eq_some_iff.1 hx).1
   by_cases e2:k=2
   ·subst e2
    rw[if_pos rfl,if_pos (by rw[h2];have:=Nat.mul_le_mul_right 15 (show i+1≤cap by omega);omega)]
    exact hu
   ·rw[if_neg (by omega)]
    have h5:(x.cells pv lv)[k]?=some u:=by
     rw[←hu]
     match k,hk,e2 with
     |0,_,_=>rfl|1,_,_=>rfl|2,_,e2=>exact absurd rfl e2
     |3,_,_=>rfl|4,_,_=>rfl|5,_,_=>rfl|6,_,_=>rfl|7,_,_=>rfl|8,_,_=>rfl|9,_,_=>rfl|10,_,_=>rfl|11,_,_=>rfl|12,_,_=>rfl|13,_,_=>rfl|14,_,_=>rfl
    have h6:=hc k u h5
    rw[cell_of_row W D (i*15+k) _ _ _ h1.b]at h6
    simpa using h6
  ·cases hy
 ·rw[if_neg e]at hy
  obtain⟨qv,mv,k1,k2⟩:=h4 j y hy
  refine⟨qv,mv,hf j y qv mv hy (fun e2=>e e2.symm) k1,fun k u hu=>?_⟩
  have hk:k<15:=(List.getElem?_eq_some_iff.1 hu).1
  rw[List.getElem?_set,if_neg (by omega)]
  exact k2 k u hu
end
end Go.Proofs.YtmffejnigppbpaaGreatDoor

namespace Go.Proofs.YtmffejnigppbpaaGreatDoor
open Go.RowKit
abbrev LRd(w:World)(R:Nat)(s:L8)(cf:Bool)(l:L8):Prop:=RdL 299 [.bool cf] w R s l
end Go.Proofs.YtmffejnigppbpaaGreatDoor

namespace Go.Proofs.YtmffejnigppbpaaGreatDoor
open Go.RowKit
def acg(w:World)(base:Nat)(v:Value)(l:List L8):Prop:=w.ownsRow base 9 1 v l.length (l.map fun x=>.string (S x))
structure ach(w wr:World)(R:Nat)(s:L8)(cf:Bool)(l:L8)(v:Value)(ps:List Pm)(vs:List Value)(t:L8):Prop where
 mv:w.grownBy wr (some R)
 rd:LRd wr R s cf t
 len:vs.length=ps.length
 own:∀(i:Nat) (p:Pm) (u:Value),ps[i]?=some p→vs[i]?=some u→acg wr w.heap.size u p.2
 row:wr.ownsRow w.heap.size 41 2 v ps.length (lu ps vs)
 le:ps.length≤20
 eq:MX cf 0 l=Rs.next (MX cf ps.length t) fun qs u=>.ok (ps++qs,u)
def zL(w:World)(base:Nat)(v:Value)(ps:List Pm):Prop:=∃vs:List Value,vs.length=ps.length∧(∀(i:Nat) (p:Pm) (u:Value),ps[i]?=some p→vs[i]?=some u→acg w base u p.2)∧w.ownsRow base 41 2 v ps.length (lu ps vs)
theorem zL.params{w:World}{base:Nat}{v:Value}{ps:List Pm}(h:zL w base v ps):eu w v ps:=by
 obtain⟨vs,h1,h2,h3⟩:=h
 exact uY h1 (fun i p u hp hu=>qO (h2 i p u hp hu)) h3
theorem zL.kept{w w':World}{base:Nat}{v:Value}{ps:List Pm}{k:Nat}(h:zL w base v ps)(g:w.grownBy w' (some k))(hk:k<base):zL w' base v ps:=by
 obtain⟨vs,h1,h2,h3⟩:=h
 exact⟨vs,h1,fun i p u hp hu=>(h2 i p u hp hu).kept g (l9 (h2 i p u hp hu) hk),h3.kept g (l9 h3 hk)⟩
theorem zL.grow{w w':World}{base:Nat}{v:Value}{ps:List Pm}(h:zL w base v ps)(g:G w w'):zL w' base v ps:=by
 have e:∀v:Value,v.ownBlock=none∨v.ownBlock≠none:=fun v=>by cases v.ownBlock with|none=>exact .inl rfl|some _=>exact .inr (by simp)
 obtain⟨vs,h1,h2,h3⟩:=h
 exact⟨vs,h1,fun i p u hp hu=>(h2 i p u hp hu).kept (rM none g) (e _),h3.kept (rM none g) (e _)⟩
theorem ach.params{w wr:World}{R:Nat}{s:L8}{cf:Bool}{l:L8}{v:Value}{ps:List Pm}{vs:List Value}{t:L8}(h:ach w wr R s cf l v ps vs t):zL wr w.heap.size v ps:=⟨vs,h.len,h.own,h.row⟩
section
variable {w wr:World} {R:Nat} {s:L8} {cf:Bool} {l:L8} {v:Value} {ps:List Pm} {vs:List Value} {t:L8}
end
end Go.Proofs.YtmffejnigppbpaaGreatDoor

namespace Go.Proofs.YtmffejnigppbpaaGreatDoor
open Go.RowKit
@[go_sem] theorem acf(v:Value)(w:World):(Instr.typeAssert (.iface 295 v) 20 295 true).run Tryz.prog w=.ok (.tuple #[v,.bool true]) w:=by kernel_rfl
end Go.Proofs.YtmffejnigppbpaaGreatDoor

namespace Go.Proofs.YtmffejnigppbpaaGreatDoor
open Go.RowKit
def lnV(p:Ln)(pv:Value):Value:=.agg #[.string (S p.hd.group),.string (S p.hd.name),pv,.string (S p.value)]
def Ya(x:Except Er Ln)(v:Value)(w:World):Prop:=
 match x with
 |.ok p=>∃pv,v=.tuple #[lnV p pv,.nilIface]∧eu w pv p.hd.params
 |.error (c,k)=>∃e,v=.tuple #[.agg #[.string (S []),.string (S []),.slice none 0 0,.string (S [])],e]∧ji w e c k
def RZ(n:Nat)(x:Except Er Ln)(v:Value)(w:World):Prop:=
 match x with
 |.ok p=>∃pv base,v=.tuple #[lnV p pv,.nilIface]∧n≤base∧zL w base pv p.hd.params
 |.error (c,k)=>∃e,v=.tuple #[.agg #[.string (S []),.string (S []),.slice none 0 0,.string (S [])],e]∧ji w e c k
theorem RZ.p{n:Nat}{x:Except Er Ln}{v:Value}{w:World}(h:RZ n x v w):Ya x v w:=by
 unfold RZ at h
 unfold Ya
 split at h
 ·obtain⟨pv,_,e,_,ho⟩:=h
  exact⟨pv,e,ho.params⟩
 ·exact h
structure abv(w wx:World)(P E R:Nat)(s:L8)(cf:Bool)(g n:L8)(pv:Value)(v l:L8):Prop where
 gg:G w wx
 pp:wx.heap[P]?=some (.cells #[.string (S g),.string (S n),pv,.string (S v)] 109)
 ee:wx.heap[E]?=some (.cells #[.nilIface] 28)
 rr:LRd wx R s cf l
section
variable {w wx wy:World} {P E R:Nat} {s:L8} {cf:Bool} {g n:L8} {pv:Value} {v l:L8}
theorem abv.put{j:Nat}{x:Value}{g' n':L8}{pv':Value}{v':L8}(h:abv w wx P E R s cf g n pv v l)(hw:w.heap.size≤P)(hP:P≠R)(hE:E≠P)(e:(#[.string (S g),.string (S n),pv,.string (S v)]:Array Value).setIfInBounds j x=#[.string (S g'),.string (S n'),pv',.string (S v')]):abv w (wx.setCell ⟨P,j,none⟩ x) P E R s cf g' n' pv' v' l:=by
 refine⟨h.gg.below.setCell hw _,YE h.pp e,by rw[Below.heap_setCell _ _ _ _ hE];exact h.ee,?_⟩
 obtain⟨p,e,hr⟩:=h.rr
 refine⟨p,e,?_⟩
 show(wx.setCell _ _).heap[R]?=_
 rw[Below.heap_setCell _ _ _ _ (Ne.symm hP)];exact hr
end
section
variable {cf:Bool} {s:L8}
end
end Go.Proofs.YtmffejnigppbpaaGreatDoor

namespace Go.Proofs.YtmffejnigppbpaaGreatDoor
open Go.RowKit
theorem oN(p:Pm)(ps:List Pm):fK (p::ps)=1+gG p+fK ps:=by unfold fK;simp only[List.length_cons,List.map_cons,List.sum_cons];omega
def Yg(w:World)(B:Nat)(p:Ln)(pv:Value):Prop:=w.heap[B]?=some (.cells #[.string (S p.hd.group),.string (S p.hd.name),pv,.string (S p.value)] 109)
section
variable {w w':World} {B:Nat} {p:Ln} {pv:Value}
theorem Yg.grow(h:Yg w B p pv)(g:G w w'):Yg w' B p pv:=(g.below.block B (dn h)).trans h
theorem Yg.lt(h:Yg w B p pv):B<w.heap.size:=dn h
end
end Go.Proofs.YtmffejnigppbpaaGreatDoor

set_option maxHeartbeats 4000000
set_option maxRecDepth 100000
namespace Go.Proofs.YtmffejnigppbpaaGreatDoor
open Go.RowKit
theorem Xg(w:World)(o:Obj)(n:Nat)(h:n=w.heap.size):(w.alloc o).heap[n]?=some o:=by subst h;exact heap_alloc_new w o
theorem ab6(w:World)(o0 o1 o2 o3 o4 o5 o6 o7:Obj)(W:World)(hW:((((((((w.alloc o0).alloc o1).alloc o2).alloc o3).alloc o4).alloc o5).alloc o6).alloc o7)=W) :
  W.heap[w.heap.size+1]?=some o1∧W.heap[w.heap.size+2]?=some o2∧W.heap[w.heap.size+3]?=some o3∧W.heap[w.heap.size+4]?=some o4∧W.heap[w.heap.size+5]?=some o5∧W.heap[w.heap.size+6]?=some o6∧W.heap[w.heap.size+7]?=some o7:=by
 subst hW
 refine⟨?_,?_,?_,?_,?_,?_,?_⟩<;>repeat (first|exact Xg _ _ _ (by simp)|rw[Lib.alloc_old _ _ _ (by simp)]|rw[Lib.alloc_old _ _ _ (by simp;omega)])
def Uf:It:=⟨[],[70,78],[],⟨1,[65,110,110],[],St0,0⟩⟩
def QC:It:=⟨[],[78],[],⟨3,[],[[[65]],[[65,110,110]],[[]],[[]],[[]]],St0,0⟩⟩
def Gi:List It:=[Uf,QC]
def Js(W:World)(v:Value)(s:List UInt8):Prop:=∃b,v=.slice (some ⟨b,0,none⟩) 1 1∧W.heap[b]?=some (.cells #[.string (S s)] 9 (0,0))
theorem Js.grow{W W':World}{v:Value}{s:List UInt8}(h:Js W v s)(g:G W W'):Js W' v s:=by
 obtain⟨b,e,h⟩:=h
 exact⟨b,e,(g.below.block b (Array.getElem?_eq_some_iff.1 h).1).trans h⟩
theorem Js.strs{W:World}{v:Value}{s:List UInt8}(h:Js W v s):di W v [s]:=by
 obtain⟨b,rfl,h⟩:=h
 refine⟨⟨rfl,by simp[Value.oneCell'],.inr ⟨b,0,1,rfl,(Array.getElem?_eq_some_iff.1 h).1,Nat.le_refl _,fun j hj=>?_⟩⟩,Nat.le_refl _⟩
 have hj0:j=0:=by simp at hj;omega
 subst hj0
 rw[cell_of_row W b _ _ _ _ h];rfl
theorem ab7(W:World):dG W Uf (.slice none 0 0) (.slice none 0 0):=
 ⟨⟨_,_,rfl,Nat.le_refl _,fun h=>absurd rfl h⟩,⟨[],⟨rfl,by simp,.inl ⟨rfl,.inl rfl⟩⟩,Nat.le_refl _,by simp[Uf]⟩,.inl rfl,by decide,by decide⟩
theorem acz{W:World}{a:Option Addr}(h:fA W (.slice a 5 5) QC.v.ps):dG W QC (.slice none 0 0) (.slice a 5 5):=
 ⟨⟨_,_,rfl,Nat.le_refl _,fun h=>absurd rfl h⟩,h,.inl rfl,by decide,by decide⟩
theorem Zm(ver:Int)(w:World):dP 49 #[.int .i64 ver] w (fun v w'=>∃u,v=gY ver u∧dX w' u Gi∧∃b c,u=.slice (some b) 2 c):=by
 go_enter Tryz.func49,Tryz.ntmps49
 go_wp2_with fail
 refine bodyPost_ret (v:=gY ver (.slice (some ⟨w.heap.size+7,0,none⟩) 2 2)) ?_ rfl ⟨_,rfl,⟨_,rfl,?_,_,_,rfl⟩,?_⟩
 ·unfold gY
  simp only[results,Tryz.f49]
  go_simp
 ·generalize hW:((((((((w.alloc _).alloc _).alloc _).alloc _).alloc _).alloc _).alloc _).alloc _)=W
  obtain⟨e1,e2,e3,e4,e5,e6,e7⟩:=ab6 _ _ _ _ _ _ _ _ _ _ hW
  clear hW
  have s1:di W (.slice (some ⟨w.heap.size+1,0,none⟩) 1 1) [[65]]:=Js.strs ⟨_,rfl,e1⟩
  have s2:di W (.slice (some ⟨w.heap.size+2,0,none⟩) 1 1) [[65,110,110]]:=Js.strs ⟨_,rfl,e2⟩
  have s3:di W (.slice (some ⟨w.heap.size+3,0,none⟩) 1 1) [[]]:=Js.strs ⟨_,rfl,e3⟩
  have s4:di W (.slice (some ⟨w.heap.size+4,0,none⟩) 1 1) [[]]:=Js.strs ⟨_,rfl,e4⟩
  have s5:di W (.slice (some ⟨w.heap.size+5,0,none⟩) 1 1) [[]]:=Js.strs ⟨_,rfl,e5⟩
  have hl:fA W (.slice (some ⟨w.heap.size+6,0,none⟩) 5 5) QC.v.ps:=by
   refine⟨[.slice (some ⟨w.heap.size+1,0,none⟩) 1 1,.slice (some ⟨w.heap.size+2,0,none⟩) 1 1,.slice (some ⟨w.heap.size+3,0,none⟩) 1 1,.slice (some ⟨w.heap.size+4,0,none⟩) 1 1,.slice (some ⟨w.heap.size+5,0,none⟩) 1 1],⟨rfl,by simp[Value.oneCell'],.inr ⟨w.heap.size+6,0,5,rfl,(Array.getElem?_eq_some_iff.1 e6).1,by simp[QC],fun j hj=>?_⟩⟩,Nat.le_refl _,fun i l hi=>?_⟩
   ·rw[cell_of_row W _ _ _ _ _ e6,Nat.zero_add];simp
   ·match i,hi with
    |0,hi=>cases hi;exact⟨_,rfl,s1⟩
    |1,hi=>cases hi;exact⟨_,rfl,s2⟩
    |2,hi=>cases hi;exact⟨_,rfl,s3⟩
    |3,hi=>cases hi;exact⟨_,rfl,s4⟩
    |4,hi=>cases hi;exact⟨_,rfl,s5⟩
    |n+5,hi=>simp[QC]at hi
  exact sZ (xs:=Gi) (cap:=2) ⟨_,_,_,rfl,ab7 W,_,_,_,rfl,acz hl,rfl⟩ (Array.getElem?_eq_some_iff.1 e7).1 (fun j u hu=>by
   rw[cell_of_row W _ _ _ _ _ e7,Nat.zero_add]
   rw[List.getElem?_toArray]
   exact hu) (Nat.le_refl _)
 ·repeat (first|exact G.refl _|refine G.alloc ?_ _)
end Go.Proofs.YtmffejnigppbpaaGreatDoor
