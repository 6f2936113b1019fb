/-
  Texts merged into one: CardPlain, ValWrite, RulesNames4, Ann.
-/
import Derived.Test.YtmffejnigppbpaaGreatDoorDXMA75
import Derived.Test.YtmffejnigppbpaaGreatDoorDXLinePrint
import Derived.Test.YtmffejnigppbpaaGreatDoorDXMVal
import Derived.Test.YtmffejnigppbpaaGreatDoorDXMA71
import Derived.Test.YtmffejnigppbpaaGreatDoorDXMRules
import Derived.Test.YtmffejnigppbpaaGreatDoorDXValRight
import Derived.Test.YtmffejnigppbpaaGreatDoorDXMA70
import Derived.Test.YtmffejnigppbpaaGreatDoorDXMA77
import Derived.Test.YtmffejnigppbpaaGreatDoorDXMA52
import Derived.RangeFuncBox
import Derived.OwnWalkIn
import Derived.Test.YtmffejnigppbpaaGreatDoorDXMA63
import Derived.Test.YtmffejnigppbpaaGreatDoorDXMVeil
set_option linter.unusedVariables false
set_option linter.unusedSimpArgs false
namespace Go.Proofs.YtmffejnigppbpaaGreatDoor
open Go.RowKit
def aq5:List UInt8:=[66,69,71,73,78]
def aya:List UInt8:=[69,78,68]
def alV:List UInt8:=[86,69,82,83,73,79,78]
def ajr:List UInt8:=[84,89,80,69]
def agp(n:List UInt8):Bool:=Eg n==aq5||Eg n==aya||Eg n==alV
def alW(ps:List Pm)(i:Nat):Int:=
 let p:=ps.getD i ([],[])
 if afT (Eg p.1) p.2=false then 3 else if aeu p.1 ajr=false∧akZ (afm ps p.1)<i then 9 else 0
def ajs(ps:List Pm):Bool:=(List.range ps.length).all fun i=>alW ps i==0
def acM(v:Int)(n:List UInt8):Int×Int×Int×Int:=acX (UG v) (Eg n)
def lnX(x:It)(t:List UInt8):Ln:=⟨⟨x.g,x.n,x.ps⟩,t⟩
def aey(v:Int)(x:It):List UInt8:=if acL (v==4) (lnX x x.v.text)=none then aeC (v==4) (lnX x x.v.text)else[]
def aee(v:Int)(x:It):Bool:=(acL (v==4) (lnX x [])).isNone && !agp x.n&&ajs x.ps&&typeOf (acM v x.n).1 x.ps==x.v.ty
def akL(v:Int)(x:It):Bool:=!(decide (x.v.ty=3∧0<(acM v x.n).2.2.2∧(x.v.ps.length:Int)≠(acM v x.n).2.2.2))&&decide ((aey v x).length≤1500)
def adY(v:Int)(x:It):Bool:=aee v x&&x.v.ok&&akL v x
def aek(n:List UInt8)(ns:List (List UInt8)):Nat:=(ns.filter fun x=>Eg x==n).length
def aeR(v:Int)(ns:List (List UInt8))(i:Nat):Bool:=match ns[i]? with
 |some n=>!(decide (0<(acM v n).2.2.1∧(acM v n).2.2.1<(aek (Eg n) (ns.take (i+1)):Int)))
 |none=>true
def afQ(v:Int)(ns:List (List UInt8)):Bool:=(List.range ns.length).all fun i=>aeR v ns i
def aki(v:Int)(ns:List (List UInt8)):Bool:=(UG v).all fun e=>!(decide ((aek e.name ns:Int)<(acM v e.name).2.1))
def acN(v:Int)(xs:List It):Bool:=decide (v=3∨v=4)&&decide (xs.length≤60)&&xs.all (adY v)&&afQ v (xs.map It.n)&&aki v (xs.map It.n)
theorem as5(t:St):t.text.length≤40:=by
 have hd:t.date.length≤10:=by unfold St.date;split<;>split<;>split<;>simp[uS]
 have hc:t.clock.length≤9:=by
  unfold St.clock
  simp only[List.length_append]
  have h1:(if t.h = -1 then[45] else Jb t.h 2).length≤2:=by split<;>simp[uS]
  have h2:(if t.n = -1 then(if t.h = -1 then[45] else[])else Jb t.n 2).length≤2:=by split<;>(try split)<;>simp[uS]
  have h3:(if t.s = -1 then(if t.h = -1∧t.n = -1 then[45] else[])else Jb t.s 2).length≤2:=by split<;>(try split)<;>simp[uS]
  omega
 have hz:(if t.zd then adA t.zn else[]).length≤5:=by
  split
  ·unfold adA;split<;>(try split)<;>simp[aiw]
  ·simp
 unfold St.text
 split
 ·omega
 ·simp only[List.length_append,List.length_cons];omega
structure Sml(x:It):Prop where
 h:x.g.length+x.n.length+adm x.ps≤10000
 t:x.v.tx.length≤4900
 p:acY x.v.ps≤4900
theorem auL{x:It}(h:Sml x):x.v.text.length≤10000:=by
 have h1:=ao2 x.v.tx
 have h2:=aqA x.v.ps
 have h3:=as5 x.v.st
 have hz:(adA x.v.n).length≤5:=by unfold adA;split<;>(try split)<;>simp[aiw]
 have h4:=h.t
 have h5:=h.p
 unfold Vl.text
 split
 ·omega
 split
 ·omega
 split
 ·omega
 split
 ·omega
 ·omega
theorem Sml.bounds{x:It}(h:Sml x):x.g.length≤10000∧x.n.length≤10000∧adm x.ps≤10000∧x.v.tx.length≤100000∧acY x.v.ps≤100000∧x.v.text.length≤10000:=by
 have h1:=h.h
 have h2:=h.t
 have h3:=h.p
 exact⟨by omega,by omega,by omega,by omega,by omega,auL h⟩
theorem awt{ps:List Pm}{i:Nat}(h:i<ps.length):alW ps i=if afT (Eg ps[i].1) ps[i].2=false then 3 else if aeu ps[i].1 ajr=false∧akZ (afm ps ps[i].1)<i then 9 else 0:=by
 unfold alW
 simp only[List.getD_eq_getElem?_getD,List.getElem?_eq_getElem h,Option.getD_some]
theorem as6{ps:List Pm}(h:∀i,i<ps.length→alW ps i=0):ajs ps=true:=by
 unfold ajs
 rw[List.all_eq_true]
 intro i hi
 rw[h i (List.mem_range.1 hi)];rfl
theorem apH{ps:List Pm}{i:Nat}(h:i<ps.length)(hi:alW ps i≠0):ajs ps=false:=by
 unfold ajs
 rw[List.all_eq_false]
 exact⟨i,List.mem_range.2 h,by simpa using hi⟩
end Go.Proofs.YtmffejnigppbpaaGreatDoor

set_option maxHeartbeats 4000000
set_option maxRecDepth 100000
namespace Go.Proofs.YtmffejnigppbpaaGreatDoor
open Go.RowKit
def adz(x:Vl)(r:Value):Prop:=if x.ok=true then r=.tuple #[.string (S x.text),.nilIface] else ∃c,r=.tuple #[.string (S []),eno c]
theorem adz.yes{x:Vl}{t:List UInt8}(h:x.ok=true)(ht:x.text=t):adz x (.tuple #[.string (S t),.nilIface]):=by unfold adz;rw[if_pos h,ht]
theorem adz.no{x:Vl}(c:Int)(h:x.ok=false):adz x (.tuple #[.string (S []),eno c]):=by unfold adz;rw[if_neg (by simp[h])];exact⟨c,rfl⟩
theorem ahW{x:Vl}(h:x.ok=true):(1≤x.ty∧x.ty<9)∧x.only=true∧x.body=true:=by
 unfold Vl.ok at h
 simp only[Bool.and_eq_true,decide_eq_true_eq]at h
 exact⟨h.1.1,h.1.2,h.2⟩
theorem auf(ty:Int)(tx:List UInt8)(a:Option Addr)(cap:Nat)(ps:List (List (List UInt8)))(y m d h nn s:Int)(zd:Bool)(zn n:Int)(w:World)(hL:Uw w (.slice a ps.length cap) ps)(h1:tx.length≤100000)(h2:acY ps≤100000)(hy : -9223372036854775808≤y∧y≤9223372036854775807)(hM:aer w)(hE:UO w)(hok:(⟨ty,tx,ps,⟨y,m,d,h,nn,s,zd,zn⟩,n⟩:Vl).ok=false):Uz 118 #[(⟨ty,tx,ps,⟨y,m,d,h,nn,s,zd,zn⟩,n⟩:Vl).v (.slice a ps.length cap)] w (fun r _=>adz (⟨ty,tx,ps,⟨y,m,d,h,nn,s,zd,zn⟩,n⟩:Vl) r):=by
 have HOK:=hid hok
 have HL:=hid hL
 have HM:=hid hM
 have HE:=hid hE
 have HY:=hid hy
 have H1:=hid h1
 have H2:=hid h2
 clear hok hL hM hE hy h1 h2
 have HR:=hid (fun W (g:G w W)=>adW (⟨ty,tx,ps,⟨y,m,d,h,nn,s,zd,zn⟩,n⟩:Vl) (.slice a ps.length cap) W (HL.out.grow g) H1.out H2.out HY.out (HM.out.grow g) (HE.out.grow g))
 simp only[Vl.v]at HR⊢
 go_enter Tryz.func118,Tryz.ntmps118
 go_wp2_with fail
 refine(HR.out _ ((G.refl w).alloc _)).use ?_
 intro r w2 hr g2
 unfold acI at hr
 rw[HOK.out]at hr
 have r2:=hid (adB g2)
 have G2:=hid (((G.refl w).alloc _).trans g2)
 clear g2
 obtain⟨e0,e1,e2,e3,e4,e5,e6,e7,e8,e9,e10,e11⟩:=adl r2.out
 rw[if_neg (by decide)]at hr
 obtain⟨c,rfl,_⟩:=hr
 go_wp2_with fail
 go_ret2
 exact⟨_,rfl,adz.no c HOK.out,G2.out⟩
theorem axx(tx:List UInt8)(a:Option Addr)(cap:Nat)(ps:List (List (List UInt8)))(y m d h nn s:Int)(zd:Bool)(zn n:Int)(w:World)(hL:Uw w (.slice a ps.length cap) ps)(h1:tx.length≤100000)(h2:acY ps≤100000)(hy : -9223372036854775808≤y∧y≤9223372036854775807)(hM:aer w)(hE:UO w)(hok:(⟨1,tx,ps,⟨y,m,d,h,nn,s,zd,zn⟩,n⟩:Vl).ok=true):Uz 118 #[(⟨1,tx,ps,⟨y,m,d,h,nn,s,zd,zn⟩,n⟩:Vl).v (.slice a ps.length cap)] w (fun r _=>adz (⟨1,tx,ps,⟨y,m,d,h,nn,s,zd,zn⟩,n⟩:Vl) r):=by
 have HOK:=hid hok
 have HL:=hid hL
 have HM:=hid hM
 have HE:=hid hE
 have HY:=hid hy
 have H1:=hid h1
 have H2:=hid h2
 clear hok hL hM hE hy h1 h2
 have HR:=hid (fun W (g:G w W)=>adW (⟨1,tx,ps,⟨y,m,d,h,nn,s,zd,zn⟩,n⟩:Vl) (.slice a ps.length cap) W (HL.out.grow g) H1.out H2.out HY.out (HM.out.grow g) (HE.out.grow g))
 simp only[Vl.v]at HR⊢
 go_enter Tryz.func118,Tryz.ntmps118
 go_wp2_with fail
 refine(HR.out _ ((G.refl w).alloc _)).use ?_
 intro r w2 hr g2
 unfold acI at hr
 rw[HOK.out]at hr
 have r2:=hid (adB g2)
 have G2:=hid (((G.refl w).alloc _).trans g2)
 clear g2
 obtain⟨e0,e1,e2,e3,e4,e5,e6,e7,e8,e9,e10,e11⟩:=adl r2.out
 rw[if_pos rfl]at hr
 subst hr
 go_wp2_with fail
 refine(amb tx _ H1.out).use ?_
 intro w3 g3
 go_wp2_with fail
 go_ret2
 exact⟨_,rfl,adz.yes HOK.out rfl,G2.out.trans g3⟩
theorem axy(tx:List UInt8)(a:Option Addr)(cap:Nat)(ps:List (List (List UInt8)))(y m d h nn s:Int)(zd:Bool)(zn n:Int)(w:World)(hL:Uw w (.slice a ps.length cap) ps)(h1:tx.length≤100000)(h2:acY ps≤100000)(hy : -9223372036854775808≤y∧y≤9223372036854775807)(hM:aer w)(hE:UO w)(hok:(⟨2,tx,ps,⟨y,m,d,h,nn,s,zd,zn⟩,n⟩:Vl).ok=true):Uz 118 #[(⟨2,tx,ps,⟨y,m,d,h,nn,s,zd,zn⟩,n⟩:Vl).v (.slice a ps.length cap)] w (fun r _=>adz (⟨2,tx,ps,⟨y,m,d,h,nn,s,zd,zn⟩,n⟩:Vl) r):=by
 have HOK:=hid hok
 have HL:=hid hL
 have HM:=hid hM
 have HE:=hid hE
 have HY:=hid hy
 have H1:=hid h1
 have H2:=hid h2
 clear hok hL hM hE hy h1 h2
 have HR:=hid (fun W (g:G w W)=>adW (⟨2,tx,ps,⟨y,m,d,h,nn,s,zd,zn⟩,n⟩:Vl) (.slice a ps.length cap) W (HL.out.grow g) H1.out H2.out HY.out (HM.out.grow g) (HE.out.grow g))
 simp only[Vl.v]at HR⊢
 go_enter Tryz.func118,Tryz.ntmps118
 go_wp2_with fail
 refine(HR.out _ ((G.refl w).alloc _)).use ?_
 intro r w2 hr g2
 unfold acI at hr
 rw[HOK.out]at hr
 have r2:=hid (adB g2)
 have G2:=hid (((G.refl w).alloc _).trans g2)
 clear g2
 obtain⟨e0,e1,e2,e3,e4,e5,e6,e7,e8,e9,e10,e11⟩:=adl r2.out
 rw[if_pos rfl]at hr
 subst hr
 have hbody:=(ahW HOK.out).2.2
 have hne:ps≠[]∧∀l∈ps,l≠[]:=by
  have h0:ps≠[]:=by
   intro e
   rw[aep (x:=(⟨2,tx,ps,⟨y,m,d,h,nn,s,zd,zn⟩,n⟩:Vl)) (.inl rfl) (.inl e)]at hbody
   cases hbody
  refine⟨h0,?_⟩
  by_cases hb:((2:Int)=2∧ps.length≠1)
  ·rw[aep (x:=(⟨2,tx,ps,⟨y,m,d,h,nn,s,zd,zn⟩,n⟩:Vl)) (.inl rfl) (.inr hb)]at hbody
   cases hbody
  ·exact((ahm (x:=(⟨2,tx,ps,⟨y,m,d,h,nn,s,zd,zn⟩,n⟩:Vl)) (.inl rfl) h0 hb).1 hbody).1
 have HNE:=hid hne
 clear hbody hne
 go_wp2_with fail
 refine(aiQ (.slice a ps.length cap) ps _ (HL.out.grow G2.out) H2.out).use ?_
 intro v w3 hv g3
 obtain rfl:=an7 hv HNE.out.1 HNE.out.2
 go_wp2_with fail
 go_ret2
 exact⟨_,rfl,adz.yes HOK.out rfl,G2.out.trans g3⟩
theorem axz(tx:List UInt8)(a:Option Addr)(cap:Nat)(ps:List (List (List UInt8)))(y m d h nn s:Int)(zd:Bool)(zn n:Int)(w:World)(hL:Uw w (.slice a ps.length cap) ps)(h1:tx.length≤100000)(h2:acY ps≤100000)(hy : -9223372036854775808≤y∧y≤9223372036854775807)(hM:aer w)(hE:UO w)(hok:(⟨3,tx,ps,⟨y,m,d,h,nn,s,zd,zn⟩,n⟩:Vl).ok=true):Uz 118 #[(⟨3,tx,ps,⟨y,m,d,h,nn,s,zd,zn⟩,n⟩:Vl).v (.slice a ps.length cap)] w (fun r _=>adz (⟨3,tx,ps,⟨y,m,d,h,nn,s,zd,zn⟩,n⟩:Vl) r):=by
 have HOK:=hid hok
 have HL:=hid hL
 have HM:=hid hM
 have HE:=hid hE
 have HY:=hid hy
 have H1:=hid h1
 have H2:=hid h2
 clear hok hL hM hE hy h1 h2
 have HR:=hid (fun W (g:G w W)=>adW (⟨3,tx,ps,⟨y,m,d,h,nn,s,zd,zn⟩,n⟩:Vl) (.slice a ps.length cap) W (HL.out.grow g) H1.out H2.out HY.out (HM.out.grow g) (HE.out.grow g))
 simp only[Vl.v]at HR⊢
 go_enter Tryz.func118,Tryz.ntmps118
 go_wp2_with fail
 refine(HR.out _ ((G.refl w).alloc _)).use ?_
 intro r w2 hr g2
 unfold acI at hr
 rw[HOK.out]at hr
 have r2:=hid (adB g2)
 have G2:=hid (((G.refl w).alloc _).trans g2)
 clear g2
 obtain⟨e0,e1,e2,e3,e4,e5,e6,e7,e8,e9,e10,e11⟩:=adl r2.out
 rw[if_pos rfl]at hr
 subst hr
 have hbody:=(ahW HOK.out).2.2
 have hne:ps≠[]∧∀l∈ps,l≠[]:=by
  have h0:ps≠[]:=by
   intro e
   rw[aep (x:=(⟨3,tx,ps,⟨y,m,d,h,nn,s,zd,zn⟩,n⟩:Vl)) (.inr rfl) (.inl e)]at hbody
   cases hbody
  refine⟨h0,?_⟩
  by_cases hb:((3:Int)=2∧ps.length≠1)
  ·rw[aep (x:=(⟨3,tx,ps,⟨y,m,d,h,nn,s,zd,zn⟩,n⟩:Vl)) (.inr rfl) (.inr hb)]at hbody
   cases hbody
  ·exact((ahm (x:=(⟨3,tx,ps,⟨y,m,d,h,nn,s,zd,zn⟩,n⟩:Vl)) (.inr rfl) h0 hb).1 hbody).1
 have HNE:=hid hne
 clear hbody hne
 go_wp2_with fail
 refine(aiQ (.slice a ps.length cap) ps _ (HL.out.grow G2.out) H2.out).use ?_
 intro v w3 hv g3
 obtain rfl:=an7 hv HNE.out.1 HNE.out.2
 go_wp2_with fail
 go_ret2
 exact⟨_,rfl,adz.yes HOK.out rfl,G2.out.trans g3⟩
theorem axA(tx:List UInt8)(a:Option Addr)(cap:Nat)(ps:List (List (List UInt8)))(y m d h nn s:Int)(zd:Bool)(zn n:Int)(w:World)(hL:Uw w (.slice a ps.length cap) ps)(h1:tx.length≤100000)(h2:acY ps≤100000)(hy : -9223372036854775808≤y∧y≤9223372036854775807)(hM:aer w)(hE:UO w)(hok:(⟨4,tx,ps,⟨y,m,d,h,nn,s,zd,zn⟩,n⟩:Vl).ok=true):Uz 118 #[(⟨4,tx,ps,⟨y,m,d,h,nn,s,zd,zn⟩,n⟩:Vl).v (.slice a ps.length cap)] w (fun r _=>adz (⟨4,tx,ps,⟨y,m,d,h,nn,s,zd,zn⟩,n⟩:Vl) r):=by
 have HOK:=hid hok
 have HL:=hid hL
 have HM:=hid hM
 have HE:=hid hE
 have HY:=hid hy
 have H1:=hid h1
 have H2:=hid h2
 clear hok hL hM hE hy h1 h2
 have HR:=hid (fun W (g:G w W)=>adW (⟨4,tx,ps,⟨y,m,d,h,nn,s,zd,zn⟩,n⟩:Vl) (.slice a ps.length cap) W (HL.out.grow g) H1.out H2.out HY.out (HM.out.grow g) (HE.out.grow g))
 simp only[Vl.v]at HR⊢
 go_enter Tryz.func118,Tryz.ntmps118
 go_wp2_with fail
 refine(HR.out _ ((G.refl w).alloc _)).use ?_
 intro r w2 hr g2
 unfold acI at hr
 rw[HOK.out]at hr
 have r2:=hid (adB g2)
 have G2:=hid (((G.refl w).alloc _).trans g2)
 clear g2
 obtain⟨e0,e1,e2,e3,e4,e5,e6,e7,e8,e9,e10,e11⟩:=adl r2.out
 rw[if_pos rfl]at hr
 subst hr
 go_wp2_with fail
 go_ret2
 exact⟨_,rfl,adz.yes HOK.out rfl,G2.out⟩
theorem axB(tx:List UInt8)(a:Option Addr)(cap:Nat)(ps:List (List (List UInt8)))(y m d h nn s:Int)(zd:Bool)(zn n:Int)(w:World)(hL:Uw w (.slice a ps.length cap) ps)(h1:tx.length≤100000)(h2:acY ps≤100000)(hy : -9223372036854775808≤y∧y≤9223372036854775807)(hM:aer w)(hE:UO w)(hok:(⟨5,tx,ps,⟨y,m,d,h,nn,s,zd,zn⟩,n⟩:Vl).ok=true):Uz 118 #[(⟨5,tx,ps,⟨y,m,d,h,nn,s,zd,zn⟩,n⟩:Vl).v (.slice a ps.length cap)] w (fun r _=>adz (⟨5,tx,ps,⟨y,m,d,h,nn,s,zd,zn⟩,n⟩:Vl) r):=by
 have HOK:=hid hok
 have HL:=hid hL
 have HM:=hid hM
 have HE:=hid hE
 have HY:=hid hy
 have H1:=hid h1
 have H2:=hid h2
 clear hok hL hM hE hy h1 h2
 have HR:=hid (fun W (g:G w W)=>adW (⟨5,tx,ps,⟨y,m,d,h,nn,s,zd,zn⟩,n⟩:Vl) (.slice a ps.length cap) W (HL.out.grow g) H1.out H2.out HY.out (HM.out.grow g) (HE.out.grow g))
 simp only[Vl.v]at HR⊢
 go_enter Tryz.func118,Tryz.ntmps118
 go_wp2_with fail
 refine(HR.out _ ((G.refl w).alloc _)).use ?_
 intro r w2 hr g2
 unfold acI at hr
 rw[HOK.out]at hr
 have r2:=hid (adB g2)
 have G2:=hid (((G.refl w).alloc _).trans g2)
 clear g2
 obtain⟨e0,e1,e2,e3,e4,e5,e6,e7,e8,e9,e10,e11⟩:=adl r2.out
 rw[if_pos rfl]at hr
 subst hr
 have hb:(⟨y,m,d,h,nn,s,zd,zn⟩:St).right=0:=by
  have:decide ((⟨y,m,d,h,nn,s,zd,zn⟩:St).right=0)=true:=(ahW HOK.out).2.2
  simpa using this
 have hp:=auk ⟨y,m,d,h,nn,s,zd,zn⟩ w2 (HM.out.grow G2.out) hb
 obtain⟨t,ht⟩:∃t,(⟨y,m,d,h,nn,s,zd,zn⟩:St).text=t:=⟨_,rfl⟩
 rw[ht]at hp
 have HP:=hid hp
 have HT:Hid ((⟨5,tx,ps,⟨y,m,d,h,nn,s,zd,zn⟩,n⟩:Vl).text=t):=hid ht
 simp only[St.v]at HP
 clear hb hp ht
 go_wp2_with fail
 refine(HP.out).use ?_
 intro w3 g3
 go_wp2_with fail
 go_ret2
 exact⟨_,rfl,adz.yes HOK.out HT.out,G2.out.trans g3⟩
theorem axC(tx:List UInt8)(a:Option Addr)(cap:Nat)(ps:List (List (List UInt8)))(y m d h nn s:Int)(zd:Bool)(zn n:Int)(w:World)(hL:Uw w (.slice a ps.length cap) ps)(h1:tx.length≤100000)(h2:acY ps≤100000)(hy : -9223372036854775808≤y∧y≤9223372036854775807)(hM:aer w)(hE:UO w)(hok:(⟨6,tx,ps,⟨y,m,d,h,nn,s,zd,zn⟩,n⟩:Vl).ok=true):Uz 118 #[(⟨6,tx,ps,⟨y,m,d,h,nn,s,zd,zn⟩,n⟩:Vl).v (.slice a ps.length cap)] w (fun r _=>adz (⟨6,tx,ps,⟨y,m,d,h,nn,s,zd,zn⟩,n⟩:Vl) r):=by
 have HOK:=hid hok
 have HL:=hid hL
 have HM:=hid hM
 have HE:=hid hE
 have HY:=hid hy
 have H1:=hid h1
 have H2:=hid h2
 clear hok hL hM hE hy h1 h2
 have HR:=hid (fun W (g:G w W)=>adW (⟨6,tx,ps,⟨y,m,d,h,nn,s,zd,zn⟩,n⟩:Vl) (.slice a ps.length cap) W (HL.out.grow g) H1.out H2.out HY.out (HM.out.grow g) (HE.out.grow g))
 simp only[Vl.v]at HR⊢
 go_enter Tryz.func118,Tryz.ntmps118
 go_wp2_with fail
 refine(HR.out _ ((G.refl w).alloc _)).use ?_
 intro r w2 hr g2
 unfold acI at hr
 rw[HOK.out]at hr
 have r2:=hid (adB g2)
 have G2:=hid (((G.refl w).alloc _).trans g2)
 clear g2
 obtain⟨e0,e1,e2,e3,e4,e5,e6,e7,e8,e9,e10,e11⟩:=adl r2.out
 rw[if_pos rfl]at hr
 subst hr
 have hb:adF n=true:=(ahW HOK.out).2.2
 have HB:=hid hb
 clear hb
 go_wp2_with fail
 refine(aiS n _ HB.out).use ?_
 intro w3 g3
 go_wp2_with fail
 go_ret2
 exact⟨_,rfl,adz.yes HOK.out rfl,G2.out.trans g3⟩
theorem axD(tx:List UInt8)(a:Option Addr)(cap:Nat)(ps:List (List (List UInt8)))(y m d h nn s:Int)(zd:Bool)(zn n:Int)(w:World)(hL:Uw w (.slice a ps.length cap) ps)(h1:tx.length≤100000)(h2:acY ps≤100000)(hy : -9223372036854775808≤y∧y≤9223372036854775807)(hM:aer w)(hE:UO w)(hok:(⟨7,tx,ps,⟨y,m,d,h,nn,s,zd,zn⟩,n⟩:Vl).ok=true):Uz 118 #[(⟨7,tx,ps,⟨y,m,d,h,nn,s,zd,zn⟩,n⟩:Vl).v (.slice a ps.length cap)] w (fun r _=>adz (⟨7,tx,ps,⟨y,m,d,h,nn,s,zd,zn⟩,n⟩:Vl) r):=by
 have HOK:=hid hok
 have HL:=hid hL
 have HM:=hid hM
 have HE:=hid hE
 have HY:=hid hy
 have H1:=hid h1
 have H2:=hid h2
 clear hok hL hM hE hy h1 h2
 have HR:=hid (fun W (g:G w W)=>adW (⟨7,tx,ps,⟨y,m,d,h,nn,s,zd,zn⟩,n⟩:Vl) (.slice a ps.length cap) W (HL.out.grow g) H1.out H2.out HY.out (HM.out.grow g) (HE.out.grow g))
 simp only[Vl.v]at HR⊢
 go_enter Tryz.func118,Tryz.ntmps118
 go_wp2_with fail
 refine(HR.out _ ((G.refl w).alloc _)).use ?_
 intro r w2 hr g2
 unfold acI at hr
 rw[HOK.out]at hr
 have r2:=hid (adB g2)
 have G2:=hid (((G.refl w).alloc _).trans g2)
 clear g2
 obtain⟨e0,e1,e2,e3,e4,e5,e6,e7,e8,e9,e10,e11⟩:=adl r2.out
 rw[if_pos rfl]at hr
 subst hr
 go_wp2_with fail
 go_ret2
 exact⟨_,rfl,adz.yes HOK.out rfl,G2.out⟩
theorem axE(tx:List UInt8)(a:Option Addr)(cap:Nat)(ps:List (List (List UInt8)))(y m d h nn s:Int)(zd:Bool)(zn n:Int)(w:World)(hL:Uw w (.slice a ps.length cap) ps)(h1:tx.length≤100000)(h2:acY ps≤100000)(hy : -9223372036854775808≤y∧y≤9223372036854775807)(hM:aer w)(hE:UO w)(hok:(⟨8,tx,ps,⟨y,m,d,h,nn,s,zd,zn⟩,n⟩:Vl).ok=true):Uz 118 #[(⟨8,tx,ps,⟨y,m,d,h,nn,s,zd,zn⟩,n⟩:Vl).v (.slice a ps.length cap)] w (fun r _=>adz (⟨8,tx,ps,⟨y,m,d,h,nn,s,zd,zn⟩,n⟩:Vl) r):=by
 have HOK:=hid hok
 have HL:=hid hL
 have HM:=hid hM
 have HE:=hid hE
 have HY:=hid hy
 have H1:=hid h1
 have H2:=hid h2
 clear hok hL hM hE hy h1 h2
 have HR:=hid (fun W (g:G w W)=>adW (⟨8,tx,ps,⟨y,m,d,h,nn,s,zd,zn⟩,n⟩:Vl) (.slice a ps.length cap) W (HL.out.grow g) H1.out H2.out HY.out (HM.out.grow g) (HE.out.grow g))
 simp only[Vl.v]at HR⊢
 go_enter Tryz.func118,Tryz.ntmps118
 go_wp2_with fail
 refine(HR.out _ ((G.refl w).alloc _)).use ?_
 intro r w2 hr g2
 unfold acI at hr
 rw[HOK.out]at hr
 have r2:=hid (adB g2)
 have G2:=hid (((G.refl w).alloc _).trans g2)
 clear g2
 obtain⟨e0,e1,e2,e3,e4,e5,e6,e7,e8,e9,e10,e11⟩:=adl r2.out
 rw[if_pos rfl]at hr
 subst hr
 go_wp2_with fail
 go_ret2
 exact⟨_,rfl,adz.yes HOK.out rfl,G2.out⟩
theorem ar9(x:Vl)(pv:Value)(w:World)(hL:Uw w pv x.ps)(h1:x.tx.length≤100000)(h2:acY x.ps≤100000)(hy : -9223372036854775808≤x.st.y∧x.st.y≤9223372036854775807)(hM:aer w)(hE:UO w):Uz 118 #[x.v pv] w (fun r _=>adz x r):=by
 obtain⟨a,cap,rfl,_⟩:=hL.len
 obtain⟨ty,tx,ps,⟨y,m,d,h,nn,s,zd,zn⟩,n⟩:=x
 simp only at hL h1 h2 hy
 cases ho:(⟨ty,tx,ps,⟨y,m,d,h,nn,s,zd,zn⟩,n⟩:Vl).ok with
 |false=>exact auf ty tx a cap ps y m d h nn s zd zn n w hL h1 h2 hy hM hE ho
 |true=>
  have hk:=(ahW ho).1
  simp only at hk
  have hty:ty=1∨ty=2∨ty=3∨ty=4∨ty=5∨ty=6∨ty=7∨ty=8:=by omega
  rcases hty with rfl|rfl|rfl|rfl|rfl|rfl|rfl|rfl
  ·exact axx tx a cap ps y m d h nn s zd zn n w hL h1 h2 hy hM hE ho
  ·exact axy tx a cap ps y m d h nn s zd zn n w hL h1 h2 hy hM hE ho
  ·exact axz tx a cap ps y m d h nn s zd zn n w hL h1 h2 hy hM hE ho
  ·exact axA tx a cap ps y m d h nn s zd zn n w hL h1 h2 hy hM hE ho
  ·exact axB tx a cap ps y m d h nn s zd zn n w hL h1 h2 hy hM hE ho
  ·exact axC tx a cap ps y m d h nn s zd zn n w hL h1 h2 hy hM hE ho
  ·exact axD tx a cap ps y m d h nn s zd zn n w hL h1 h2 hy hM hE ho
  ·exact axE tx a cap ps y m d h nn s zd zn n w hL h1 h2 hy hM hE ho
end Go.Proofs.YtmffejnigppbpaaGreatDoor

set_option maxHeartbeats 4000000
set_option maxRecDepth 100000
namespace Go.Proofs.YtmffejnigppbpaaGreatDoor
open Go.RowKit Go.Shelf
attribute [local go_sem] Oper.semAt_some
theorem atX(w:World)(hm:aer w) :
  CallsIn Fence.wide 6 Tryz.prog 66 #[.int .i64 4] w fun e w'=>∃v,e=.returned (.tuple #[v,.nilIface])∧w'.ownsRow w.heap.size 9 1 v (UG 4).length ((UG 4).map fun e=>.string (S e.name))∧Below w.heap.size w w':=by
 have tb:=fun W=>aik 4 W
 have TB:=hid tb
 clear tb
 obtain⟨i0,hi,hz0,hz1,hz2⟩:=info_parts anZ
 refine callsIn_of_wp_marks Tryz.func66 rfl trivial ?_ rfl
 simp only[Tryz.ntmps66,List.size_toArray,List.length_cons,List.length_nil,Nat.reduceAdd,Nat.reduceSub,Array.replicate_succ,Array.replicate_zero,List.push_toArray,List.append_toArray,List.nil_append,List.cons_append]
 gi_wp2_with (first|(refine⟨trivial,?_⟩;gi_at_call 57;refine(callsIn_wide.2 (TB.out _)).mono ?_;rintro e w' ⟨rfl,rfl⟩)|(refine⟨trivial,?_⟩;gi_at_call 56;refine(callsIn_wide.2 (afY _ _ _)).mono ?_;rintro e w' ⟨rfl,rfl⟩))
 obtain⟨p,ps,e1,e2,e3,e4⟩:=aii 4
 rw[e2]
 have bO:=Boxed.new w 39 (.slice none 0 0)
 generalize hW0:World.alloc _ (Obj.cells #[Value.int IntKind.i64 0] 3)=W0
 have z0:W0.heap.size=w.heap.size+4:=by rw[←hW0];simp
 have c2:W0.cell? ⟨w.heap.size+1,0,none⟩=some (.string (S (Uu [124] p ps))):=by rw[←hW0];simp[go_sem]
 have c3:W0.cell? ⟨w.heap.size+2,0,none⟩=some (.string (S [124])):=by rw[←hW0];simp[go_sem]
 have c4:W0.cell? ⟨w.heap.size+3,0,none⟩=some (.int .i64 0):=by rw[←hW0];simp[go_sem]
 have f2:W0.frozen? ⟨w.heap.size+1,0,none⟩=false:=by rw[←hW0];simp[go_sem]
 have hbx:Boxed W0 w.heap.size 39 (.slice none 0 0):=by rw[←hW0];exact((bO.alloc _).alloc _).alloc _
 have hB0:Below w.heap.size w W0:=by rw[←hW0];repeat (first|exact Below.refl _ _|(refine Below.alloc ?_ (by simp;try omega) _))
 clear hW0 bO
 refine adT (B:=w.heap.size+1) (by omega) rfl (by decide) (gf:=146) (lb:=#[.pointer (some ⟨w.heap.size+2,0,none⟩),.pointer (some ⟨w.heap.size+1,0,none⟩),.pointer (some ⟨w.heap.size+3,0,none⟩)]) rfl trivial (enters_of Tryz.func146 (by kernel_rfl) rfl)
  (aim 5 (w.heap.size+2) (w.heap.size+1) (w.heap.size+3) (by omega) (by omega) (by omega) p ps e3 e4 W0 (by omega) (by omega) (by omega) c3 c2 c4 f2) aij
  (fun W l o o' hl hW ho hw=>aec (belowK_b (w:=W0) (Nat.le_refl _) W l o o' hl hW ho hw) (by omega) (by omega) (by omega)) (Below.refl _ _) (fun _=>rfl)
  (fun pre W=>((∃v,Boxed W w.heap.size 39 v∧W.ownsRow W0.heap.size 9 1 v pre.length (pre.map fun x=>.string (S (ag9 x)))∧True)∧W0.heap.size≤W.heap.size)∧Below w.heap.size w W)
  (fun _ _ _=>False)
  (OwnFrom.and (OwnFrom.and (Own.from (holdsRow_own W0.heap.size w.heap.size 39 9 1 (fun (pre:List (List UInt8))=>pre.length) (fun pre=>pre.map fun x=>.string (S (ag9 x))) (fun _ _=>True)) _) (fun x A B row hs hg hr=>Nat.le_trans hs hg.size)) (ownFrom_below (Nat.le_refl _) (by omega)))
  (fun x W v hs=>by
   obtain⟨⟨⟨u,hb,hr,_⟩,hsz⟩,hB⟩:=hs
   refine⟨⟨⟨u,hb.kept (grownBy_setCell' W _ v) (by simp),hr.kept (grownBy_setCell' W _ v) ?_,trivial⟩,Nat.le_trans hsz (by simp)⟩,hB.setCell (p:=⟨w.heap.size+1,0,none⟩) (by simp) _⟩
   rcases hr.2 with⟨rfl,_⟩|⟨g,cap,cur,rfl,hg,_⟩
   ·exact .inl rfl
   ·exact .inr (by simp[Value.ownBlock];omega))
  (fun c x A B row hs _ _=>hs.elim)
  ⟨⟨⟨_,hbx,World.ownsRow_nil _ _ _ _,trivial⟩,Nat.le_refl _⟩,hB0⟩
  (fun x=>{ tmps:=#[.int .i64 4,undef,.slice none 0 0,.nilIface,.pointer (some ⟨w.heap.size,0,none⟩),.string (S x),undef,undef,undef,.int .i64 4,.bool true,.bool true,.int .i64 4,.bool false,.bool false,undef,.int .i64 4,.string (S (Uu [124] p ps)),.func (.func 146) #[] #[.pointer (some ⟨w.heap.size+2,0,none⟩),.pointer (some ⟨w.heap.size+1,0,none⟩),.pointer (some ⟨w.heap.size+3,0,none⟩)],.string (S x),undef,undef,undef,undef,undef,undef,undef,undef,undef,undef,undef],defers:=[] })
  ?assign ?body ?done ?stop
 case assign=>
  intro l x W K hK
  gi_wp2
  exact hK
 case body=>
  rintro l pre x W ⟨⟨⟨v,hv,hrow,_⟩,hsz⟩,hB⟩ hpre
  have hx:x∈(UG 4).map Ent.text:=by rw[e1];exact hpre.subset (by simp)
  have hpl:pre.length≤100:=by
   have h1:=hpre.length_le
   have h2:(p::ps).length≤100:=by rw[←e1,List.length_map];exact aoG 4
   simp only[List.length_append]at h1
   omega
  have hxl:x.length≤1000:=by
   obtain⟨e,he,rfl⟩:=List.mem_map.1 hx
   have:=(aft 4 e he).2.2.2.2.2.1
   omega
  have cu:=age x [32] W (hm.grow hB) (by omega)
  obtain⟨ca,hca⟩:∃y,y=(Lib.cut x [32]).1:=⟨_,rfl⟩
  obtain⟨cb,hcb⟩:∃y,y=(Lib.cut x [32]).2.1:=⟨_,rfl⟩
  obtain⟨ct,hct⟩:∃y,y=(Lib.cut x [32]).2.2:=⟨_,rfl⟩
  rw[←hca,←hcb,←hct]at cu
  have hno:ag9 x=ca:=hca.symm
  have CU:=hid cu
  have hc:=hv.cell
  have HV:=hid hv
  have HROW:=hid hrow
  clear cu hca hcb hct hx hv hrow hpre
  gi_wp2_with (first
   |(refine⟨trivial,?_⟩;gi_at_call 109;refine(CallsIn.inRound l (callsIn_wide.2 CU.out)).mono ?_;rintro e' w' ⟨rfl,hg'⟩;have hc1:=(agw HV.out hg'.below).cell;have HG:=hid hg';have hgs:=hg'.size;clear hg' hc)
   |(gi_at_builtin;refine wpListIn_append_own _ rfl _ _ 39 rfl W0.heap.size 9 i0 (.string ⟨#[]⟩) 1 16 Tryz.underlying39 hi hz0 hz1 hz2 rfl (by decide) _ _ _ rfl ((aen HROW.out HG.out.below).alloc _) ⟨w'.heap.size,0,none⟩ 1 1 [.string (S ca)] rfl rfl (cell_one_new _ _ _) (by intro u hu;rw[List.mem_singleton.1 hu];rfl) (by unfold maxLen;omega) (by omega) (by simp;omega) ?_;intro v' w1 hown' hgrow _;obtain⟨g',cap',rfl⟩:=ownsRow_succ hown';obtain⟨hv1,hv2,hr2,hk2,hb2⟩:=(agw HV.out HG.out.below).appended (by decide) (aie (aen HROW.out HG.out.below) (show w.heap.size≤W0.heap.size by omega)) (by omega) (Nat.le_refl _) (aie hown' (show w.heap.size≤W0.heap.size by omega)) hgrow;have hc2:=hv1.cell;have hf2:=hv1.frozen;have HOWN:=hid hown';have HGR:=hid hgrow;have HB2:=hid hb2;have HK2:=hid hk2;have HV2:=hid hv2;have HV1:=hid hv1;clear hown' hgrow hb2 hk2 hv2 hr2 hv1))
  have hw1:Below W0.heap.size w' w1:=akW (aen HROW.out HG.out.below) (Nat.le_trans hsz hgs) HGR.out
  have hkp:ajY (w.heap.size+2) (w.heap.size+1) (w.heap.size+3) W w1:=aec ((HG.out.below.mono hsz).trans hw1) (by omega) (by omega) (by omega)
  have hrow3:=HOWN.out.kept (grownBy_setCell' w1 w.heap.size (.slice (some ⟨g',0,none⟩) (pre.length+1) cap')) (.inr (HV1.out.not_row (by decide) HOWN.out).symm)
  have hz3:=HB2.out.size
  refine⟨(adQ HG.out.below).trans (HK2.out.from _),aij hkp (anY _ (by omega) (by omega) (by omega)),⟨⟨_,HV2.out,?_,trivial⟩,Nat.le_trans (Nat.le_trans hsz hgs) hz3⟩,hB.trans ((HG.out.below.mono hB.size).trans HB2.out)⟩
  rw[List.length_append,List.map_append,List.map_cons,List.map_nil,hno]
  exact hrow3
 case done=>
  rintro D W hD ⟨⟨⟨v,hv,hrow,_⟩,hsz⟩,hB⟩ hK
  have hc:=hv.cell
  gi_wp2
  refine⟨by simp,.inl ⟨_,_,rfl,run_takeDeferred hK,?_⟩⟩
  have hl:(UG 4).length=(p::ps).length:=by rw[←e1,List.length_map]
  have hm2:((UG 4).map fun e=>Value.string (S e.name))=(p::ps).map fun x=>.string (S (ag9 x)):=by
   rw[←e1,List.map_map]
   have:=congrArg (List.map fun l=>Value.string (S l)) (akX 4)
   simp only[List.map_map]at this
   exact this.symm
  refine⟨_,results_tmp2 rfl _ _ _,v,rfl,?_,hB.trans (belowK_b (w:=w) (Nat.le_refl _) W D _ _ (by omega) hK rfl rfl)⟩
  rw[hl,hm2]
  exact ownsRow_putObj (aie hrow (show w.heap.size≤W0.heap.size by omega)) _ hK rfl
 case stop=>
  rintro D c pre W _ _ h _
  exact h.elim
end Go.Proofs.YtmffejnigppbpaaGreatDoor

set_option maxHeartbeats 4000000
set_option maxRecDepth 100000
namespace Go.Proofs.YtmffejnigppbpaaGreatDoor
open Go.RowKit
theorem ax6(w:World)(o:Obj)(n:Nat)(h:n=w.heap.size):(w.alloc o).heap[n]?=some o:=by subst h;exact heap_alloc_new w o
theorem ayO(w:World)(o0 o1 o2 o3 o4 o5 o6 o7:Obj)(W:World)(hW:((((((((w.alloc o0).alloc o1).alloc o2).alloc o3).alloc o4).alloc o5).alloc o6).alloc o7)=W) :
  W.heap[w.heap.size+1]?=some o1∧W.heap[w.heap.size+2]?=some o2∧W.heap[w.heap.size+3]?=some o3∧W.heap[w.heap.size+4]?=some o4∧W.heap[w.heap.size+5]?=some o5∧W.heap[w.heap.size+6]?=some o6∧W.heap[w.heap.size+7]?=some o7:=by
 subst hW
 refine⟨?_,?_,?_,?_,?_,?_,?_⟩<;>repeat (first|exact ax6 _ _ _ (by simp)|rw[Lib.alloc_old _ _ _ (by simp)]|rw[Lib.alloc_old _ _ _ (by simp;omega)])
def auq:It:=⟨[],[70,78],[],⟨1,[65,110,110],[],St0,0⟩⟩
def asQ:It:=⟨[],[78],[],⟨3,[],[[[65]],[[65,110,110]],[[]],[[]],[[]]],St0,0⟩⟩
def agn:List It:=[auq,asQ]
def ana(W:World)(v:Value)(s:List UInt8):Prop:=∃b,v=.slice (some ⟨b,0,none⟩) 1 1∧W.heap[b]?=some (.cells #[.string (S s)] 9 (0,0))
theorem ana.grow{W W':World}{v:Value}{s:List UInt8}(h:ana W v s)(g:G W W'):ana W' v s:=by
 obtain⟨b,e,h⟩:=h
 exact⟨b,e,(g.below.block b (Array.getElem?_eq_some_iff.1 h).1).trans h⟩
theorem ana.strs{W:World}{v:Value}{s:List UInt8}(h:ana W v s):Ux W v [s]:=by
 obtain⟨b,rfl,h⟩:=h
 refine⟨⟨rfl,by simp[Value.oneCell'],.inr ⟨b,0,1,rfl,(Array.getElem?_eq_some_iff.1 h).1,Nat.le_refl _,fun j hj=>?_⟩⟩,Nat.le_refl _⟩
 have hj0:j=0:=by simp at hj;omega
 subst hj0
 rw[cell_of_row W b _ _ _ _ h];rfl
theorem ayP(W:World):adE W auq (.slice none 0 0) (.slice none 0 0):=
 ⟨⟨_,_,rfl,Nat.le_refl _,fun h=>absurd rfl h⟩,⟨[],⟨rfl,by simp,.inl ⟨rfl,.inl rfl⟩⟩,Nat.le_refl _,by simp[auq]⟩,.inl rfl,by decide,by decide⟩
theorem ay9{W:World}{a:Option Addr}(h:Uw W (.slice a 5 5) asQ.v.ps):adE W asQ (.slice none 0 0) (.slice a 5 5):=
 ⟨⟨_,_,rfl,Nat.le_refl _,fun h=>absurd rfl h⟩,h,.inl rfl,by decide,by decide⟩
theorem aoi(ver:Int)(w:World):Uz 49 #[.int .i64 ver] w (fun v w'=>∃u,v=acH ver u∧UA w' u agn∧∃b c,u=.slice (some b) 2 c):=by
 go_enter Tryz.func49,Tryz.ntmps49
 go_wp2_with fail
 refine bodyPost_ret (v:=acH ver (.slice (some ⟨w.heap.size+7,0,none⟩) 2 2)) ?_ rfl ⟨_,rfl,⟨_,rfl,?_,_,_,rfl⟩,?_⟩
 ·unfold acH
  simp only[results,Tryz.f49]
  go_simp
 ·generalize hW:((((((((w.alloc _).alloc _).alloc _).alloc _).alloc _).alloc _).alloc _).alloc _)=W
  obtain⟨e1,e2,e3,e4,e5,e6,e7⟩:=ayO _ _ _ _ _ _ _ _ _ _ hW
  clear hW
  have s1:Ux W (.slice (some ⟨w.heap.size+1,0,none⟩) 1 1) [[65]]:=ana.strs ⟨_,rfl,e1⟩
  have s2:Ux W (.slice (some ⟨w.heap.size+2,0,none⟩) 1 1) [[65,110,110]]:=ana.strs ⟨_,rfl,e2⟩
  have s3:Ux W (.slice (some ⟨w.heap.size+3,0,none⟩) 1 1) [[]]:=ana.strs ⟨_,rfl,e3⟩
  have s4:Ux W (.slice (some ⟨w.heap.size+4,0,none⟩) 1 1) [[]]:=ana.strs ⟨_,rfl,e4⟩
  have s5:Ux W (.slice (some ⟨w.heap.size+5,0,none⟩) 1 1) [[]]:=ana.strs ⟨_,rfl,e5⟩
  have hl:Uw W (.slice (some ⟨w.heap.size+6,0,none⟩) 5 5) asQ.v.ps:=by
   refine⟨[.slice (some ⟨w.heap.size+1,0,none⟩) 1 1,.slice (some ⟨w.heap.size+2,0,none⟩) 1 1,.slice (some ⟨w.heap.size+3,0,none⟩) 1 1,.slice (some ⟨w.heap.size+4,0,none⟩) 1 1,.slice (some ⟨w.heap.size+5,0,none⟩) 1 1],⟨rfl,by simp[Value.oneCell'],.inr ⟨w.heap.size+6,0,5,rfl,(Array.getElem?_eq_some_iff.1 e6).1,by simp[asQ],fun j hj=>?_⟩⟩,Nat.le_refl _,fun i l hi=>?_⟩
   ·rw[cell_of_row W _ _ _ _ _ e6,Nat.zero_add];simp
   ·match i,hi with
    |0,hi=>cases hi;exact⟨_,rfl,s1⟩
    |1,hi=>cases hi;exact⟨_,rfl,s2⟩
    |2,hi=>cases hi;exact⟨_,rfl,s3⟩
    |3,hi=>cases hi;exact⟨_,rfl,s4⟩
    |4,hi=>cases hi;exact⟨_,rfl,s5⟩
    |n+5,hi=>simp[asQ]at hi
  exact agf (xs:=agn) (cap:=2) ⟨_,_,_,rfl,ayP W,_,_,_,rfl,ay9 hl,rfl⟩ (Array.getElem?_eq_some_iff.1 e7).1 (fun j u hu=>by
   rw[cell_of_row W _ _ _ _ _ e7,Nat.zero_add]
   rw[List.getElem?_toArray]
   exact hu) (Nat.le_refl _)
 ·repeat (first|exact G.refl _|refine G.alloc ?_ _)
end Go.Proofs.YtmffejnigppbpaaGreatDoor
