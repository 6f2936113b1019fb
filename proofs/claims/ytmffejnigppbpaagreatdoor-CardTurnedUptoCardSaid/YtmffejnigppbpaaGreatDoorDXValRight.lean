/-
 CONTRACT of value.Right. (written by gen_valright.py)
-/
import Derived.Test.YtmffejnigppbpaaGreatDoorDXMA71
set_option linter.unusedVariables false
set_option linter.unusedSimpArgs false
set_option maxHeartbeats 4000000
set_option maxRecDepth 100000
namespace Go.Proofs.YtmffejnigppbpaaGreatDoor
open Go.RowKit
theorem adB{w w2:World}{o:Obj}(g:G (w.alloc o) w2):w2.heap[w.heap.size]?=some o:=(g.below.block w.heap.size (by simp)).trans (heap_alloc_new w o)
theorem adl{W:World}{b:Nat}{T:TypeId}{c0 c1 c2 c3 c4 c5 c6 c7 c8 c9 c10 c11:Value}(h:W.heap[b]?=some (.cells #[c0,c1,c2,c3,c4,c5,c6,c7,c8,c9,c10,c11] T (0,0))):W.cell? ⟨b,0,none⟩=some c0∧W.cell? ⟨b,1,none⟩=some c1∧W.cell? ⟨b,2,none⟩=some c2∧W.cell? ⟨b,3,none⟩=some c3∧W.cell? ⟨b,4,none⟩=some c4∧W.cell? ⟨b,5,none⟩=some c5∧W.cell? ⟨b,6,none⟩=some c6∧W.cell? ⟨b,7,none⟩=some c7∧W.cell? ⟨b,8,none⟩=some c8∧W.cell? ⟨b,9,none⟩=some c9∧W.cell? ⟨b,10,none⟩=some c10∧W.cell? ⟨b,11,none⟩=some c11:=by
 refine⟨?_,?_,?_,?_,?_,?_,?_,?_,?_,?_,?_,?_⟩<;>(rw[cell_of_row W b _ _ _ _ h];rfl)
def acI(b:Bool)(r:Value):Prop:=if b=true then r=.nilIface else ∃c,r=eno c∧c≠0
theorem acI.yes{b:Bool}(h:b=true):acI b .nilIface:=by unfold acI;rw[if_pos h]
theorem acI.no{b:Bool}(c:Int)(h:b=false)(hc:c≠0:=by decide):acI b (eno c):=by unfold acI;rw[if_neg (by simp[h])];exact⟨c,rfl,hc⟩
theorem ahs{x:Vl}(hk:1≤x.ty∧x.ty<9)(ho:x.only=true):x.ok=x.body:=by unfold Vl.ok;rw[ho];simp[hk]
theorem ay3{x:Vl}(ho:x.only=false):x.ok=false:=by unfold Vl.ok;rw[ho];simp
theorem ayB{x:Vl}(hk:¬(1≤x.ty∧x.ty<9)):x.ok=false:=by unfold Vl.ok;simp[hk]
theorem ahm{x:Vl}(hk:x.ty=2∨x.ty=3)(h0:x.ps≠[])(h1:¬(x.ty=2∧x.ps.length≠1)):x.body=true↔(∀l∈x.ps,l≠[])∧∀l∈x.ps,∀s∈l,Af s true=true:=by
 unfold Vl.body
 rw[if_pos hk,Bool.and_eq_true,Bool.and_eq_true,ajg]
 have e1:(!(decide (x.ps=[])||decide (x.ty=2∧x.ps.length≠1)))=true:=by rw[decide_eq_false h0,decide_eq_false h1];rfl
 have e2:(!(x.ps.any fun l=>l.isEmpty))=true↔∀l∈x.ps,l≠[]:=by
  rw[Bool.not_eq_true',List.any_eq_false]
  constructor
  ·intro h l hl e;exact h l hl (by rw[e];rfl)
  ·intro h l hl e;exact h l hl (List.isEmpty_iff.1 e)
 rw[e1,e2];simp
theorem aep{x:Vl}(hk:x.ty=2∨x.ty=3)(h:x.ps=[]∨(x.ty=2∧x.ps.length≠1)):x.body=false:=by
 unfold Vl.body
 rw[if_pos hk]
 have e1:(!(decide (x.ps=[])||decide (x.ty=2∧x.ps.length≠1)))=false:=by
  rcases h with h|h
  ·rw[decide_eq_true h];rfl
  ·rw[decide_eq_true h];simp
 rw[e1];rfl
theorem ar4(ty:Int)(tx:List UInt8)(a:Option Addr)(cap:Nat)(ps:List (List (List UInt8)))(y m d h nn s:Int)(zd:Bool)(zn n:Int)(w:World)(hk:¬(1≤ty∧ty<9)):Uz 113 #[(⟨ty,tx,ps,⟨y,m,d,h,nn,s,zd,zn⟩,n⟩:Vl).v (.slice a ps.length cap)] w (fun r _=>acI (⟨ty,tx,ps,⟨y,m,d,h,nn,s,zd,zn⟩,n⟩:Vl).ok r):=by
 have HO:=hid (ayB (x:=(⟨ty,tx,ps,⟨y,m,d,h,nn,s,zd,zn⟩,n⟩:Vl)) hk)
 simp only[Vl.v]
 by_cases h1:ty<1
 ·clear hk
  go_enter Tryz.func113,Tryz.ntmps113
  go_wp2_with fail
  go_ret
  exact⟨_,rfl,acI.no 1 HO.out,(G.refl _).alloc _⟩
 ·have h2:9≤ty:=by omega
  clear hk
  go_enter Tryz.func113,Tryz.ntmps113
  go_wp2_with fail
  go_ret
  exact⟨_,rfl,acI.no 1 HO.out,(G.refl _).alloc _⟩
theorem aqK(ty:Int)(tx:List UInt8)(a:Option Addr)(cap:Nat)(ps:List (List (List UInt8)))(y m d h nn s:Int)(zd:Bool)(zn n:Int)(w:World)(hk:1≤ty∧ty<9)(hon:(⟨ty,tx,ps,⟨y,m,d,h,nn,s,zd,zn⟩,n⟩:Vl).only=false):Uz 113 #[(⟨ty,tx,ps,⟨y,m,d,h,nn,s,zd,zn⟩,n⟩:Vl).v (.slice a ps.length cap)] w (fun r _=>acI (⟨ty,tx,ps,⟨y,m,d,h,nn,s,zd,zn⟩,n⟩:Vl).ok r):=by
 have h1:¬ty<1:=by omega
 have h2:¬9≤ty:=by omega
 have HK:=hid hk
 clear hk
 have HON:=hid hon
 clear hon
 simp only[Vl.v]
 go_enter Tryz.func113,Tryz.ntmps113
 go_wp2_with fail
 refine(aeI (⟨ty,tx,ps,⟨y,m,d,h,nn,s,zd,zn⟩,n⟩:Vl) a cap _ HK.out).use ?_
 intro w2 g2
 rw[HON.out]
 have r2:=hid (adB g2)
 have G2:=hid (((G.refl w).alloc _).trans g2)
 clear g2
 obtain⟨e0,e1,e2,e3,e4,e5,e6,e7,e8,e9,e10,e11⟩:=adl r2.out
 go_wp2_with fail
 go_ret
 exact⟨_,rfl,acI.no 1 (ay3 HON.out),G2.out⟩
theorem apa(tx:List UInt8)(a:Option Addr)(cap:Nat)(ps:List (List (List UInt8)))(y m d h nn s:Int)(zd:Bool)(zn n:Int)(w:World)(ht:tx.length≤100000)(hon:(⟨1,tx,ps,⟨y,m,d,h,nn,s,zd,zn⟩,n⟩:Vl).only=true):Uz 113 #[(⟨1,tx,ps,⟨y,m,d,h,nn,s,zd,zn⟩,n⟩:Vl).v (.slice a ps.length cap)] w (fun r _=>acI (⟨1,tx,ps,⟨y,m,d,h,nn,s,zd,zn⟩,n⟩:Vl).ok r):=by
 have HON:=hid hon
 clear hon
 simp only[Vl.v]
 go_enter Tryz.func113,Tryz.ntmps113
 go_wp2_with fail
 refine(aeI (⟨1,tx,ps,⟨y,m,d,h,nn,s,zd,zn⟩,n⟩:Vl) a cap _ ⟨by simp,by simp⟩).use ?_
 intro w2 g2
 rw[HON.out]
 have r2:=hid (adB g2)
 have G2:=hid (((G.refl w).alloc _).trans g2)
 clear g2
 obtain⟨e0,e1,e2,e3,e4,e5,e6,e7,e8,e9,e10,e11⟩:=adl r2.out
 have HO:Hid ((⟨1,tx,ps,⟨y,m,d,h,nn,s,zd,zn⟩,n⟩:Vl).ok=Af tx true):=hid (ahs (x:=(⟨1,tx,ps,⟨y,m,d,h,nn,s,zd,zn⟩,n⟩:Vl)) ⟨by simp,by simp⟩ HON.out)
 go_wp2_with fail
 refine(afZ tx true _ (by omega)).use ?_
 cases hh:Af tx true with
 |true=>
  go_wp2_with fail
  go_ret
  exact⟨_,rfl,acI.yes (HO.out.trans hh),G2.out⟩
 |false=>
  go_wp2_with fail
  go_ret
  exact⟨_,rfl,acI.no 3 (HO.out.trans hh),G2.out⟩
theorem apb(tx:List UInt8)(a:Option Addr)(cap:Nat)(ps:List (List (List UInt8)))(y m d h nn s:Int)(zd:Bool)(zn n:Int)(w:World)(ht:tx.length≤100000)(hon:(⟨8,tx,ps,⟨y,m,d,h,nn,s,zd,zn⟩,n⟩:Vl).only=true):Uz 113 #[(⟨8,tx,ps,⟨y,m,d,h,nn,s,zd,zn⟩,n⟩:Vl).v (.slice a ps.length cap)] w (fun r _=>acI (⟨8,tx,ps,⟨y,m,d,h,nn,s,zd,zn⟩,n⟩:Vl).ok r):=by
 have HON:=hid hon
 clear hon
 simp only[Vl.v]
 go_enter Tryz.func113,Tryz.ntmps113
 go_wp2_with fail
 refine(aeI (⟨8,tx,ps,⟨y,m,d,h,nn,s,zd,zn⟩,n⟩:Vl) a cap _ ⟨by simp,by simp⟩).use ?_
 intro w2 g2
 rw[HON.out]
 have r2:=hid (adB g2)
 have G2:=hid (((G.refl w).alloc _).trans g2)
 clear g2
 obtain⟨e0,e1,e2,e3,e4,e5,e6,e7,e8,e9,e10,e11⟩:=adl r2.out
 have HO:Hid ((⟨8,tx,ps,⟨y,m,d,h,nn,s,zd,zn⟩,n⟩:Vl).ok=Af tx false):=hid (ahs (x:=(⟨8,tx,ps,⟨y,m,d,h,nn,s,zd,zn⟩,n⟩:Vl)) ⟨by simp,by simp⟩ HON.out)
 go_wp2_with fail
 refine(afZ tx false _ (by omega)).use ?_
 cases hh:Af tx false with
 |true=>
  go_wp2_with fail
  go_ret
  exact⟨_,rfl,acI.yes (HO.out.trans hh),G2.out⟩
 |false=>
  go_wp2_with fail
  go_ret
  exact⟨_,rfl,acI.no 3 (HO.out.trans hh),G2.out⟩
theorem ar5(tx:List UInt8)(a:Option Addr)(cap:Nat)(ps:List (List (List UInt8)))(y m d h nn s:Int)(zd:Bool)(zn n:Int)(w:World)(ht:tx.length≤100000)(hE:UO w)(hon:(⟨4,tx,ps,⟨y,m,d,h,nn,s,zd,zn⟩,n⟩:Vl).only=true):Uz 113 #[(⟨4,tx,ps,⟨y,m,d,h,nn,s,zd,zn⟩,n⟩:Vl).v (.slice a ps.length cap)] w (fun r _=>acI (⟨4,tx,ps,⟨y,m,d,h,nn,s,zd,zn⟩,n⟩:Vl).ok r):=by
 have HE:=hid hE
 clear hE
 have HON:=hid hon
 clear hon
 simp only[Vl.v]
 go_enter Tryz.func113,Tryz.ntmps113
 go_wp2_with fail
 refine(aeI (⟨4,tx,ps,⟨y,m,d,h,nn,s,zd,zn⟩,n⟩:Vl) a cap _ ⟨by simp,by simp⟩).use ?_
 intro w2 g2
 rw[HON.out]
 have r2:=hid (adB g2)
 have G2:=hid (((G.refl w).alloc _).trans g2)
 clear g2
 obtain⟨e0,e1,e2,e3,e4,e5,e6,e7,e8,e9,e10,e11⟩:=adl r2.out
 have HO:Hid ((⟨4,tx,ps,⟨y,m,d,h,nn,s,zd,zn⟩,n⟩:Vl).ok=aj9 tx):=hid (ahs (x:=(⟨4,tx,ps,⟨y,m,d,h,nn,s,zd,zn⟩,n⟩:Vl)) ⟨by simp,by simp⟩ HON.out)
 go_wp2_with fail
 refine(ao3 tx _ (by omega)).use ?_
 intro v w3 hv g3
 have G3:Hid (G w w3):=hid (G2.out.trans g3)
 unfold af4 at hv
 clear g3 e0 e1 e2 e3 e4 e5 e6 e7 e8 e9 e10 e11
 by_cases hb:agl tx=0
 ·rw[if_pos hb]at hv
  subst hv
  have HU:Hid (aj9 tx=false):=hid (by unfold aj9;simp[hb])
  go_wp2_with fail
  refine(av5 8 _ (HE.out.grow G3.out)).use ?_
  intro w4 g4
  go_wp2_with fail
  go_ret
  exact⟨_,rfl,acI.no 8 (HO.out.trans HU.out),G3.out.trans g4⟩
 ·rw[if_neg hb]at hv
  cases hs:ak8 ak7 tx with
  |some i=>
   rw[hs]at hv
   have HU:Hid (aj9 tx=false):=hid (by unfold aj9;simp[hs])
   have HV:=hid hv
   obtain⟨bb,hbv,_⟩:=hv
   have h4:=apc v 3 i w3 (HE.out.grow G3.out) HV.out
   have H4:=hid h4
   clear h4
   subst hbv
   go_wp2_with fail
   refine(H4.out).use ?_
   intro w4 g4
   go_wp2_with fail
   go_ret
   exact⟨_,rfl,acI.no 3 (HO.out.trans HU.out),G3.out.trans g4⟩
  |none=>
   rw[hs]at hv
   dsimp only at hv
   by_cases hl:agl tx+1=tx.length
   ·rw[if_pos hl]at hv
    have HU:Hid (aj9 tx=false):=hid (by unfold aj9;simp[hl])
    have HV:=hid hv
    obtain⟨bb,hbv,_⟩:=hv
    have h4:=apc v 7 tx.length w3 (HE.out.grow G3.out) HV.out
    have H4:=hid h4
    clear h4 hl
    subst hbv
    go_wp2_with fail
    refine(H4.out).use ?_
    intro w4 g4
    go_wp2_with fail
    go_ret
    exact⟨_,rfl,acI.no 7 (HO.out.trans HU.out),G3.out.trans g4⟩
   ·rw[if_neg hl]at hv
    subst hv
    have HU:Hid (aj9 tx=true):=hid (by unfold aj9;simp[hb,hs,hl])
    clear hl
    go_wp2_with fail
    refine(aqO _).use ?_
    intro w4 g4
    go_wp2_with fail
    go_ret
    exact⟨_,rfl,acI.yes (HO.out.trans HU.out),G3.out.trans g4⟩
theorem aqL(tx:List UInt8)(a:Option Addr)(cap:Nat)(ps:List (List (List UInt8)))(y m d h nn s:Int)(zd:Bool)(zn n:Int)(w:World)(ht:tx.length≤100000)(hE:UO w)(hon:(⟨7,tx,ps,⟨y,m,d,h,nn,s,zd,zn⟩,n⟩:Vl).only=true):Uz 113 #[(⟨7,tx,ps,⟨y,m,d,h,nn,s,zd,zn⟩,n⟩:Vl).v (.slice a ps.length cap)] w (fun r _=>acI (⟨7,tx,ps,⟨y,m,d,h,nn,s,zd,zn⟩,n⟩:Vl).ok r):=by
 have HE:=hid hE
 clear hE
 have HON:=hid hon
 clear hon
 simp only[Vl.v]
 go_enter Tryz.func113,Tryz.ntmps113
 go_wp2_with fail
 refine(aeI (⟨7,tx,ps,⟨y,m,d,h,nn,s,zd,zn⟩,n⟩:Vl) a cap _ ⟨by simp,by simp⟩).use ?_
 intro w2 g2
 rw[HON.out]
 have r2:=hid (adB g2)
 have G2:=hid (((G.refl w).alloc _).trans g2)
 clear g2
 obtain⟨e0,e1,e2,e3,e4,e5,e6,e7,e8,e9,e10,e11⟩:=adl r2.out
 have HO:Hid ((⟨7,tx,ps,⟨y,m,d,h,nn,s,zd,zn⟩,n⟩:Vl).ok=afh tx):=hid (ahs (x:=(⟨7,tx,ps,⟨y,m,d,h,nn,s,zd,zn⟩,n⟩:Vl)) ⟨by simp,by simp⟩ HON.out)
 go_wp2_with fail
 refine(aiH tx _ (by omega)).use ?_
 intro v w3 hv g3
 have G3:Hid (G w w3):=hid (G2.out.trans g3)
 unfold adt at hv
 clear g3 e0 e1 e2 e3 e4 e5 e6 e7 e8 e9 e10 e11
 by_cases hb:afh tx=true
 ·rw[if_pos hb]at hv
  subst hv
  have HU:=hid hb
  clear hb
  go_wp2_with fail
  refine(aqO _).use ?_
  intro w4 g4
  go_wp2_with fail
  go_ret
  exact⟨_,rfl,acI.yes (HO.out.trans HU.out),G3.out.trans g4⟩
 ·rw[if_neg hb]at hv
  obtain⟨ec,ep,hv,hnz,_⟩:=hv
  have HNZ:=hid hnz
  clear hnz
  have HU:Hid (afh tx=false):=hid (by simpa using hb)
  have HV:=hid hv
  obtain⟨bb,hbv,_⟩:=hv
  have h4:=apc v ec ep w3 (HE.out.grow G3.out) HV.out
  have H4:=hid h4
  clear h4 hb
  subst hbv
  go_wp2_with fail
  refine(H4.out).use ?_
  intro w4 g4
  go_wp2_with fail
  go_ret
  exact⟨_,rfl,acI.no ec (HO.out.trans HU.out) HNZ.out,G3.out.trans g4⟩
theorem aqM(tx:List UInt8)(a:Option Addr)(cap:Nat)(ps:List (List (List UInt8)))(y m d h nn s:Int)(zd:Bool)(zn n:Int)(w:World)(hM:aer w)(hy : -9223372036854775808≤y∧y≤9223372036854775807)(hon:(⟨5,tx,ps,⟨y,m,d,h,nn,s,zd,zn⟩,n⟩:Vl).only=true):Uz 113 #[(⟨5,tx,ps,⟨y,m,d,h,nn,s,zd,zn⟩,n⟩:Vl).v (.slice a ps.length cap)] w (fun r _=>acI (⟨5,tx,ps,⟨y,m,d,h,nn,s,zd,zn⟩,n⟩:Vl).ok r):=by
 have HM:=hid hM
 clear hM
 have hr:=fun W hm=>aiR ⟨y,m,d,h,nn,s,zd,zn⟩ W hm hy.1 hy.2
 obtain⟨c,hc⟩:∃c,(⟨y,m,d,h,nn,s,zd,zn⟩:St).right=c:=⟨_,rfl⟩
 rw[hc]at hr
 have HR:=hid hr
 have HC:=hid hc
 clear hr hc
 have HON:=hid hon
 clear hon
 simp only[Vl.v]
 go_enter Tryz.func113,Tryz.ntmps113
 go_wp2_with fail
 refine(aeI (⟨5,tx,ps,⟨y,m,d,h,nn,s,zd,zn⟩,n⟩:Vl) a cap _ ⟨by simp,by simp⟩).use ?_
 intro w2 g2
 rw[HON.out]
 have r2:=hid (adB g2)
 have G2:=hid (((G.refl w).alloc _).trans g2)
 clear g2
 obtain⟨e0,e1,e2,e3,e4,e5,e6,e7,e8,e9,e10,e11⟩:=adl r2.out
 have HO:Hid ((⟨5,tx,ps,⟨y,m,d,h,nn,s,zd,zn⟩,n⟩:Vl).ok=decide (c=0)):=hid ((ahs (x:=(⟨5,tx,ps,⟨y,m,d,h,nn,s,zd,zn⟩,n⟩:Vl)) ⟨by simp,by simp⟩ HON.out).trans (by show decide ((⟨y,m,d,h,nn,s,zd,zn⟩:St).right=0)=_;rw[HC.out]))
 go_wp2_with fail
 refine(HR.out _ (HM.out.grow G2.out)).use ?_
 intro w3 g3
 have G3:Hid (G w w3):=hid (G2.out.trans g3)
 clear g3
 by_cases hz:c=0
 ·subst hz
  rw[show apj 0=.nilIface from rfl]
  go_wp2_with fail
  go_ret
  exact⟨_,rfl,acI.yes (HO.out.trans rfl),G3.out⟩
 ·have he:apj c=eno c:=by unfold apj;rw[if_neg hz]
  rw[he]
  have HZ:=hid hz
  clear hz he
  go_wp2_with fail
  go_ret
  exact⟨_,rfl,acI.no c (HO.out.trans (decide_eq_false HZ.out)) HZ.out,G3.out⟩
def aqN(n:Int)(r:Value):Prop:=r=if adF n=true then .nilIface else eno 2
theorem ahV(tx:List UInt8)(a:Option Addr)(cap:Nat)(ps:List (List (List UInt8)))(y m d h nn s:Int)(zd:Bool)(zn n:Int)(w:World)(hon:(⟨6,tx,ps,⟨y,m,d,h,nn,s,zd,zn⟩,n⟩:Vl).only=true):Uz 113 #[(⟨6,tx,ps,⟨y,m,d,h,nn,s,zd,zn⟩,n⟩:Vl).v (.slice a ps.length cap)] w (fun r _=>aqN n r):=by
 have HON:=hid hon
 clear hon
 simp only[Vl.v]
 go_enter Tryz.func113,Tryz.ntmps113
 go_wp2_with fail
 refine(aeI (⟨6,tx,ps,⟨y,m,d,h,nn,s,zd,zn⟩,n⟩:Vl) a cap _ ⟨by simp,by simp⟩).use ?_
 intro w2 g2
 rw[HON.out]
 have r2:=hid (adB g2)
 have G2:=hid (((G.refl w).alloc _).trans g2)
 clear g2
 obtain⟨e0,e1,e2,e3,e4,e5,e6,e7,e8,e9,e10,e11⟩:=adl r2.out
 go_wp2_with fail
 refine(aeq n _).use ?_
 cases hh:adF n with
 |true=>
  go_wp2_with fail
  go_ret
  exact⟨_,rfl,by unfold aqN;rw[hh];rfl,G2.out⟩
 |false=>
  go_wp2_with fail
  go_ret
  exact⟨_,rfl,by unfold aqN;rw[hh];rfl,G2.out⟩
theorem anz(tx:List UInt8)(a:Option Addr)(cap:Nat)(ps:List (List (List UInt8)))(y m d h nn s:Int)(zd:Bool)(zn n:Int)(w:World)(hon:(⟨6,tx,ps,⟨y,m,d,h,nn,s,zd,zn⟩,n⟩:Vl).only=true):Uz 113 #[(⟨6,tx,ps,⟨y,m,d,h,nn,s,zd,zn⟩,n⟩:Vl).v (.slice a ps.length cap)] w (fun r _=>acI (⟨6,tx,ps,⟨y,m,d,h,nn,s,zd,zn⟩,n⟩:Vl).ok r):=by
 have HO:=ahs (x:=(⟨6,tx,ps,⟨y,m,d,h,nn,s,zd,zn⟩,n⟩:Vl)) ⟨by simp,by simp⟩ hon
 refine Calls.mono (ahV tx a cap ps y m d h nn s zd zn n w hon) ?_
 rintro e w' ⟨v,rfl,hv,g⟩
 refine⟨_,rfl,?_,g⟩
 unfold aqN at hv
 subst hv
 cases hh:adF n with
 |true=>exact acI.yes (HO.trans hh)
 |false=>exact acI.no 2 (HO.trans hh)
theorem anA(tx:List UInt8)(a:Option Addr)(cap:Nat)(ps:List (List (List UInt8)))(y m d h nn s:Int)(zd:Bool)(zn n:Int)(w:World)(hL:Uw w (.slice a ps.length cap) ps)(h2:acY ps≤100000)(hon:(⟨2,tx,ps,⟨y,m,d,h,nn,s,zd,zn⟩,n⟩:Vl).only=true):Uz 113 #[(⟨2,tx,ps,⟨y,m,d,h,nn,s,zd,zn⟩,n⟩:Vl).v (.slice a ps.length cap)] w (fun r _=>acI (⟨2,tx,ps,⟨y,m,d,h,nn,s,zd,zn⟩,n⟩:Vl).ok r):=by
 have HL:=hid hL
 have hpl:=ahG ps
 have hpb:ps.length≤100000:=by omega
 have HSZ:=hid h2
 clear hL h2 hpl
 by_cases hbad:ps=[]∨((2:Int)=2∧ps.length≠1)
 ·have HO:Hid ((⟨2,tx,ps,⟨y,m,d,h,nn,s,zd,zn⟩,n⟩:Vl).ok=false):=hid ((ahs (x:=(⟨2,tx,ps,⟨y,m,d,h,nn,s,zd,zn⟩,n⟩:Vl)) ⟨by simp,by simp⟩ hon).trans (aep (.inl rfl) hbad))
  have hcase:ps=[]∨ps≠[]∧(2:Int)=2∧ps.length≠1:=by
   by_cases h0:ps=[]
   ·exact .inl h0
   ·rcases hbad with h|h
    ·exact absurd h h0
    ·exact .inr ⟨h0,h⟩
  clear hbad
  have HON:=hid hon
  clear hon
  simp only[Vl.v]
  go_enter Tryz.func113,Tryz.ntmps113
  go_wp2_with fail
  refine(aeI (⟨2,tx,ps,⟨y,m,d,h,nn,s,zd,zn⟩,n⟩:Vl) a cap _ ⟨by simp,by simp⟩).use ?_
  intro w2 g2
  rw[HON.out]
  have r2:=hid (adB g2)
  have G2:=hid (((G.refl w).alloc _).trans g2)
  clear g2
  obtain⟨e0,e1,e2,e3,e4,e5,e6,e7,e8,e9,e10,e11⟩:=adl r2.out
  rcases hcase with rfl|⟨h0,h1,h2⟩
  ·go_wp2_with fail
   go_ret
   exact⟨_,rfl,acI.no 8 HO.out,G2.out⟩
  ·have hl0:((ps.length:Int)==0)=false:=beq_eq_false_iff_ne.2 (by have:=List.length_pos_iff.2 h0;omega)
   have hl1:((ps.length:Int) != 1)=true:=by simp;omega
   clear h0 h1 h2
   go_wp2_with fail
   go_ret
   exact⟨_,rfl,acI.no 8 HO.out,G2.out⟩
 ·have h0:ps≠[]:=fun e=>hbad (.inl e)
  have hl0:((ps.length:Int)==0)=false:=beq_eq_false_iff_ne.2 (by have:=List.length_pos_iff.2 h0;omega)
  have hl1:ps.length=1:=by
   rcases Nat.decEq ps.length 1 with e|e
   ·exact absurd (.inr ⟨rfl,e⟩) hbad
   ·exact e
  have hl2:((ps.length:Int) != 1)=false:=by rw[hl1];rfl
  clear hl1
  have HO:Hid ((⟨2,tx,ps,⟨y,m,d,h,nn,s,zd,zn⟩,n⟩:Vl).ok=true↔(∀l∈ps,l≠[])∧∀l∈ps,∀s∈l,Af s true=true):=hid (by rw[ahs (x:=(⟨2,tx,ps,⟨y,m,d,h,nn,s,zd,zn⟩,n⟩:Vl)) ⟨by simp,by simp⟩ hon];exact ahm (x:=(⟨2,tx,ps,⟨y,m,d,h,nn,s,zd,zn⟩,n⟩:Vl)) (.inl rfl) h0 (fun hx=>hbad (.inr hx)))
  clear h0 hbad
  have HON:=hid hon
  clear hon
  simp only[Vl.v]
  go_enter Tryz.func113,Tryz.ntmps113
  go_wp2_with fail
  refine(aeI (⟨2,tx,ps,⟨y,m,d,h,nn,s,zd,zn⟩,n⟩:Vl) a cap _ ⟨by simp,by simp⟩).use ?_
  intro w2 g2
  rw[HON.out]
  have r2:=hid (adB g2)
  have G2:=hid (((G.refl w).alloc _).trans g2)
  clear g2
  obtain⟨e0,e1,e2,e3,e4,e5,e6,e7,e8,e9,e10,e11⟩:=adl r2.out
  have HNO:Hid (¬((∀l∈ps,l≠[])∧∀l∈ps,∀s∈l,Af s true=true)→(⟨2,tx,ps,⟨y,m,d,h,nn,s,zd,zn⟩,n⟩:Vl).ok=false):=hid (fun hx=>by
   cases e:(⟨2,tx,ps,⟨y,m,d,h,nn,s,zd,zn⟩,n⟩:Vl).ok with
   |false=>rfl
   |true=>exact absurd (HO.out.1 e) hx)
  have HL2:=hid (HL.out.grow G2.out)
  go_wp2_with fail
  go_loop [47] (fun i=>∃k:Nat,k≤ps.length∧i=.int .i64 k∧∀l∈ps.take k,l≠[]) (fun i=>ps.length-(intOf i).toNat)
  case atStart=>exact⟨0,Nat.zero_le _,rfl,by simp⟩
  case round=>
   obtain⟨k,hk,rfl,hr⟩:=hrel
   have HR:=hid hr;clear hr
   by_cases hlt:k<ps.length
   ·obtain⟨b,off,c,e1',_,hb',hc⟩:=HL2.out.at_ (by rintro rfl;simp at hlt)
    simp only[Value.slice.injEq,true_and]at e1'
    obtain⟨rfl,rfl⟩:=e1'
    obtain⟨sv,d1,i1⟩:=hc k _ (List.getElem?_eq_getElem hlt)
    obtain⟨x,hx⟩:∃x,ps[k]=x:=⟨_,rfl⟩
    have HX:=hid hx
    rw[hx]at i1
    obtain⟨xa,xc,hxv,_⟩:=i1.len
    subst hxv
    clear hc i1 hx
    by_cases hxe:x=[]
    ·subst hxe
     go_wp2_with fail
     go_ret
     exact⟨_,rfl,acI.no 8 (HNO.out fun h=>h.1 _ (List.getElem_mem hlt) HX.out),G2.out⟩
    ·have hxl:((x.length:Int)==0)=false:=beq_eq_false_iff_ne.2 (by have:=List.length_pos_iff.2 hxe;omega)
     have HXE:=hid hxe
     clear hxe
     go_wp2_with fail
     go_round
     case rel=>exact⟨k+1,by omega,by go_num,by
      intro l hl
      rw[List.take_succ_eq_append_getElem hlt]at hl
      rcases List.mem_append.1 hl with hl|hl
      ·exact HR.out l hl
      ·rw[List.mem_singleton.1 hl,HX.out];exact HXE.out⟩
     case measure=>simp[intOf];omega
   ·obtain rfl:k=ps.length:=by omega
    have HA:Hid (∀l∈ps,l≠[]):=hid (by have:=HR.out;rwa [List.take_length]at this)
    go_wp2_with fail
    go_loop [59] (fun i=>∃k:Nat,k≤ps.length∧i=.int .i64 k∧∀l∈ps.take k,∀s∈l,Af s true=true) (fun i=>ps.length-(intOf i).toNat)
    case atStart=>exact⟨0,Nat.zero_le _,rfl,by simp⟩
    case round=>
     obtain⟨k,hk,rfl,hr⟩:=hrel
     have HR2:=hid hr;clear hr
     by_cases hlt:k<ps.length
     ·obtain⟨b,off,c,e1',_,hb',hc⟩:=HL2.out.at_ (by rintro rfl;simp at hlt)
      simp only[Value.slice.injEq,true_and]at e1'
      obtain⟨rfl,rfl⟩:=e1'
      obtain⟨sv,d1,i1⟩:=hc k _ (List.getElem?_eq_getElem hlt)
      obtain⟨x,hx⟩:∃x,ps[k]=x:=⟨_,rfl⟩
      have HX:=hid hx
      rw[hx]at i1
      obtain⟨xa,xc,hxv,_⟩:=i1.len
      subst hxv
      have I1:=hid i1
      have hxs:adq x+1≤acY ps:=by have:=ahH (ls:=ps) (List.getElem_mem hlt);rwa [hx]at this
      have hxl:=ahF x
      have HXS:Hid (adq x+1≤acY ps):=hid hxs
      have hszx:=HSZ.out
      have hxb:x.length≤100000:=by omega
      clear hc i1 hx hxs hxl hszx
      go_wp2_with fail
      go_loop [65] (fun i=>∃j:Nat,j≤x.length∧i=.int .i64 j∧∀s∈x.take j,Af s true=true) (fun i=>x.length-(intOf i).toNat)
      case atStart=>exact⟨0,Nat.zero_le _,rfl,by simp⟩
      case round=>
       obtain⟨j,hj,rfl,hr⟩:=hrel
       have HR3:=hid hr;clear hr
       by_cases hjt:j<x.length
       ·obtain⟨b2,o2,c2,e2',_,hb2',hc2⟩:=I1.out.at_ (by rintro rfl;simp at hjt)
        simp only[Value.slice.injEq,true_and]at e2'
        obtain⟨rfl,rfl⟩:=e2'
        have d2:=hc2 j _ (List.getElem?_eq_getElem hjt)
        obtain⟨t,ht⟩:∃t,x[j]=t:=⟨_,rfl⟩
        have HT:=hid ht
        rw[ht]at d2
        have HTL:Hid (t.length≤1000000):=hid (by
         have h1:=ajG (ls:=x) (List.getElem_mem hjt)
         have h2:=HXS.out
         have h3:=HSZ.out
         rw[ht]at h1;omega)
        clear hc2 ht
        go_wp2_with fail
        refine(afZ t true _ HTL.out).use ?_
        cases hh:Af t true with
        |true=>
         have HH:=hid hh
         clear hh
         go_wp2_with fail
         go_round
         case rel=>exact⟨j+1,by omega,by go_num,by
          intro s hs
          rw[List.take_succ_eq_append_getElem hjt]at hs
          rcases List.mem_append.1 hs with hs|hs
          ·exact HR3.out s hs
          ·rw[List.mem_singleton.1 hs,HT.out];exact HH.out⟩
         case measure=>simp[intOf];omega
        |false=>
         have HH:=hid hh
         clear hh
         go_wp2_with fail
         go_ret
         exact⟨_,rfl,acI.no 3 (HNO.out fun h=>by
          have:=h.2 _ (List.getElem_mem hlt) t (by rw[HX.out,←HT.out];exact List.getElem_mem hjt)
          rw[HH.out]at this;cases this),G2.out⟩
       ·obtain rfl:j=x.length:=by omega
        go_wp2_with fail
        go_round
        case rel=>exact⟨k+1,by omega,by go_num,by
         intro l hl
         rw[List.take_succ_eq_append_getElem hlt]at hl
         rcases List.mem_append.1 hl with hl|hl
         ·exact HR2.out l hl
         ·rw[List.mem_singleton.1 hl,HX.out]
          have:=HR3.out
          rwa [List.take_length]at this⟩
        case measure=>simp[intOf];omega
     ·obtain rfl:k=ps.length:=by omega
      have HB2:Hid (∀l∈ps,∀s∈l,Af s true=true):=hid (by have:=HR2.out;rwa [List.take_length]at this)
      go_wp2_with fail
      go_ret
      exact⟨_,rfl,acI.yes (HO.out.2 ⟨HA.out,HB2.out⟩),G2.out⟩
theorem anB(tx:List UInt8)(a:Option Addr)(cap:Nat)(ps:List (List (List UInt8)))(y m d h nn s:Int)(zd:Bool)(zn n:Int)(w:World)(hL:Uw w (.slice a ps.length cap) ps)(h2:acY ps≤100000)(hon:(⟨3,tx,ps,⟨y,m,d,h,nn,s,zd,zn⟩,n⟩:Vl).only=true):Uz 113 #[(⟨3,tx,ps,⟨y,m,d,h,nn,s,zd,zn⟩,n⟩:Vl).v (.slice a ps.length cap)] w (fun r _=>acI (⟨3,tx,ps,⟨y,m,d,h,nn,s,zd,zn⟩,n⟩:Vl).ok r):=by
 have HL:=hid hL
 have hpl:=ahG ps
 have hpb:ps.length≤100000:=by omega
 have HSZ:=hid h2
 clear hL h2 hpl
 by_cases hbad:ps=[]∨((3:Int)=2∧ps.length≠1)
 ·have HO:Hid ((⟨3,tx,ps,⟨y,m,d,h,nn,s,zd,zn⟩,n⟩:Vl).ok=false):=hid ((ahs (x:=(⟨3,tx,ps,⟨y,m,d,h,nn,s,zd,zn⟩,n⟩:Vl)) ⟨by simp,by simp⟩ hon).trans (aep (.inr rfl) hbad))
  have hcase:ps=[]∨ps≠[]∧(3:Int)=2∧ps.length≠1:=by
   by_cases h0:ps=[]
   ·exact .inl h0
   ·rcases hbad with h|h
    ·exact absurd h h0
    ·exact .inr ⟨h0,h⟩
  clear hbad
  have HON:=hid hon
  clear hon
  simp only[Vl.v]
  go_enter Tryz.func113,Tryz.ntmps113
  go_wp2_with fail
  refine(aeI (⟨3,tx,ps,⟨y,m,d,h,nn,s,zd,zn⟩,n⟩:Vl) a cap _ ⟨by simp,by simp⟩).use ?_
  intro w2 g2
  rw[HON.out]
  have r2:=hid (adB g2)
  have G2:=hid (((G.refl w).alloc _).trans g2)
  clear g2
  obtain⟨e0,e1,e2,e3,e4,e5,e6,e7,e8,e9,e10,e11⟩:=adl r2.out
  rcases hcase with rfl|⟨h0,h1,h2⟩
  ·go_wp2_with fail
   go_ret
   exact⟨_,rfl,acI.no 8 HO.out,G2.out⟩
  ·exact absurd h1 (by decide)
 ·have h0:ps≠[]:=fun e=>hbad (.inl e)
  have hl0:((ps.length:Int)==0)=false:=beq_eq_false_iff_ne.2 (by have:=List.length_pos_iff.2 h0;omega)
  have HO:Hid ((⟨3,tx,ps,⟨y,m,d,h,nn,s,zd,zn⟩,n⟩:Vl).ok=true↔(∀l∈ps,l≠[])∧∀l∈ps,∀s∈l,Af s true=true):=hid (by rw[ahs (x:=(⟨3,tx,ps,⟨y,m,d,h,nn,s,zd,zn⟩,n⟩:Vl)) ⟨by simp,by simp⟩ hon];exact ahm (x:=(⟨3,tx,ps,⟨y,m,d,h,nn,s,zd,zn⟩,n⟩:Vl)) (.inr rfl) h0 (fun hx=>hbad (.inr hx)))
  clear h0 hbad
  have HON:=hid hon
  clear hon
  simp only[Vl.v]
  go_enter Tryz.func113,Tryz.ntmps113
  go_wp2_with fail
  refine(aeI (⟨3,tx,ps,⟨y,m,d,h,nn,s,zd,zn⟩,n⟩:Vl) a cap _ ⟨by simp,by simp⟩).use ?_
  intro w2 g2
  rw[HON.out]
  have r2:=hid (adB g2)
  have G2:=hid (((G.refl w).alloc _).trans g2)
  clear g2
  obtain⟨e0,e1,e2,e3,e4,e5,e6,e7,e8,e9,e10,e11⟩:=adl r2.out
  have HNO:Hid (¬((∀l∈ps,l≠[])∧∀l∈ps,∀s∈l,Af s true=true)→(⟨3,tx,ps,⟨y,m,d,h,nn,s,zd,zn⟩,n⟩:Vl).ok=false):=hid (fun hx=>by
   cases e:(⟨3,tx,ps,⟨y,m,d,h,nn,s,zd,zn⟩,n⟩:Vl).ok with
   |false=>rfl
   |true=>exact absurd (HO.out.1 e) hx)
  have HL2:=hid (HL.out.grow G2.out)
  go_wp2_with fail
  go_loop [47] (fun i=>∃k:Nat,k≤ps.length∧i=.int .i64 k∧∀l∈ps.take k,l≠[]) (fun i=>ps.length-(intOf i).toNat)
  case atStart=>exact⟨0,Nat.zero_le _,rfl,by simp⟩
  case round=>
   obtain⟨k,hk,rfl,hr⟩:=hrel
   have HR:=hid hr;clear hr
   by_cases hlt:k<ps.length
   ·obtain⟨b,off,c,e1',_,hb',hc⟩:=HL2.out.at_ (by rintro rfl;simp at hlt)
    simp only[Value.slice.injEq,true_and]at e1'
    obtain⟨rfl,rfl⟩:=e1'
    obtain⟨sv,d1,i1⟩:=hc k _ (List.getElem?_eq_getElem hlt)
    obtain⟨x,hx⟩:∃x,ps[k]=x:=⟨_,rfl⟩
    have HX:=hid hx
    rw[hx]at i1
    obtain⟨xa,xc,hxv,_⟩:=i1.len
    subst hxv
    clear hc i1 hx
    by_cases hxe:x=[]
    ·subst hxe
     go_wp2_with fail
     go_ret
     exact⟨_,rfl,acI.no 8 (HNO.out fun h=>h.1 _ (List.getElem_mem hlt) HX.out),G2.out⟩
    ·have hxl:((x.length:Int)==0)=false:=beq_eq_false_iff_ne.2 (by have:=List.length_pos_iff.2 hxe;omega)
     have HXE:=hid hxe
     clear hxe
     go_wp2_with fail
     go_round
     case rel=>exact⟨k+1,by omega,by go_num,by
      intro l hl
      rw[List.take_succ_eq_append_getElem hlt]at hl
      rcases List.mem_append.1 hl with hl|hl
      ·exact HR.out l hl
      ·rw[List.mem_singleton.1 hl,HX.out];exact HXE.out⟩
     case measure=>simp[intOf];omega
   ·obtain rfl:k=ps.length:=by omega
    have HA:Hid (∀l∈ps,l≠[]):=hid (by have:=HR.out;rwa [List.take_length]at this)
    go_wp2_with fail
    go_loop [59] (fun i=>∃k:Nat,k≤ps.length∧i=.int .i64 k∧∀l∈ps.take k,∀s∈l,Af s true=true) (fun i=>ps.length-(intOf i).toNat)
    case atStart=>exact⟨0,Nat.zero_le _,rfl,by simp⟩
    case round=>
     obtain⟨k,hk,rfl,hr⟩:=hrel
     have HR2:=hid hr;clear hr
     by_cases hlt:k<ps.length
     ·obtain⟨b,off,c,e1',_,hb',hc⟩:=HL2.out.at_ (by rintro rfl;simp at hlt)
      simp only[Value.slice.injEq,true_and]at e1'
      obtain⟨rfl,rfl⟩:=e1'
      obtain⟨sv,d1,i1⟩:=hc k _ (List.getElem?_eq_getElem hlt)
      obtain⟨x,hx⟩:∃x,ps[k]=x:=⟨_,rfl⟩
      have HX:=hid hx
      rw[hx]at i1
      obtain⟨xa,xc,hxv,_⟩:=i1.len
      subst hxv
      have I1:=hid i1
      have hxs:adq x+1≤acY ps:=by have:=ahH (ls:=ps) (List.getElem_mem hlt);rwa [hx]at this
      have hxl:=ahF x
      have HXS:Hid (adq x+1≤acY ps):=hid hxs
      have hszx:=HSZ.out
      have hxb:x.length≤100000:=by omega
      clear hc i1 hx hxs hxl hszx
      go_wp2_with fail
      go_loop [65] (fun i=>∃j:Nat,j≤x.length∧i=.int .i64 j∧∀s∈x.take j,Af s true=true) (fun i=>x.length-(intOf i).toNat)
      case atStart=>exact⟨0,Nat.zero_le _,rfl,by simp⟩
      case round=>
       obtain⟨j,hj,rfl,hr⟩:=hrel
       have HR3:=hid hr;clear hr
       by_cases hjt:j<x.length
       ·obtain⟨b2,o2,c2,e2',_,hb2',hc2⟩:=I1.out.at_ (by rintro rfl;simp at hjt)
        simp only[Value.slice.injEq,true_and]at e2'
        obtain⟨rfl,rfl⟩:=e2'
        have d2:=hc2 j _ (List.getElem?_eq_getElem hjt)
        obtain⟨t,ht⟩:∃t,x[j]=t:=⟨_,rfl⟩
        have HT:=hid ht
        rw[ht]at d2
        have HTL:Hid (t.length≤1000000):=hid (by
         have h1:=ajG (ls:=x) (List.getElem_mem hjt)
         have h2:=HXS.out
         have h3:=HSZ.out
         rw[ht]at h1;omega)
        clear hc2 ht
        go_wp2_with fail
        refine(afZ t true _ HTL.out).use ?_
        cases hh:Af t true with
        |true=>
         have HH:=hid hh
         clear hh
         go_wp2_with fail
         go_round
         case rel=>exact⟨j+1,by omega,by go_num,by
          intro s hs
          rw[List.take_succ_eq_append_getElem hjt]at hs
          rcases List.mem_append.1 hs with hs|hs
          ·exact HR3.out s hs
          ·rw[List.mem_singleton.1 hs,HT.out];exact HH.out⟩
         case measure=>simp[intOf];omega
        |false=>
         have HH:=hid hh
         clear hh
         go_wp2_with fail
         go_ret
         exact⟨_,rfl,acI.no 3 (HNO.out fun h=>by
          have:=h.2 _ (List.getElem_mem hlt) t (by rw[HX.out,←HT.out];exact List.getElem_mem hjt)
          rw[HH.out]at this;cases this),G2.out⟩
       ·obtain rfl:j=x.length:=by omega
        go_wp2_with fail
        go_round
        case rel=>exact⟨k+1,by omega,by go_num,by
         intro l hl
         rw[List.take_succ_eq_append_getElem hlt]at hl
         rcases List.mem_append.1 hl with hl|hl
         ·exact HR2.out l hl
         ·rw[List.mem_singleton.1 hl,HX.out]
          have:=HR3.out
          rwa [List.take_length]at this⟩
        case measure=>simp[intOf];omega
     ·obtain rfl:k=ps.length:=by omega
      have HB2:Hid (∀l∈ps,∀s∈l,Af s true=true):=hid (by have:=HR2.out;rwa [List.take_length]at this)
      go_wp2_with fail
      go_ret
      exact⟨_,rfl,acI.yes (HO.out.2 ⟨HA.out,HB2.out⟩),G2.out⟩
theorem adW(x:Vl)(pv:Value)(w:World)(hL:Uw w pv x.ps)(h1:x.tx.length≤100000)(h2:acY x.ps≤100000)(hy : -9223372036854775808≤x.st.y∧x.st.y≤9223372036854775807)(hM:aer w)(hE:UO w):Uz 113 #[x.v pv] w (fun r _=>acI x.ok r):=by
 obtain⟨a,cap,rfl,_⟩:=hL.len
 obtain⟨ty,tx,ps,⟨y,m,d,h,nn,s,zd,zn⟩,n⟩:=x
 simp only at hL h1 h2 hy
 by_cases hk:1≤ty∧ty<9
 ·cases ho:(⟨ty,tx,ps,⟨y,m,d,h,nn,s,zd,zn⟩,n⟩:Vl).only with
  |false=>exact aqK ty tx a cap ps y m d h nn s zd zn n w hk ho
  |true=>
   have hty:ty=1∨ty=2∨ty=3∨ty=4∨ty=5∨ty=6∨ty=7∨ty=8:=by omega
   rcases hty with rfl|rfl|rfl|rfl|rfl|rfl|rfl|rfl
   ·exact apa tx a cap ps y m d h nn s zd zn n w h1 ho
   ·exact anA tx a cap ps y m d h nn s zd zn n w hL h2 ho
   ·exact anB tx a cap ps y m d h nn s zd zn n w hL h2 ho
   ·exact ar5 tx a cap ps y m d h nn s zd zn n w h1 hE ho
   ·exact aqM tx a cap ps y m d h nn s zd zn n w hM hy ho
   ·exact anz tx a cap ps y m d h nn s zd zn n w ho
   ·exact aqL tx a cap ps y m d h nn s zd zn n w h1 hE ho
   ·exact apb tx a cap ps y m d h nn s zd zn n w h1 ho
 ·exact ar4 ty tx a cap ps y m d h nn s zd zn n w hk
end Go.Proofs.YtmffejnigppbpaaGreatDoor
