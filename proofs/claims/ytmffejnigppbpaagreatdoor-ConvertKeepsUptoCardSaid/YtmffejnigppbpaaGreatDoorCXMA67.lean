/-
  Texts merged into one: PickCmp, CaretPlain, ValWrite, NameF, Trie, TrieAdd, GenAdds, PiecesSum, ValBound, DoorRE.
-/
import Derived.Test.YtmffejnigppbpaaGreatDoorCXMA70
import Derived.Test.YtmffejnigppbpaaGreatDoorCXMRules
import Derived.Deep.LoopGhost
import Derived.Test.YtmffejnigppbpaaGreatDoorCXMA66
import Derived.Test.YtmffejnigppbpaaGreatDoorCXValRight
import Derived.Test.YtmffejnigppbpaaGreatDoorCXMA59
import Derived.OwnWalk
import Derived.Laws.Cover3
import Derived.LoopN
import Derived.Deep.RegionHeld3
import Derived.Deep.OwnRows
import Derived.StillTailTactics
import Derived.Test.YtmffejnigppbpaaGreatDoorCXMA58
import Derived.Test.YtmffejnigppbpaaGreatDoorCXMA62
import Derived.Test.YtmffejnigppbpaaGreatDoorCXMA69
set_option linter.unusedVariables false
set_option linter.unusedSimpArgs false
namespace Go.Proofs.YtmffejnigppbpaaGreatDoor
open Go.RowKit
structure wJ(w:World)(C:Nat)(ver:Int)(iv:Value)(xs:List It):Prop where
 c0:w.cell? ⟨C,0,none⟩=some (.int .i64 ver)
 c1:w.cell? ⟨C,1,none⟩=some iv
 it:dX w iv xs
theorem wJ.lt{w:World}{C:Nat}{ver:Int}{iv:Value}{xs:List It}(h:wJ w C ver iv xs):C<w.heap.size:=World.block_lt_of_cell? _ _ h.c0
theorem wJ.grow{w w':World}{C:Nat}{ver:Int}{iv:Value}{xs:List It}(h:wJ w C ver iv xs)(g:G w w'):wJ w' C ver iv xs:=
 ⟨(g.cell h.lt).trans h.c0,(g.cell h.lt).trans h.c1,h.it.grow g⟩
theorem wJ.new{w:World}{ver:Int}{iv:Value}{xs:List It}{t:TypeId}(h:dX w iv xs):wJ (w.alloc (.cells #[.int .i64 ver,iv] t)) w.heap.size ver iv xs:=
 ⟨by simp,by simp,h.grow ((G.refl w).alloc _)⟩
end Go.Proofs.YtmffejnigppbpaaGreatDoor

namespace Go.Proofs.YtmffejnigppbpaaGreatDoor
def mtL:List UInt8→Option UInt8
 |c::d::_=>if c=94 then(if d=94 then some 94 else if d=110 then some 10 else if d=39 then some 34 else none)else none
 |_=>none
def aaW:Nat→List UInt8→List UInt8
 |0,_=>[]
 |f+1,l=>match l with
  |[]=>[]
  |c::r=>match mtL (c::r)with
   |some v=>v::aaW f (r.drop 1)
   |none=>c::aaW f r
def acC(l:List UInt8):List UInt8:=aaW l.length l
end Go.Proofs.YtmffejnigppbpaaGreatDoor

set_option maxHeartbeats 4000000
set_option maxRecDepth 100000
namespace Go.Proofs.YtmffejnigppbpaaGreatDoor
open Go.RowKit
def kC(x:Vl)(r:Value):Prop:=if x.ok=true then r=.tuple #[.string (S x.text),.nilIface] else ∃c,r=.tuple #[.string (S []),eno c]
theorem kC.yes{x:Vl}{t:List UInt8}(h:x.ok=true)(ht:x.text=t):kC x (.tuple #[.string (S t),.nilIface]):=by unfold kC;rw[if_pos h,ht]
theorem kC.no{x:Vl}(c:Int)(h:x.ok=false):kC x (.tuple #[.string (S []),eno c]):=by unfold kC;rw[if_neg (by simp[h])];exact⟨c,rfl⟩
theorem yD{x:Vl}(h:x.ok=true):(1≤x.ty∧x.ty<9)∧x.only=true∧x.body=true:=by
 unfold Vl.ok at h
 simp only[Bool.and_eq_true,decide_eq_true_eq]at h
 exact⟨h.1.1,h.1.2,h.2⟩
theorem WZ(ty:Int)(tx:List UInt8)(a:Option Addr)(cap:Nat)(ps:List (List (List UInt8)))(y m d h nn s:Int)(zd:Bool)(zn n:Int)(w:World)(hL:fA w (.slice a ps.length cap) ps)(h1:tx.length≤100000)(h2:iL ps≤100000)(hy : -9223372036854775808≤y∧y≤9223372036854775807)(hM:nJ w)(hE:gQ w)(hok:(⟨ty,tx,ps,⟨y,m,d,h,nn,s,zd,zn⟩,n⟩:Vl).ok=false):dP 118 #[(⟨ty,tx,ps,⟨y,m,d,h,nn,s,zd,zn⟩,n⟩:Vl).v (.slice a ps.length cap)] w (fun r _=>kC (⟨ty,tx,ps,⟨y,m,d,h,nn,s,zd,zn⟩,n⟩:Vl) r):=by
 have HOK:=hid hok
 have HL:=hid hL
 have HM:=hid hM
 have HE:=hid hE
 have HY:=hid hy
 have H1:=hid h1
 have H2:=hid h2
 clear hok hL hM hE hy h1 h2
 have HR:=hid (fun W (g:G w W)=>lV (⟨ty,tx,ps,⟨y,m,d,h,nn,s,zd,zn⟩,n⟩:Vl) (.slice a ps.length cap) W (HL.out.grow g) H1.out H2.out HY.out (HM.out.grow g) (HE.out.grow g))
 simp only[Vl.v]at HR⊢
 go_enter Tryz.func118,Tryz.ntmps118
 go_wp2_with fail
 refine(HR.out _ ((G.refl w).alloc _)).use ?_
 intro r w2 hr g2
 unfold gB at hr
 rw[HOK.out]at hr
 have r2:=hid (kG g2)
 have G2:=hid (((G.refl w).alloc _).trans g2)
 clear g2
 obtain⟨e0,e1,e2,e3,e4,e5,e6,e7,e8,e9,e10,e11⟩:=nZ r2.out
 rw[if_neg (by decide)]at hr
 obtain⟨c,rfl,_⟩:=hr
 go_wp2_with fail
 go_ret2
 exact⟨_,rfl,kC.no c HOK.out,G2.out⟩
theorem aaq(tx:List UInt8)(a:Option Addr)(cap:Nat)(ps:List (List (List UInt8)))(y m d h nn s:Int)(zd:Bool)(zn n:Int)(w:World)(hL:fA w (.slice a ps.length cap) ps)(h1:tx.length≤100000)(h2:iL ps≤100000)(hy : -9223372036854775808≤y∧y≤9223372036854775807)(hM:nJ w)(hE:gQ w)(hok:(⟨1,tx,ps,⟨y,m,d,h,nn,s,zd,zn⟩,n⟩:Vl).ok=true):dP 118 #[(⟨1,tx,ps,⟨y,m,d,h,nn,s,zd,zn⟩,n⟩:Vl).v (.slice a ps.length cap)] w (fun r _=>kC (⟨1,tx,ps,⟨y,m,d,h,nn,s,zd,zn⟩,n⟩:Vl) r):=by
 have HOK:=hid hok
 have HL:=hid hL
 have HM:=hid hM
 have HE:=hid hE
 have HY:=hid hy
 have H1:=hid h1
 have H2:=hid h2
 clear hok hL hM hE hy h1 h2
 have HR:=hid (fun W (g:G w W)=>lV (⟨1,tx,ps,⟨y,m,d,h,nn,s,zd,zn⟩,n⟩:Vl) (.slice a ps.length cap) W (HL.out.grow g) H1.out H2.out HY.out (HM.out.grow g) (HE.out.grow g))
 simp only[Vl.v]at HR⊢
 go_enter Tryz.func118,Tryz.ntmps118
 go_wp2_with fail
 refine(HR.out _ ((G.refl w).alloc _)).use ?_
 intro r w2 hr g2
 unfold gB at hr
 rw[HOK.out]at hr
 have r2:=hid (kG g2)
 have G2:=hid (((G.refl w).alloc _).trans g2)
 clear g2
 obtain⟨e0,e1,e2,e3,e4,e5,e6,e7,e8,e9,e10,e11⟩:=nZ r2.out
 rw[if_pos rfl]at hr
 subst hr
 go_wp2_with fail
 refine(Am tx _ H1.out).use ?_
 intro w3 g3
 go_wp2_with fail
 go_ret2
 exact⟨_,rfl,kC.yes HOK.out rfl,G2.out.trans g3⟩
theorem aar(tx:List UInt8)(a:Option Addr)(cap:Nat)(ps:List (List (List UInt8)))(y m d h nn s:Int)(zd:Bool)(zn n:Int)(w:World)(hL:fA w (.slice a ps.length cap) ps)(h1:tx.length≤100000)(h2:iL ps≤100000)(hy : -9223372036854775808≤y∧y≤9223372036854775807)(hM:nJ w)(hE:gQ w)(hok:(⟨2,tx,ps,⟨y,m,d,h,nn,s,zd,zn⟩,n⟩:Vl).ok=true):dP 118 #[(⟨2,tx,ps,⟨y,m,d,h,nn,s,zd,zn⟩,n⟩:Vl).v (.slice a ps.length cap)] w (fun r _=>kC (⟨2,tx,ps,⟨y,m,d,h,nn,s,zd,zn⟩,n⟩:Vl) r):=by
 have HOK:=hid hok
 have HL:=hid hL
 have HM:=hid hM
 have HE:=hid hE
 have HY:=hid hy
 have H1:=hid h1
 have H2:=hid h2
 clear hok hL hM hE hy h1 h2
 have HR:=hid (fun W (g:G w W)=>lV (⟨2,tx,ps,⟨y,m,d,h,nn,s,zd,zn⟩,n⟩:Vl) (.slice a ps.length cap) W (HL.out.grow g) H1.out H2.out HY.out (HM.out.grow g) (HE.out.grow g))
 simp only[Vl.v]at HR⊢
 go_enter Tryz.func118,Tryz.ntmps118
 go_wp2_with fail
 refine(HR.out _ ((G.refl w).alloc _)).use ?_
 intro r w2 hr g2
 unfold gB at hr
 rw[HOK.out]at hr
 have r2:=hid (kG g2)
 have G2:=hid (((G.refl w).alloc _).trans g2)
 clear g2
 obtain⟨e0,e1,e2,e3,e4,e5,e6,e7,e8,e9,e10,e11⟩:=nZ r2.out
 rw[if_pos rfl]at hr
 subst hr
 have hbody:=(yD HOK.out).2.2
 have hne:ps≠[]∧∀l∈ps,l≠[]:=by
  have h0:ps≠[]:=by
   intro e
   rw[ni (x:=(⟨2,tx,ps,⟨y,m,d,h,nn,s,zd,zn⟩,n⟩:Vl)) (.inl rfl) (.inl e)]at hbody
   cases hbody
  refine⟨h0,?_⟩
  by_cases hb:((2:Int)=2∧ps.length≠1)
  ·rw[ni (x:=(⟨2,tx,ps,⟨y,m,d,h,nn,s,zd,zn⟩,n⟩:Vl)) (.inl rfl) (.inr hb)]at hbody
   cases hbody
  ·exact((xe (x:=(⟨2,tx,ps,⟨y,m,d,h,nn,s,zd,zn⟩,n⟩:Vl)) (.inl rfl) h0 hb).1 hbody).1
 have HNE:=hid hne
 clear hbody hne
 go_wp2_with fail
 refine(zW (.slice a ps.length cap) ps _ (HL.out.grow G2.out) H2.out).use ?_
 intro v w3 hv g3
 obtain rfl:=Lm hv HNE.out.1 HNE.out.2
 go_wp2_with fail
 go_ret2
 exact⟨_,rfl,kC.yes HOK.out rfl,G2.out.trans g3⟩
theorem aas(tx:List UInt8)(a:Option Addr)(cap:Nat)(ps:List (List (List UInt8)))(y m d h nn s:Int)(zd:Bool)(zn n:Int)(w:World)(hL:fA w (.slice a ps.length cap) ps)(h1:tx.length≤100000)(h2:iL ps≤100000)(hy : -9223372036854775808≤y∧y≤9223372036854775807)(hM:nJ w)(hE:gQ w)(hok:(⟨3,tx,ps,⟨y,m,d,h,nn,s,zd,zn⟩,n⟩:Vl).ok=true):dP 118 #[(⟨3,tx,ps,⟨y,m,d,h,nn,s,zd,zn⟩,n⟩:Vl).v (.slice a ps.length cap)] w (fun r _=>kC (⟨3,tx,ps,⟨y,m,d,h,nn,s,zd,zn⟩,n⟩:Vl) r):=by
 have HOK:=hid hok
 have HL:=hid hL
 have HM:=hid hM
 have HE:=hid hE
 have HY:=hid hy
 have H1:=hid h1
 have H2:=hid h2
 clear hok hL hM hE hy h1 h2
 have HR:=hid (fun W (g:G w W)=>lV (⟨3,tx,ps,⟨y,m,d,h,nn,s,zd,zn⟩,n⟩:Vl) (.slice a ps.length cap) W (HL.out.grow g) H1.out H2.out HY.out (HM.out.grow g) (HE.out.grow g))
 simp only[Vl.v]at HR⊢
 go_enter Tryz.func118,Tryz.ntmps118
 go_wp2_with fail
 refine(HR.out _ ((G.refl w).alloc _)).use ?_
 intro r w2 hr g2
 unfold gB at hr
 rw[HOK.out]at hr
 have r2:=hid (kG g2)
 have G2:=hid (((G.refl w).alloc _).trans g2)
 clear g2
 obtain⟨e0,e1,e2,e3,e4,e5,e6,e7,e8,e9,e10,e11⟩:=nZ r2.out
 rw[if_pos rfl]at hr
 subst hr
 have hbody:=(yD HOK.out).2.2
 have hne:ps≠[]∧∀l∈ps,l≠[]:=by
  have h0:ps≠[]:=by
   intro e
   rw[ni (x:=(⟨3,tx,ps,⟨y,m,d,h,nn,s,zd,zn⟩,n⟩:Vl)) (.inr rfl) (.inl e)]at hbody
   cases hbody
  refine⟨h0,?_⟩
  by_cases hb:((3:Int)=2∧ps.length≠1)
  ·rw[ni (x:=(⟨3,tx,ps,⟨y,m,d,h,nn,s,zd,zn⟩,n⟩:Vl)) (.inr rfl) (.inr hb)]at hbody
   cases hbody
  ·exact((xe (x:=(⟨3,tx,ps,⟨y,m,d,h,nn,s,zd,zn⟩,n⟩:Vl)) (.inr rfl) h0 hb).1 hbody).1
 have HNE:=hid hne
 clear hbody hne
 go_wp2_with fail
 refine(zW (.slice a ps.length cap) ps _ (HL.out.grow G2.out) H2.out).use ?_
 intro v w3 hv g3
 obtain rfl:=Lm hv HNE.out.1 HNE.out.2
 go_wp2_with fail
 go_ret2
 exact⟨_,rfl,kC.yes HOK.out rfl,G2.out.trans g3⟩
theorem aat(tx:List UInt8)(a:Option Addr)(cap:Nat)(ps:List (List (List UInt8)))(y m d h nn s:Int)(zd:Bool)(zn n:Int)(w:World)(hL:fA w (.slice a ps.length cap) ps)(h1:tx.length≤100000)(h2:iL ps≤100000)(hy : -9223372036854775808≤y∧y≤9223372036854775807)(hM:nJ w)(hE:gQ w)(hok:(⟨4,tx,ps,⟨y,m,d,h,nn,s,zd,zn⟩,n⟩:Vl).ok=true):dP 118 #[(⟨4,tx,ps,⟨y,m,d,h,nn,s,zd,zn⟩,n⟩:Vl).v (.slice a ps.length cap)] w (fun r _=>kC (⟨4,tx,ps,⟨y,m,d,h,nn,s,zd,zn⟩,n⟩:Vl) r):=by
 have HOK:=hid hok
 have HL:=hid hL
 have HM:=hid hM
 have HE:=hid hE
 have HY:=hid hy
 have H1:=hid h1
 have H2:=hid h2
 clear hok hL hM hE hy h1 h2
 have HR:=hid (fun W (g:G w W)=>lV (⟨4,tx,ps,⟨y,m,d,h,nn,s,zd,zn⟩,n⟩:Vl) (.slice a ps.length cap) W (HL.out.grow g) H1.out H2.out HY.out (HM.out.grow g) (HE.out.grow g))
 simp only[Vl.v]at HR⊢
 go_enter Tryz.func118,Tryz.ntmps118
 go_wp2_with fail
 refine(HR.out _ ((G.refl w).alloc _)).use ?_
 intro r w2 hr g2
 unfold gB at hr
 rw[HOK.out]at hr
 have r2:=hid (kG g2)
 have G2:=hid (((G.refl w).alloc _).trans g2)
 clear g2
 obtain⟨e0,e1,e2,e3,e4,e5,e6,e7,e8,e9,e10,e11⟩:=nZ r2.out
 rw[if_pos rfl]at hr
 subst hr
 go_wp2_with fail
 go_ret2
 exact⟨_,rfl,kC.yes HOK.out rfl,G2.out⟩
theorem aau(tx:List UInt8)(a:Option Addr)(cap:Nat)(ps:List (List (List UInt8)))(y m d h nn s:Int)(zd:Bool)(zn n:Int)(w:World)(hL:fA w (.slice a ps.length cap) ps)(h1:tx.length≤100000)(h2:iL ps≤100000)(hy : -9223372036854775808≤y∧y≤9223372036854775807)(hM:nJ w)(hE:gQ w)(hok:(⟨5,tx,ps,⟨y,m,d,h,nn,s,zd,zn⟩,n⟩:Vl).ok=true):dP 118 #[(⟨5,tx,ps,⟨y,m,d,h,nn,s,zd,zn⟩,n⟩:Vl).v (.slice a ps.length cap)] w (fun r _=>kC (⟨5,tx,ps,⟨y,m,d,h,nn,s,zd,zn⟩,n⟩:Vl) r):=by
 have HOK:=hid hok
 have HL:=hid hL
 have HM:=hid hM
 have HE:=hid hE
 have HY:=hid hy
 have H1:=hid h1
 have H2:=hid h2
 clear hok hL hM hE hy h1 h2
 have HR:=hid (fun W (g:G w W)=>lV (⟨5,tx,ps,⟨y,m,d,h,nn,s,zd,zn⟩,n⟩:Vl) (.slice a ps.length cap) W (HL.out.grow g) H1.out H2.out HY.out (HM.out.grow g) (HE.out.grow g))
 simp only[Vl.v]at HR⊢
 go_enter Tryz.func118,Tryz.ntmps118
 go_wp2_with fail
 refine(HR.out _ ((G.refl w).alloc _)).use ?_
 intro r w2 hr g2
 unfold gB at hr
 rw[HOK.out]at hr
 have r2:=hid (kG g2)
 have G2:=hid (((G.refl w).alloc _).trans g2)
 clear g2
 obtain⟨e0,e1,e2,e3,e4,e5,e6,e7,e8,e9,e10,e11⟩:=nZ r2.out
 rw[if_pos rfl]at hr
 subst hr
 have hb:(⟨y,m,d,h,nn,s,zd,zn⟩:St).right=0:=by
  have:decide ((⟨y,m,d,h,nn,s,zd,zn⟩:St).right=0)=true:=(yD HOK.out).2.2
  simpa using this
 have hp:=Xd ⟨y,m,d,h,nn,s,zd,zn⟩ w2 (HM.out.grow G2.out) hb
 obtain⟨t,ht⟩:∃t,(⟨y,m,d,h,nn,s,zd,zn⟩:St).text=t:=⟨_,rfl⟩
 rw[ht]at hp
 have HP:=hid hp
 have HT:Hid ((⟨5,tx,ps,⟨y,m,d,h,nn,s,zd,zn⟩,n⟩:Vl).text=t):=hid ht
 simp only[St.v]at HP
 clear hb hp ht
 go_wp2_with fail
 refine(HP.out).use ?_
 intro w3 g3
 go_wp2_with fail
 go_ret2
 exact⟨_,rfl,kC.yes HOK.out HT.out,G2.out.trans g3⟩
theorem aav(tx:List UInt8)(a:Option Addr)(cap:Nat)(ps:List (List (List UInt8)))(y m d h nn s:Int)(zd:Bool)(zn n:Int)(w:World)(hL:fA w (.slice a ps.length cap) ps)(h1:tx.length≤100000)(h2:iL ps≤100000)(hy : -9223372036854775808≤y∧y≤9223372036854775807)(hM:nJ w)(hE:gQ w)(hok:(⟨6,tx,ps,⟨y,m,d,h,nn,s,zd,zn⟩,n⟩:Vl).ok=true):dP 118 #[(⟨6,tx,ps,⟨y,m,d,h,nn,s,zd,zn⟩,n⟩:Vl).v (.slice a ps.length cap)] w (fun r _=>kC (⟨6,tx,ps,⟨y,m,d,h,nn,s,zd,zn⟩,n⟩:Vl) r):=by
 have HOK:=hid hok
 have HL:=hid hL
 have HM:=hid hM
 have HE:=hid hE
 have HY:=hid hy
 have H1:=hid h1
 have H2:=hid h2
 clear hok hL hM hE hy h1 h2
 have HR:=hid (fun W (g:G w W)=>lV (⟨6,tx,ps,⟨y,m,d,h,nn,s,zd,zn⟩,n⟩:Vl) (.slice a ps.length cap) W (HL.out.grow g) H1.out H2.out HY.out (HM.out.grow g) (HE.out.grow g))
 simp only[Vl.v]at HR⊢
 go_enter Tryz.func118,Tryz.ntmps118
 go_wp2_with fail
 refine(HR.out _ ((G.refl w).alloc _)).use ?_
 intro r w2 hr g2
 unfold gB at hr
 rw[HOK.out]at hr
 have r2:=hid (kG g2)
 have G2:=hid (((G.refl w).alloc _).trans g2)
 clear g2
 obtain⟨e0,e1,e2,e3,e4,e5,e6,e7,e8,e9,e10,e11⟩:=nZ r2.out
 rw[if_pos rfl]at hr
 subst hr
 have hb:kU n=true:=(yD HOK.out).2.2
 have HB:=hid hb
 clear hb
 go_wp2_with fail
 refine(zZ n _ HB.out).use ?_
 intro w3 g3
 go_wp2_with fail
 go_ret2
 exact⟨_,rfl,kC.yes HOK.out rfl,G2.out.trans g3⟩
theorem aaw(tx:List UInt8)(a:Option Addr)(cap:Nat)(ps:List (List (List UInt8)))(y m d h nn s:Int)(zd:Bool)(zn n:Int)(w:World)(hL:fA w (.slice a ps.length cap) ps)(h1:tx.length≤100000)(h2:iL ps≤100000)(hy : -9223372036854775808≤y∧y≤9223372036854775807)(hM:nJ w)(hE:gQ w)(hok:(⟨7,tx,ps,⟨y,m,d,h,nn,s,zd,zn⟩,n⟩:Vl).ok=true):dP 118 #[(⟨7,tx,ps,⟨y,m,d,h,nn,s,zd,zn⟩,n⟩:Vl).v (.slice a ps.length cap)] w (fun r _=>kC (⟨7,tx,ps,⟨y,m,d,h,nn,s,zd,zn⟩,n⟩:Vl) r):=by
 have HOK:=hid hok
 have HL:=hid hL
 have HM:=hid hM
 have HE:=hid hE
 have HY:=hid hy
 have H1:=hid h1
 have H2:=hid h2
 clear hok hL hM hE hy h1 h2
 have HR:=hid (fun W (g:G w W)=>lV (⟨7,tx,ps,⟨y,m,d,h,nn,s,zd,zn⟩,n⟩:Vl) (.slice a ps.length cap) W (HL.out.grow g) H1.out H2.out HY.out (HM.out.grow g) (HE.out.grow g))
 simp only[Vl.v]at HR⊢
 go_enter Tryz.func118,Tryz.ntmps118
 go_wp2_with fail
 refine(HR.out _ ((G.refl w).alloc _)).use ?_
 intro r w2 hr g2
 unfold gB at hr
 rw[HOK.out]at hr
 have r2:=hid (kG g2)
 have G2:=hid (((G.refl w).alloc _).trans g2)
 clear g2
 obtain⟨e0,e1,e2,e3,e4,e5,e6,e7,e8,e9,e10,e11⟩:=nZ r2.out
 rw[if_pos rfl]at hr
 subst hr
 go_wp2_with fail
 go_ret2
 exact⟨_,rfl,kC.yes HOK.out rfl,G2.out⟩
theorem aax(tx:List UInt8)(a:Option Addr)(cap:Nat)(ps:List (List (List UInt8)))(y m d h nn s:Int)(zd:Bool)(zn n:Int)(w:World)(hL:fA w (.slice a ps.length cap) ps)(h1:tx.length≤100000)(h2:iL ps≤100000)(hy : -9223372036854775808≤y∧y≤9223372036854775807)(hM:nJ w)(hE:gQ w)(hok:(⟨8,tx,ps,⟨y,m,d,h,nn,s,zd,zn⟩,n⟩:Vl).ok=true):dP 118 #[(⟨8,tx,ps,⟨y,m,d,h,nn,s,zd,zn⟩,n⟩:Vl).v (.slice a ps.length cap)] w (fun r _=>kC (⟨8,tx,ps,⟨y,m,d,h,nn,s,zd,zn⟩,n⟩:Vl) r):=by
 have HOK:=hid hok
 have HL:=hid hL
 have HM:=hid hM
 have HE:=hid hE
 have HY:=hid hy
 have H1:=hid h1
 have H2:=hid h2
 clear hok hL hM hE hy h1 h2
 have HR:=hid (fun W (g:G w W)=>lV (⟨8,tx,ps,⟨y,m,d,h,nn,s,zd,zn⟩,n⟩:Vl) (.slice a ps.length cap) W (HL.out.grow g) H1.out H2.out HY.out (HM.out.grow g) (HE.out.grow g))
 simp only[Vl.v]at HR⊢
 go_enter Tryz.func118,Tryz.ntmps118
 go_wp2_with fail
 refine(HR.out _ ((G.refl w).alloc _)).use ?_
 intro r w2 hr g2
 unfold gB at hr
 rw[HOK.out]at hr
 have r2:=hid (kG g2)
 have G2:=hid (((G.refl w).alloc _).trans g2)
 clear g2
 obtain⟨e0,e1,e2,e3,e4,e5,e6,e7,e8,e9,e10,e11⟩:=nZ r2.out
 rw[if_pos rfl]at hr
 subst hr
 go_wp2_with fail
 go_ret2
 exact⟨_,rfl,kC.yes HOK.out rfl,G2.out⟩
theorem Ua(x:Vl)(pv:Value)(w:World)(hL:fA w pv x.ps)(h1:x.tx.length≤100000)(h2:iL x.ps≤100000)(hy : -9223372036854775808≤x.st.y∧x.st.y≤9223372036854775807)(hM:nJ w)(hE:gQ w):dP 118 #[x.v pv] w (fun r _=>kC x r):=by
 obtain⟨a,cap,rfl,_⟩:=hL.len
 obtain⟨ty,tx,ps,⟨y,m,d,h,nn,s,zd,zn⟩,n⟩:=x
 simp only at hL h1 h2 hy
 cases ho:(⟨ty,tx,ps,⟨y,m,d,h,nn,s,zd,zn⟩,n⟩:Vl).ok with
 |false=>exact WZ ty tx a cap ps y m d h nn s zd zn n w hL h1 h2 hy hM hE ho
 |true=>
  have hk:=(yD ho).1
  simp only at hk
  have hty:ty=1∨ty=2∨ty=3∨ty=4∨ty=5∨ty=6∨ty=7∨ty=8:=by omega
  rcases hty with rfl|rfl|rfl|rfl|rfl|rfl|rfl|rfl
  ·exact aaq tx a cap ps y m d h nn s zd zn n w hL h1 h2 hy hM hE ho
  ·exact aar tx a cap ps y m d h nn s zd zn n w hL h1 h2 hy hM hE ho
  ·exact aas tx a cap ps y m d h nn s zd zn n w hL h1 h2 hy hM hE ho
  ·exact aat tx a cap ps y m d h nn s zd zn n w hL h1 h2 hy hM hE ho
  ·exact aau tx a cap ps y m d h nn s zd zn n w hL h1 h2 hy hM hE ho
  ·exact aav tx a cap ps y m d h nn s zd zn n w hL h1 h2 hy hM hE ho
  ·exact aaw tx a cap ps y m d h nn s zd zn n w hL h1 h2 hy hM hE ho
  ·exact aax tx a cap ps y m d h nn s zd zn n w hL h1 h2 hy hM hE ho
end Go.Proofs.YtmffejnigppbpaaGreatDoor

namespace Go.Proofs.YtmffejnigppbpaaGreatDoor
open Go.RowKit
theorem Po(l:List UInt8):bU (bU l)=bU l:=by
 unfold bU
 rw[List.map_map]
 exact List.map_congr_left fun c _=>of_decide_eq_true (ou (fun c=>decide ((yf 97 122 (-32) ∘ yf 97 122 (-32)) c=yf 97 122 (-32) c)) (by decide +kernel) c)
end Go.Proofs.YtmffejnigppbpaaGreatDoor

namespace Go.Proofs.YtmffejnigppbpaaGreatDoor
open Go.RowKit
def acm(c:UInt8):Int:=if c=39 then 0 else if c=94 then 1 else if c=110 then 2 else 3
structure Qd(w:World)(B o T:Nat):Prop where
 v1:w.cell? ⟨B,o+1,none⟩=some (.int .i64 0)
 v4:w.cell? ⟨B,o+4,none⟩=some (.slice (some ⟨T,0,none⟩) 3 3)
structure WS(w:World)(B:Nat)(v:UInt8)(p:Int):Prop where
 v0:w.cell? ⟨B,0,none⟩=some (.string (S [v]))
 v1:w.cell? ⟨B,1,none⟩=some (.int .i64 p)
 v2:w.cell? ⟨B,2,none⟩=some (.string ⟨#[]⟩)
 v4:w.cell? ⟨B,4,none⟩=some (.slice none 0 0)
structure Qe(w:World)(R A B C D T U:Nat):Prop where
 root:Qd w R 0 T
 size:w.cell? ⟨R,5,none⟩=some (.int .i64 3)
 map:∀c:UInt8,w.cell? ⟨R,6+c.toNat,none⟩=some (.int .u8 (acm c))
 t0:w.cell? ⟨T,0,none⟩=some (.pointer none)
 t1:w.cell? ⟨T,1,none⟩=some (.pointer (some ⟨A,0,none⟩))
 t2:w.cell? ⟨T,2,none⟩=some (.pointer none)
 inner:Qd w A 0 U
 u0:w.cell? ⟨U,0,none⟩=some (.pointer (some ⟨D,0,none⟩))
 u1:w.cell? ⟨U,1,none⟩=some (.pointer (some ⟨B,0,none⟩))
 u2:w.cell? ⟨U,2,none⟩=some (.pointer (some ⟨C,0,none⟩))
 lb:WS w B 94 6
 lc:WS w C 10 4
 ld:WS w D 34 2
theorem Qd.grow{w w':World}{B o T:Nat}(h:Qd w B o T)(g:G w w'):Qd w' B o T:=⟨(g.cell (World.block_lt_of_cell? _ _ h.v1)).trans h.v1,(g.cell (World.block_lt_of_cell? _ _ h.v4)).trans h.v4⟩
theorem WS.grow{w w':World}{B:Nat}{v:UInt8}{p:Int}(h:WS w B v p)(g:G w w'):WS w' B v p:=⟨(g.cell (World.block_lt_of_cell? _ _ h.v0)).trans h.v0,(g.cell (World.block_lt_of_cell? _ _ h.v1)).trans h.v1,(g.cell (World.block_lt_of_cell? _ _ h.v2)).trans h.v2,(g.cell (World.block_lt_of_cell? _ _ h.v4)).trans h.v4⟩
theorem Qe.grow{w w':World}{R A B C D T U:Nat}(h:Qe w R A B C D T U)(g:G w w'):Qe w' R A B C D T U:=
 ⟨h.root.grow g,(g.cell (World.block_lt_of_cell? _ _ h.size)).trans h.size,fun c=>(g.cell (World.block_lt_of_cell? _ _ (h.map c))).trans (h.map c),(g.cell (World.block_lt_of_cell? _ _ h.t0)).trans h.t0,(g.cell (World.block_lt_of_cell? _ _ h.t1)).trans h.t1,(g.cell (World.block_lt_of_cell? _ _ h.t2)).trans h.t2,h.inner.grow g,(g.cell (World.block_lt_of_cell? _ _ h.u0)).trans h.u0,(g.cell (World.block_lt_of_cell? _ _ h.u1)).trans h.u1,(g.cell (World.block_lt_of_cell? _ _ h.u2)).trans h.u2,h.lb.grow g,h.lc.grow g,h.ld.grow g⟩
end Go.Proofs.YtmffejnigppbpaaGreatDoor

namespace Go.Proofs.YtmffejnigppbpaaGreatDoor
open Go.RowKit
structure FQ(w:World)(B o:Nat)(val:List UInt8)(pr:Int)(pre:List UInt8)(nx tb:Value):Prop where
 c0:w.cell? ⟨B,o,none⟩=some (.string (S val))
 c1:w.cell? ⟨B,o+1,none⟩=some (.int .i64 pr)
 c2:w.cell? ⟨B,o+2,none⟩=some (.string (S pre))
 c3:w.cell? ⟨B,o+3,none⟩=some nx
 c4:w.cell? ⟨B,o+4,none⟩=some tb
 fz:∀j,w.frozen? ⟨B,j,none⟩=false
structure pY(bs:List Nat)(w w':World):Prop where
 size:w.heap.size≤w'.heap.size
 bl:∀b,b<w.heap.size→b∉bs→w'.heap[b]?=w.heap[b]?
 fz:∀b o,b<w.heap.size→w'.frozen? ⟨b,o,none⟩=w.frozen? ⟨b,o,none⟩
 os:w'.os=w.os
 tape:w'.tape=w.tape
 output:w'.output=w.output
theorem pY.cell{bs:List Nat}{w w':World}(h:pY bs w w')(b o:Nat)(hb:b<w.heap.size)(hn:b∉bs):w'.cell? ⟨b,o,none⟩=w.cell? ⟨b,o,none⟩:=World.cell?_of_block (w:=w) (h.bl b hb hn)
theorem pY.refl(bs:List Nat)(w:World):pY bs w w:=⟨Nat.le_refl _,fun _ _ _=>rfl,fun _ _ _=>rfl,rfl,rfl,rfl⟩
theorem pY.drew{bs:List Nat}{w w':World}(h:pY bs w w'):pY bs w w'.drew:=⟨h.size,h.bl,h.fz,h.os,h.tape,h.output⟩
theorem pY.trans{bs cs:List Nat}{a b c:World}(h:pY bs a b)(k:pY cs b c)(hs:∀x∈cs,x∈bs∨a.heap.size≤x):pY bs a c:=
 ⟨Nat.le_trans h.size k.size,fun x hx hn=>(k.bl x (Nat.lt_of_lt_of_le hx h.size) (fun hc=>by rcases hs x hc with h1|h1;exact hn h1;omega)).trans (h.bl x hx hn),
  fun x o hx=>(k.fz x o (Nat.lt_of_lt_of_le hx h.size)).trans (h.fz x o hx),k.os.trans h.os,k.tape.trans h.tape,k.output.trans h.output⟩
theorem pY.g{bs:List Nat}{w0 w w':World}(h:pY bs w w')(g:G w0 w)(hs:∀b∈bs,w0.heap.size≤b):G w0 w':=
 g.below.trans ⟨h.os,h.tape,h.output,h.size,fun k hk=>h.bl k (Nat.lt_of_lt_of_le hk g.size) (fun hc=>by have:=hs k hc;omega)⟩
theorem pY.set{bs:List Nat}{w w':World}(h:pY bs w w')(b o:Nat)(v:Value)(hb:b∈bs∨w.heap.size≤b):pY bs w (w'.setCell ⟨b,o,none⟩ v):=
 ⟨by simpa[World.setCell]using h.size,fun c hc hn=>by
  rw[Below.heap_setCell _ _ _ _ (by
   have:b≠c:=by rintro rfl;rcases hb with h1|h1;exact hn h1;omega
   exact Ne.symm this)]
  exact h.bl c hc hn,fun c j hc=>by rw[World.frozen?_setCell];exact h.fz c j hc,h.os,h.tape,h.output⟩
theorem pY.alloc{bs:List Nat}{w w':World}(h:pY bs w w')(o:Obj):pY bs w (w'.alloc o):=
 ⟨by have:=h.size;simp;omega,fun c hc hn=>by rw[Below.heap_alloc _ _ _ (Nat.lt_of_lt_of_le hc h.size)];exact h.bl c hc hn,
  fun c j hc=>by
   have:=h.fz c j hc
   rw[←this]
   exact World.frozen?_of_block (Below.heap_alloc _ _ _ (Nat.lt_of_lt_of_le hc h.size)),h.os,h.tape,h.output⟩
theorem FQ.away{w w':World}{bs:List Nat}{B o:Nat}{val:List UInt8}{pr:Int}{pre:List UInt8}{nx tb:Value}(h:FQ w B o val pr pre nx tb)(a:pY bs w w')(hB:B∉bs):FQ w' B o val pr pre nx tb:=by
 have hb:B<w.heap.size:=World.block_lt_of_cell? _ _ h.c0
 exact⟨(a.cell B _ hb hB).trans h.c0,(a.cell B _ hb hB).trans h.c1,(a.cell B _ hb hB).trans h.c2,(a.cell B _ hb hB).trans h.c3,(a.cell B _ hb hB).trans h.c4,fun j=>(a.fz B j hb).trans (h.fz j)⟩
theorem pY.mono{bs cs:List Nat}{w W:World}(h:pY bs w W)(hs:∀b∈bs,b∈cs∨w.heap.size≤b):pY cs w W:=
 ⟨h.size,fun b hb hn=>h.bl b hb (fun hc=>by rcases hs b hc with h1|h1;exact hn h1;omega),h.fz,h.os,h.tape,h.output⟩
end Go.Proofs.YtmffejnigppbpaaGreatDoor

namespace Go.Proofs.YtmffejnigppbpaaGreatDoor
open Go.RowKit
theorem pY.held{bs:List Nat}{w w':World}(a:pY bs w w'){b o:Nat}{v:Value}(h:w.cell? ⟨b,o,none⟩=some v)(hn:b∉bs):w'.cell? ⟨b,o,none⟩=some v:=
 (a.cell b o (World.block_lt_of_cell? _ _ h) hn).trans h
structure GC(w0 w:World)(R T:Nat):Prop where
 g:G w0 w
 rl:w0.heap.size≤R
 tl:w0.heap.size≤T
 rt:R≠T
 root:FQ w R 0 [] 0 [] (.pointer none) (.slice (some ⟨T,0,none⟩) 3 3)
 c5:w.cell? ⟨R,5,none⟩=some (.int .i64 3)
 map:∀c:UInt8,w.cell? ⟨R,6+c.toNat,none⟩=some (.int .u8 (acm c))
 t0:w.cell? ⟨T,0,none⟩=some (.pointer none)
 t2:w.cell? ⟨T,2,none⟩=some (.pointer none)
theorem GC.away{bs:List Nat}{w0 w w':World}{R T:Nat}(h:GC w0 w R T)(a:pY bs w w')(hR:R∉bs)(hs:∀b∈bs,w0.heap.size≤b)(h0:w'.cell? ⟨T,0,none⟩=some (.pointer none))(h2:w'.cell? ⟨T,2,none⟩=some (.pointer none)):GC w0 w' R T:=
 ⟨a.g h.g hs,h.rl,h.tl,h.rt,h.root.away a hR,a.held h.c5 hR,fun c=>a.held (h.map c) hR,h0,h2⟩
structure G0(w0 w:World)(R T:Nat):Prop where
 gc:GC w0 w R T
 t1:w.cell? ⟨T,1,none⟩=some (.pointer none)
 tf:w.frozen? ⟨T,1,none⟩=false
structure G1(w0 w:World)(R T M B:Nat):Prop where
 gc:GC w0 w R T
 t1:w.cell? ⟨T,1,none⟩=some (.pointer (some ⟨M,0,none⟩))
 ml:w0.heap.size≤M
 bl:w0.heap.size≤B
 mr:M≠R
 mt:M≠T
 mb:M≠B
 nm:FQ w M 0 [] 0 [94] (.pointer (some ⟨B,0,none⟩)) (.slice none 0 0)
 nb:FQ w B 0 [94] 6 [] (.pointer none) (.slice none 0 0)
structure G2(w0 w:World)(R T M B C U:Nat):Prop where
 gc:GC w0 w R T
 t1:w.cell? ⟨T,1,none⟩=some (.pointer (some ⟨M,0,none⟩))
 ml:w0.heap.size≤M
 bl:w0.heap.size≤B
 cl:w0.heap.size≤C
 ul:w0.heap.size≤U
 ur:U≠R
 ut:U≠T
 um:U≠M
 ub:U≠B
 uc:U≠C
 nm:FQ w M 0 [] 0 [] (.pointer none) (.slice (some ⟨U,0,none⟩) 3 3)
 nb:FQ w B 0 [94] 6 [] (.pointer none) (.slice none 0 0)
 nc:FQ w C 0 [10] 4 [] (.pointer none) (.slice none 0 0)
 u0:w.cell? ⟨U,0,none⟩=some (.pointer none)
 u1:w.cell? ⟨U,1,none⟩=some (.pointer (some ⟨B,0,none⟩))
 u2:w.cell? ⟨U,2,none⟩=some (.pointer (some ⟨C,0,none⟩))
 uf:w.frozen? ⟨U,0,none⟩=false
def Rel(w0 w:World)(R T:Nat):Nat→Prop
 |0=>G0 w0 w R T
 |1=>∃M B,G1 w0 w R T M B
 |2=>∃M B C U,G2 w0 w R T M B C U
 |_=>G w0 w∧∃A B C D U,Qe w R A B C D T U∧∀b∈[R,A,B,C,D,T,U],w0.heap.size≤b
theorem FQ.lt{w:World}{B o:Nat}{val:List UInt8}{pr:Int}{pre:List UInt8}{nx tb:Value}(h:FQ w B o val pr pre nx tb):B<w.heap.size:=World.block_lt_of_cell? _ _ h.c0
theorem Rel.g{w0 w:World}{R T k:Nat}(h:Rel w0 w R T k):G w0 w:=by
 match k,h with
 |0,h=>exact(show G0 w0 w R T from h).gc.g
 |1,⟨M,B,h⟩=>exact h.gc.g
 |2,⟨M,B,C,U,h⟩=>exact h.gc.g
 |k+3,⟨g,_⟩=>exact g
end Go.Proofs.YtmffejnigppbpaaGreatDoor

namespace Go.Proofs.YtmffejnigppbpaaGreatDoor
open Go.RowKit
theorem ER(a:List UInt8):∀(n:Nat) (s:List UInt8),s.length≤n→∀(k:Nat) (cur:List UInt8) (ts:List (List UInt8)) (cs:List UInt8) (T:List (List UInt8)) (C:List UInt8),eH a s k cur ts cs=.good T C→jF T≤jF ts+cur.length+1+s.length:=by
 intro n
 induction n with
 |zero=>
  intro s hs k cur ts cs T C h
  have:s=[]:=List.eq_nil_of_length_eq_zero (by omega)
  subst this
  rw[mO]at h
  injection h with h1 h2
  subst h1
  rw[uu];simp[jF];omega
 |succ n ih=>
  intro s hs k cur ts cs T C h
  match s,hs,h with
  |[],_,h=>
   rw[mO]at h
   injection h with h1 h2
   subst h1
   rw[uu];simp[jF];omega
  |c::t,hs,h=>
   by_cases h92:c=92
   ·subst h92
    match t,hs,h with
    |[],_,h=>rw[IK]at h;cases h
    |d::t,hs,h=>
     cases hu:Ed d with
     |none=>rw[EW hu]at h;cases h
     |some x=>
      rw[wQ hu]at h
      have:=ih t (by simp at hs;omega) _ _ _ _ _ _ h
      simp at this⊢;omega
   ·cases hc:a.contains c with
    |true=>
     rw[tC h92 hc]at h
     have:=ih t (by simp at hs;omega) _ _ _ _ _ _ h
     rw[uu]at this
     simp[jF]at this⊢;omega
    |false=>
     rw[wR h92 hc]at h
     have:=ih t (by simp at hs;omega) _ _ _ _ _ _ h
     simp at this⊢;omega
theorem S9:∀(cs:List UInt8) (ts:List (List UInt8)) (cur:List (List UInt8)),iL (iR cur cs ts)≤jF cur+1+2*jF ts:=by
 intro cs
 induction cs with
 |nil=>intro ts cur;simp[iR,iL]
 |cons c cs ih=>
  intro ts cur
  cases ts with
  |nil=>simp[iR,iL];try omega
  |cons t ts=>
   rw[Nq]
   have hc:=ql t ts
   split
   ·rw[sD]
    have:=ih ts [t]
    have h1:jF [t]=t.length+1:=by simp[jF]
    omega
   ·have:=ih ts (cur++[t])
    rw[uu]at this
    have h1:jF [t]=t.length+1:=by simp[jF]
    omega
theorem PM{s:List UInt8}{T:List (List UInt8)}{C:List UInt8}(h:eH [44,59] s 0 [] [] []=.good T C):iL (iR [T.headD []] C T.tail)≤2*s.length+5:=by
 have h1:=ER [44,59] s.length s (Nat.le_refl _) _ _ _ _ _ _ h
 have h2:=WQ h
 have h3:=S9 C T.tail [T.headD []]
 cases T with
 |nil=>simp at h2
 |cons t T=>
  rw[ql]at h1
  simp only[List.headD_cons,List.tail_cons]at h3⊢
  have h4:jF [t]=t.length+1:=by simp[jF]
  simp[jF]at h1 h3 h4⊢
  omega
end Go.Proofs.YtmffejnigppbpaaGreatDoor

namespace Go.Proofs.YtmffejnigppbpaaGreatDoor
open Go.RowKit
theorem Jj{a s:List UInt8}{T:List (List UInt8)}{C:List UInt8}(h:eH a s 0 [] [] []=.good T C):jF T≤s.length+1:=by
 have:=ER a s.length s (Nat.le_refl _) _ _ _ _ _ _ h
 simp[jF]at this⊢;omega
structure Vl.Small(x:Vl)(n:Nat):Prop where
 tx:x.tx.length≤n+1
 ps:iL x.ps≤2*n+5
 y : -9223372036854775808≤x.st.y∧x.st.y≤9223372036854775807
theorem TP{s:List UInt8}{k:Int}{v:Vl}(h:qg s k=some v):v.Small s.length:=by
 have y0 : -9223372036854775808≤St0.y∧St0.y≤9223372036854775807:=by decide
 have p0:iL []≤2*s.length+5:=by simp[iL]
 unfold qg at h
 split at h
 ·cases h
 split at h
 ·cases h
 split at h
 ·split at h
  ·rename_i t q _ hp
   cases h
   have h1:=Jj hp
   have h2:=BI (ls:=t::q) (l:=t) List.mem_cons_self
   exact⟨by show t.length≤_;omega,p0,y0⟩
  ·cases h
 split at h
 ·split at h
  ·rename_i T _ hp
   cases h
   have h1:=Jj hp
   exact⟨by simp,by show iL [T]≤_;simp[iL];omega,y0⟩
  ·cases h
 split at h
 ·split at h
  ·rename_i t ts cs hp
   cases h
   have h1:=PM hp
   exact⟨by simp,h1,y0⟩
  ·cases h
 split at h
 ·split at h
  ·cases h;exact⟨by show s.length≤_;omega,p0,y0⟩
  ·cases h
 split at h
 ·split at h
  ·rename_i hz
   cases h
   refine⟨by simp,p0,?_⟩
   have hr:(qF s).1.right=0:=by
    rcases NY s with⟨_,h⟩|⟨h,_⟩
    ·exact h
    ·exact absurd hz h
   have:=(St.good hr).y
   show -9223372036854775808≤(qF s).1.y∧(qF s).1.y≤9223372036854775807
   omega
  ·cases h
 split at h
 ·split at h
  ·cases h;exact⟨by simp,p0,y0⟩
  ·cases h
 split at h
 ·split at h
  ·cases h;exact⟨by show s.length≤_;omega,p0,y0⟩
  ·cases h
 ·cases h;exact⟨by show s.length≤_;omega,p0,y0⟩
end Go.Proofs.YtmffejnigppbpaaGreatDoor

set_option maxHeartbeats 1000000
set_option maxRecDepth 100000
namespace Go.Proofs.YtmffejnigppbpaaGreatDoor
open Go.ChangeShapes Go.WideShapes Go.RowKit
theorem Bo{W : World}(h : laidMetH Tryz.prog [("math/bits.deBruijn32tab", Rows.laid_math_bits_deBruijn32tab), ("math/bits.deBruijn64tab", Rows.laid_math_bits_deBruijn64tab), ("internal/strconv.uint64pow10", Rows.laid_internal_strconv_uint64pow10), ("unicode/utf8.acceptRanges", Rows.laid_unicode_utf8_acceptRanges), ("errors.errorType", Rows.laid_errors_errorType), ("strconv.ErrRange", Rows.laid_strconv_ErrRange), ("strconv.ErrSyntax", Rows.laid_strconv_ErrSyntax), ("unicode.White_Space", Rows.laid_unicode_White_Space), ("strings.asciiSpace", Rows.laid_strings_asciiSpace), ("unicode/utf8.first", Rows.laid_unicode_utf8_first)] W)(hs : W.ShapedOpen Tryz.prog) : qm W ∧ gQ W := by
 have h' : laidMet Tryz.prog [("math/bits.deBruijn32tab", Rows.laid_math_bits_deBruijn32tab), ("math/bits.deBruijn64tab", Rows.laid_math_bits_deBruijn64tab), ("internal/strconv.uint64pow10", Rows.laid_internal_strconv_uint64pow10), ("unicode/utf8.acceptRanges", Rows.laid_unicode_utf8_acceptRanges), ("strconv.ErrRange", Rows.laid_strconv_ErrRange), ("strconv.ErrSyntax", Rows.laid_strconv_ErrSyntax), ("unicode.White_Space", Rows.laid_unicode_White_Space), ("strings.asciiSpace", Rows.laid_strings_asciiSpace), ("unicode/utf8.first", Rows.laid_unicode_utf8_first)] W ∧ handlesMet Tryz.prog [("errors.errorType", Rows.laid_errors_errorType)] W := h
 exact⟨ZL h'.1 hs (by repeat (first|exact List.Mem.head _|apply List.Mem.tail)) (by repeat (first|exact List.Mem.head _|apply List.Mem.tail)) (by repeat (first|exact List.Mem.head _|apply List.Mem.tail)) (by repeat (first|exact List.Mem.head _|apply List.Mem.tail)),DK h'.2⟩
end Go.Proofs.YtmffejnigppbpaaGreatDoor
