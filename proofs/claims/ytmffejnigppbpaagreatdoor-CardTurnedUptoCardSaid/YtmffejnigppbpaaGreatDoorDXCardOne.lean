/-
 CONTRACT of card.one: whether an item is right for itself. (written by gen_cardone.py)
-/
import Derived.Test.YtmffejnigppbpaaGreatDoorDXMA67
import Derived.Test.YtmffejnigppbpaaGreatDoorDXValRight
import Derived.Test.YtmffejnigppbpaaGreatDoorDXMRules
import Derived.Test.YtmffejnigppbpaaGreatDoorDXMA71
import Derived.Test.YtmffejnigppbpaaGreatDoorDXLinePrint
import Derived.Test.YtmffejnigppbpaaGreatDoorDXMTell
import Derived.Test.YtmffejnigppbpaaGreatDoorDXMVeil
set_option linter.unusedVariables false
set_option linter.unusedSimpArgs false
set_option maxHeartbeats 16000000
set_option maxRecDepth 100000
namespace Go.Proofs.YtmffejnigppbpaaGreatDoor
open Go.RowKit
theorem asZ{cf:Bool}{p:Ln}{c:Int}{k:Option Nat}(h:acL cf p=some (c,k)):c≠0:=by
 unfold acL at h
 split at h
 ·cases h;decide
 split at h
 ·cases h;decide
 split at h
 ·rename_i i hi
  rw[List.findIdx?_eq_some_iff_getElem]at hi
  obtain⟨h1,h2,_⟩:=hi
  simp only[Option.some.injEq,Prod.mk.injEq]at h
  obtain⟨h,_⟩:=h
  rw[←h]
  simp only[List.getD_eq_getElem?_getD,List.getElem?_eq_getElem h1,Option.getD_some]
  simpa using h2
 ·split at h
  ·cases h
  ·cases h;decide
structure agD(ver:Int)(x:It)(c:Int):Prop where
 ok:c=0↔adY ver x=true
 off:aee ver x=true→x.v.ty=6→x.v.only=true→adF x.v.n=false→c=2
 head:∀c' k,acL (ver==4) (lnX x [])=some (c',k)→c=c'
 long:aee ver x=true→x.v.ok=true→¬(x.v.ty=3∧0<(acM ver x.n).2.2.2∧(x.v.ps.length:Int)≠(acM ver x.n).2.2.2)→c=0∨c=4
theorem ae7{ver:Int}{x:It}{c:Int}(h:acL (ver==4) (lnX x [])=none):∀c' k,acL (ver==4) (lnX x [])=some (c',k)→c=c':=fun c' k e=>by rw[h]at e;cases e
theorem agD.front{ver:Int}{x:It}{c:Int}(h:aee ver x=false)(hc:c≠0)(hh:∀c' k,acL (ver==4) (lnX x [])=some (c',k)→c=c'):agD ver x c:=⟨⟨fun e=>absurd e hc,fun e=>by unfold adY at e;rw[h]at e;simp at e⟩,fun e=>(by rw[h]at e;cases e),hh,fun e=>(by rw[h]at e;cases e)⟩
theorem auI{x:It}(ho:x.v.ok=true)(h6:x.v.ty=6)(hon:x.v.only=true)(hz:adF x.v.n=false):False:=by
 have:=ahs (x:=x.v) ⟨by omega,by omega⟩ hon
 rw[ho]at this
 unfold Vl.body at this
 rw[if_neg (by omega),if_neg (by omega),if_neg (by omega),if_pos h6,hz]at this
 cases this
theorem agD.rear{ver:Int}{x:It}{c:Int}(ho:x.v.ok=true)(h:akL ver x=false)(hc:c≠0)(hh:∀c' k,acL (ver==4) (lnX x [])=some (c',k)→c=c')(hl:¬(x.v.ty=3∧0<(acM ver x.n).2.2.2∧(x.v.ps.length:Int)≠(acM ver x.n).2.2.2)→c=0∨c=4):agD ver x c:=⟨⟨fun e=>absurd e hc,fun e=>by unfold adY at e;rw[h]at e;simp at e⟩,fun _ h6 hon hz=>(auI ho h6 hon hz).elim,hh,fun _ _=>hl⟩
theorem agD.good{ver:Int}{x:It}(hf:aee ver x=true)(ho:x.v.ok=true)(hr:akL ver x=true):agD ver x 0:=⟨⟨fun _=>by unfold adY;rw[hf,ho,hr];rfl,fun _=>rfl⟩,fun _ h6 hon hz=>(auI ho h6 hon hz).elim,ae7 (by unfold aee at hf;simp only[Bool.and_eq_true]at hf;simpa using hf.1.1.1),fun _ _ _=>.inl rfl⟩
def ayT(x:It)(r:Value):Prop:=(x.v.ok=true∧r=.nilIface)∨(x.v.ok=false∧∃c,r=eno c∧c≠0∧(x.v.ty=6→x.v.only=true→adF x.v.n=false→c=2))
theorem aom(x:It)(pv lv:Value)(w:World)(h:adE w x pv lv)(hs:Sml x)(hM:aer w)(hE:UO w):Uz 113 #[x.v.v lv] w (fun r _=>ayT x r):=by
 by_cases h6:x.v.ty=6∧x.v.only=true
 ·obtain⟨h6,hon⟩:=h6
  obtain⟨a,cap,rfl,_⟩:=h.l.len
  obtain⟨g,n,ps,⟨ty,tx,vs,⟨y,m,d,hh,nn,s,zd,zn⟩,k⟩⟩:=x
  simp only at h6 hon
  subst h6
  refine Calls.mono (ahV tx a cap vs y m d hh nn s zd zn k w hon) ?_
  rintro e w' ⟨r,rfl,hv,hg⟩
  unfold aqN at hv
  subst hv
  refine⟨_,rfl,?_,hg⟩
  have hb:=ahs (x:=(⟨6,tx,vs,⟨y,m,d,hh,nn,s,zd,zn⟩,k⟩:Vl)) ⟨by simp,by simp⟩ hon
  have hb2:(⟨6,tx,vs,⟨y,m,d,hh,nn,s,zd,zn⟩,k⟩:Vl).body=adF k:=by unfold Vl.body;simp
  cases hz:adF k with
  |true=>exact .inl ⟨by rw[hb,hb2,hz],rfl⟩
  |false=>exact .inr ⟨by rw[hb,hb2,hz],2,rfl,by decide,fun _ _ _=>rfl⟩
 ·refine Calls.mono (adW x.v lv w h.l hs.bounds.2.2.2.1 hs.bounds.2.2.2.2.1 h.y hM hE) ?_
  rintro e w' ⟨r,rfl,hr,hg⟩
  refine⟨_,rfl,?_,hg⟩
  unfold acI at hr
  cases ho:x.v.ok with
  |true=>rw[if_pos ho]at hr;exact .inl ⟨ho,hr⟩
  |false=>
   rw[if_neg (by rw[ho];decide)]at hr
   obtain⟨c,e,hc⟩:=hr
   exact .inr ⟨ho,c,e,hc,fun a b _=>absurd ⟨a,b⟩ h6⟩
theorem anI{ps:List Pm}{k:Nat}(h:∀i,i<k→alW ps i=0)(hk:alW ps k=0):∀i,i<k+1→alW ps i=0:=fun i hi=>by
 rcases Nat.lt_or_ge i k with h1|h1
 ·exact h i h1
 ·obtain rfl:i=k:=by omega
  exact hk
theorem as1{ver:Int}{x:It}{o:Int×Option Nat}(h:acL (ver==4) (lnX x [])=some o):aee ver x=false:=by unfold aee;rw[h];rfl
theorem as2{ver:Int}{x:It}(h:agp x.n=true):aee ver x=false:=by unfold aee;rw[h];simp
theorem anJ{ver:Int}{x:It}(h:ajs x.ps=false):aee ver x=false:=by unfold aee;rw[h];simp
theorem as3{ver:Int}{x:It}(h:typeOf (acM ver x.n).1 x.ps≠x.v.ty):aee ver x=false:=by unfold aee;rw[beq_eq_false_iff_ne.2 h];simp
theorem as4{ver:Int}{x:It}(h1:acL (ver==4) (lnX x [])=none)(h2:agp x.n=false)(h3:ajs x.ps=true)(h4:typeOf (acM ver x.n).1 x.ps=x.v.ty):aee ver x=true:=by unfold aee;rw[h1,h2,h3,h4];simp
def auJ(e:Value):Prop:=e=.nilIface∨∃t x,e=.iface t x
theorem apE{ver:Int}{x:It}{r:Value}{w:World}(h:adu (ver==4) (lnX x x.v.text) r w):∃er,r=.tuple #[.string (S (aey ver x)),er]∧auJ er:=by
 unfold adu at h
 unfold aey
 cases hre:acL (ver==4) (lnX x x.v.text)with
 |none=>rw[hre]at h;exact⟨_,h,.inl rfl⟩
 |some o=>rw[hre]at h;obtain⟨e,h,_,h2⟩:=h;exact⟨e,h,.inr h2⟩
def aws(bx:Nat)(x:It)(pv:Value)(ver:Int)(k:Nat)(v:Value)(W:World):Prop:=
 match k with
 |0=>v=.pointer (some ⟨bx,0,none⟩)
 |1=>v=.string (S x.g)
 |2=>v=.pointer (some ⟨bx,1,none⟩)
 |3=>v=.string (S x.n)
 |4=>v=.pointer (some ⟨bx,2,none⟩)
 |5=>v=pv
 |6=>v=.agg #[.string (S x.g),.string (S x.n),pv,.string ⟨#[]⟩]
 |7=>v=.int .i64 ver
 |8=>v=.bool (ver==4)
 |9=>ad8 W v (acL (ver==4) (lnX x []))
 |_=>True
def auK(x:It)(pv:Value)(ver:Int)(l:List UInt8)(k:Nat)(v:Value)(W:World):Prop:=
 match k with
 |0=>v=.agg #[.string (S x.g),.string (S x.n),pv,.string (S x.v.text)]
 |1=>v=.int .i64 ver
 |2=>v=.bool (ver==4)
 |3=>∃er,v=.tuple #[.string (S l),er]∧auJ er
 |4=>∃er,v=.tuple #[.string (S l),er]∧auJ er
 |5=>v=.string (S l)
 |6=>auJ v
 |7=>v=.string (S l)
 |_=>True
theorem aon(ver:Int)(hv:ver=3∨ver=4)(x:It)(pv lv:Value)(w:World)(h:adE w x pv lv)(hs:Sml x)(hR:aeV w)(hM:aer w)(hE:UO w):Uz 67 #[x.val pv lv,.int .i64 ver] w (fun r _=>∃c,r=.int .i64 c∧agD ver x c):=by
 have hb:=hs.bounds
 have HS:=hid hs
 have HX:=hid h
 have HV:=hid hv
 have HM:=hid hM
 have HE:=hid hE
 have HR:=hid hR
 have HPL:Hid (∀p∈x.ps,p.1.length≤10000∧p.2.length≤10000∧(∀u∈p.2,u.length≤10000)):=hid (fun p hp=>by
  have h0:=hb.2.2.1
  have h1:ac5 p≤(x.ps.map ac5).sum:=aeg (List.mem_map_of_mem hp)
  have h2:ac5 p=p.1.length+p.2.length+(p.2.map List.length).sum:=rfl
  unfold adm at h0
  refine⟨by omega,by omega,fun u hu=>?_⟩
  have:u.length≤(p.2.map List.length).sum:=aeg (List.mem_map_of_mem hu)
  omega)
 have hpn:x.ps.length≤10000:=by have:=hb.2.2.1;unfold adm at this;omega
 have hxn:x.n.length≤10000:=hb.2.1
 have LR0:∀W,G w W→Uz 110 #[.agg #[.string (S x.g),.string (S x.n),pv,.string ⟨#[]⟩],.bool (ver==4)] W (fun r w'=>ad8 w' r (acL (ver==4) (lnX x []))):=fun W g=>
  aiJ x.g x.n [] pv x.ps (ver==4) W (h.p.grow g) hb.1 hb.2.1 (by simp) HPL.out
 have LP0:∀W,G w W→Uz 72 #[.agg #[.string (S x.g),.string (S x.n),pv,.string (S x.v.text)],.bool (ver==4)] W (adu (ver==4) (lnX x x.v.text)):=fun W g=>
  agF x.g x.n x.v.text pv x.ps (ver==4) W (h.p.grow g) hb.1 hb.2.1 hb.2.2.2.2.2 hb.2.2.1
 have TY0:∀W,G w W→Um 54 #[.string (S x.n),pv,.int .i64 ver] W (.tuple #[.int .i64 (typeOf (acM ver x.n).1 x.ps),.nilIface]):=fun W g=>
  amL x.n pv x.ps ver W hv (by omega) (h.p.grow g) (by omega) (fun p hp=>by have:=(HPL.out p hp).1;omega) (fun p hp u hu=>by have:=(HPL.out p hp).2.2 u hu;omega) (hR.grow g)
 have VR0:∀W,G w W→Uz 113 #[x.v.v lv] W (fun r _=>ayT x r):=fun W g=>aom x pv lv W (h.grow g) hs (hM.grow g) (hE.grow g)
 have FD0:∀W,G w W→∀n:List UInt8,n.length≤1000000→Um 37 #[pv,.string (S n)] W (.int .i64 (akZ (afm x.ps n))):=fun W g n hn=>aqj pv x.ps n W (h.p.grow g) (by omega) (fun p hp=>by have:=(HPL.out p hp).1;omega) hn
 have OF0:∀W,G w W→Um 20 #[.string (S x.n),.int .i64 ver] W (.tuple #[.agg #[.int .i64 (acM ver x.n).1,.int .i64 (acM ver x.n).2.1,.int .i64 (acM ver x.n).2.2.1,.int .i64 (acM ver x.n).2.2.2],.nilIface]):=fun W g=>amK x.n ver W hv (by omega) (hR.grow g)
 have PR0:x.v.ok=true→∀W,G w W→Um 71 #[x.val pv lv,.int .i64 ver] W (.tuple #[.agg #[.string (S x.g),.string (S x.n),pv,.string (S x.v.text)],.nilIface]):=fun ho W g=>alY x pv lv ver W (h.grow g) hs (hM.grow g) (hE.grow g) ho
 unfold Vl.v at VR0
 obtain⟨pa,pc,rfl⟩:=h.pv
 obtain⟨la,lc,rfl⟩:=h.lv
 have LRW:=hid LR0;have LPW:=hid LP0;have TY:=hid TY0;have VR:=hid VR0;have FD:=hid FD0;have OF:=hid OF0;have PR:=hid PR0
 clear LR0 LP0 TY0 VR0 FD0 OF0 PR0 h hb hR hM hE hv hs
 go_enter Tryz.func67,Tryz.ntmps67
 go_wp2_with fail
 generalize hw1:w.alloc _=w1
 have HB:=hid (show w1.heap[w.heap.size]?=some (.cells (x.cells (.slice pa x.ps.length pc) (.slice la x.v.ps.length lc)).toArray 38 (0,0)) by rw[←hw1];exact heap_alloc_new w _)
 have G1:=hid (show G w w1 by rw[←hw1];exact(G.refl w).alloc _)
 have LR:=hid (fun W (g:G w1 W)=>LRW.out W (G1.out.trans g))
 clear hw1
 refine wp_region_any (by kernel_rfl) ?_
 refine acJ (E:=#[false,false,false,false,false,false,false,false,false,false,false]) G 10 (aws w.heap.size x (.slice pa x.ps.length pc) ver) [some [],some [(0,17)],some [],some [(2,19)],some [],some [(4,21)],some [(1,18),(3,20),(5,22)],some [],some [(7,24)],some [(6,23),(8,25),(8,25)],none] [(0,17),(1,18),(2,19),(3,20),(4,21),(5,22),(6,23),(7,24),(8,25),(9,26)] _ (by kernel_rfl) (by decide) (by kernel_rfl) (by kernel_rfl) rfl G.refl (fun _ _ _=>G.trans) (w0:=w1) ((G.refl w1).drew) ?_ ?_ ?_
 ·intro k v W W' g h
  match k,h with
  |0,h=>exact h
  |1,h=>exact h
  |2,h=>exact h
  |3,h=>exact h
  |4,h=>exact h
  |5,h=>exact h
  |6,h=>exact h
  |7,h=>exact h
  |8,h=>exact h
  |9,h=>exact ad8.grow h g
  |n+10,h=>trivial
 ·refine lW (fun vals W g d=>?_)<|lW (fun vals W g d=>?_)<|lW (fun vals W g d=>?_)<|lW (fun vals W g d=>?_)<|lW (fun vals W g d=>?_)<|lW (fun vals W g d=>?_)<|lW (fun vals W g d=>?_)<|lW (fun vals W g d=>?_)<|lW (fun vals W g d=>?_)<|lW (fun vals W g d=>?_)<|UB adJ
  ·refine nX rfl rfl rfl fun K hK=>?_
   simp only[gFr]at hK⊢
   go_simp
   exact hK _ _ (G.refl _) rfl
  ·obtain⟨d0,_⟩:=d
   change vals 0=_ at d0
   refine nX rfl rfl rfl fun K hK=>?_
   simp only[gFr,d0]at hK⊢
   obtain⟨k0,_⟩:=UM (uU HB.out g)
   go_simp
   exact hK _ _ (G.refl _) rfl
  ·refine nX rfl rfl rfl fun K hK=>?_
   simp only[gFr]at hK⊢
   go_simp
   exact hK _ _ (G.refl _) rfl
  ·obtain⟨d2,_⟩:=d
   change vals 2=_ at d2
   refine nX rfl rfl rfl fun K hK=>?_
   simp only[gFr,d2]at hK⊢
   obtain⟨_,k1,_⟩:=UM (uU HB.out g)
   go_simp
   exact hK _ _ (G.refl _) rfl
  ·refine nX rfl rfl rfl fun K hK=>?_
   simp only[gFr]at hK⊢
   go_simp
   exact hK _ _ (G.refl _) rfl
  ·obtain⟨d4,_⟩:=d
   change vals 4=_ at d4
   refine nX rfl rfl rfl fun K hK=>?_
   simp only[gFr,d4]at hK⊢
   obtain⟨_,_,k2,_⟩:=UM (uU HB.out g)
   go_simp
   exact hK _ _ (G.refl _) rfl
  ·obtain⟨d1,d3,d5,_⟩:=d
   change vals 1=_ at d1
   change vals 3=_ at d3
   change vals 5=_ at d5
   refine nX rfl rfl rfl fun K hK=>?_
   simp only[gFr,d1,d3,d5]at hK⊢
   go_simp
   exact hK _ _ (G.refl _) rfl
  ·refine nX rfl rfl rfl fun K hK=>?_
   simp only[gFr]at hK⊢
   go_simp
   exact hK _ _ (G.refl _) rfl
  ·obtain⟨d7,_⟩:=d
   change vals 7=_ at d7
   refine nX rfl rfl rfl fun K hK=>?_
   simp only[gFr,d7]at hK⊢
   go_simp
   refine(af6 ver W).use ?_
   intro W' hg
   exact hK _ _ hg rfl
  ·obtain⟨d6,d8,_,_⟩:=d
   change vals 6=_ at d6
   change vals 8=_ at d8
   refine nX rfl rfl rfl fun K hK=>?_
   simp only[gFr,d6,d8]at hK⊢
   go_simp
   refine(LR.out W g).use ?_
   intro r W' hr hg
   exact hK _ _ hg hr
 ·intro vals W g d
  simp only[acS,ac1]at d
  obtain⟨d0,d1,d2,d3,d4,d5,d6,d7,d8,d9,_⟩:=d
  change vals 0=_ at d0
  change vals 1=_ at d1
  change vals 2=_ at d2
  change vals 3=_ at d3
  change vals 4=_ at d4
  change vals 5=_ at d5
  change vals 6=_ at d6
  change vals 7=_ at d7
  change vals 8=_ at d8
  change ad8 W (vals 9) (acL (ver==4) (lnX x []))at d9
  have GW:=hid (G1.out.trans g)
  have HBW:=hid (uU HB.out g)
  cases hre:acL (ver==4) (lnX x [])with
  |some o=>
   obtain⟨c,k⟩:=o
   rw[hre]at d9
   have HN:=hid (agD.front (as1 hre) (asZ hre) (fun c' k' e=>by rw[hre]at e;cases e;rfl))
   clear hre
   have TL:Um 32 #[vals 9] W (.int .i64 c):=by
    cases k with
    |none=>have e:vals 9=eno c:=d9;rw[e];exact agX c W (HE.out.grow GW.out)
    |some k=>exact alA c k (vals 9) W (HE.out.grow GW.out) d9
   obtain⟨t,u,e9⟩:=ad8.iface d9
   rw[e9]at TL
   have HTL:=hid TL
   clear TL d9
   refine⟨?_⟩
   show wpList _ _ _ [_] _ _
   simp only[gFr,d0,d1,d2,d3,d4,d5,d6,d7,d8,e9]
   clear d0 d1 d2 d3 d4 d5 d6 d7 d8 e9
   go_wp2_with fail
   refine HTL.out.use ?_
   intro w2 g2
   go_wp2_with fail
   go_ret
   exact⟨_,rfl,⟨c,rfl,HN.out⟩,GW.out.trans g2⟩
  |none=>
   rw[hre]at d9
   have e9:vals 9=.nilIface:=d9
   have HRE:=hid hre
   clear hre d9
   refine⟨?_⟩
   show wpList _ _ _ [_] _ _
   simp only[gFr,d0,d1,d2,d3,d4,d5,d6,d7,d8,e9]
   clear d0 d1 d2 d3 d4 d5 d6 d7 d8 e9
   obtain⟨_,k1,k2,_⟩:=UM HBW.out
   go_wp2_with fail
   refine(aq6 x.n _ (by omega)).use ?_
   intro w2 g2
   have G2:=hid (GW.out.trans g2)
   have K2:=hid (g.trans g2)
   have HB2:=hid (uU HBW.out g2)
   clear k1 k2 g2
   cases hf:agp x.n with
   |true=>
    have HN:=hid (agD.front (ver:=ver) (c:=5) (as2 hf) (by decide) (ae7 HRE.out))
    clear hf
    go_wp2_with fail
    go_ret
    exact⟨_,rfl,⟨5,rfl,HN.out⟩,G2.out⟩
   |false=>
    have HFR:=hid hf
    clear hf
    obtain⟨_,k1,k2,_⟩:=UM HB2.out
    go_wp2_with fail
    clear k1 k2
    go_loopw [37] (fun i wr=>∃k:Nat,k≤x.ps.length∧i=.int .i64 k∧(∀j,j<k→alW x.ps j=0)∧G w1 wr) (fun i _=>x.ps.length-(intOf i).toNat)
    case atStart=>exact⟨0,Nat.zero_le _,rfl,fun j h=>by omega,K2.out⟩
    case round=>
     obtain⟨k,hk,rfl,hn,gr⟩:=hrel
     have HN:=hid hn
     have GR:=hid (G1.out.trans gr)
     have KR:=hid gr
     have HB3:=hid (uU HB.out gr)
     clear hn gr
     by_cases hlt:k<x.ps.length
     ·obtain⟨a2,cap2,e1,_,hc⟩:=(HX.out.p.grow GR.out)
      obtain⟨b,off,e2,hb,hcc⟩:=hc (by intro e;rw[e]at hlt;simp at hlt)
      clear hc
      simp only[Value.slice.injEq,true_and]at e1
      obtain⟨rfl,rfl⟩:=e1
      subst e2
      obtain⟨sv,c1,c2,c3⟩:=hcc k _ (List.getElem?_eq_getElem hlt)
      obtain⟨hp1,hp2,hp3⟩:=HPL.out _ (List.getElem_mem hlt)
      have HPE:=hid (awt hlt)
      obtain⟨p,hpe⟩:∃p,x.ps[k]=p:=⟨_,rfl⟩
      rw[hpe]at c1 c3 hp1 hp2 hp3 HPE
      have C3:=hid c3
      obtain⟨sa,sc,rfl,_⟩:=c3.len
      have HP3:=hid hp3
      clear hcc c3 hpe hp3
      have FT:=hid (fun W (g:G wr W)=>avI p.1 (.slice sa p.2.length sc) p.2 W (C3.out.grow g) (by omega) (by omega) (fun u hu=>by have:=HP3.out u hu;omega) (HR.out.grow (GR.out.trans g)))
      go_wp2_with fail
      refine(FT.out _ ((G.refl _).alloc _)).use ?_
      intro w4 g4
      have G4:=hid (GR.out.trans (((G.refl _).alloc _).trans g4))
      have HB4:=hid (uU HB3.out (((G.refl _).alloc _).trans g4))
      have hp0:w4.cell? ⟨wr.heap.size,0,none⟩=some (.string (S p.1)):=by
       rw[g4.cell (by simp)];exact World.cell?_alloc_new wr _ _ 0
      have G34:=hid (KR.out.trans (((G.refl wr).alloc _).trans g4))
      clear g4 c1 c2
      cases hft:afT (Eg p.1) p.2 with
      |false=>
       have HNO:=hid (agD.front (ver:=ver) (c:=3) (anJ (apH hlt (by rw[HPE.out,if_pos hft];decide))) (by decide) (ae7 HRE.out))
       clear hft
       go_wp2_with fail
       go_ret
       exact⟨_,rfl,⟨3,rfl,HNO.out⟩,G4.out⟩
      |true=>
       have HFT:=hid hft
       clear hft
       cases hsm:aeu p.1 ajr with
       |true=>
        have HZ:=hid (show alW x.ps k=0 by rw[HPE.out,if_neg (by rw[HFT.out];decide),if_neg (by rw[hsm];simp)])
        have SM:=hid (fun W=>(ahN p.1 ajr W (by omega) (by simp[ajr])))
        rw[hsm]at SM
        unfold ajr at SM
        clear hsm
        go_wp2_with fail
        refine(SM.out _).use ?_
        intro w5 g5
        have G5:=hid (G4.out.trans g5)
        have G45:=hid (G34.out.trans g5)
        clear g5
        go_wp2_with fail
        go_roundw
        case rel=>exact⟨k+1,by omega,by go_num,anI HN.out HZ.out,G45.out⟩
        case measure=>simp[intOf];omega
       |false=>
        have SM:=hid (fun W=>(ahN p.1 ajr W (by omega) (by simp[ajr])))
        rw[hsm]at SM
        unfold ajr at SM
        have HSM:=hid hsm
        clear hsm
        go_wp2_with fail
        refine(SM.out _).use ?_
        intro w5 g5
        obtain⟨_,_,k2,_⟩:=UM (uU HB4.out g5)
        have hp0':w5.cell? ⟨wr.heap.size,0,none⟩=some (.string (S p.1)):=(g5.cell (World.block_lt_of_cell? _ _ hp0)).trans hp0
        have G5:=hid (G4.out.trans g5)
        have G45:=hid (G34.out.trans g5)
        clear g5 hp0
        go_wp2_with fail
        refine(FD.out _ G5.out p.1 (by omega)).use ?_
        intro w6 g6
        have G6:=hid (G5.out.trans g6)
        have G46:=hid (G45.out.trans g6)
        clear g6 k2 hp0'
        obtain⟨fd,hfd⟩:∃fd,fd=akZ (afm x.ps p.1):=⟨_,rfl⟩
        rw[←hfd]
        have HFD:=hid hfd
        clear hfd
        by_cases htw:fd<k
        ·have HNO:=hid (agD.front (ver:=ver) (c:=9) (anJ (apH hlt (by rw[HPE.out,if_neg (by rw[HFT.out];decide),if_pos ⟨HSM.out,by rw[←HFD.out];exact htw⟩];decide))) (by decide) (ae7 HRE.out))
         go_wp2_with fail
         go_ret
         exact⟨_,rfl,⟨9,rfl,HNO.out⟩,G6.out⟩
        ·have HZ:=hid (show alW x.ps k=0 by rw[HPE.out,if_neg (by rw[HFT.out];decide),if_neg (by rw[←HFD.out];exact fun h=>htw h.2)])
         go_wp2_with fail
         go_roundw
         case rel=>exact⟨k+1,by omega,by go_num,anI HN.out HZ.out,G46.out⟩
         case measure=>simp[intOf];omega
     ·obtain rfl:k=x.ps.length:=by omega
      have HPB:=hid (as6 HN.out)
      obtain⟨_,k1,k2,k3,_⟩:=UM HB3.out
      obtain⟨kd,hkd⟩:∃kd,kd=typeOf (acM ver x.n).1 x.ps:=⟨_,rfl⟩
      have TY':=TY.out _ GR.out
      rw[←hkd]at TY'
      have HTY:=hid TY'
      have HKD:=hid hkd
      clear hkd TY'
      go_wp2_with fail
      refine HTY.out.use ?_
      intro w7 g7
      have G7:=hid (GR.out.trans g7)
      have HB7:=hid (uU HB3.out g7)
      clear k1 k2 k3 g7 HTY
      by_cases hne:kd=x.v.ty
      case neg=>
       have b0:(kd != x.v.ty)=true:=by simpa using hne
       have HNO:=hid (agD.front (ver:=ver) (c:=1) (as3 (by rw[←HKD.out];exact hne)) (by decide) (ae7 HRE.out))
       obtain⟨_,_,_,k3,_⟩:=UM HB7.out
       go_wp2_with fail
       go_ret
       exact⟨_,rfl,⟨1,rfl,HNO.out⟩,G7.out⟩
      subst hne
      have HF:=hid (as4 HRE.out HFR.out HPB.out HKD.out.symm)
      obtain⟨q0,q1,q2,q3,q4,q5,q6,q7,q8,q9,q10,q11,q12,q13,q14⟩:=UM HB7.out
      go_wp2_with fail
      refine(VR.out _ G7.out).use ?_
      intro r w8 hr g8
      have G8:=hid (G7.out.trans g8)
      have HB8:=hid (uU HB7.out g8)
      clear q0 q1 q2 q3 q4 q5 q6 q7 q8 q9 q10 q11 q12 q13 q14 g8
      rcases hr with⟨hok,rfl⟩|⟨hok,c,rfl,hc,h6⟩
      case inr=>
       have HNO:=hid (show agD ver x c from⟨⟨fun e=>absurd e hc,fun e=>by unfold adY at e;rw[hok]at e;simp at e⟩,fun _=>h6,ae7 HRE.out,fun _ e=>by rw[hok]at e;cases e⟩)
       clear hok hc h6
       go_wp2_with fail
       refine(agX c _ (HE.out.grow G8.out)).use ?_
       intro w9 g9
       go_wp2_with fail
       go_ret
       exact⟨_,rfl,⟨c,rfl,HNO.out⟩,G8.out.trans g9⟩
      have HOK:=hid hok
      have PRP:=hid (PR.out hok)
      obtain⟨r0,r1,r2,r3,hru⟩:∃r0 r1 r2 r3,acM ver x.n=(r0,r1,r2,r3):=⟨_,_,_,_,rfl⟩
      have HRU:=hid hru
      have OF1:=OF.out _ G8.out
      rw[hru]at OF1
      have HOF:=hid OF1
      obtain⟨_,q1,_⟩:=UM HB8.out
      clear hok hru OF1
      go_wp2_with fail
      refine HOF.out.use ?_
      intro wa ga
      have GA:=hid (G8.out.trans (ga.alloc (.cells #[.int .i64 r0,.int .i64 r1,.int .i64 r2,.int .i64 r3] 47)))
      have HBA:=hid (uU HB8.out (ga.alloc (.cells #[.int .i64 r0,.int .i64 r1,.int .i64 r2,.int .i64 r3] 47)))
      clear q1 ga HOF
      by_cases hbad:x.v.ty=3∧0<r3∧(x.v.ps.length:Int)≠r3
      case pos=>
       have HNO:=hid (agD.rear (ver:=ver) (c:=2) HOK.out (show akL ver x=false by unfold akL;rw[HRU.out,decide_eq_true hbad];rfl) (by decide) (ae7 HRE.out) (fun hn=>absurd (by rw[HRU.out];exact hbad) hn))
       obtain⟨b1,b2,b3⟩:=hbad
       have b1':(x.v.ty==3)=true:=by simpa using b1
       have b3':((x.v.ps.length:Int) != r3)=true:=by simpa using b3
       obtain⟨q0,q1,q2,q3,q4,q5,q6,q7,q8,q9,q10,q11,q12,q13,q14⟩:=UM HBA.out
       go_wp2_with fail
       go_ret
       exact⟨_,rfl,⟨2,rfl,HNO.out⟩,GA.out⟩
      have HRB:=hid (show ∀l,l=aey ver x→akL ver x=decide (l.length≤1500) by intro l hl;subst hl;unfold akL;rw[HRU.out,decide_eq_false hbad];rfl)
      have hways:(x.v.ty==3)=false∨((x.v.ty==3)=true∧¬0<r3)∨((x.v.ty==3)=true∧0<r3∧((x.v.ps.length:Int) != r3)=false):=by
       by_cases b1:x.v.ty=3
       ·by_cases b2:0<r3
        ·by_cases b3:(x.v.ps.length:Int)=r3
         ·exact .inr (.inr ⟨by simpa using b1,b2,by simpa using b3⟩)
         ·exact absurd ⟨b1,b2,b3⟩ hbad
        ·exact .inr (.inl ⟨by simpa using b1,b2⟩)
       ·exact .inl (by simpa using b1)
      clear hbad
      rcases hways with b1|⟨b1,b2⟩|⟨b1,b2,b3⟩
      all_goals
       obtain⟨q0,q1,q2,q3,q4,q5,q6,q7,q8,q9,q10,q11,q12,q13,q14⟩:=UM HBA.out
       go_wp2_with fail
       refine(PRP.out _ GA.out).use ?_
       intro wb gb
       clear q0 q1 q2 q3 q4 q5 q6 q7 q8 q9 q10 q11 q12 q13 q14
       go_wp2_with fail
       generalize hw9:wb.alloc _=w9
       have HP4:=hid (show w9.heap[wb.heap.size]?=some (.cells #[.string (S x.g),.string (S x.n),.slice pa x.ps.length pc,.string (S x.v.text)] 109 (0,0)) by rw[←hw9];exact heap_alloc_new wb _)
       have G9:=hid (show G w w9 by rw[←hw9];exact GA.out.trans (gb.alloc _))
       have LP:=hid (fun W (g:G w9 W)=>LPW.out W (G9.out.trans g))
       clear hw9 gb
       obtain⟨l,hl⟩:∃l,l=aey ver x:=⟨_,rfl⟩
       have HLX:=hid hl
       clear hl
       refine wp_region_any (by kernel_rfl) ?_
       refine acJ (E:=#[false,false,false,false,false,false,false,false,false]) G 8 (auK x (.slice pa x.ps.length pc) ver l) [some [],some [],some [(1,117)],some [(0,116),(2,118),(2,118)],some [(3,119)],some [(4,115)],some [(4,115)],some [(5,120),(5,120)],none] [(0,116),(1,117),(2,118),(3,119),(4,115),(5,120),(6,121),(7,15)] _ (by kernel_rfl) (by decide) (by kernel_rfl) (by kernel_rfl) rfl G.refl (fun _ _ _=>G.trans) (w0:=w9) ((G.refl w9).drew) ?_ ?_ ?_
       ·intro k v W W' g h
        match k,h with
        |0,h=>exact h
        |1,h=>exact h
        |2,h=>exact h
        |3,h=>exact h
        |4,h=>exact h
        |5,h=>exact h
        |6,h=>exact h
        |7,h=>exact h
        |n+8,h=>trivial
       ·refine lW (fun vals W g d=>?_)<|lW (fun vals W g d=>?_)<|lW (fun vals W g d=>?_)<|lW (fun vals W g d=>?_)<|lW (fun vals W g d=>?_)<|lW (fun vals W g d=>?_)<|lW (fun vals W g d=>?_)<|lW (fun vals W g d=>?_)<|UB adJ
        ·refine nX rfl rfl rfl fun K hK=>?_
         simp only[gFr]at hK⊢
         obtain⟨k0,k1,k2,k3⟩:=ahy (uU HP4.out g)
         go_simp
         exact hK _ _ (G.refl _) rfl
        ·refine nX rfl rfl rfl fun K hK=>?_
         simp only[gFr]at hK⊢
         go_simp
         exact hK _ _ (G.refl _) rfl
        ·obtain⟨d1,_⟩:=d
         change vals 1=_ at d1
         refine nX rfl rfl rfl fun K hK=>?_
         simp only[gFr,d1]at hK⊢
         go_simp
         refine(af6 ver W).use ?_
         intro W' hg
         exact hK _ _ hg rfl
        ·obtain⟨d0,d2,_,_⟩:=d
         change vals 0=_ at d0
         change vals 2=_ at d2
         refine nX rfl rfl rfl fun K hK=>?_
         simp only[gFr,d0,d2]at hK⊢
         go_simp
         refine(LP.out W g).use ?_
         intro r W' hr hg
         exact hK _ _ hg (by rw[HLX.out];exact apE hr)
        ·obtain⟨d3,_⟩:=d
         obtain⟨er,d3,he⟩:=d3
         refine nX rfl rfl rfl fun K hK=>?_
         simp only[gFr,d3]at hK⊢
         go_simp
         exact hK _ _ (G.refl _) ⟨er,rfl,he⟩
        ·obtain⟨d4,_⟩:=d
         obtain⟨er,d4,he⟩:=d4
         refine nX rfl rfl rfl fun K hK=>?_
         simp only[gFr,d4]at hK⊢
         go_simp
         exact hK _ _ (G.refl _) rfl
        ·obtain⟨d4,_⟩:=d
         obtain⟨er,d4,he⟩:=d4
         refine nX rfl rfl rfl fun K hK=>?_
         simp only[gFr,d4]at hK⊢
         go_simp
         exact hK _ _ (G.refl _) he
        ·obtain⟨d5,_,_⟩:=d
         change vals 5=_ at d5
         refine nX rfl rfl rfl fun K hK=>?_
         simp only[gFr,d5]at hK⊢
         go_simp
         exact hK _ _ (G.refl _) rfl
       ·intro vals W g d
        simp only[acS,ac1]at d
        obtain⟨d0,d1,d2,d3,d4,d5,d6,d7,_⟩:=d
        change vals 0=_ at d0
        change vals 1=_ at d1
        change vals 2=_ at d2
        change vals 5=_ at d5
        change vals 7=_ at d7
        change auJ (vals 6)at d6
        have GW:=hid (G9.out.trans g)
        by_cases hlen:l.length≤1500
        ·have HNO:=hid (agD.good HF.out HOK.out (by rw[HRB.out l HLX.out];exact decide_eq_true hlen))
         have hlen':¬1500<l.length:=by omega
         rcases d6 with e6|⟨t,u,e6⟩
         all_goals
          obtain⟨er,d3,_⟩:=d3
          obtain⟨er2,d4,_⟩:=d4
          refine⟨?_⟩
          show wpList _ _ _ [_] _ _
          simp only[gFr,d0,d1,d2,d5,d7,e6]
          clear d0 d1 d2 d5 d7 e6
          clear d3 d4
          go_wp2_with fail
          go_ret
          exact⟨_,rfl,⟨0,rfl,HNO.out⟩,GW.out⟩
        ·have HNO:=hid (agD.rear (ver:=ver) (c:=4) HOK.out (by rw[HRB.out l HLX.out];exact decide_eq_false hlen) (by decide) (ae7 HRE.out) (fun _=>.inr rfl))
         have hlen':1500<l.length:=by omega
         rcases d6 with e6|⟨t,u,e6⟩
         all_goals
          obtain⟨er,d3,_⟩:=d3
          obtain⟨er2,d4,_⟩:=d4
          refine⟨?_⟩
          show wpList _ _ _ [_] _ _
          simp only[gFr,d0,d1,d2,d5,d7,e6]
          clear d0 d1 d2 d5 d7 e6
          clear d3 d4
          go_wp2_with fail
          go_ret
          exact⟨_,rfl,⟨4,rfl,HNO.out⟩,GW.out⟩
end Go.Proofs.YtmffejnigppbpaaGreatDoor
