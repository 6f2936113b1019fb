/-
  Texts merged into one: CardParse, SameCard, Written, CardPieces.
-/
import Derived.Test.YtmffejnigppbpaaGreatDoorDXCardOf
import Derived.Test.YtmffejnigppbpaaGreatDoorDXMA67
import Derived.Test.YtmffejnigppbpaaGreatDoorDXCardRight
import Derived.Test.YtmffejnigppbpaaGreatDoorDXCardPrint
import Derived.Test.YtmffejnigppbpaaGreatDoorDXMA72
import Derived.Test.YtmffejnigppbpaaGreatDoorDXMA68
import Derived.Test.YtmffejnigppbpaaGreatDoorDXMA62
set_option linter.unusedVariables false
set_option linter.unusedSimpArgs false
set_option maxHeartbeats 4000000
set_option maxRecDepth 100000
namespace Go.Proofs.YtmffejnigppbpaaGreatDoor
open Go.RowKit
theorem aq4(ls:List FLn)(lv:Value)(en N:Nat)(w:World)(h:aeM w lv ls)(hcap:∀a n c,lv=.slice a n c→n≤c)(hs:∀l∈ls,l.text.length≤1500∧l.pos+l.text.length+3*l.folds.length≤N)(hN:N≤100000)(hm:ls.length≤100000)(he:en≤N)(hR:aeV w)(hM:aer w)(hE:UO w)(hIT:∀(ver:Int),ver=3∨ver=4→∀l∈(ls.drop 2).dropLast,∀(fv:Value) (W:World),G w W→adh W fv (adX l.folds)→Uz 156 #[akI l fv,.int .i64 ver] W (fun r w'=>afB ver l W.heap.size r w')) :
  Uz 107 #[lv,.int .i64 (en:Int)] w (fun r w'=>OfR N (ofT (ls.map FLn.text)) w.heap.size r w'):=by
 by_cases h3:ls.length<3
 ·rw[auH (by simpa using h3)]
  exact aol ls lv en N w h h3 he
 ·match ls,h3 with
  |[],h3=>exact absurd (by simp) h3
  |[_],h3=>exact absurd (by simp) h3
  |[_,_],h3=>exact absurd (by simp) h3
  |l0::l1::l2::rest,h3=>
   obtain⟨mid,le,e⟩:∃mid le,l2::rest=mid++[le]:=⟨(l2::rest).dropLast,(l2::rest).getLast (by simp),(List.dropLast_concat_getLast (by simp)).symm⟩
   rw[e]at h hs hm hIT⊢
   have hlen:(l0::l1::(mid++[le])).length=mid.length+3:=by simp
   rcases h with⟨h,_⟩|⟨b,cap,rfl,hb,_,hc⟩
   ·cases h
   ·rw[hlen]at hm hcap⊢
    exact apD l0 l1 le mid b cap en N w hc hb (hcap _ _ _ rfl) hs hN (by omega) he hR hM hE (fun ver hv l hl=>hIT ver hv l (by simpa using hl))
theorem OfR.form{N n:Nat}{o:Option (Int×List It)}{r:Value}{w:World}(h:OfR N o n r w):∃v a k c e,r=.tuple #[.agg #[.int .i64 v,.slice a k c],e]:=by
 cases o with
 |none=>obtain⟨e,h,_⟩:=h;exact⟨_,_,_,_,_,h⟩
 |some x=>
  obtain⟨iv,ds,h,h1,_⟩:=h
  obtain⟨a,c,rfl⟩:=awg h1
  exact⟨_,_,_,_,_,h⟩
theorem OfR.put{N n X:Nat}{o:Option (Int×List It)}{v:Int}{a:Option Addr}{k c:Nat}{e:Value}{w:World}(h:OfR N o n (.tuple #[.agg #[.int .i64 v,.slice a k c],e]) w)(hX:w.heap[X]?=some (.cells #[.int .i64 0,.slice none 0 0] 24 (0,0)))(hn:X<n)(m:Nat)(hm:m≤X):OfR N o m (.tuple #[.agg #[.int .i64 v,.slice a k c],e]) ((w.setCell ⟨X,0,none⟩ (.int .i64 v)).setCell ⟨X,1,none⟩ (.slice a k c)):=by
 cases o with
 |none=>
  obtain⟨e',h,h2⟩:=h
  obtain⟨h3,rfl⟩:=ajn h
  have h4:v=0∧Value.slice a k c=.slice none 0 0:=by
   unfold acH at h3
   simp only[Value.agg.injEq,Array.mk.injEq,List.cons.injEq,and_true]at h3
   simpa using h3
  rw[h4.1,h4.2,adR hX]
  exact⟨_,rfl,h2⟩
 |some x=>
  obtain⟨iv,ds,h,h1,h2⟩:=h
  refine⟨iv,ds,h,afV (aj3 (aj3 h1 hn) hn) (by omega),fun L hL=>?_⟩
  have h5:=h2 (X::L) (fun Y hY=>by rcases List.mem_cons.1 hY with rfl|hY;(· exact hn);have:=hL Y hY;omega)
  have h6:acK (Wl (X::L) ((w.setCell ⟨X,0,none⟩ (.int .i64 v)).setCell ⟨X,1,none⟩ (.slice a k c))) x.2 ds:=by
   rw[Wl.setm (by simp),Wl.setm (by simp)];exact h5
  exact acK.sub (asP (fun Y hY=>List.mem_cons_of_mem _ hY)) h6
theorem anf(t:List UInt8)(w:World)(ht:t.length≤20000)(hR:aeV w)(hM:aer w)(hE:UO w)(hIT:∀(ls:List FLn),Us t 0 []=.good ls→∀(ver:Int),ver=3∨ver=4→∀l∈(ls.drop 2).dropLast,∀(fv:Value) (W:World),G w W→adh W fv (adX l.folds)→Uz 156 #[akI l fv,.int .i64 ver] W (fun r w'=>afB ver l W.heap.size r w')):Uz 64 #[.string (S t)] w (fun r w'=>OfR t.length (ahz t) w.heap.size r w'):=by
 have LO:=hid (fun W=>atl t W ht)
 have HRM:=hid hR
 have HMM:=hid hM
 have HIT:=hid hIT
 have HEM:=hid hE
 clear hR hM hE hIT
 go_enter Tryz.func64,Tryz.ntmps64
 go_wp2_with fail
 refine(LO.out _).use ?_
 intro v w2 hv g2
 have HX2:=hid (uU (heap_alloc_new w (.cells #[.int .i64 0,.slice none 0 0] 24)) g2)
 have G2:=hid (((G.refl w).alloc (.cells #[.int .i64 0,.slice none 0 0] 24)).trans g2)
 clear g2
 cases hl:Us t 0 []with
 |bad c p=>
  rw[hl]at hv
  obtain⟨e,rfl,he⟩:=hv
  have HBAD:=hid (show ahz t=none by unfold ahz;rw[hl])
  have hpl:=(aoK hl).2
  obtain⟨ab,rfl,_⟩:=id he
  have HAT:=hid he
  obtain⟨x0,x1⟩:=acP HX2.out
  have fx:=fun i=>Lib.frozen_of_heap HX2.out i
  have EZ:=hid (adR HX2.out)
  clear he hl
  go_wp2_with fail
  rw[EZ.out]
  exact aeZ rfl rfl rfl rfl HX2.out ⟨_,rfl,OfR.no HBAD.out (IsP.at_ HAT.out hpl),G2.out⟩
 |good ls=>
  rw[hl]at hv
  obtain⟨lv,rfl,hls,hcap⟩:=hv
  have hsm:=akN hl
  have hend:=atK hl
  have hcnt:=apQ hl
  have HPC:=hid (show ahz t=ofT (ls.map FLn.text) by unfold ahz;rw[hl])
  have OF:=hid (aq4 ls lv t.length t.length w2 hls hcap (fun l hl=>⟨(hsm l hl).2.2,by have:=hend l hl;omega⟩) (by omega) (by omega) (Nat.le_refl _) (HRM.out.grow G2.out) (HMM.out.grow G2.out) (HEM.out.grow G2.out) (fun ver hv l hm fv W g hf=>HIT.out ls hl ver hv l hm fv W (G2.out.trans g) hf))
  obtain⟨a,cp,rfl⟩:=hls.len
  clear hls hcap hsm hend hcnt hl
  go_wp2_with fail
  refine OF.out.use ?_
  intro r w3 hr g3
  obtain⟨v,a3,k3,c3,e,rfl⟩:=hr.form
  have HX3:=hid (uU HX2.out g3)
  have G3:=hid (G2.out.trans g3)
  have HP:=hid (hr.put HX3.out (UI HX2.out) w.heap.size (Nat.le_refl _))
  obtain⟨x0,x1⟩:=acP HX3.out
  have fx:=fun i=>Lib.frozen_of_heap HX3.out i
  clear hr g3
  go_wp2_with fail
  exact aeZ rfl rfl rfl rfl (ax1 HX3.out) ⟨_,rfl,by rw[HPC.out];exact HP.out,aeb (aeb G3.out (Nat.le_refl _)) (Nat.le_refl _)⟩
theorem OfR.items{N n:Nat}{v:Int}{xs:List It}{r:Value}{w:World}(h:OfR N (some (v,xs)) n r w):∃iv,r=.tuple #[acH v iv,.nilIface]∧UA w iv xs:=by
 obtain⟨iv,ds,e,h1,h2⟩:=h
 have hr:acK w xs ds:=h2 [] (by simp)
 exact⟨iv,e,(aeP.lies h1 hr.one).items hr⟩
end Go.Proofs.YtmffejnigppbpaaGreatDoor

set_option maxHeartbeats 4000000
set_option maxRecDepth 100000
namespace Go.Proofs.YtmffejnigppbpaaGreatDoor
open Go.RowKit
theorem aoU(xs:List It)(va vb:Value)(w:World)(ha:UA w va xs)(hb:UA w vb xs)(hs:∀x∈xs,Sml x)(hl:xs.length≤100000) :
  Um 108 #[va,vb,.func (.func 27) #[] #[]] w (.bool true):=by
 have HA:=hid ha
 have HB:=hid hb
 have HS:=hid hs
 obtain⟨aa,ca,rfl,_⟩:=ha.len
 obtain⟨ab,cb,rfl,_⟩:=hb.len
 clear ha hb hs
 go_enter Tryz.func108,Tryz.ntmps108
 go_wp2_with fail
 go_loopw [17] (fun i wr=>∃k:Nat,k≤xs.length∧i=.int .i64 k∧G w wr) (fun i _=>xs.length-(intOf i).toNat)
 case atStart=>exact⟨0,Nat.zero_le _,rfl,G.refl _⟩
 case round=>
  obtain⟨k,hk,rfl,g⟩:=hrel
  have HG:=hid g
  clear g
  by_cases hlt:k<xs.length
  ·obtain⟨b1,o1,c1,e1,hb1,hc1⟩:=af5 (HA.out.grow HG.out) (by rintro rfl;simp at hlt)
   obtain⟨b2,o2,c2,e2,hb2,hc2⟩:=af5 (HB.out.grow HG.out) (by rintro rfl;simp at hlt)
   cases e1
   cases e2
   have hx:=List.getElem?_eq_getElem hlt
   obtain⟨x,hxe⟩:∃x,xs[k]=x:=⟨_,rfl⟩
   rw[hxe]at hx
   have HX:=hid (List.mem_of_getElem? hx)
   obtain⟨pv1,lv1,hat1⟩:=hc1 k x hx
   obtain⟨pv2,lv2,hat2⟩:=hc2 k x hx
   obtain⟨pa1,pc1,rfl⟩:=hat1.ok.pv
   obtain⟨la1,lc1,rfl⟩:=hat1.ok.lv
   obtain⟨pa2,pc2,rfl⟩:=hat2.ok.pv
   obtain⟨la2,lc2,rfl⟩:=hat2.ok.lv
   obtain⟨k0,k1,k2,k3,k4,k5,k6,k7,k8,k9,k10,k11,k12,k13,k14⟩:=hat1.e
   obtain⟨q0,q1,q2,q3,q4,q5,q6,q7,q8,q9,q10,q11,q12,q13,q14⟩:=hat2.e
   have hkl:(k:Int)<(xs.length:Int):=by omega
   have SI:=hid (fun W (g:G wr W)=>anu x _ _ _ _ W (hat1.ok.grow g) (hat2.ok.grow g) (HS.out x HX.out))
   clear hc1 hc2 hat1 hat2 hx hxe
   go_wp2_with fail
   refine(SI.out _ (by repeat (first|exact G.refl _|apply G.alloc))).use ?_
   intro w4 g4
   have G4:=hid (HG.out.trans (G.trans (by repeat (first|exact G.refl _|apply G.alloc)) g4))
   clear g4 k0 k1 k2 k3 k4 k5 k6 k7 k8 k9 k10 k11 k12 k13 k14 q0 q1 q2 q3 q4 q5 q6 q7 q8 q9 q10 q11 q12 q13 q14
   go_wp2_with fail
   go_roundw
   case rel=>exact⟨k+1,by omega,by go_num,G4.out⟩
   case measure=>simp[intOf];omega
  ·obtain rfl:k=xs.length:=by omega
   go_wp2_with fail
   go_ret
   exact⟨rfl,HG.out⟩
theorem ant(ver:Int)(xs:List It)(va vb:Value)(w:World)(ha:UA w va xs)(hb:UA w vb xs)(hs:∀x∈xs,Sml x)(hl:xs.length≤100000):Um 65 #[acH ver va,acH ver vb] w (.bool true):=by
 have EQ:=hid (fun W (g:G w W)=>aoU xs va vb W (ha.grow g) (hb.grow g) hs hl)
 obtain⟨aa,ca,rfl,_⟩:=ha.len
 obtain⟨ab,cb,rfl,_⟩:=hb.len
 clear ha hb hs hl
 unfold acH
 go_enter Tryz.func65,Tryz.ntmps65
 go_wp2_with fail
 refine(EQ.out _ (by repeat (first|exact G.refl _|apply G.alloc))).use ?_
 intro w1 g1
 go_wp2_with fail
 go_ret
 exact⟨rfl,G.trans (by repeat (first|exact G.refl _|apply G.alloc)) g1⟩
end Go.Proofs.YtmffejnigppbpaaGreatDoor

set_option maxHeartbeats 8000000
set_option maxRecDepth 100000
namespace Go.Proofs.YtmffejnigppbpaaGreatDoor
open Go.RowKit
def aph:List UInt8:=[66,69,71,73,78,58,86,67,65,82,68,13,10,86,69,82,83,73,79,78,58,52,46,48,13,10,70,78,58,65,110,110,13,10,78,58,65,59,65,110,110,59,59,59,13,10,69,78,68,58,86,67,65,82,68,13,10]
theorem ajh:acN 4 agn=true:=by decide +kernel
theorem asf:acN 3 agn=true:=by decide +kernel
theorem aqT:acN 4 []=false:=by decide +kernel
theorem ah1{l:List UInt8}(h:adO l)(hl:l.length≤75):ac6 l 75 75=l++[13,10]:=by
 have hb:=arc l h
 have hc:adf l 75=l.length:=by rw[akp l 75 h];omega
 rw[aeN (by rw[hc];simp),hc];simp
theorem aoh:UF 4 agn=[ada,ajv,[70,78,58,65,110,110],[78,58,65,59,65,110,110,59,59,59],aju]:=by decide +kernel
theorem am8:ad3 4 75 agn=aph:=by
 unfold ad3
 rw[aoh]
 unfold aes
 simp only[List.flatMap_cons,List.flatMap_nil]
 rw[ah1 (l:=ada) (by unfold adO ada;decide) (by decide),ah1 (l:=ajv) (by unfold adO ajv;decide) (by decide),ah1 (l:=[70,78,58,65,110,110]) (by unfold adO;decide) (by decide),ah1 (l:=[78,58,65,59,65,110,110,59,59,59]) (by unfold adO;decide) (by decide),ah1 (l:=aju) (by unfold adO aju;decide) (by decide)]
 rfl
theorem am9:∀x∈agn,Sml x:=by
 intro x hx
 simp only[agn,List.mem_cons,List.mem_nil_iff,or_false]at hx
 rcases hx with rfl|rfl
 ·exact⟨by decide,by decide,by decide⟩
 ·exact⟨by decide,by decide,by decide⟩
theorem aun:ahz aph=some (4,agn):=by rw[←am8];exact atb ajh (by decide)
theorem axJ(w:World):UA w (.slice none 0 0) []:=aiv.items (cs:=[]) (aeP.lies (World.ownsRow_nil w 0 _ _) (by simp)) rfl
def fnT:List UInt8:=[70,78,58,65,110,110]
def nT:List UInt8:=[78,58,65,59,65,110,110,59,59,59]
theorem auo{ls:List FLn}(h:Us aph 0 []=.good ls):ls.map FLn.text=[ada,ajv,fnT,nT,aju]:=by
 obtain⟨ls',e1,e2⟩:=akj (n:=75) (by decide) (afd (adn.1 ajh).2.2.1)
 rw[show aes 75 (UF 4 agn)=aph from am8,h]at e1
 cases e1
 rw[e2,aoh];rfl
theorem axK{ls:List FLn}(h:Us aph 0 []=.good ls){l:FLn}(hl:l∈(ls.drop 2).dropLast):l.text=fnT∨l.text=nT:=by
 have h1:l.text∈((ls.map FLn.text).drop 2).dropLast:=by
  rw[←List.map_drop,←List.map_dropLast]
  exact List.mem_map_of_mem hl
 rw[auo h]at h1
 simpa using h1
theorem awh(cf:Bool):acZ cf fnT=.ok ⟨⟨[],[70,78],[]⟩,[65,110,110]⟩:=ahJ (p:=⟨⟨[],[70,78],[]⟩,[65,110,110]⟩) (by cases cf<;>decide +kernel)
theorem axL(cf:Bool):acZ cf nT=.ok ⟨⟨[],[78],[]⟩,[65,59,65,110,110,59,59,59]⟩:=ahJ (p:=⟨⟨[],[78],[]⟩,[65,59,65,110,110,59,59,59]⟩) (by cases cf<;>decide +kernel)
theorem axM{gn:L8×L8}{t:L8}(h:ae9 fnT=.ok (gn,t)):isB 59 t=none:=by
 have e:ae9 fnT=.ok (([],[70,78]),[58,65,110,110]):=by rfl
 rw[e]at h;cases h;rfl
theorem ayF{gn:L8×L8}{t:L8}(h:ae9 nT=.ok (gn,t)):isB 59 t=none:=by
 have e:ae9 nT=.ok (([],[78]),[58,65,59,65,110,110,59,59,59]):=by rfl
 rw[e]at h;cases h;rfl
theorem awi(w:World)(hR:aeV w)(hE:UO w)(ls:List FLn)(h:Us aph 0 []=.good ls)(ver:Int)(hv:ver=3∨ver=4)(l:FLn)(hl:l∈(ls.drop 2).dropLast)(fv:Value)(W:World)(g:G w W)(hf:adh W fv (adX l.folds)):Uz 156 #[akI l fv,.int .i64 ver] W (fun r w'=>afB ver l W.heap.size r w'):=by
 have hm:=List.mem_of_mem_drop (((List.dropLast_sublist _).subset hl))
 obtain⟨b1,b2,b3⟩:=akN h l hm
 have hw:aph.length=57:=by decide
 rcases axK h hl with e|e
 ·refine ajp ver hv l fv W hf (by omega) b3 (by omega) (hR.grow g) (hE.grow g) (fun V gV=>?_) (fun p hp V gV=>?_)
  ·rw[e]
   exact aiI fnT (ver==4) V (by decide) fun Z R t gn hn hr=>amm Z R fnT (ver==4) t hr (by decide) (axM hn)
  ·rw[e,awh]at hp
   cases hp
   rw[show typeOf (acM ver [70,78]).1 []=1 by rcases hv with rfl|rfl<;>decide +kernel]
   exact ayz [65,110,110] V (by decide) (by decide +kernel)
 ·refine ajp ver hv l fv W hf (by omega) b3 (by omega) (hR.grow g) (hE.grow g) (fun V gV=>?_) (fun p hp V gV=>?_)
  ·rw[e]
   exact aiI nT (ver==4) V (by decide) fun Z R t gn hn hr=>amm Z R nT (ver==4) t hr (by decide) (ayF hn)
  ·rw[e,axL]at hp
   cases hp
   rw[show typeOf (acM ver [78]).1 []=3 by rcases hv with rfl|rfl<;>decide +kernel]
   exact ayA [65,59,65,110,110,59,59,59] V (by decide) (by decide +kernel)
def axN(T:List UInt8)(C:Addr)(cp:Nat)(k:Nat)(v:Value)(W:World):Prop:=
 match k with
 |0=>v=.nilIface
 |1=>v=.bool true
 |2=>v=.bool true
 |3=>v=.nilIface
 |4=>v=.bool true
 |5=>v=.bool true
 |6=>v=.bool true
 |7=>v=.string (S T)
 |8=>v=.bool true
 |9=>v=.bool true
 |10=>v=.bool true
 |11=>v=.agg #[.int .i64 4,.slice (some C) 2 cp]
 |12=>∃u b c,v=acH 4 u∧u=.slice (some b) 2 c∧UA W u agn
 |_=>True
theorem ah2(w:World)(hR:aeV w)(hM:aer w)(hE:UO w):Um 28 #[] w (.bool true):=by
 have HR:=hid hR
 have HM:=hid hM
 have HE:=hid hE
 clear hR hM hE
 go_enter Tryz.func28,Tryz.ntmps28
 go_wp2_with fail
 refine(aoi 4 w).use ?_
 rintro v w1 ⟨u,rfl,hi,b,c,rfl⟩ g1
 have PR:=hid (aiz 4 (.slice (some b) 2 c) agn 75 w1 hi (by decide) am9 (by decide) (by decide) (HR.out.grow g1) (HM.out.grow g1) (HE.out.grow g1))
 have G1:=hid g1
 clear hi g1
 unfold acH at PR
 unfold acH
 go_wp2_with fail
 refine PR.out.use ?_
 intro v w2 hv g2
 have G2:=hid (G1.out.trans g2)
 clear g2 PR
 rcases hv with⟨_,rfl⟩|⟨hno,_⟩
 case inr=>rw[ajh]at hno;cases hno
 rw[am8,if_neg (by decide)]
 have PS:=hid (anf aph w2 (by decide) (HR.out.grow G2.out) (HM.out.grow G2.out) (HE.out.grow G2.out) (awi w2 (HR.out.grow G2.out) (HE.out.grow G2.out)))
 rw[aun]at PS
 go_wp2_with fail
 refine PS.out.use ?_
 intro v w3 hv g3
 obtain⟨iv,rfl,hit⟩:=hv.items
 obtain⟨ca,cp,rfl,_⟩:=hit.len
 obtain⟨b3,off3,cp3,e3,_,_⟩:=af5 hit (by decide)
 obtain⟨rfl,rfl⟩:ca=some ⟨b3,off3,none⟩∧cp=cp3:=by cases e3;exact⟨rfl,rfl⟩
 have HIT:=hid hit
 have G3:=hid (G2.out.trans g3)
 clear hit hv g3 PS e3
 unfold acH
 go_upto_region 3 with fail
 generalize hw4:w3.alloc _=w4
 have HB3:=hid (show w4.heap[w3.heap.size]?=some (.cells #[.int .i64 4,.slice (some ⟨b3,off3,none⟩) 2 cp] 24 (0,0)) by rw[←hw4];exact heap_alloc_new w3 _)
 have G34:=hid (show G w3 w4 by rw[←hw4];exact(G.refl w3).alloc _)
 clear hw4
 refine wp_region_any (by kernel_rfl) ?_
 refine acJ (E:=#[false,false,false,false,false,false,false,false,false,false,false,false,false,false,false,false,false,false,false,false,false,false,false,false,false,false]) G 13 (axN aph ⟨b3,off3,none⟩ cp) [some [],some [(0,15)],some [(1,16)],some [(2,17)],some [(3,18),(2,17)],some [(2,17),(4,19)],some [(5,20)],some [(6,21)],some [(7,22),(6,21)],some [(6,21),(8,23)],some [(9,24)],some [(10,25)],some [(10,25),(10,25)],none,none,none,none,none,none,none,none,none,none,none,none,none] [(0,15),(1,16),(2,17),(3,18),(4,19),(5,20),(6,21),(7,22),(8,23),(9,24),(10,25),(11,26),(12,27)] _ (by kernel_rfl) (by decide) (by kernel_rfl) (by kernel_rfl) rfl G.refl (fun _ _ _=>G.trans) (w0:=w4) ((G.refl w4).drew) ?_ ?_ ?_
 ·intro k v W W' g h
  match k,h with
  |0,h=>exact h
  |1,h=>exact h
  |2,h=>exact h
  |3,h=>exact h
  |4,h=>exact h
  |5,h=>exact h
  |6,h=>exact h
  |7,h=>exact h
  |8,h=>exact h
  |9,h=>exact h
  |10,h=>exact h
  |11,h=>exact h
  |12,h=>exact by obtain⟨u,b,c,h1,h2,h3⟩:=h;exact⟨u,b,c,h1,h2,h3.grow g⟩
  |n+13,h=>trivial
 ·refine lW (fun vals W g d=>?_)<|lW (fun vals W g d=>?_)<|lW (fun vals W g d=>?_)<|lW (fun vals W g d=>?_)<|lW (fun vals W g d=>?_)<|lW (fun vals W g d=>?_)<|lW (fun vals W g d=>?_)<|lW (fun vals W g d=>?_)<|lW (fun vals W g d=>?_)<|lW (fun vals W g d=>?_)<|lW (fun vals W g d=>?_)<|lW (fun vals W g d=>?_)<|lW (fun vals W g d=>?_)<|UB<|UB<|UB<|UB<|UB<|UB<|UB<|UB<|UB<|UB<|UB<|UB<|UB adJ
  ·refine nX rfl rfl rfl fun K hK=>?_
   simp only[gFr]at hK⊢
   go_simp
   exact hK _ _ (G.refl _) rfl
  ·obtain⟨d0,_⟩:=d
   change vals 0=_ at d0
   refine nX rfl rfl rfl fun K hK=>?_
   simp only[gFr,d0]at hK⊢
   go_simp
   exact hK _ _ (G.refl _) rfl
  ·obtain⟨d1,_⟩:=d
   change vals 1=_ at d1
   refine nX rfl rfl rfl fun K hK=>?_
   simp only[gFr,d1]at hK⊢
   go_simp
   exact hK _ _ (G.refl _) rfl
  ·obtain⟨d2,_⟩:=d
   change vals 2=_ at d2
   refine agN (t:=18) (g:=2) (tg:=17) rfl rfl (by decide) (by decide) rfl d2 rfl rfl fun K hK=>?_
   simp only[gFr,d2]at hK⊢
   go_simp
   exact hK _ _ (G.refl _) rfl
  ·obtain⟨d3,d2,_⟩:=d
   change vals 3=_ at d3
   change vals 2=_ at d2
   refine agN (t:=19) (g:=2) (tg:=17) rfl rfl (by decide) (by decide) rfl d2 rfl rfl fun K hK=>?_
   simp only[gFr,d3,d2]at hK⊢
   go_simp
   exact hK _ _ (G.refl _) rfl
  ·obtain⟨d2,d4,_⟩:=d
   change vals 2=_ at d2
   change vals 4=_ at d4
   refine nX rfl rfl rfl fun K hK=>?_
   simp only[gFr,d2,d4]at hK⊢
   go_simp
   exact hK _ _ (G.refl _) rfl
  ·obtain⟨d5,_⟩:=d
   change vals 5=_ at d5
   refine nX rfl rfl rfl fun K hK=>?_
   simp only[gFr,d5]at hK⊢
   go_simp
   exact hK _ _ (G.refl _) rfl
  ·obtain⟨d6,_⟩:=d
   change vals 6=_ at d6
   refine agN (t:=22) (g:=6) (tg:=21) rfl rfl (by decide) (by decide) rfl d6 rfl rfl fun K hK=>?_
   simp only[gFr,d6]at hK⊢
   go_simp
   exact hK _ _ (G.refl _) rfl
  ·obtain⟨d7,d6,_⟩:=d
   change vals 7=_ at d7
   change vals 6=_ at d6
   refine agN (t:=23) (g:=6) (tg:=21) rfl rfl (by decide) (by decide) rfl d6 rfl rfl fun K hK=>?_
   simp only[gFr,d7,d6]at hK⊢
   go_simp
   exact hK _ _ (G.refl _) rfl
  ·obtain⟨d6,d8,_⟩:=d
   change vals 6=_ at d6
   change vals 8=_ at d8
   refine nX rfl rfl rfl fun K hK=>?_
   simp only[gFr,d6,d8]at hK⊢
   go_simp
   exact hK _ _ (G.refl _) rfl
  ·obtain⟨d9,_⟩:=d
   change vals 9=_ at d9
   refine nX rfl rfl rfl fun K hK=>?_
   simp only[gFr,d9]at hK⊢
   go_simp
   exact hK _ _ (G.refl _) rfl
  ·obtain⟨d10,_⟩:=d
   change vals 10=_ at d10
   refine agN (t:=26) (g:=10) (tg:=25) rfl rfl (by decide) (by decide) rfl d10 rfl rfl fun K hK=>?_
   simp only[gFr,d10]at hK⊢
   obtain⟨c0,c1⟩:=acP (uU HB3.out g)
   go_simp
   exact hK _ _ (G.refl _) rfl
  ·obtain⟨d10,_,_⟩:=d
   change vals 10=_ at d10
   refine agN (t:=27) (g:=10) (tg:=25) rfl rfl (by decide) (by decide) rfl d10 rfl rfl fun K hK=>?_
   simp only[gFr,d10]at hK⊢
   go_simp
   refine(aoi 4 W).use ?_
   rintro v W' ⟨u,rfl,hi,b,c,rfl⟩ hg
   exact hK _ _ hg ⟨_,b,c,rfl,rfl,hi⟩
 ·intro vals W g d
  simp only[acS,ac1]at d
  obtain⟨d0,d1,d2,d3,d4,d5,d6,d7,d8,d9,d10,d11,d12,_⟩:=d
  change vals 0=_ at d0
  change vals 1=_ at d1
  change vals 2=_ at d2
  change vals 3=_ at d3
  change vals 4=_ at d4
  change vals 5=_ at d5
  change vals 6=_ at d6
  change vals 7=_ at d7
  change vals 8=_ at d8
  change vals 9=_ at d9
  change vals 10=_ at d10
  change vals 11=_ at d11
  obtain⟨u4,b4,c4,e12,rfl,hi4⟩:=d12
  refine⟨?_⟩
  show wpList _ _ _ [_,_,_,_,_,_,_,_,_,_,_,_,_] _ _
  simp only[gFr,d0,d1,d2,d3,d4,d5,d6,d7,d8,d9,d10,d11,e12]
  clear d0 d1 d2 d3 d4 d5 d6 d7 d8 d9 d10 d11
  have G5:=hid (G34.out.trans g)
  have SC:=hid (ant 4 agn (.slice (some ⟨b3,off3,none⟩) 2 cp) (.slice (some b4) 2 c4) W (HIT.out.grow G5.out) hi4 am9 (by decide))
  unfold acH at SC
  unfold acH
  clear g hi4 e12
  go_wp2_with fail
  refine SC.out.use ?_
  intro w5 g5
  have G6:=hid ((G3.out.trans G5.out).trans g5)
  clear g5 SC
  go_wp2_with fail
  refine(aoi 3 w5).use ?_
  rintro v w6 ⟨u,rfl,hi6,b6,c6,rfl⟩ g6
  have G7:=hid (G6.out.trans g6)
  have RT:=hid (aem 3 (.slice (some b6) 2 c6) agn w6 hi6 (by decide) am9 (HR.out.grow G7.out) (HM.out.grow G7.out) (HE.out.grow G7.out))
  clear hi6 g6
  unfold acH at RT
  unfold acH
  go_wp2_with fail
  refine RT.out.use ?_
  intro r w7 hr g7
  have G8:=hid (G7.out.trans g7)
  clear g7 RT
  rcases hr with⟨_,rfl⟩|⟨hno,_⟩
  case inr=>rw[asf]at hno;cases hno
  have RZ:=hid (aem 4 (.slice none 0 0) [] w7 (axJ w7) (by decide) (by simp) (HR.out.grow G8.out) (HM.out.grow G8.out) (HE.out.grow G8.out))
  unfold acH at RZ
  go_wp2_with fail
  refine RZ.out.use ?_
  intro r w8 hr g8
  rcases hr with⟨hyes,_⟩|⟨_,c,k,he,_⟩
  ·rw[aqT]at hyes;cases hyes
  obtain⟨t,e,rfl⟩:=ad8.iface he
  go_wp2_with fail
  go_ret
  exact⟨rfl,G8.out.trans g8⟩
end Go.Proofs.YtmffejnigppbpaaGreatDoor

namespace Go.Proofs.YtmffejnigppbpaaGreatDoor
open Go.RowKit
def crl(ls:List (List UInt8)):List UInt8:=ls.flatMap fun q=>q++[13,10]
theorem apF(q:List UInt8)(ls:List (List UInt8)):crl (q::ls)=q++13::10::crl ls:=by simp[crl]
theorem asr(a b:List (List UInt8)):crl (a++b)=crl a++crl b:=by simp[crl]
theorem ah4:∀(ps:List (List UInt8)) (p:List UInt8),Uu [13,10] p (ps++[[]])=crl (p::ps)
 |[],p=>by simp[Uu,crl]
 |q::ps,p=>by
  have:=ah4 ps q
  rw[apF,←this]
  simp[Uu]
theorem ass:∀ls:List (List UInt8),2*ls.length≤(crl ls).length
 |[]=>by simp
 |q::ls=>by have:=ass ls;rw[apF];simp;omega
def ax9(n:Nat)(q:List UInt8):Prop:=q.length≤n∧∀c∈q,nlB c=false
theorem alU{n:Nat}(hn:10≤n):∀ {ss:List (List UInt8)},(∀s∈ss,ahC s)→∃ls,aes n ss=crl ls∧ss.length≤ls.length∧∀q∈ls,ax9 n q
 |[],_=>⟨[],rfl,Nat.le_refl _,fun q h=>by simp at h⟩
 |s::ss,h=>by
  obtain⟨p,ps,e1,_,_,hp,_⟩:=ari (h s List.mem_cons_self) n hn
  obtain⟨ls,e2,hl,hq⟩:=alU hn (ss:=ss) fun t ht=>h t (List.mem_cons_of_mem _ ht)
  refine⟨p::ps++ls,?_,by simp;omega,fun q hq'=>?_⟩
  ·rw[asr,←e2,←ah4,←e1];rfl
  ·rcases List.mem_append.1 hq' with hq'|hq'
   ·exact⟨(hp q hq').1,(hp q hq').2.2⟩
   ·exact hq q hq'
theorem aoo{n:Nat}(hn:10≤n):∃p ps,ac6 ada n n=crl (p::ps)∧p.take 6=[66,69,71,73,78,58]∧∀q∈p::ps,ax9 n q:=by
 have ha:adO ada:=by unfold adO ada;decide
 have hcut:=akp ada n ha
 have hlen:ada.length=11:=rfl
 rw[hlen]at hcut
 by_cases h:n=10
 ·subst h
  refine⟨[66,69,71,73,78,58,86,67,65,82],[[32,68]],?_,rfl,?_⟩
  ·have hc2:adf [68] 9=1:=by rw[akp [68] 9 (by unfold adO;decide)];rfl
   rw[ag5 (by rw[hcut];decide) (by rw[hcut];decide),hcut,show ada.drop (min 10 11)=[68] from rfl,show(10:Nat)-1=9 from rfl,aeN (by rw[hc2];rfl),hc2]
   rfl
  ·intro q hq
   simp only[List.mem_cons,List.mem_nil_iff,or_false]at hq
   rcases hq with rfl|rfl<;>exact⟨by decide,by decide⟩
 ·refine⟨ada,[],?_,rfl,?_⟩
  ·rw[aeN (by rw[hcut,show min n 11=11 by omega];rfl),hcut,show min n 11=11 by omega]
   rfl
  ·intro q hq
   rw[List.mem_singleton.1 hq]
   exact⟨by rw[hlen];omega,by decide⟩
theorem apG{v:Int}{n:Nat}{xs:List It}(hn:10≤n)(h:∀x∈xs,adY v x=true):∃p ps,ad3 v n xs=Uu [13,10] p (ps++[[]])∧p.take 6=[66,69,71,73,78,58]∧xs.length+2≤ps.length∧∀q∈p::ps,ax9 n q:=by
 obtain⟨p,ps,e1,h6,hp⟩:=aoo hn
 obtain⟨ls,e2,hl,hq⟩:=alU hn (ss:=afC v::(xs.map (aey v)++[aju])) fun s hs=>(afd h s (List.mem_cons_of_mem _ hs)).1
 refine⟨p,ps++ls,?_,h6,?_,fun q hq'=>?_⟩
 ·rw[ah4,←List.cons_append,asr,←e1,←e2];rfl
 ·simp at hl;simp;omega
 ·rw[←List.cons_append]at hq'
  rcases List.mem_append.1 hq' with hq'|hq'
  ·exact hp q hq'
  ·exact hq q hq'
end Go.Proofs.YtmffejnigppbpaaGreatDoor
