/-
  Texts merged into one: CardTwice, CardGroups, CardWide.
-/
import Derived.Test.YtmffejnigppbpaaGreatDoorDXMA66
import Derived.Test.YtmffejnigppbpaaGreatDoorDXMA71
import Derived.Test.YtmffejnigppbpaaGreatDoorDXMA62
import Derived.Test.YtmffejnigppbpaaGreatDoorDXMA73
import Derived.Test.YtmffejnigppbpaaGreatDoorDXMA78
import Derived.Test.YtmffejnigppbpaaGreatDoorDXMA65
import Derived.Test.YtmffejnigppbpaaGreatDoorDXMA56
import Derived.Test.YtmffejnigppbpaaGreatDoorDXCardItem
import Derived.Test.YtmffejnigppbpaaGreatDoorDXMA68
import Derived.Test.YtmffejnigppbpaaGreatDoorDXMA70
import Derived.Test.YtmffejnigppbpaaGreatDoorDXMVeil
import Derived.Test.YtmffejnigppbpaaGreatDoorDXCardPrint
import Derived.Test.YtmffejnigppbpaaGreatDoorDXMA52
import Derived.Test.YtmffejnigppbpaaGreatDoorDXMA64
set_option linter.unusedVariables false
set_option linter.unusedSimpArgs false
set_option maxHeartbeats 16000000
set_option maxRecDepth 100000
namespace Go.Proofs.YtmffejnigppbpaaGreatDoor
open Go.RowKit
theorem aq8{w W:World}{base:Nat}{u:Value}{xs:List It}{x:It}{cs:List Value}{pv lv:Value}(hr:acK w xs cs)(hx:adE w x pv lv)(g:G w W)(h:aeP base W u (xs.length+1) (cs++x.cells pv lv)):UA W u (xs++[x]):=by
 have hr2:acK W (xs++[x]) (cs++x.cells pv lv):=(hr.grow g).append (acK.single (hx.grow g))
 have:=h.lies hr2.one
 exact aiv.items (by simpa using this) hr2
theorem apM{ver:Int}{xs:List It}{x:It}(hri:acN ver xs=true)(h40:xs.length≤40)(hx:x∈xs):((acM ver x.n).2.2.1=0∧acN ver (xs++[x])=true)∨(0<(acM ver x.n).2.2.1∧acN ver (xs++[x])=false∧(∀y∈xs++[x],adY ver y=true)∧afQ ver ((xs++[x]).map It.n)=false):=by
 have hone:=(aed.1 hri).2.2.1 x hx
 have hc:=asn ver (Eg x.n)
 by_cases h0:agm ver (Eg x.n)=0
 ·exact .inl ⟨h0,by rw[asX hri (by omega) (by omega)];exact hone⟩
 ·have ht:=asY (v:=ver) hx (by omega)
  refine .inr ⟨(by show 0<agm ver (Eg x.n);omega),?_,auE hri hone,ht⟩
  rw[Bool.eq_false_iff]
  intro h
  have:=(adn.1 h).2.2.2.1
  rw[ht]at this;cases this
def aww(cb ib off n ic i hs:Nat)(at_:Int)(x:It)(pv lv:Value)(k:Nat)(v:Value)(W:World):Prop:=
 match k with
 |0=>v=.pointer (some ⟨cb,1,none⟩)
 |1=>v=.slice (some ⟨ib,off,none⟩) n ic
 |2=>v=.int .i64 at_
 |3=>v=.pointer (some ⟨cb,1,none⟩)
 |4=>v=.slice (some ⟨ib,off,none⟩) n ic
 |5=>v=.int .i64 (n:Int)
 |6=>v=.int .i64 (i:Int)
 |7=>v=.pointer (some ⟨ib,off+i*15,none⟩)
 |8=>v=x.val pv lv
 |9=>∃b,v=.pointer (some ⟨b,0,none⟩)∧hs≤b∧W.heap[b]?=some (.cells (It0.cells (.slice none 0 0) (.slice none 0 0)).toArray 38 (0,0))
 |_=>True
theorem al1(ver:Int)(iv:Value)(xs:List It)(at_:Int)(w:World)(h:UA w iv xs)(hf:iv=.slice none 0 0∨∃a n c,iv=.slice (some a) n c)(hl:xs.length≤1048576)(hL:∀y∈xs,ajS y≤1048576)(za : -9223372036854775808≤at_∧at_≤9223372036854775807)(hR:aeV w)(hE:UO w) :
  Um 5 #[acH ver iv,.int .i64 at_] w (.bool true):=by
 have WR:=hid (fun W (g:G w W)=>ah2 W (hR.grow g) (hR.grow g).hm (hE.grow g))
 have RU:=hid (fun W (g:G w W)=>atU W (hR.grow g))
 have HL:=hid (fun W (g:G w W)=>apZ ver iv xs W (h.grow g) hl hL (hR.grow g) (hE.grow g))
 have HI:=hid h
 have HR:=hid hR
 have HE:=hid hE
 have HF:=hid hf
 obtain⟨hb,hhb⟩:∃hb,amj ver xs=hb:=⟨_,rfl⟩
 rw[hhb]at HL
 have HHB:=hid hhb
 obtain⟨ia,ic,rfl,_⟩:=h.len
 clear h hf hl hL hR hE hhb
 unfold acH at HL
 unfold acH
 go_enter Tryz.func5,Tryz.ntmps5
 go_wp2_with fail
 generalize hw1:w.alloc _=w1
 have HB1:=hid (show w1.heap[w.heap.size]?=some (.cells #[.int .i64 ver,.slice ia xs.length ic] 24 (0,0)) by rw[←hw1];exact heap_alloc_new w _)
 have G1:=hid (show G w w1 by rw[←hw1];exact(G.refl w).alloc _)
 clear hw1
 refine(WR.out w1 G1.out).use ?_
 intro w2 g2
 have G2:=hid (G1.out.trans g2)
 have HB2:=hid (uU HB1.out g2)
 clear g2 WR
 go_wp2_with fail
 refine(RU.out w2 G2.out).use ?_
 intro w3 g3
 have G3:=hid (G2.out.trans g3)
 have HB3:=hid (uU HB2.out g3)
 clear g3 RU
 obtain⟨c0,c1⟩:=acP HB3.out
 go_wp2_with fail
 refine(HL.out w3 G3.out).use ?_
 intro w4 g4
 have G4:=hid (G3.out.trans g4)
 have HB4:=hid (uU HB3.out g4)
 clear g4 HL c0 c1
 cases hb with
 |false=>
  go_wp2_with fail
  go_ret
  exact⟨rfl,G4.out⟩
 |true=>
 obtain⟨hbig,hri⟩:ajl xs=false∧acN ver xs=true:=by
  have:=HHB.out
  unfold amj at this
  simpa using this
 obtain⟨h40,hsm⟩:=ajF hbig
 obtain⟨c0,c1⟩:=acP HB4.out
 by_cases h0:xs=[]
 ·have b0:((xs.length:Int)==0)=true:=by subst h0;rfl
  go_wp2_with fail
  go_ret
  exact⟨rfl,G4.out⟩
 have hpos:0<xs.length:=List.length_pos_iff.2 h0
 have b0:((xs.length:Int)==0)=false:=by rw[beq_eq_false_iff_ne];omega
 have b60:((xs.length:Int)==60)=false:=by rw[beq_eq_false_iff_ne];omega
 obtain⟨ib,off,ic2,e,hb4,hit⟩:=af5 (HI.out.grow G4.out) h0
 cases e
 have PK0:=fun W=>aqo at_ (xs.length:Int) W (by omega) (by omega)
 have hp:=amB at_ (n:=(xs.length:Int)) (by omega)
 obtain⟨i,hi⟩:∃i,ak0 at_ (xs.length:Int)=i:=⟨_,rfl⟩
 rw[hi]at PK0 hp
 have PK:=hid PK0
 have hilt:(i:Int)<(xs.length:Int):=hp
 have hx:=List.getElem?_eq_getElem (l:=xs) (i:=i) (by omega)
 obtain⟨x,hxe⟩:∃x,xs[i]'(by omega)=x:=⟨_,rfl⟩
 rw[hxe]at hx
 obtain⟨pv,lv,hat⟩:=hit i x hx
 obtain⟨pa,pc,rfl⟩:=hat.ok.pv
 obtain⟨la,lc,rfl⟩:=hat.ok.lv
 have HAT:=hid hat
 have hxm:=List.mem_of_getElem? hx
 have hsx:=hsm x hxm
 have HTF:=hid (apM hri h40 hxm)
 have hver:=(aed.1 hri).1
 have HVR:=hid hver
 have HSM:=hid (show ∀y∈xs++[x],Sml y by
  intro y hy
  rcases List.mem_append.1 hy with hy|hy
  ·exact hsm y hy
  ·rw[List.mem_singleton.1 hy];exact hsx)
 have hxn:x.n.length≤1000000:=by have:=hsx.bounds.2.1;omega
 have OF:=hid (fun W (g:G w W)=>amK x.n ver W HVR.out hxn (HR.out.grow g))
 clear hit hat hx hxe hxm hsx hsm hri hbig PK0 hp hi hver
 go_upto_region 5 with fail
 clear c0 c1
 refine wp_region_any (by kernel_rfl) ?_
 refine acJ (E:=#[false,false,false,false,false,false,false,false,false,false,false]) G 10 (aww w.heap.size ib off xs.length ic i w4.heap.size at_ x (.slice pa x.ps.length pc) (.slice la x.v.ps.length lc)) [some [],some [(0,30)],some [],some [],some [(3,33)],some [(4,34)],some [(2,32),(5,35)],some [(1,31),(6,36)],some [(7,37)],some [],none] [(0,30),(1,31),(2,32),(3,33),(4,34),(5,35),(6,36),(7,37),(8,38),(9,5)] _ (by kernel_rfl) (by decide) (by kernel_rfl) (by kernel_rfl) rfl G.refl (fun _ _ _=>G.trans) (w0:=w4) ((G.refl w4).drew) ?_ ?_ ?_
 ·intro k v W W' g h
  match k,h with
  |0,h=>exact h
  |1,h=>exact h
  |2,h=>exact h
  |3,h=>exact h
  |4,h=>exact h
  |5,h=>exact h
  |6,h=>exact h
  |7,h=>exact h
  |8,h=>exact h
  |9,h=>exact by obtain⟨b,h1,h2,h3⟩:=h;exact⟨b,h1,h2,uU h3 g⟩
  |n+10,h=>trivial
 ·refine lW (fun vals W g d=>?_)<|lW (fun vals W g d=>?_)<|lW (fun vals W g d=>?_)<|lW (fun vals W g d=>?_)<|lW (fun vals W g d=>?_)<|lW (fun vals W g d=>?_)<|lW (fun vals W g d=>?_)<|lW (fun vals W g d=>?_)<|lW (fun vals W g d=>?_)<|lW (fun vals W g d=>?_)<|UB adJ
  ·refine nX rfl rfl rfl fun K hK=>?_
   simp only[gFr]at hK⊢
   go_simp
   exact hK _ _ (G.refl _) rfl
  ·obtain⟨d0,_⟩:=d
   change vals 0=_ at d0
   refine nX rfl rfl rfl fun K hK=>?_
   simp only[gFr,d0]at hK⊢
   obtain⟨c0,c1⟩:=acP (uU HB4.out g)
   go_simp
   exact hK _ _ (G.refl _) rfl
  ·refine nX rfl rfl rfl fun K hK=>?_
   simp only[gFr]at hK⊢
   go_simp
   exact hK _ _ (G.refl _) rfl
  ·refine nX rfl rfl rfl fun K hK=>?_
   simp only[gFr]at hK⊢
   go_simp
   exact hK _ _ (G.refl _) rfl
  ·obtain⟨d3,_⟩:=d
   change vals 3=_ at d3
   refine nX rfl rfl rfl fun K hK=>?_
   simp only[gFr,d3]at hK⊢
   obtain⟨c0,c1⟩:=acP (uU HB4.out g)
   go_simp
   exact hK _ _ (G.refl _) rfl
  ·obtain⟨d4,_⟩:=d
   change vals 4=_ at d4
   refine nX rfl rfl rfl fun K hK=>?_
   simp only[gFr,d4]at hK⊢
   go_simp
   exact hK _ _ (G.refl _) rfl
  ·obtain⟨d2,d5,_⟩:=d
   change vals 2=_ at d2
   change vals 5=_ at d5
   refine nX rfl rfl rfl fun K hK=>?_
   simp only[gFr,d2,d5]at hK⊢
   go_simp
   refine(PK.out W).use ?_
   exact hK _ _ (G.refl _) rfl
  ·obtain⟨d1,d6,_⟩:=d
   change vals 1=_ at d1
   change vals 6=_ at d6
   refine nX rfl rfl rfl fun K hK=>?_
   simp only[gFr,d1,d6]at hK⊢
   have hmm:=hilt
   go_simp
   exact hK _ _ (G.refl _) rfl
  ·obtain⟨d7,_⟩:=d
   change vals 7=_ at d7
   refine nX rfl rfl rfl fun K hK=>?_
   simp only[gFr,d7]at hK⊢
   obtain⟨k0,k1,k2,k3,k4,k5,k6,k7,k8,k9,k10,k11,k12,k13,k14⟩:=(HAT.out.grow hb4 g).e
   go_simp
   exact hK _ _ (G.refl _) rfl
  ·refine nX rfl rfl rfl fun K hK=>?_
   simp only[gFr]at hK⊢
   go_simp
   exact hK _ _ ((G.refl _).alloc _) ⟨W.heap.size,rfl,g.size,heap_alloc_new W _⟩
 ·intro vals W g d
  simp only[acS,ac1]at d
  obtain⟨d0,d1,d2,d3,d4,d5,d6,d7,d8,d9,_⟩:=d
  change vals 0=_ at d0
  change vals 1=_ at d1
  change vals 2=_ at d2
  change vals 3=_ at d3
  change vals 4=_ at d4
  change vals 5=_ at d5
  change vals 6=_ at d6
  change vals 7=_ at d7
  change vals 8=_ at d8
  obtain⟨xb,e9,hxb,hz⟩:=d9
  have HZ:=hid hz
  have GW:=hid g
  clear hz g
  refine⟨?_⟩
  show wpList _ _ _ [_] _ _
  simp only[gFr,d0,d1,d2,d3,d4,d5,d6,d7,d8]
  clear d0 d1 d2 d3 d4 d5 d6 d7 d8
  simp only[e9,It.val]
  clear e9
  obtain⟨z0,z1,z2,z3,z4,z5,z6,z7,z8,z9,z10,z11,z12,z13,z14⟩:=UM HZ.out
  have fz:=fun i=>Lib.frozen_of_heap HZ.out i
  go_upto_region 6 with fail
  generalize hw5:World.setCell _ _ _=w5
  have HX5:=hid (show w5.heap[xb]?=some (.cells (x.cells (.slice pa x.ps.length pc) (.slice la x.v.ps.length lc)).toArray 38 (0,0)) by rw[←hw5];exact axV HZ.out _ _ _ _ _ _ _ _ _ _ _ _ _ _ _)
  have G45:=hid (show G w4 w5 by rw[←hw5];exact g15 hxb GW.out _ _ _ _ _ _ _ _ _ _ _ _ _ _ _)
  have G5:=hid (G4.out.trans G45.out)
  have HB5:=hid (uU HB4.out G45.out)
  clear hw5 HZ z0 z1 z2 z3 z4 z5 z6 z7 z8 z9 z10 z11 z12 z13 z14 fz
  obtain⟨r0,r1,r2,r3,hru⟩:∃r0 r1 r2 r3,acM ver x.n=(r0,r1,r2,r3):=⟨_,_,_,_,rfl⟩
  have HRU:=hid hru
  have OF1:=OF.out w5 G5.out
  have hru2:acX (UG ver) (Eg x.n)=(r0,r1,r2,r3):=hru
  rw[hru2]at OF1
  have HOF:=hid OF1
  clear hru OF1 hru2 OF
  obtain⟨c0,c1⟩:=acP HB5.out
  obtain⟨_,q1,_⟩:=UM HX5.out
  go_wp2_with fail
  refine HOF.out.use ?_
  intro w6 g6
  clear c0 c1 q1
  go_upto_region 7 with fail
  generalize hw7:w6.alloc _=w7
  have HRB:=hid (show w7.heap[w6.heap.size]?=some (.cells #[.int .i64 r0,.int .i64 r1,.int .i64 r2,.int .i64 r3] 47 (0,0)) by rw[←hw7];exact heap_alloc_new w6 _)
  have G57:=hid (show G w5 w7 by rw[←hw7];exact g6.alloc _)
  have G7:=hid (G5.out.trans G57.out)
  have HB7:=hid (uU HB5.out G57.out)
  have HX7:=hid (uU HX5.out G57.out)
  clear hw7 g6
  obtain⟨cs,hlies,hrow⟩:=(HI.out.grow G7.out).lies
  have WT:=hid (awf ver (.slice (some ⟨ib,off,none⟩) xs.length ic) xs.length cs x (.slice pa x.ps.length pc) (.slice la x.v.ps.length lc) w7 hlies HF.out (HAT.out.ok.grow (G45.out.trans G57.out)) (by omega))
  have HROW:=hid hrow
  clear hlies hrow
  obtain⟨c0,c1⟩:=acP HB7.out
  obtain⟨q0,q1,q2,q3,q4,q5,q6,q7,q8,q9,q10,q11,q12,q13,q14⟩:=UM HX7.out
  unfold acH at WT
  go_wp2_with fail
  refine WT.out.use ?_
  rintro v w8 ⟨u,rfl,hown⟩ g8
  have G8:=hid (G7.out.trans g8)
  have RT:=hid (aem ver u (xs++[x]) w8 (aq8 HROW.out (HAT.out.ok.grow (G45.out.trans G57.out)) g8 hown) (by simp;omega) HSM.out (HR.out.grow G8.out) (HR.out.grow G8.out).hm (HE.out.grow G8.out))
  have HRB8:=hid (uU HRB.out g8)
  clear q0 q1 q2 q3 q4 q5 q6 q7 q8 q9 q10 q11 q12 q13 q14 c0 c1 WT g8 hown
  unfold acH at RT
  go_wp2_with fail
  refine RT.out.use ?_
  intro r w9 hr g9
  have G9:=hid (G8.out.trans g9)
  have HRB9:=hid (uU HRB8.out g9)
  clear g9 RT
  obtain⟨b0',b1',b2',b3'⟩:=ahy HRB9.out
  rcases hr with⟨hok,rfl⟩|⟨hno,c,k,he,hc0,_,hbad⟩
  ·rcases HTF.out with⟨hz,_⟩|⟨_,hf,_⟩
   ·rw[HRU.out]at hz
    obtain rfl:r2=0:=hz
    clear hok
    go_wp2_with fail
    go_ret
    exact⟨rfl,G9.out⟩
   ·rw[hf]at hok;cases hok
  ·rcases HTF.out with⟨_,ht⟩|⟨hpos2,_,hone,hmost⟩
   ·rw[ht]at hno;cases hno
   ·rw[HRU.out]at hpos2
    have hp2:0<r2:=hpos2
    have hz2:(r2==0)=false:=by rw[beq_eq_false_iff_ne];omega
    have hc9:c=9:=hbad.2 HVR.out (by simp;omega) hone hmost
    subst hc9
    obtain⟨t,e,rfl⟩:=ad8.iface he
    have TL:=hid (axp he (HE.out.grow G9.out))
    clear he hno hone hmost hbad hpos2 hc0
    go_wp2_with fail
    refine TL.out.use ?_
    intro wa ga
    go_wp2_with fail
    go_ret
    exact⟨rfl,G9.out.trans ga⟩
end Go.Proofs.YtmffejnigppbpaaGreatDoor

set_option maxHeartbeats 16000000
set_option maxRecDepth 100000
namespace Go.Proofs.YtmffejnigppbpaaGreatDoor
open Go.RowKit
theorem aiy.two{ver:Int}{x:It}{r:Value}(h:aiy ver x r):∃t e,r=.tuple #[t,e]:=by
 rcases h with⟨_,e⟩|⟨_,c,e,_⟩
 ·exact⟨_,_,e⟩
 ·exact⟨_,_,e⟩
theorem aq2{xs:List It}(h:ajl xs=false):∀x∈xs,adm x.ps+x.g.length+x.n.length≤2500∧x.v.tx.length≤1500∧acY x.v.ps≤1500:=by
 unfold ajl at h
 rw[Bool.or_eq_false_iff,decide_eq_false_iff_not,List.any_eq_false]at h
 intro x hx
 have hb:=h.2 x hx
 unfold akg awm awn at hb
 simp only[Bool.or_eq_true,decide_eq_true_eq,not_or]at hb
 obtain⟨h1,h2⟩:=hb
 omega
theorem auv{v:Int}{xs:List It}(h:acN v xs=true):xs≠[]:=by
 rintro rfl
 have hv:=(adn.1 h).1
 rcases hv with rfl|rfl
 ·revert h;decide +kernel
 ·revert h;decide +kernel
theorem auw{s:List UInt8}(h:GH s=true):s.length≤40:=by
 unfold GH at h
 simp only[Bool.and_eq_true,decide_eq_true_eq]at h
 omega
theorem apy{s:List UInt8}{xs:List It}{k:Nat}{x:It}(hx:xs[k]?=some x):((xs.take k).map (gx s)++xs.drop k)[k]?=some x:=by
 obtain⟨hk,rfl⟩:=List.getElem?_eq_some_iff.1 hx
 rw[List.getElem?_append_right (by simp;omega)]
 have:k-((xs.take k).map (gx s)).length=0:=by simp;omega
 rw[this,List.drop_eq_getElem_cons hk];rfl
theorem asV{s:List UInt8}{xs:List It}{k:Nat}{x:It}(hx:xs[k]?=some x):((xs.take (k+1)).map (gx s)++xs.drop (k+1))[k]?=some (gx s x):=by
 obtain⟨hk,rfl⟩:=List.getElem?_eq_some_iff.1 hx
 rw[List.getElem?_append_left (by simp;omega)]
 simp[hk]
def aux(cb db D n cap kk:Nat)(ver:Int)(x:It)(pv lv:Value)(k:Nat)(v:Value)(W:World):Prop:=
 match k with
 |0=>v=.pointer (some ⟨db,1,none⟩)
 |1=>v=.slice (some ⟨D,0,none⟩) n cap
 |2=>v=.int .i64 (kk:Int)
 |3=>v=.pointer (some ⟨D,kk*15,none⟩)
 |4=>v=x.val pv lv
 |5=>v=.pointer (some ⟨cb,0,none⟩)
 |6=>v=.int .i64 ver
 |7=>aiy ver x v
 |8=>aiy ver x v
 |9=>∃e,aiy ver x (.tuple #[v,e])
 |10=>∃t,aiy ver x (.tuple #[t,v])
 |11=>∃e,aiy ver x (.tuple #[v,e])
 |_=>True
theorem alj(ver:Int)(iv:Value)(xs:List It)(s:List UInt8)(w:World)(h:UA w iv xs)(hf:iv=.slice none 0 0∨∃a n c,iv=.slice (some a) n c)(hl:xs.length≤1048576)(hL:∀y∈xs,ajS y≤1048576)(zs:s.length≤1048576)(hR:aeV w)(hE:UO w) :
  Um 6 #[acH ver iv,.string (S s)] w (.bool true):=by
 have WR:=hid (fun W (g:G w W)=>ah2 W (hR.grow g) (hR.grow g).hm (hE.grow g))
 have HL:=hid (fun W (g:G w W)=>apZ ver iv xs W (h.grow g) hl hL (hR.grow g) (hE.grow g))
 have HI:=hid h
 have HR:=hid hR
 have HE:=hid hE
 have HF:=hid hf
 have IS:=hid (fun W=>ag8 s W (by omega))
 obtain⟨hb,hhb⟩:∃hb,amj ver xs=hb:=⟨_,rfl⟩
 rw[hhb]at HL
 have HHB:=hid hhb
 obtain⟨ns,hns⟩:∃ns,GH s=ns:=⟨_,rfl⟩
 rw[hns]at IS
 have HNS:=hid hns
 obtain⟨ia,ic,rfl,_⟩:=h.len
 clear h hf hl hL hR hE hhb hns
 unfold acH at HL
 unfold acH
 go_enter Tryz.func6,Tryz.ntmps6
 go_wp2_with fail
 generalize hw1:w.alloc _=w1
 have HB1:=hid (show w1.heap[w.heap.size]?=some (.cells #[.int .i64 ver,.slice ia xs.length ic] 24 (0,0)) by rw[←hw1];exact heap_alloc_new w _)
 have G1:=hid (show G w w1 by rw[←hw1];exact(G.refl w).alloc _)
 clear hw1
 refine(WR.out w1 G1.out).use ?_
 intro w2 g2
 have G2:=hid (G1.out.trans g2)
 have HB2:=hid (uU HB1.out g2)
 clear g2 WR
 go_wp2_with fail
 refine(aoF w2).use ?_
 intro w3 g3
 have G3:=hid (G2.out.trans g3)
 have HB3:=hid (uU HB2.out g3)
 clear g3
 obtain⟨c0,c1⟩:=acP HB3.out
 go_wp2_with fail
 refine(HL.out w3 G3.out).use ?_
 intro w4 g4
 have G4:=hid (G3.out.trans g4)
 have HB4:=hid (uU HB3.out g4)
 clear g4 HL c0 c1
 cases hb with
 |false=>
  go_wp2_with fail
  go_ret
  exact⟨rfl,G4.out⟩
 |true=>
 obtain⟨hbig,hri⟩:ajl xs=false∧acN ver xs=true:=by
  have:=HHB.out
  unfold amj at this
  simpa using this
 obtain⟨h40,_⟩:=ajF hbig
 have HSS:=hid (aq2 hbig)
 have HRI:=hid hri
 have h0:=auv hri
 have HVR:=hid (aed.1 hri).1
 clear hri hbig
 by_cases hbad:s≠[]∧ns=false
 ·obtain⟨hs0,rfl⟩:=hbad
  have b0:s.isEmpty=false:=by simpa using hs0
  go_wp2_with fail
  refine(IS.out _).use ?_
  go_wp2_with fail
  go_ret
  exact⟨rfl,G4.out⟩
 have hsn:s=[]∨GH s=true:=by
  rw[HNS.out]
  by_cases e:s=[]
  ·exact .inl e
  ·refine .inr ?_
   cases hns2:ns with
   |true=>rfl
   |false=>exact absurd ⟨e,hns2⟩ hbad
 have HSN:=hid hsn
 have hs40:s.length≤40:=by
  rcases hsn with rfl|h
  ·simp
  ·exact auw h
 have ways:s.isEmpty=true∨(s.isEmpty=false∧ns=true):=by
  by_cases e:s=[]
  ·exact .inl (by simp[e])
  ·refine .inr ⟨by simpa using e,?_⟩
   cases hns2:ns with
   |true=>rfl
   |false=>exact absurd ⟨e,hns2⟩ hbad
 clear hbad hsn
 rcases ways with b0|⟨b0,rfl⟩
 case' inr=>
  go_wp2_with fail
  refine(IS.out _).use ?_
 all_goals
  obtain⟨c0,c1⟩:=acP HB4.out
  go_upto_region 6 with fail
  generalize hw5:w4.alloc _=w5
  have G45:=hid (show G w4 w5 by rw[←hw5];exact(G.refl w4).alloc _)
  have HD5:=hid (show w5.heap[w4.heap.size]?=some (.cells #[.int .i64 ver,.slice ia xs.length ic] 24 (0,0)) by rw[←hw5];exact heap_alloc_new w4 _)
  have HC5:=hid (uU HB4.out G45.out)
  clear hw5 c0 c1
  obtain⟨cs,hlies,hrow⟩:=(HI.out.grow G4.out).lies
  have CL:=hid (akS (.slice ia xs.length ic) xs.length cs w4 hlies HF.out (by omega) w5 G45.out w5.heap.size (Nat.le_refl _))
  have HROW:=hid hrow
  have hsz45:w4.heap.size<w5.heap.size:=UI HD5.out
  clear hlies hrow
  obtain⟨c0,c1⟩:=acP HC5.out
  go_wp2_with fail
  refine CL.out.mono ?_
  rintro e w6 ⟨u,rfl,hown,g6⟩
  have G46:=hid (G45.out.trans g6)
  have HD6:=hid (uU HD5.out g6)
  have HC6:=hid (uU HC5.out g6)
  clear c0 c1 CL g6
  have hpos:0<xs.length:=List.length_pos_iff.2 h0
  rcases hown.2 with⟨_,hz⟩|⟨D,cap,cur,rfl,hD5,_⟩
  ·omega
  have HOWN:=hid hown
  clear hown
  obtain⟨d0,d1⟩:=acP HD6.out
  have fd:=fun i=>Lib.frozen_of_heap HD6.out i
  go_upto_region 7 with fail
  generalize hw7:World.setCell w6 _ _=w7
  have hle4:w.heap.size<w4.heap.size:=UI HB4.out
  have HD7:=hid (show w7.heap[w4.heap.size]?=some (.cells #[.int .i64 ver,.slice (some ⟨D,0,none⟩) xs.length cap] 24 (0,0)) by rw[←hw7];exact UJ HD6.out rfl)
  have HC7:=hid (show w7.heap[w.heap.size]?=some (.cells #[.int .i64 ver,.slice ia xs.length ic] 24 (0,0)) by rw[←hw7];exact((afi w6 w4.heap.size 1 _).block _ (UI HC6.out) (by intro e;have:=Option.some.inj e;omega)).trans HC6.out)
  have G47:=hid (show G w4 w7 by rw[←hw7];exact afK G46.out (Nat.le_refl _))
  have OWN7:=hid (show aeP w5.heap.size w7 (.slice (some ⟨D,0,none⟩) xs.length cap) xs.length cs by rw[←hw7];exact aj3 HOWN.out hsz45)
  have EX7:=hid (EX.start OWN7.out HROW.out rfl G47.out (by omega))
  have G7:=hid (G4.out.trans G47.out)
  clear hw7 d0 d1 fd HOWN OWN7
  obtain⟨d0,d1⟩:=acP HD7.out
  go_wp2_with fail
  clear d0 d1
  go_loopw [35] (fun i wr=>∃k:Nat,k≤xs.length∧i=.int .i64 k∧(∀j (h:j<xs.length),j<k→adY ver (gx s xs[j])=true)∧EX w7 D cap ((xs.take k).map (gx s)++xs.drop k) (fun _=>Wo D) wr) (fun i _=>xs.length-(intOf i).toNat)
  case atStart=>exact⟨0,Nat.zero_le _,rfl,fun j _ h=>by omega,by simpa using EX7.out⟩
  case round=>
   obtain⟨k,hk,rfl,hn,hex⟩:=hrel
   have HN:=hid hn
   have HEX:=hid hex
   have hmv:=hex.mv
   have HCR:=hid ((hmv.block _ (UI HC7.out) (by intro e;have:=Option.some.inj e;omega)).trans HC7.out)
   have HDR:=hid ((hmv.block _ (UI HD7.out) (by intro e;have:=Option.some.inj e;omega)).trans HD7.out)
   have GR:=hid (alz G7.out hmv (by omega))
   clear hn hex hmv
   by_cases hlt:k<xs.length
   ·have hx:=List.getElem?_eq_getElem hlt
    obtain⟨x,hxe⟩:∃x,xs[k]=x:=⟨_,rfl⟩
    rw[hxe]at hx
    have HX:=hid hx
    have HXE:=hid hxe
    have hxm:=List.mem_of_getElem? hx
    have hss:=HSS.out x hxm
    have HONE:=hid ((aed.1 HRI.out).2.2.1 x hxm)
    have c00:wr.cell? ⟨D,k*15,none⟩=some (.string (S x.g)):=by
     obtain⟨pv,lv,_,hc⟩:=HEX.out.at_ (apy HX.out)
     have:=hc 0 _ rfl
     simpa using this
    have fz:=fun i=>HEX.out.fz i
    obtain⟨e0,e1⟩:=acP HDR.out
    have hlt2:(k:Int)<(xs.length:Int):=by omega
    clear hx hxe hxm
    go_upto_region 11 with fail
    generalize hw10:World.setCell wr _ _=w10
    have EX10:=hid (show EX w7 D cap ((xs.take (k+1)).map (gx s)++xs.drop (k+1)) (fun _=>Wo D) w10 by
     rw[←hw10]
     have:=HEX.out.group (apy HX.out) s
     rw[aq1 HX.out]at this
     exact this)
    have hmv:=EX10.out.mv
    have HC10:=hid ((hmv.block _ (UI HC7.out) (by intro e;have:=Option.some.inj e;omega)).trans HC7.out)
    have HD10:=hid ((hmv.block _ (UI HD7.out) (by intro e;have:=Option.some.inj e;omega)).trans HD7.out)
    have G10:=hid (alz G7.out hmv (by omega))
    have hDl:=EX10.out.lt
    obtain⟨pv,lv,hok,hcell⟩:=EX10.out.at_ (asV HX.out)
    have hok2:adE w10 (gx s x) pv lv:=hok.sub (Wo.sub D w10)
    have hat:alo w10 D (k*15) (gx s x) pv lv:=⟨hcell,hok2⟩
    obtain⟨pa,pc,rfl⟩:=hok2.pv
    obtain⟨la,lc,rfl⟩:=hok2.lv
    have HAT10:=hid hat
    have hsml:Sml (gx s x):=⟨by show s.length+x.n.length+adm x.ps≤10000;omega,by show x.v.tx.length≤4900;omega,by show acY x.v.ps≤4900;omega⟩
    have LN:=hid (fun W (g:G w10 W)=>aok ver HVR.out (gx s x) _ _ W (HAT10.out.ok.grow g) hsml (HR.out.grow (G10.out.trans g)) (HR.out.grow (G10.out.trans g)).hm (HE.out.grow (G10.out.trans g)))
    clear hw10 hmv hok hcell hok2 hat c00 fz e0 e1
    refine wp_region_any (by kernel_rfl) ?_
    refine acJ (E:=#[false,false,false,false,false,false,false,false,false,false,false,false,false]) G 12 (aux w.heap.size w4.heap.size D xs.length cap k ver (gx s x) (.slice pa x.ps.length pc) (.slice la x.v.ps.length lc)) [some [],some [(0,45)],some [],some [(1,46),(2,47)],some [(3,48)],some [],some [(5,50)],some [(4,49),(6,51)],some [(7,52)],some [(8,44)],some [(8,44)],some [(9,53),(9,53)],none] [(0,45),(1,46),(2,47),(3,48),(4,49),(5,50),(6,51),(7,52),(8,44),(9,53),(10,54),(11,7)] _ (by kernel_rfl) (by decide) (by kernel_rfl) (by kernel_rfl) rfl G.refl (fun _ _ _=>G.trans) (w0:=w10) ((G.refl w10).drew) ?_ ?_ ?_
    ·intro k v W W' g h
     match k,h with
     |0,h=>exact h
     |1,h=>exact h
     |2,h=>exact h
     |3,h=>exact h
     |4,h=>exact h
     |5,h=>exact h
     |6,h=>exact h
     |7,h=>exact h
     |8,h=>exact h
     |9,h=>exact h
     |10,h=>exact h
     |11,h=>exact h
     |n+12,h=>trivial
    ·refine lW (fun vals W g d=>?_)<|lW (fun vals W g d=>?_)<|lW (fun vals W g d=>?_)<|lW (fun vals W g d=>?_)<|lW (fun vals W g d=>?_)<|lW (fun vals W g d=>?_)<|lW (fun vals W g d=>?_)<|lW (fun vals W g d=>?_)<|lW (fun vals W g d=>?_)<|lW (fun vals W g d=>?_)<|lW (fun vals W g d=>?_)<|lW (fun vals W g d=>?_)<|UB adJ
     ·refine nX rfl rfl rfl fun K hK=>?_
      simp only[gFr]at hK⊢
      go_simp
      exact hK _ _ (G.refl _) rfl
     ·obtain⟨d0,_⟩:=d
      change vals 0=_ at d0
      refine nX rfl rfl rfl fun K hK=>?_
      simp only[gFr,d0]at hK⊢
      obtain⟨c0,c1⟩:=acP (uU HD10.out g)
      go_simp
      exact hK _ _ (G.refl _) rfl
     ·refine nX rfl rfl rfl fun K hK=>?_
      simp only[gFr]at hK⊢
      go_simp
      exact hK _ _ (G.refl _) rfl
     ·obtain⟨d1,d2,_⟩:=d
      change vals 1=_ at d1
      change vals 2=_ at d2
      refine nX rfl rfl rfl fun K hK=>?_
      simp only[gFr,d1,d2]at hK⊢
      have hmm:=hlt2
      go_simp
      exact hK _ _ (G.refl _) rfl
     ·obtain⟨d3,_⟩:=d
      change vals 3=_ at d3
      refine nX rfl rfl rfl fun K hK=>?_
      simp only[gFr,d3]at hK⊢
      obtain⟨k0,k1,k2,k3,k4,k5,k6,k7,k8,k9,k10,k11,k12,k13,k14⟩:=(HAT10.out.grow hDl g).e
      go_simp
      exact hK _ _ (G.refl _) rfl
     ·refine nX rfl rfl rfl fun K hK=>?_
      simp only[gFr]at hK⊢
      go_simp
      exact hK _ _ (G.refl _) rfl
     ·obtain⟨d5,_⟩:=d
      change vals 5=_ at d5
      refine nX rfl rfl rfl fun K hK=>?_
      simp only[gFr,d5]at hK⊢
      obtain⟨c0,c1⟩:=acP (uU HC10.out g)
      go_simp
      exact hK _ _ (G.refl _) rfl
     ·obtain⟨d4,d6,_⟩:=d
      change vals 4=_ at d4
      change vals 6=_ at d6
      refine nX rfl rfl rfl fun K hK=>?_
      simp only[gFr,d4,d6]at hK⊢
      go_simp
      refine(LN.out W g).use ?_
      intro r W' hr hg
      exact hK _ _ hg hr
     ·obtain⟨d7,_⟩:=d
      refine nX rfl rfl rfl fun K hK=>?_
      simp only[gFr]at hK⊢
      go_simp
      exact hK _ _ (G.refl _) d7
     ·obtain⟨d8,_⟩:=d
      refine nX rfl rfl rfl fun K hK=>?_
      obtain⟨t,e,e8⟩:=aiy.two d8
      simp only[gFr]at hK⊢
      simp only[e8]at hK⊢
      go_simp
      exact hK _ _ (G.refl _) ⟨e,by rw[e8]at d8;exact d8⟩
     ·obtain⟨d8,_⟩:=d
      refine nX rfl rfl rfl fun K hK=>?_
      obtain⟨t,e,e8⟩:=aiy.two d8
      simp only[gFr]at hK⊢
      simp only[e8]at hK⊢
      go_simp
      exact hK _ _ (G.refl _) ⟨t,by rw[e8]at d8;exact d8⟩
     ·obtain⟨d9,_,_⟩:=d
      refine nX rfl rfl rfl fun K hK=>?_
      simp only[gFr]at hK⊢
      go_simp
      exact hK _ _ (G.refl _) d9
    ·intro vals W g d
     simp only[acS,ac1]at d
     obtain⟨d0,d1,d2,d3,d4,d5,d6,d7,d8,d9,d10,d11,_⟩:=d
     change vals 0=_ at d0
     change vals 1=_ at d1
     change vals 2=_ at d2
     change vals 3=_ at d3
     change vals 4=_ at d4
     change vals 5=_ at d5
     change vals 6=_ at d6
     obtain⟨t,h10⟩:=d10
     have GW:=hid (G10.out.trans g)
     have EXW:=hid (EX10.out.grow (fun _ _ _ h=>Wo.g h) g)
     clear d7 d8 d9 d11 g
     rcases h10 with⟨hone,e10⟩|⟨_,c,e10,hc0,hoc⟩
     ·have e11:=(by simpa using e10:t=_∧vals 10=.nilIface).2
      have HN2:=hid (show ∀j (h:j<xs.length),j<k+1→adY ver (gx s xs[j])=true from fun j h hj=>by
       rcases Nat.lt_or_ge j k with h1|h1
       ·exact HN.out j h h1
       ·obtain rfl:j=k:=by omega
        rw[HXE.out];exact hone)
      refine⟨?_⟩
      show wpList _ _ _ [_] _ _
      simp only[gFr,d0,d1,d2,d3,d4,d5,d6]
      clear d0 d1 d2 d3 d4 d5 d6
      simp only[e11]
      clear e10 e11 hone
      go_wp2_with fail
      refine(avF W).use ?_
      intro wb gb
      go_wp2_with fail
      go_roundw
      case measure=>simp[intOf];omega
      case rel=>exact⟨k+1,by omega,by go_num,HN2.out,EXW.out.grow (fun _ _ _ h=>Wo.g h) gb⟩
     ·have e11:=(by simpa using e10:t=_∧vals 10=eno c).2
      have hc4:=aq3 HONE.out HSN.out hoc hc0
      subst hc4
      refine⟨?_⟩
      show wpList _ _ _ [_] _ _
      simp only[gFr,d0,d1,d2,d3,d4,d5,d6]
      clear d0 d1 d2 d3 d4 d5 d6
      simp only[e11]
      clear e10 e11 hoc hc0
      go_wp2_with fail
      refine(agX 4 W (HE.out.grow GW.out)).use ?_
      intro wb gb
      go_wp2_with fail
      go_ret
      exact⟨rfl,GW.out.trans gb⟩
   ·obtain rfl:k=xs.length:=by omega
    have hit:UA wr (.slice (some ⟨D,0,none⟩) xs.length cap) (xs.map (gx s)):=by
     have:=HEX.out.items (fun _=>Wo.sub D wr)
     simpa using this
    have hrt:acN ver (xs.map (gx s))=true:=aoj (by rw[List.map_map];rfl) (fun y hy=>by
     obtain⟨x,hx,rfl⟩:=List.mem_map.1 hy
     obtain⟨j,hj,rfl⟩:=List.mem_iff_getElem.1 hx
     exact HN.out j hj hj) HRI.out
    have RT:=hid (aem ver _ (xs.map (gx s)) wr hit (by simp;omega) (fun y hy=>by
     obtain⟨x,hx,rfl⟩:=List.mem_map.1 hy
     have:=HSS.out x hx
     exact⟨by show s.length+x.n.length+adm x.ps≤10000;omega,by show x.v.tx.length≤4900;omega,by show acY x.v.ps≤4900;omega⟩) (HR.out.grow GR.out) (HR.out.grow GR.out).hm (HE.out.grow GR.out))
    unfold acH at RT
    have HRT:=hid hrt
    clear hit hrt
    obtain⟨e0,e1⟩:=acP HDR.out
    go_wp2_with fail
    refine RT.out.use ?_
    intro r wb hr gb
    rcases hr with⟨_,rfl⟩|⟨hno,_⟩
    ·go_wp2_with fail
     go_ret
     exact⟨rfl,GR.out.trans gb⟩
    ·rw[HRT.out]at hno;cases hno
end Go.Proofs.YtmffejnigppbpaaGreatDoor

set_option maxHeartbeats 16000000
set_option maxRecDepth 100000
namespace Go.Proofs.YtmffejnigppbpaaGreatDoor
open Go.RowKit
def PrW(ok:Bool)(T:List UInt8)(r:Value):Prop:=(ok=true∧r=.tuple #[.string (S T),.nilIface])∨(ok=false∧∃ty x,r=.tuple #[.string (S []),.iface ty x])
theorem ayc{ver:Int}{n:Nat}{xs:List It}{r:Value}{w:World}(h:aop ver n xs r w):PrW (acN ver xs&&decide ((ad3 ver n xs).length≤20000)) (ad3 ver n xs) r:=by
 rcases h with⟨h1,h2⟩|⟨h1,e,c,k,h2,h3,_⟩
 ·rw[h1]
  by_cases hl:20000<(ad3 ver n xs).length
  ·rw[if_pos hl]at h2
   exact .inr ⟨by rw[decide_eq_false (by omega)];rfl,_,_,h2⟩
  ·rw[if_neg hl]at h2
   exact .inl ⟨by rw[decide_eq_true (by omega)];rfl,h2⟩
 ·obtain⟨t,x,rfl⟩:=ad8.iface h3
  exact .inr ⟨by rw[h1];rfl,_,_,h2⟩
def awx(ver:Int)(ia:Option Addr)(m ic A:Nat)(n:Int)(ok:Bool)(T:List UInt8)(k:Nat)(v:Value)(W:World):Prop:=
 match k with
 |0=>v=.agg #[.int .i64 ver,.slice ia m ic]
 |1=>v=.int .i64 n
 |2=>v=.int .i64 (A:Int)
 |3=>PrW ok T v
 |4=>PrW ok T v
 |5=>v=.string (S (if ok then T else[]))
 |6=>(ok=true→v=.nilIface)∧(ok=false→∃ty x,v=.iface ty x)
 |7=>v=.string (S (if ok then T else[]))
 |_=>True
theorem ang(ver:Int)(iv:Value)(xs:List It)(n:Int)(w:World)(h:UA w iv xs)(hf:iv=.slice none 0 0∨∃a n c,iv=.slice (some a) n c)(hl:xs.length≤1048576)(hL:∀y∈xs,ajS y≤1048576)(zn : -9223372036854775808≤n∧n≤9223372036854775807)(hR:aeV w)(hE:UO w) :
  Um 11 #[acH ver iv,.int .i64 n] w (.bool true):=by
 obtain⟨mx,hmx⟩:=hR.hm
 have hml:5<w.heap.size:=World.block_lt_of_cell? w _ hmx
 have HMX:=hid hmx
 have WR:=hid (fun W (g:G w W)=>ah2 W (hR.grow g) (hR.grow g).hm (hE.grow g))
 have BG:=hid (fun W (g:G w W)=>asi ver iv xs W (h.grow g) (fun y hy=>avv (hL y hy)) hl)
 have HI:=hid h
 have HR:=hid hR
 have HE:=hid hE
 obtain⟨bb,hbb⟩:∃bb,ajl xs=bb:=⟨_,rfl⟩
 rw[hbb]at BG
 have HBB:=hid hbb
 obtain⟨ia,ic,rfl,_⟩:=h.len
 have wn:=au7 n
 obtain⟨A,hA⟩:∃A,10+ak0 n 66=A:=⟨_,rfl⟩
 have hA1:10≤A:=by omega
 rw[hA]at wn
 have WA:Hid (∀w,adV 46 #[.int .i64 n] w (.int .i64 (A:Nat))):=hid (fun w=>by have:=atn n w;rw[hA]at this;exact this)
 clear h hf hl hL hR hE hbb hmx hA
 unfold acH at BG
 unfold acH
 go_enter Tryz.func11,Tryz.ntmps11
 go_wp2_with fail
 generalize hw1:w.alloc _=w1
 have HB1:=hid (show w1.heap[w.heap.size]?=some (.cells #[.int .i64 ver,.slice ia xs.length ic] 24 (0,0)) by rw[←hw1];exact heap_alloc_new w _)
 have G1:=hid (show G w w1 by rw[←hw1];exact(G.refl w).alloc _)
 clear hw1
 refine(WR.out w1 G1.out).use ?_
 intro w2 g2
 have G2:=hid (G1.out.trans g2)
 have HB2:=hid (uU HB1.out g2)
 clear g2 WR
 obtain⟨c0,c1⟩:=acP HB2.out
 go_wp2_with fail
 refine(BG.out w2 G2.out).use ?_
 intro w3 g3
 have G3:=hid (G2.out.trans g3)
 have HB3:=hid (uU HB2.out g3)
 clear g3 BG c0 c1
 cases bb with
 |true=>
  go_wp2_with fail
  go_ret
  exact⟨rfl,G3.out⟩
 |false=>
 obtain⟨h40,hsm⟩:=ajF HBB.out
 obtain⟨T,hT⟩:∃T,ad3 ver A xs=T:=⟨_,rfl⟩
 obtain⟨ok,hok⟩:∃ok,(acN ver xs&&decide (T.length≤20000))=ok:=⟨_,rfl⟩
 have PR:=hid (fun W (g:G w3 W)=>show Uz 45 #[.agg #[.int .i64 ver,.slice ia xs.length ic],.int .i64 (A:Int)] W (fun r _=>PrW ok T r)from by
  refine Calls.mono (aiz ver (.slice ia xs.length ic) xs A W (HI.out.grow (G3.out.trans g)) (by omega) hsm hA1 wn (HR.out.grow (G3.out.trans g)) (HR.out.grow (G3.out.trans g)).hm (HE.out.grow (G3.out.trans g))) ?_
  rintro e w' ⟨r,rfl,hr,hg⟩
  have:=ayc hr
  rw[hT,hok]at this
  exact⟨_,rfl,this,hg⟩)
 have HT:=hid hT
 have HOK:=hid hok
 clear hT hok
 go_upto_region 5 with fail
 refine wp_region_any (by kernel_rfl) ?_
 refine acJ (E:=#[false,false,false,false,false,false,false,false,false]) G 8 (awx ver ia xs.length ic A n ok T) [some [],some [],some [(1,16)],some [(0,15),(2,17),(2,17)],some [(3,18)],some [(4,14)],some [(4,14)],some [(5,19),(5,19)],none] [(0,15),(1,16),(2,17),(3,18),(4,14),(5,19),(6,20),(7,5)] _ (by kernel_rfl) (by decide) (by kernel_rfl) (by kernel_rfl) rfl G.refl (fun _ _ _=>G.trans) (w0:=w3) ((G.refl w3).drew) ?_ ?_ ?_
 ·intro k v W W' g h
  match k,h with
  |0,h=>exact h
  |1,h=>exact h
  |2,h=>exact h
  |3,h=>exact h
  |4,h=>exact h
  |5,h=>exact h
  |6,h=>exact h
  |7,h=>exact h
  |n+8,h=>trivial
 ·refine lW (fun vals W g d=>?_)<|lW (fun vals W g d=>?_)<|lW (fun vals W g d=>?_)<|lW (fun vals W g d=>?_)<|lW (fun vals W g d=>?_)<|lW (fun vals W g d=>?_)<|lW (fun vals W g d=>?_)<|lW (fun vals W g d=>?_)<|UB adJ
  ·refine nX rfl rfl rfl fun K hK=>?_
   simp only[gFr]at hK⊢
   obtain⟨c0,c1⟩:=acP (uU HB3.out g)
   go_simp
   exact hK _ _ (G.refl _) rfl
  ·refine nX rfl rfl rfl fun K hK=>?_
   simp only[gFr]at hK⊢
   go_simp
   exact hK _ _ (G.refl _) rfl
  ·obtain⟨d1,_⟩:=d
   change vals 1=_ at d1
   refine nX rfl rfl rfl fun K hK=>?_
   simp only[gFr,d1]at hK⊢
   go_simp
   refine(WA.out W).use ?_
   exact hK _ _ (G.refl _) rfl
  ·obtain⟨d0,d2,_,_⟩:=d
   change vals 0=_ at d0
   change vals 2=_ at d2
   refine nX rfl rfl rfl fun K hK=>?_
   simp only[gFr,d0,d2]at hK⊢
   go_simp
   refine(PR.out W g).use ?_
   intro r W' hr hg
   exact hK _ _ hg hr
  ·obtain⟨d3,_⟩:=d
   refine nX rfl rfl rfl fun K hK=>?_
   simp only[gFr]at hK⊢
   go_simp
   exact hK _ _ (G.refl _) d3
  ·obtain⟨d4,_⟩:=d
   rcases d4 with⟨ho,e4⟩|⟨ho,ty,x,e4⟩
   all_goals
    refine nX rfl rfl rfl fun K hK=>?_
    simp only[gFr,e4]at hK⊢
    go_simp
    exact hK _ _ (G.refl _) (by rw[ho];rfl)
  ·obtain⟨d4,_⟩:=d
   rcases d4 with⟨ho,e4⟩|⟨ho,ty,x,e4⟩
   ·refine nX rfl rfl rfl fun K hK=>?_
    simp only[gFr,e4]at hK⊢
    go_simp
    exact hK _ _ (G.refl _) ⟨fun _=>rfl,fun e=>by rw[ho]at e;cases e⟩
   ·refine nX rfl rfl rfl fun K hK=>?_
    simp only[gFr,e4]at hK⊢
    go_simp
    exact hK _ _ (G.refl _) ⟨fun e=>(by rw[ho]at e;cases e),fun _=>⟨ty,x,rfl⟩⟩
  ·obtain⟨d5,_,_⟩:=d
   change vals 5=_ at d5
   refine nX rfl rfl rfl fun K hK=>?_
   simp only[gFr,d5]at hK⊢
   go_simp
   exact hK _ _ (G.refl _) rfl
 ·intro vals W g d
  simp only[acS,ac1]at d
  obtain⟨d0,d1,d2,d3,d4,d5,d6,d7,_⟩:=d
  change vals 0=_ at d0
  change vals 1=_ at d1
  change vals 2=_ at d2
  change vals 5=_ at d5
  change vals 7=_ at d7
  obtain⟨y1,y2⟩:=d6
  have GW:=hid (G3.out.trans g)
  have HBW:=hid (uU HB3.out g)
  clear d3 d4 g
  cases ok with
  |false=>
   obtain⟨ty,x,e8⟩:=y2 rfl
   refine⟨?_⟩
   show wpList _ _ _ [_] _ _
   simp only[gFr,d0,d1,d2,d5,d7]
   clear d0 d1 d2 d5 d7
   simp only[e8,Bool.false_eq_true,if_false]
   clear e8 y1 y2
   go_wp2_with fail
   go_ret
   exact⟨rfl,GW.out⟩
  |true=>
   have e8:=y1 rfl
   refine⟨?_⟩
   show wpList _ _ _ [_] _ _
   simp only[gFr,d0,d1,d2,d5,d7]
   clear d0 d1 d2 d5 d7
   simp only[e8,eq_self,if_true]
   clear e8 y1 y2
   obtain⟨hri,hTl⟩:acN ver xs=true∧T.length≤20000:=by
    have:=HOK.out
    simpa using this
   obtain⟨p,ps,hTj,h6,hcnt,hP⟩:=apG hA1 (adn.1 hri).2.2.1
   rw[HT.out]at hTj
   subst hTj
   have HP:=hid hP
   have H6:=hid h6
   have hq13:Hid ((13:UInt8)∉p∧∀q∈ps++[[]],(13:UInt8)∉q):=hid ⟨ayU (hP p List.mem_cons_self).2,fun q hq=>by
    rcases List.mem_append.1 hq with hq|hq
    ·exact ayU (hP q (List.mem_cons_of_mem _ hq)).2
    ·have:q=[]:=List.mem_singleton.1 hq
     subst this;simp⟩
   have hm2:W.cell? ⟨5,0,none⟩=some (.int .i64 mx):=by rw[GW.out.cell (p:=⟨5,0,none⟩) hml];exact HMX.out
   clear hP h6 hri
   go_wp2_with fail
   refine(arX 13 [10] p (ps++[[]]) mx _ hq13.out.1 hq13.out.2 (by omega) hm2).use ?_
   intro v wb hv gb
   have GB:=hid (GW.out.trans gb)
   have HBB2:=hid (uU HBW.out gb)
   clear gb
   obtain⟨b,off,cap,rfl,hcap,hb,hc⟩:=hv.at_ (by simp)
   obtain⟨k,hk⟩:∃k,ps.length+2=k:=⟨_,rfl⟩
   have hl:(p::(ps++[[]])).length=k:=by simp;omega
   rw[hl]at hcap⊢
   have cl:=hc (ps.length+1) [] (by simp)
   have cf:=hc 0 p rfl
   have hk2:k≤20000:=by
    rw[ah4]at hTl
    have:=ass (p::ps)
    simp at this
    omega
   have HK:=hid hk
   have HC:=hid hc
   clear hc hl hm2 hv hk hq13
   go_wp2_with fail
   go_loopw [29] (fun iv wr=>∃i:Nat,iv=.int .i64 i∧i≤k∧G wb wr) (fun iv _=>k-(intOf iv).toNat)
   case atStart=>exact⟨0,rfl,Nat.zero_le _,G.refl _⟩
   case round=>
    obtain⟨i,rfl,hi,hgr⟩:=hrel
    have HGR:=hid hgr
    by_cases hlt:i<k
    ·obtain⟨x,hx⟩:∃x,(p::(ps++[[]]))[i]?=some x:=⟨_,List.getElem?_eq_getElem (by have:=HK.out;simp;omega)⟩
     have hxm:=List.mem_of_getElem? hx
     have x12:x.length≤A∧∀c∈x,nlB c=false:=by
      rw[←List.cons_append]at hxm
      rcases List.mem_append.1 hxm with hxm|hxm
      ·exact HP.out x hxm
      ·rw[List.mem_singleton.1 hxm];exact⟨by simp,by simp⟩
     obtain⟨x1,x3⟩:=x12
     have hcw:=(hgr.cell (p:=⟨b,off+i,none⟩) hb).trans (HC.out i x hx)
     have hca:=awG x3
     have CA:Hid (∀w,Um 48 #[.string (S x),.string (S [13,10])] w (.bool false)):=hid (fun w=>by
      have:=aho x [13,10] w (by omega) (by simp) (by simp) amd
      rw[hca]at this;exact this)
     clear hca x3 hxm hx hgr
     go_wp2_with fail
     refine(WA.out _).use ?_
     go_wp2_with fail
     refine(CA.out _).use ?_;intro w5 g5
     go_wp2_with fail
     go_roundw
     case rel=>exact⟨i+1,by go_num,by omega,HGR.out.trans g5⟩
     case measure=>simp[intOf];omega
    ·obtain rfl:i=k:=by omega
     have hk3:=HK.out
     have hp6:6≤p.length:=by
      have:=congrArg List.length H6.out
      rw[List.length_take]at this
      simp at this
      omega
     have cf':wr.cell? ⟨b,off,none⟩=some (.string (S p)):=(hgr.cell (p:=⟨b,off,none⟩) hb).trans (by simpa using cf)
     have cl':wr.cell? ⟨b,off+(ps.length+1),none⟩=some (.string (S [])):=(hgr.cell (p:=⟨b,off+(ps.length+1),none⟩) hb).trans cl
     obtain⟨c0,c1⟩:=acP (uU HBB2.out hgr)
     have h4:(4:Int)≤(i:Int):=by omega
     have h5:4+(xs.length:Int)≤(i:Int):=by omega
     have hmin:min (6:Int) (p.length:Int)=6:=by omega
     have hk1:(i:Int)-1=((ps.length+1:Nat):Int):=by omega
     have H6':=H6.out
     clear hgr cf cl
     go_wp2_with fail
     go_region
     go_wp2_with fail
     go_ret
     exact⟨rfl,(GB.out.trans HGR.out).drew⟩
end Go.Proofs.YtmffejnigppbpaaGreatDoor
