/-
  Texts merged into one: ConvBig2, ConvOne.
-/
import Derived.Test.YtmffejnigppbpaaGreatDoorCXMA72
set_option linter.unusedVariables false
set_option linter.unusedSimpArgs false
set_option maxHeartbeats 16000000
set_option maxRecDepth 100000
namespace Go.Proofs.YtmffejnigppbpaaGreatDoor
open Go.RowKit
theorem Ur{W:World}{X:Nat}{x:It}{pv lv:Value}{t:TypeId}(h:W.heap[X]?=some (.cells (x.cells pv lv).toArray t (0,0)))(tt:List UInt8):((((((((((((W.setCell ⟨X,3,none⟩ (.int .i64 4)).setCell ⟨X,4,none⟩ (.string (S tt))).setCell ⟨X,5,none⟩ (.slice none 0 0)).setCell ⟨X,6,none⟩ (.int .i64 0)).setCell ⟨X,7,none⟩ (.int .i64 0)).setCell ⟨X,8,none⟩ (.int .i64 0)).setCell ⟨X,9,none⟩ (.int .i64 0)).setCell ⟨X,10,none⟩ (.int .i64 0)).setCell ⟨X,11,none⟩ (.int .i64 0)).setCell ⟨X,12,none⟩ (.bool false)).setCell ⟨X,13,none⟩ (.int .i64 0)).setCell ⟨X,14,none⟩ (.int .i64 0)).heap[X]?=some (.cells ((It.cells ⟨x.g,x.n,x.ps,tV 4 tt⟩ pv (.slice none 0 0))).toArray t (0,0)):=
 Aj [.int .i64 4,.string (S tt),.slice none 0 0,.int .i64 0,.int .i64 0,.int .i64 0,.int .i64 0,.int .i64 0,.int .i64 0,.bool false,.int .i64 0,.int .i64 0] W 3 _ h rfl
theorem zG{W:World}{X Y:Nat}{o:Obj}(h:W.heap[Y]?=some o)(hn:Y≠X)(tt:List UInt8):((((((((((((W.setCell ⟨X,3,none⟩ (.int .i64 4)).setCell ⟨X,4,none⟩ (.string (S tt))).setCell ⟨X,5,none⟩ (.slice none 0 0)).setCell ⟨X,6,none⟩ (.int .i64 0)).setCell ⟨X,7,none⟩ (.int .i64 0)).setCell ⟨X,8,none⟩ (.int .i64 0)).setCell ⟨X,9,none⟩ (.int .i64 0)).setCell ⟨X,10,none⟩ (.int .i64 0)).setCell ⟨X,11,none⟩ (.int .i64 0)).setCell ⟨X,12,none⟩ (.bool false)).setCell ⟨X,13,none⟩ (.int .i64 0)).setCell ⟨X,14,none⟩ (.int .i64 0)).heap[Y]?=some o:=by
 have e:∀(W:World) (i:Nat) (v:Value),(W.setCell ⟨X,i,none⟩ v).heap[Y]?=W.heap[Y]?:=fun W i v=>Below.heap_setCell _ _ _ _ (fun q=>hn q)
 simp only[e]
 exact h
theorem J9{w W:World}{X:Nat}(g:G w W)(hX:w.heap.size≤X)(tt:List UInt8):G w ((((((((((((W.setCell ⟨X,3,none⟩ (.int .i64 4)).setCell ⟨X,4,none⟩ (.string (S tt))).setCell ⟨X,5,none⟩ (.slice none 0 0)).setCell ⟨X,6,none⟩ (.int .i64 0)).setCell ⟨X,7,none⟩ (.int .i64 0)).setCell ⟨X,8,none⟩ (.int .i64 0)).setCell ⟨X,9,none⟩ (.int .i64 0)).setCell ⟨X,10,none⟩ (.int .i64 0)).setCell ⟨X,11,none⟩ (.int .i64 0)).setCell ⟨X,12,none⟩ (.bool false)).setCell ⟨X,13,none⟩ (.int .i64 0)).setCell ⟨X,14,none⟩ (.int .i64 0)):=Ho hX [.int .i64 4,.string (S tt),.slice none 0 0,.int .i64 0,.int .i64 0,.int .i64 0,.int .i64 0,.int .i64 0,.int .i64 0,.bool false,.int .i64 0,.int .i64 0] W 3 g
theorem GV{W:World}{X:Nat}{L:List Nat}(h:X∈L)(tt:List UInt8):Wl L ((((((((((((W.setCell ⟨X,3,none⟩ (.int .i64 4)).setCell ⟨X,4,none⟩ (.string (S tt))).setCell ⟨X,5,none⟩ (.slice none 0 0)).setCell ⟨X,6,none⟩ (.int .i64 0)).setCell ⟨X,7,none⟩ (.int .i64 0)).setCell ⟨X,8,none⟩ (.int .i64 0)).setCell ⟨X,9,none⟩ (.int .i64 0)).setCell ⟨X,10,none⟩ (.int .i64 0)).setCell ⟨X,11,none⟩ (.int .i64 0)).setCell ⟨X,12,none⟩ (.bool false)).setCell ⟨X,13,none⟩ (.int .i64 0)).setCell ⟨X,14,none⟩ (.int .i64 0))=Wl L W:=by
 simp only[Wl.setm h]
theorem XF(L:List Nat)(nn:List UInt8)(x:It)(pv lv:Value)(w:World)(hX:∀X∈L,X<w.heap.size)(h:dG (Wl L w) x pv lv)(hs:Sml x)(hne:∀p∈x.ps,p.2≠[])(i:Nat)(hfn:gZ x.ps l7=some i)(hgood:dC (xH x.ps i) [98]=true∧x.v.ty=8):dP 91 #[.string (S nn),x.val pv lv] w (fun r w'=>ItB (Wl L w') r (vY nn x)):=by
 have HGD:=hid hgood
 clear hgood
 have HIT:=hid h
 have HS:=hid hs
 have HNE:=hid hne
 have hpc:=jy hs
 obtain⟨pa,pc,rfl⟩:=h.un.pv
 obtain⟨la,lc,rfl⟩:=h.un.lv
 have hXL:∀W:World,w.heap.size+1<W.heap.size→∀X∈w.heap.size::(w.heap.size+1)::L,X<W.heap.size:=fun W h1 X hx=>by
  rcases List.mem_cons.1 hx with rfl|hx
  ·omega
  rcases List.mem_cons.1 hx with rfl|hx
  ·exact h1
  ·have:=hX X hx;omega
 have HXL:=hid hXL
 clear h hs hne hXL hX
 have FD0:=fun W (g:G w W)=>qQ (.slice pa x.ps.length pc) x.ps l7 W (HIT.out.un.p.grow g) (by omega) (iO HS.out) (by simp[l7])
 have FD:=hid FD0
 unfold l7 at FD
 clear FD0
 obtain⟨f,hf⟩:∃f,f=gZ x.ps l7:=⟨_,rfl⟩
 rw[show gZ x.ps [69,78,67,79,68,73,78,71]=f from hf.symm]at FD
 have HF:=hid hf.symm
 clear hf
 go_enter Tryz.func91,Tryz.ntmps91
 go_wp2_with fail
 generalize hw0:(w.alloc _).alloc _=w0
 have HB0:=hid (show w0.heap[w.heap.size]?=some (.cells (x.cells (.slice pa x.ps.length pc) (.slice la x.v.ps.length lc)).toArray 38 (0,0)) by rw[←hw0,Lib.alloc_old _ _ _ (by simp)];exact heap_alloc_new w _)
 have HX0:=hid (show w0.heap[w.heap.size+1]?=some (.cells (zIt.cells (.slice none 0 0) (.slice none 0 0)).toArray 38 (0,0)) by rw[←hw0];exact pz _ _ _)
 have G0:=hid (show G w w0 by rw[←hw0];exact((G.refl w).alloc _).alloc _)
 clear hw0
 refine(FD.out w0 G0.out).use ?_
 intro w1 g1
 have HB:=hid (aB HB0.out g1)
 have HBX:=hid (aB HX0.out g1)
 have G1:=hid (G0.out.trans g1)
 have IT1:=hid (show dG (Wl (w.heap.size::(w.heap.size+1)::L) w1) x (.slice pa x.ps.length pc) (.slice la x.v.ps.length lc)from HIT.out.grow (Wl.g (L:=L) (show G w (Wo (w.heap.size+1) (Wo w.heap.size w1))from Wo.of (Wo.of G1.out (Nat.le_refl _)) (by omega))))
 have hsz1:w.heap.size+1<w1.heap.size:=dn HBX.out
 clear g1
 ·have hfz:f=some i:=HF.out.symm.trans hfn
  subst hfz
  simp only[kF]
  have hi:=yZ HF.out
  have hvs:=HNE.out _ (List.getElem_mem hi)
  obtain⟨p,hpe⟩:∃p,x.ps[i]=p:=⟨_,rfl⟩
  have HXP:=hid (show x.ps[i]?=some p by rw[List.getElem?_eq_getElem hi,hpe])
  rw[hpe]at hvs
  obtain⟨v0,vr,hvr⟩:=List.exists_cons_of_ne_nil hvs
  have hv0l:v0.length≤100000:=(mP HS.out p (List.mem_of_getElem? HXP.out)).2 v0 (by rw[hvr];exact List.mem_cons_self)
  have HV0:=hid (show xH x.ps i=v0 by unfold xH;simp only[List.getD_eq_getElem?_getD,HXP.out,Option.getD_some,hvr];rfl)
  obtain⟨a2,cap2,e1,_,hc⟩:=IT1.out.un.p
  obtain⟨b,off,e2,hb,hcc⟩:=hc (by intro e;rw[e]at hi;simp at hi)
  clear hc
  simp only[Value.slice.injEq,true_and]at e1
  obtain⟨rfl,rfl⟩:=e1
  subst e2
  obtain⟨sv,c1',c2',c3'⟩:=hcc i _ HXP.out
  rw[hvr]at c3'
  obtain⟨b2,o2,cc2,hsv,_,hb2,hc2⟩:=c3'.at_ (by simp)
  have d0:=hc2 0 _ rfl
  rw[Nat.add_zero]at d0
  subst hsv
  simp only[List.length_cons]at c2'
  have hkl:(i:Int)<(x.ps.length:Int):=by omega
  have hi0:¬(i:Int)<0:=by omega
  clear hcc c3' hc2 hpe hvs
  have SM:=hid (fun W=>kM v0 [98] W (by omega) (by simp))
  have hs1:dC v0 [98]=true:=by rw[←HV0.out];exact HGD.out.1
  have b4:(x.v.ty==4)=false:=by rw[HGD.out.2];rfl
  have b8:(x.v.ty != 8)=false:=by rw[HGD.out.2];rfl
  have htl:x.v.tx.length≤1000000:=by have:=HS.out.t;omega
  have SM2:=fun W=>SM.out W
  rw[hs1]at SM2
  have SMM:=hid SM2
  have HB8:=hid (show ∀y,vY nn x=y↔(if x.v.tx.length%4≠0 then(x,false)else match qi x.v.tx with|.error _=>(x,false)|.ok bs=>((⟨x.g,x.n,aO (aO (aO x.ps l7) gJ) bP,tV 4 (if oP (lS nn x.ps)=true then E5 (lS nn x.ps) bs else[])⟩:It),oP (lS nn x.ps)))=y from fun y=>by
   unfold vY
   rw[HF.out]
   simp only
   rw[if_pos HGD.out]
   exact Iff.rfl)
  clear hs1 SM2
  obtain⟨q0,q1,q2,q3,q4,q5,q6,q7,q8,q9,q10,q11,q12,q13,q14⟩:=aP HB.out
  obtain⟨c0,c1,c2,c3,c4,c5,c6,c7,c8,c9,c10,c11,c12,c13,c14⟩:=aP HBX.out
  have fz:=fun i=>Lib.frozen_of_heap HBX.out i
  go_wp2_with fail
  refine(SMM.out w1).use ?_
  intro w2 g2
  have HB2:=hid (aB HB.out g2)
  have HBX2:=hid (aB HBX.out g2)
  have G2:=hid (G1.out.trans g2)
  have IT2:=hid (IT1.out.wo g2)
  clear q0 q1 q2 q3 q4 q5 q6 q7 q8 q9 q10 q11 q12 q13 q14 c0 c1 c2 c3 c4 c5 c6 c7 c8 c9 c10 c11 c12 c13 c14 fz d0 c1' c2' b4 g2
  obtain⟨q0,q1,q2,q3,q4,q5,q6,q7,q8,q9,q10,q11,q12,q13,q14⟩:=aP HB2.out
  obtain⟨c0,c1,c2,c3,c4,c5,c6,c7,c8,c9,c10,c11,c12,c13,c14⟩:=aP HBX2.out
  have fz:=fun i=>Lib.frozen_of_heap HBX2.out i
  go_wp2_with fail
  refine(OA x.v.tx w2 htl).use ?_
  intro r w3 hr g3
  have HB3:=hid (aB HB2.out g3)
  have HBX3:=hid (aB HBX2.out g3)
  have G3:=hid (G2.out.trans g3)
  have IT3:=hid (IT2.out.wo g3)
  clear q0 q1 q2 q3 q4 q5 q6 q7 q8 q9 q10 q11 q12 q13 q14 c0 c1 c2 c3 c4 c5 c6 c7 c8 c9 c10 c11 c12 c13 c14 fz b8 g3
  rcases hr with⟨bs,hm4,hd,hbl,rfl⟩|⟨hbad,t,u,rfl⟩
  case inr=>
   have HR:=hid (show vY nn x=(x,false) by
    refine(HB8.out _).2 ?_
    by_cases h4:x.v.tx.length%4≠0
    ·rw[if_pos h4]
    ·rcases hbad with h|⟨q,h⟩
     ·exact absurd h h4
     ·rw[if_neg h4,h])
   clear hbad
   obtain⟨q0,q1,q2,q3,q4,q5,q6,q7,q8,q9,q10,q11,q12,q13,q14⟩:=aP HB3.out
   obtain⟨c0,c1,c2,c3,c4,c5,c6,c7,c8,c9,c10,c11,c12,c13,c14⟩:=aP HBX3.out
   have fz:=fun i=>Lib.frozen_of_heap HBX3.out i
   go_wp2_with fail
   generalize hWF:World.setCell (World.setCell (World.setCell (World.setCell (World.setCell (World.setCell (World.setCell (World.setCell (World.setCell (World.setCell (World.setCell (World.setCell (World.setCell (World.setCell (World.setCell w3 _ _) _ _) _ _) _ _) _ _) _ _) _ _) _ _) _ _) _ _) _ _) _ _) _ _) _ _) _ _=WF
   have hrow:WF.heap[w.heap.size+1]?=some (.cells ((It.cells x (.slice (some ⟨b,off,none⟩) x.ps.length pc) (.slice la x.v.ps.length lc))).toArray 38 (0,0)):=by
    rw[←hWF]
    exact je HBX3.out rfl _ _ _ _ _ _ _ _ _ _ _ _ _ _ _
   have hgf:G w WF:=by rw[←hWF];exact lY (by omega) G3.out _ _ _ _ _ _ _ _ _ _ _ _ _ _ _
   have hok:dG (Wl L WF) x (.slice (some ⟨b,off,none⟩) x.ps.length pc) (.slice la x.v.ps.length lc):=dG.sub (by rw[←hWF,jL (by simp)];exact IT3.out) ((Wl.tail w.heap.size _ WF).trans (Wl.tail (w.heap.size+1) L WF))
   exact lq rfl rfl rfl rfl hrow ⟨_,rfl,ItB.of HR.out hok,hgf⟩
  have HR:=hid (show vY nn x=((⟨x.g,x.n,aO (aO (aO x.ps l7) gJ) bP,tV 4 (if oP (lS nn x.ps)=true then E5 (lS nn x.ps) bs else[])⟩:It),oP (lS nn x.ps)) by
   refine(HB8.out _).2 ?_
   rw[if_neg (by omega),hd])
  obtain⟨md,hmd⟩:∃md,md=lS nn x.ps:=⟨_,rfl⟩
  have hml:md.length≤200000:=by rw[hmd];exact QP HS.out
  have MD:=hid (show dA 141 #[.string (S nn),.slice (some ⟨b,off,none⟩) x.ps.length pc] w3 (.string (S md)) by
   rw[hmd]
   exact QY nn _ x.ps w3 IT3.out.un.p hpc (fun p hp=>⟨iO HS.out p hp,fun u hu=>(mP HS.out p hp).2 u hu⟩) (fun j hj=>by
    have h1:=yZ hj
    simp only[List.getD_eq_getElem?_getD,List.getElem?_eq_getElem h1,Option.getD_some]
    exact HNE.out _ (List.getElem_mem h1)))
  rw[←hmd]at HR
  clear hmd hm4 hd
  obtain⟨q0,q1,q2,q3,q4,q5,q6,q7,q8,q9,q10,q11,q12,q13,q14⟩:=aP HB3.out
  obtain⟨c0,c1,c2,c3,c4,c5,c6,c7,c8,c9,c10,c11,c12,c13,c14⟩:=aP HBX3.out
  have fz:=fun i=>Lib.frozen_of_heap HBX3.out i
  go_wp2_with fail
  refine MD.out.use ?_
  intro w4 g4
  obtain⟨tt,er,hda,htt,herr⟩:∃tt er,(∀W,dA 140 #[.string (S md),.string (S bs)] W (.tuple #[.string (S tt),er]))∧tt=(if oP md=true then E5 md bs else[])∧((oP md=true∧er=.nilIface)∨(oP md=false∧er=eno 3)):=by
   cases hb:oP md with
   |true=>exact⟨E5 md bs,.nilIface,fun W=>by have:=Qn md bs W (by omega) (by omega);rw[hb,if_pos rfl]at this;exact this,by simp,.inl ⟨rfl,rfl⟩⟩
   |false=>exact⟨[],eno 3,fun W=>by have:=Qn md bs W (by omega) (by omega);rw[hb,if_neg (by simp)]at this;exact this,by simp,.inr ⟨rfl,rfl⟩⟩
  have HDA:=hid hda
  have HTT:=hid htt
  have HB4:=hid (aB HB3.out g4)
  have HBX4:=hid (aB HBX3.out g4)
  have G4:=hid (G3.out.trans g4)
  have IT4:=hid (IT3.out.wo g4)
  clear q0 q1 q2 q3 q4 q5 q6 q7 q8 q9 q10 q11 q12 q13 q14 c0 c1 c2 c3 c4 c5 c6 c7 c8 c9 c10 c11 c12 c13 c14 fz g4 hda htt
  have wl:∀(n:List UInt8) (qs:List Pm),qs.length≤10000→(∀p∈qs,p.1.length≤1000000)→(aO qs n).length≤10000∧∀p∈aO qs n,p.1.length≤1000000:=fun n qs h1 h2=>⟨Nat.le_trans (List.length_filter_le _ _) h1,fun p hp=>h2 p (List.mem_filter.1 hp).1⟩
  have z0:=iO HS.out
  obtain⟨z1,z2⟩:=wl l7 x.ps hpc z0
  obtain⟨z3,z4⟩:=wl gJ _ z1 z2
  have W1:=hid (fun W (h1:w.heap.size+1<W.heap.size) (h:PmR (Wl (w.heap.size::(w.heap.size+1)::L) W) (.slice (some ⟨b,off,none⟩) x.ps.length pc) x.ps)=>mg (w.heap.size::(w.heap.size+1)::L) _ l7 x.ps W (HXL.out W h1) h hpc z0 (by simp[l7]))
  have W2:=hid (fun W u (h1:w.heap.size+1<W.heap.size) (h:PmR (Wl (w.heap.size::(w.heap.size+1)::L) W) u (aO x.ps l7))=>mg (w.heap.size::(w.heap.size+1)::L) u gJ _ W (HXL.out W h1) h z1 z2 (by simp[gJ]))
  have W3:=hid (fun W u (h1:w.heap.size+1<W.heap.size) (h:PmR (Wl (w.heap.size::(w.heap.size+1)::L) W) u (aO (aO x.ps l7) gJ))=>mg (w.heap.size::(w.heap.size+1)::L) u bP _ W (HXL.out W h1) h z3 z4 (by simp[bP]))
  unfold l7 at W1
  unfold gJ at W2
  unfold bP at W3
  clear wl z0 z1 z2 z3 z4
  have hmb:∀md2,md2=md→True:=fun _ _=>trivial
  rcases herr with⟨hb,rfl⟩|⟨hb,rfl⟩
  all_goals
   have HBM:=hid hb
   clear hb hmb
   go_wp2_with fail
   refine(HDA.out w4).use ?_
   intro w5 g5
   have HB5:=hid (aB HB4.out g5)
   have HBX5:=hid (aB HBX4.out g5)
   have G5:=hid (G4.out.trans g5)
   have IT5:=hid (IT4.out.wo g5)
   clear g5
   obtain⟨_,_,q2,_⟩:=aP HB5.out
   go_wp2_with fail
   refine(W1.out w5 (dn HBX5.out) IT5.out.pm).use ?_
   intro u1 w6 hu1 g6
   obtain⟨a1,m1,k1,rfl⟩:=hu1.sl
   clear q2
   have G6:=hid g6
   have HU1:=hid hu1
   clear hu1 g6
   go_wp2_with fail
   refine(W2.out w6 _ (Nat.lt_of_lt_of_le (dn HBX5.out) G6.out.size) HU1.out).use ?_
   intro u2 w7 hu2 g7
   obtain⟨a2,m2,k2,rfl⟩:=hu2.sl
   have G7:=hid (G6.out.trans g7)
   have HU2:=hid hu2
   clear hu2 g7
   go_wp2_with fail
   refine(W3.out w7 _ (Nat.lt_of_lt_of_le (dn HBX5.out) G7.out.size) HU2.out).use ?_
   intro u3 w8 hu3 g8
   obtain⟨a3,m3,k3,rfl⟩:=hu3.sl
   have G8:=hid (G7.out.trans g8)
   have HU3:=hid (show PmR (Wl (w.heap.size::(w.heap.size+1)::L) w8) (.slice a3 m3 k3) (aO (aO (aO x.ps l7) gJ) bP)from hu3)
   have HB8:=hid (aB HB5.out G8.out)
   have HBX8:=hid (aB HBX5.out G8.out)
   clear hu3 g8
   obtain⟨_,_,r2,_⟩:=aP HB8.out
   have f2:=fun i=>Lib.frozen_of_heap HB8.out i
   obtain⟨w9,hw9⟩:∃w9,w8.setCell ⟨w.heap.size,2,none⟩ (.slice a3 m3 k3)=w9:=⟨_,rfl⟩
   have hb9:w9.heap[w.heap.size]?=some (.cells ((It.cells ⟨x.g,x.n,aO (aO (aO x.ps l7) gJ) bP,x.v⟩ (.slice a3 m3 k3) (.slice la x.v.ps.length lc))).toArray 38 (0,0)):=by rw[←hw9];exact qY HB8.out
   have HBX9:=hid (show w9.heap[w.heap.size+1]?=some (.cells (zIt.cells (.slice none 0 0) (.slice none 0 0)).toArray 38 (0,0)) by rw[←hw9,Below.heap_setCell _ _ _ _ (by simp only;omega)];exact HBX8.out)
   have G9:=hid (show G w w9 by rw[←hw9];exact jU (G5.out.trans G8.out) (Nat.le_refl _))
   have HU9:=hid (show PmR (Wl (w.heap.size::(w.heap.size+1)::L) w9) (.slice a3 m3 k3) (aO (aO (aO x.ps l7) gJ) bP) by rw[←hw9,Wl.setm (by simp)];exact HU3.out)
   obtain⟨_,_,_,s3,s4,s5,s6,s7,s8,s9,s10,s11,s12,s13,s14⟩:=aP hb9
   have f9:=fun i=>Lib.frozen_of_heap hb9 i
   obtain⟨w10,hw10⟩:∃w10,((((((((((((w9.setCell ⟨w.heap.size,3,none⟩ (.int .i64 4)).setCell ⟨w.heap.size,4,none⟩ (.string (S tt))).setCell ⟨w.heap.size,5,none⟩ (.slice none 0 0)).setCell ⟨w.heap.size,6,none⟩ (.int .i64 0)).setCell ⟨w.heap.size,7,none⟩ (.int .i64 0)).setCell ⟨w.heap.size,8,none⟩ (.int .i64 0)).setCell ⟨w.heap.size,9,none⟩ (.int .i64 0)).setCell ⟨w.heap.size,10,none⟩ (.int .i64 0)).setCell ⟨w.heap.size,11,none⟩ (.int .i64 0)).setCell ⟨w.heap.size,12,none⟩ (.bool false)).setCell ⟨w.heap.size,13,none⟩ (.int .i64 0)).setCell ⟨w.heap.size,14,none⟩ (.int .i64 0))=w10:=⟨_,rfl⟩
   have HB10:=hid (show w10.heap[w.heap.size]?=some (.cells ((It.cells ⟨x.g,x.n,aO (aO (aO x.ps l7) gJ) bP,tV 4 tt⟩ (.slice a3 m3 k3) (.slice none 0 0))).toArray 38 (0,0)) by rw[←hw10];exact Ur hb9 tt)
   have HBX10:=hid (show w10.heap[w.heap.size+1]?=some (.cells (zIt.cells (.slice none 0 0) (.slice none 0 0)).toArray 38 (0,0)) by rw[←hw10];exact zG HBX9.out (by omega) tt)
   have G10:=hid (show G w w10 by rw[←hw10];exact J9 G9.out (Nat.le_refl _) tt)
   have IT10:=hid (show dG (Wl (w.heap.size::(w.heap.size+1)::L) w10) ⟨x.g,x.n,aO (aO (aO x.ps l7) gJ) bP,tV 4 tt⟩ (.slice a3 m3 k3) (.slice none 0 0)from XP (by rw[←hw10,GV (by simp)];exact HU9.out))
   clear hb9
   go_wp2_with fail
   clear r2 f2 s3 s4 s5 s6 s7 s8 s9 s10 s11 s12 s13 s14 f9 hw9 hw10
   obtain⟨q0,q1,q2,q3,q4,q5,q6,q7,q8,q9,q10,q11,q12,q13,q14⟩:=aP HB10.out
   obtain⟨c0,c1,c2,c3,c4,c5,c6,c7,c8,c9,c10,c11,c12,c13,c14⟩:=aP HBX10.out
   have fz:=fun i=>Lib.frozen_of_heap HBX10.out i
   go_region
   go_wp2_with fail
   generalize hWF:World.setCell (World.setCell (World.setCell (World.setCell (World.setCell (World.setCell (World.setCell (World.setCell (World.setCell (World.setCell (World.setCell (World.setCell (World.setCell (World.setCell (World.setCell w10 _ _) _ _) _ _) _ _) _ _) _ _) _ _) _ _) _ _) _ _) _ _) _ _) _ _) _ _) _ _=WF
   have hrow:WF.heap[w.heap.size+1]?=some (.cells ((It.cells ⟨x.g,x.n,aO (aO (aO x.ps l7) gJ) bP,tV 4 tt⟩ (.slice a3 m3 k3) (.slice none 0 0))).toArray 38 (0,0)):=by
    rw[←hWF]
    exact je HBX10.out rfl _ _ _ _ _ _ _ _ _ _ _ _ _ _ _
   have hgf:G w WF:=by rw[←hWF];exact lY (by omega) G10.out _ _ _ _ _ _ _ _ _ _ _ _ _ _ _
   have hok:dG (Wl L WF) ⟨x.g,x.n,aO (aO (aO x.ps l7) gJ) bP,tV 4 tt⟩ (.slice a3 m3 k3) (.slice none 0 0):=dG.sub (by rw[←hWF,jL (by simp)];exact IT10.out) ((Wl.tail w.heap.size _ WF).trans (Wl.tail (w.heap.size+1) L WF))
   exact lq (bv:=oP md) rfl rfl (by rw[HBM.out];rfl) rfl hrow ⟨_,rfl,ItB.of (y:=(⟨x.g,x.n,aO (aO (aO x.ps l7) gJ) bP,tV 4 tt⟩,oP md)) (by rw[HTT.out];exact HR.out) (hok.grow (Wl.g ((G.refl WF).drew))),hgf.drew⟩
end Go.Proofs.YtmffejnigppbpaaGreatDoor

set_option maxHeartbeats 8000000
set_option maxRecDepth 100000
namespace Go.Proofs.YtmffejnigppbpaaGreatDoor
open Go.RowKit
theorem XM(L:List Nat)(nn:List UInt8)(x:It)(pv lv:Value)(w:World)(hX:∀X∈L,X<w.heap.size)(h:dG (Wl L w) x pv lv)(hs:Sml x)(hne:∀p∈x.ps,p.2≠[]):dP 91 #[.string (S nn),x.val pv lv] w (fun r w'=>ItB (Wl L w') r (vY nn x)):=by
 cases hf:gZ x.ps l7 with
 |none=>exact XE L nn x pv lv w hX h hs hne hf
 |some i=>
  by_cases hg:dC (xH x.ps i) [98]=true∧x.v.ty=8
  ·exact XF L nn x pv lv w hX h hs hne i hf hg
  ·exact Zv L nn x pv lv w hX h hs hne i hf hg
def vX(n:List UInt8):Bool:=!DI n && !sH n&&n != QZ&&n != nTZ&&n != Q5
theorem XN{x:It}(h:DI (bU x.n)=true):jX x=vY (bU x.n) ⟨x.g,x.n,bG x.ps,x.v⟩:=by
 unfold jX;simp only;rw[if_pos h]
theorem Hf{x:It}(h:vX (bU x.n)=true):jX x=(⟨x.g,x.n,bG x.ps,x.v⟩,true):=by
 unfold vX at h
 simp only[Bool.and_eq_true,Bool.not_eq_true',bne_iff_ne,ne_eq]at h
 obtain⟨⟨⟨⟨h1,h2⟩,h3⟩,h4⟩,h5⟩:=h
 unfold jX;simp only
 rw[if_neg (by rw[h1];decide),if_neg (by rw[h2];decide),if_neg h3,if_neg h4,if_neg h5]
theorem Ko(L:List Nat)(x:It)(pv lv:Value)(w:World)(hX:∀X∈L,X<w.heap.size)(h:dG (Wl L w) x pv lv)(hs:Sml x)(hs2:Sml ⟨x.g,x.n,bG x.ps,x.v⟩)(hne:∀p∈bG x.ps,p.2≠[])(hpl:vX (bU x.n)=true):dP 51 #[x.val pv lv] w (fun r w'=>ItB (Wl L w') r (jX x)):=by
 have HIT:=hid h
 have HS2:=hid hs2
 have HNE:=hid hne
 have hpc:=jy hs
 obtain⟨pa,pc,rfl⟩:=h.un.pv
 obtain⟨la,lc,rfl⟩:=h.un.lv
 have hXL:∀W:World,w.heap.size+1<W.heap.size→∀X∈(w.heap.size::(w.heap.size+1)::L),X<W.heap.size:=fun W h1 X hx=>by
  rcases List.mem_cons.1 hx with rfl|hx
  ·omega
  rcases List.mem_cons.1 hx with rfl|hx
  ·exact h1
  ·have:=hX X hx;omega
 have HXL:=hid hXL
 have hnl:x.n.length≤1000000:=by have:=hs.bounds.2.1;omega
 have UP:=hid (fun W=>kV x.n W (by omega))
 have PF:=hid (fun W (h1:w.heap.size+1<W.heap.size) (h:PmR W (.slice pa x.ps.length pc) x.ps)=>oZ (w.heap.size::(w.heap.size+1)::L) _ x.ps W (hXL W h1) h hpc (iO hs) (mP hs))
 obtain⟨u,hu⟩:∃u,u=bU x.n:=⟨_,rfl⟩
 rw[←hu]at UP
 have HR:=hid (Hf hpl)
 rw[←hu]at hpl
 have HPL:=hid hpl
 clear hpl
 have HU:=hid hu
 clear h hs hs2 hne hXL hX hu
 go_enter Tryz.func51,Tryz.ntmps51
 go_wp2_with fail
 generalize hw0:(w.alloc _).alloc _=w0
 have HB0:=hid (show w0.heap[w.heap.size]?=some (.cells (x.cells (.slice pa x.ps.length pc) (.slice la x.v.ps.length lc)).toArray 38 (0,0)) by rw[←hw0,Lib.alloc_old _ _ _ (by simp)];exact heap_alloc_new w _)
 have HX0:=hid (show w0.heap[w.heap.size+1]?=some (.cells (zIt.cells (.slice none 0 0) (.slice none 0 0)).toArray 38 (0,0)) by rw[←hw0];exact pz _ _ _)
 have G0:=hid (show G w w0 by rw[←hw0];exact((G.refl w).alloc _).alloc _)
 clear hw0
 refine(UP.out w0).use ?_
 intro w1 g1
 have HB:=hid (aB HB0.out g1)
 have HBX:=hid (aB HX0.out g1)
 have G1:=hid (G0.out.trans g1)
 clear g1
 obtain⟨_,q1,q2,_⟩:=aP HB.out
 go_wp2_with fail
 refine(PF.out w1 (dn HBX.out) (HIT.out.un.pm.grow G1.out)).use ?_
 intro pu w2 hpu g2
 obtain⟨ua,um,uc,rfl⟩:=hpu.sl
 have hb2:=aB HB.out g2
 have f2:=fun i=>Lib.frozen_of_heap hb2 i
 obtain⟨_,_,r2,_⟩:=aP hb2
 obtain⟨w3,hw3⟩:∃w3,w2.setCell ⟨w.heap.size,2,none⟩ (.slice ua um uc)=w3:=⟨_,rfl⟩
 have HB3:=hid (show w3.heap[w.heap.size]?=some (.cells ((It.cells ⟨x.g,x.n,bG x.ps,x.v⟩ (.slice ua um uc) (.slice la x.v.ps.length lc))).toArray 38 (0,0)) by rw[←hw3];exact qY hb2)
 have HBX3:=hid (show w3.heap[w.heap.size+1]?=some (.cells (zIt.cells (.slice none 0 0) (.slice none 0 0)).toArray 38 (0,0)) by rw[←hw3,Below.heap_setCell _ _ _ _ (by simp only;omega)];exact aB HBX.out g2)
 have G3:=hid (show G w w3 by rw[←hw3];exact jU (G1.out.trans g2) (Nat.le_refl _))
 have IT3:=hid (show dG (Wl (w.heap.size::(w.heap.size+1)::L) w3) ⟨x.g,x.n,bG x.ps,x.v⟩ (.slice ua um uc) (.slice la x.v.ps.length lc) by
  rw[←hw3,Wl.setm (by simp)]
  have h0:dG (Wl (w.heap.size::(w.heap.size+1)::L) w2) x (.slice pa x.ps.length pc) (.slice la x.v.ps.length lc):=HIT.out.grow (Wl.g (L:=L) (show G w (Wo (w.heap.size+1) (Wo w.heap.size w2))from Wo.of (Wo.of (G1.out.trans g2) (Nat.le_refl _)) (by omega)))
  exact h0.ps hpu)
 clear hpu hb2 q1 q2 g2
 have n1:=HPL.out
 unfold vX DI sH xE EG xG aa1 ML MM FZ U0 U1 dN QZ nTZ Q5 at n1
 simp only[Bool.and_eq_true,Bool.not_eq_true',Bool.or_eq_false_iff,bne_iff_ne,ne_eq,beq_eq_false_iff_ne]at n1
 obtain⟨⟨⟨⟨⟨⟨⟨m1,m2⟩,m3⟩,m4⟩,⟨⟨⟨⟨⟨m5,m6⟩,m7⟩,m8⟩,m9⟩,m10⟩⟩,m11⟩,m12⟩,m13⟩:=n1
 replace m1:=beq_eq_false_iff_ne.2 m1
 replace m2:=beq_eq_false_iff_ne.2 m2
 replace m3:=beq_eq_false_iff_ne.2 m3
 replace m4:=beq_eq_false_iff_ne.2 m4
 replace m5:=beq_eq_false_iff_ne.2 m5
 replace m6:=beq_eq_false_iff_ne.2 m6
 replace m7:=beq_eq_false_iff_ne.2 m7
 replace m8:=beq_eq_false_iff_ne.2 m8
 replace m9:=beq_eq_false_iff_ne.2 m9
 replace m10:=beq_eq_false_iff_ne.2 m10
 replace m11:=beq_eq_false_iff_ne.2 m11
 replace m12:=beq_eq_false_iff_ne.2 m12
 replace m13:=beq_eq_false_iff_ne.2 m13
 obtain⟨q0,q1,q2,q3,q4,q5,q6,q7,q8,q9,q10,q11,q12,q13,q14⟩:=aP HB3.out
 obtain⟨c0,c1,c2,c3,c4,c5,c6,c7,c8,c9,c10,c11,c12,c13,c14⟩:=aP HBX3.out
 have fz:=fun i=>Lib.frozen_of_heap HBX3.out i
 go_wp2_with fail
 generalize hWF:World.setCell (World.setCell (World.setCell (World.setCell (World.setCell (World.setCell (World.setCell (World.setCell (World.setCell (World.setCell (World.setCell (World.setCell (World.setCell (World.setCell (World.setCell w3 _ _) _ _) _ _) _ _) _ _) _ _) _ _) _ _) _ _) _ _) _ _) _ _) _ _) _ _) _ _=WF
 have hrow:WF.heap[w.heap.size+1]?=some (.cells ((It.cells ⟨x.g,x.n,bG x.ps,x.v⟩ (.slice ua um uc) (.slice la x.v.ps.length lc))).toArray 38 (0,0)):=by
  rw[←hWF]
  exact je HBX3.out rfl _ _ _ _ _ _ _ _ _ _ _ _ _ _ _
 have hgf:G w WF:=by rw[←hWF];exact lY (by omega) G3.out _ _ _ _ _ _ _ _ _ _ _ _ _ _ _
 have hok:dG (Wl L WF) ⟨x.g,x.n,bG x.ps,x.v⟩ (.slice ua um uc) (.slice la x.v.ps.length lc):=dG.sub (by rw[←hWF,jL (by simp)];exact IT3.out) ((Wl.tail w.heap.size _ WF).trans (Wl.tail (w.heap.size+1) L WF))
 exact lq rfl rfl rfl rfl hrow ⟨_,rfl,ItB.of HR.out hok,hgf⟩
theorem UU(L:List Nat)(x:It)(pv lv:Value)(w:World)(hX:∀X∈L,X<w.heap.size)(h:dG (Wl L w) x pv lv)(hs:Sml x)(hs2:Sml ⟨x.g,x.n,bG x.ps,x.v⟩)(hne:∀p∈bG x.ps,p.2≠[])(hbg:DI (bU x.n)=true):dP 51 #[x.val pv lv] w (fun r w'=>ItB (Wl L w') r (jX x)):=by
 have HIT:=hid h
 have HS2:=hid hs2
 have HNE:=hid hne
 have hpc:=jy hs
 obtain⟨pa,pc,rfl⟩:=h.un.pv
 obtain⟨la,lc,rfl⟩:=h.un.lv
 have hXL:∀W:World,w.heap.size+1<W.heap.size→∀X∈(w.heap.size::(w.heap.size+1)::L),X<W.heap.size:=fun W h1 X hx=>by
  rcases List.mem_cons.1 hx with rfl|hx
  ·omega
  rcases List.mem_cons.1 hx with rfl|hx
  ·exact h1
  ·have:=hX X hx;omega
 have HXL:=hid hXL
 have hnl:x.n.length≤1000000:=by have:=hs.bounds.2.1;omega
 have UP:=hid (fun W=>kV x.n W (by omega))
 have PF:=hid (fun W (h1:w.heap.size+1<W.heap.size) (h:PmR W (.slice pa x.ps.length pc) x.ps)=>oZ (w.heap.size::(w.heap.size+1)::L) _ x.ps W (hXL W h1) h hpc (iO hs) (mP hs))
 obtain⟨u,hu⟩:∃u,u=bU x.n:=⟨_,rfl⟩
 rw[←hu]at UP
 have HR:=hid (XN hbg)
 rw[←hu]at hbg HR
 have HBG:=hid hbg
 clear hbg
 have HU:=hid hu
 clear h hs hs2 hne hXL hX hu
 go_enter Tryz.func51,Tryz.ntmps51
 go_wp2_with fail
 generalize hw0:(w.alloc _).alloc _=w0
 have HB0:=hid (show w0.heap[w.heap.size]?=some (.cells (x.cells (.slice pa x.ps.length pc) (.slice la x.v.ps.length lc)).toArray 38 (0,0)) by rw[←hw0,Lib.alloc_old _ _ _ (by simp)];exact heap_alloc_new w _)
 have HX0:=hid (show w0.heap[w.heap.size+1]?=some (.cells (zIt.cells (.slice none 0 0) (.slice none 0 0)).toArray 38 (0,0)) by rw[←hw0];exact pz _ _ _)
 have G0:=hid (show G w w0 by rw[←hw0];exact((G.refl w).alloc _).alloc _)
 clear hw0
 refine(UP.out w0).use ?_
 intro w1 g1
 have HB:=hid (aB HB0.out g1)
 have HBX:=hid (aB HX0.out g1)
 have G1:=hid (G0.out.trans g1)
 clear g1
 obtain⟨_,q1,q2,_⟩:=aP HB.out
 go_wp2_with fail
 refine(PF.out w1 (dn HBX.out) (HIT.out.un.pm.grow G1.out)).use ?_
 intro pu w2 hpu g2
 obtain⟨ua,um,uc,rfl⟩:=hpu.sl
 have hb2:=aB HB.out g2
 have f2:=fun i=>Lib.frozen_of_heap hb2 i
 obtain⟨_,_,r2,_⟩:=aP hb2
 obtain⟨w3,hw3⟩:∃w3,w2.setCell ⟨w.heap.size,2,none⟩ (.slice ua um uc)=w3:=⟨_,rfl⟩
 have HB3:=hid (show w3.heap[w.heap.size]?=some (.cells ((It.cells ⟨x.g,x.n,bG x.ps,x.v⟩ (.slice ua um uc) (.slice la x.v.ps.length lc))).toArray 38 (0,0)) by rw[←hw3];exact qY hb2)
 have HBX3:=hid (show w3.heap[w.heap.size+1]?=some (.cells (zIt.cells (.slice none 0 0) (.slice none 0 0)).toArray 38 (0,0)) by rw[←hw3,Below.heap_setCell _ _ _ _ (by simp only;omega)];exact aB HBX.out g2)
 have G3:=hid (show G w w3 by rw[←hw3];exact jU (G1.out.trans g2) (Nat.le_refl _))
 have IT3:=hid (show dG (Wl (w.heap.size::(w.heap.size+1)::L) w3) ⟨x.g,x.n,bG x.ps,x.v⟩ (.slice ua um uc) (.slice la x.v.ps.length lc) by
  rw[←hw3,Wl.setm (by simp)]
  have h0:dG (Wl (w.heap.size::(w.heap.size+1)::L) w2) x (.slice pa x.ps.length pc) (.slice la x.v.ps.length lc):=HIT.out.grow (Wl.g (L:=L) (show G w (Wo (w.heap.size+1) (Wo w.heap.size w2))from Wo.of (Wo.of (G1.out.trans g2) (Nat.le_refl _)) (by omega)))
  exact h0.ps hpu)
 clear hpu hb2 q1 q2 g2
 have n1:=HBG.out
 unfold DI xE EG xG aa1 at n1
 have ways:(u==[80,72,79,84,79])=true∨((u==[80,72,79,84,79])=false∧(u==[76,79,71,79])=true)∨((u==[80,72,79,84,79])=false∧(u==[76,79,71,79])=false∧(u==[83,79,85,78,68])=true)∨((u==[80,72,79,84,79])=false∧(u==[76,79,71,79])=false∧(u==[83,79,85,78,68])=false∧(u==[75,69,89])=true):=by
  revert n1
  cases (u==[80,72,79,84,79])<;>cases (u==[76,79,71,79])<;>cases (u==[83,79,85,78,68])<;>cases (u==[75,69,89])<;>simp
 have BIG:=hid (XM (w.heap.size::(w.heap.size+1)::L) u ⟨x.g,x.n,bG x.ps,x.v⟩ (.slice ua um uc) (.slice la x.v.ps.length lc) w3 (HXL.out w3 (dn HBX3.out)) IT3.out HS2.out HNE.out)
 clear n1
 rcases ways with m1|⟨m1,m2⟩|⟨m1,m2,m3⟩|⟨m1,m2,m3,m4⟩
 all_goals
  obtain⟨q0,q1,q2,q3,q4,q5,q6,q7,q8,q9,q10,q11,q12,q13,q14⟩:=aP HB3.out
  go_wp2_with fail
  refine BIG.out.use ?_
  intro r w4 hr g4
  obtain⟨pv4,lv4,rfl,ho4⟩:=hr
  obtain⟨y,hy⟩:∃y,y=vY u ⟨x.g,x.n,bG x.ps,x.v⟩:=⟨_,rfl⟩
  rw[←hy]at ho4⊢
  have HY:=hid (show jX x=y by rw[HR.out,hy])
  obtain⟨pa4,pc4,rfl⟩:=ho4.un.pv
  obtain⟨la4,lc4,rfl⟩:=ho4.un.lv
  obtain⟨y,yb⟩:=y
  have HO4:=hid ho4
  have HBX4:=hid (aB HBX3.out g4)
  have G4:=hid (G3.out.trans g4)
  clear q0 q1 q2 q3 q4 q5 q6 q7 q8 q9 q10 q11 q12 q13 q14 ho4 hy g4
  simp only
  obtain⟨c0,c1,c2,c3,c4,c5,c6,c7,c8,c9,c10,c11,c12,c13,c14⟩:=aP HBX4.out
  have fz:=fun i=>Lib.frozen_of_heap HBX4.out i
  go_wp2_with fail
  generalize hWF:World.setCell (World.setCell (World.setCell (World.setCell (World.setCell (World.setCell (World.setCell (World.setCell (World.setCell (World.setCell (World.setCell (World.setCell (World.setCell (World.setCell (World.setCell w4 _ _) _ _) _ _) _ _) _ _) _ _) _ _) _ _) _ _) _ _) _ _) _ _) _ _) _ _) _ _=WF
  have hrow:WF.heap[w.heap.size+1]?=some (.cells ((It.cells y (.slice pa4 y.ps.length pc4) (.slice la4 y.v.ps.length lc4))).toArray 38 (0,0)):=by
   rw[←hWF]
   exact je HBX4.out rfl _ _ _ _ _ _ _ _ _ _ _ _ _ _ _
  have hgf:G w WF:=by rw[←hWF];exact lY (by omega) G4.out _ _ _ _ _ _ _ _ _ _ _ _ _ _ _
  have hok:dG (Wl L WF) y (.slice pa4 y.ps.length pc4) (.slice la4 y.v.ps.length lc4):=dG.sub (by rw[←hWF,jL (by simp)];exact HO4.out) ((Wl.tail w.heap.size _ WF).trans (Wl.tail (w.heap.size+1) L WF))
  exact lq rfl rfl rfl rfl hrow ⟨_,rfl,ItB.of HY.out hok,hgf⟩
end Go.Proofs.YtmffejnigppbpaaGreatDoor
