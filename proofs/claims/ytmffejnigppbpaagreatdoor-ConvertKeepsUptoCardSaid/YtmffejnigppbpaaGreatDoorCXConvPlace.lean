/-
 CONTRACT of convert.place. (written by gen_convplace.py)
-/
import Derived.Test.YtmffejnigppbpaaGreatDoorCXConvOld
import Derived.Test.YtmffejnigppbpaaGreatDoorCXMA65
set_option linter.unusedVariables false
set_option linter.unusedSimpArgs false
set_option maxHeartbeats 16000000
set_option maxRecDepth 100000
namespace Go.Proofs.YtmffejnigppbpaaGreatDoor
open Go.RowKit
def aaZ(l:List UInt8)(v:Value):Prop:=(v=.nilIface∧o9 l=true)∨∃t u,v=.iface t u∧o9 l=false
theorem ZE{l:List UInt8}{v:Value}{w:World}(h:nY l v w):aaZ l v:=by
 unfold nY at h
 unfold aaZ o9
 split at h
 ·rename_i h0
  rw[h0]
  subst h
  exact .inr ⟨_,_,rfl,by simp⟩
 ·rename_i h0
  split at h
  ·rename_i i hi
   obtain⟨bq,rfl,_⟩:=h
   exact .inr ⟨_,_,rfl,by rw[hi];simp⟩
  ·rename_i hn
   split at h
   ·rename_i he
    obtain⟨bq,rfl,_⟩:=h
    exact .inr ⟨_,_,rfl,by simp[he]⟩
   ·rename_i he
    exact .inl ⟨h,by rw[hn];simp[h0,he]⟩
theorem aa0{α:Type}{l:List α}(h:l.length=2):∃a b,l=[a,b]:=by
 match l,h with
 |[a,b],_=>exact⟨a,b,rfl⟩
def ZF(la lb lo l0b l0o l0c l1b l1o l1c lc:Nat)(a0 a1:List UInt8)(k:Nat)(v:Value)(W:World):Prop:=
 match k with
 |0=>v=.slice (some ⟨lb,lo,none⟩) 2 lc
 |1=>v=.pointer (some ⟨lb,lo,none⟩)
 |2=>v=.slice (some ⟨l0b,l0o,none⟩) 1 l0c
 |3=>v=.pointer (some ⟨l0b,l0o,none⟩)
 |4=>v=.string (S a0)
 |5=>v=.string (S (zq++a0))
 |6=>v=.string (S (zq++a0++[44]))
 |7=>v=.slice (some ⟨lb,lo,none⟩) 2 lc
 |8=>v=.pointer (some ⟨lb,lo+1,none⟩)
 |9=>v=.slice (some ⟨l1b,l1o,none⟩) 1 l1c
 |10=>v=.pointer (some ⟨l1b,l1o,none⟩)
 |11=>v=.string (S a1)
 |_=>True
def ZG(L:List Nat)(bx:Nat)(y:It)(u:Value)(tt:List UInt8)(b:Bool)(k:Nat)(v:Value)(W:World):Prop:=
 match k with
 |0=>v=y.val u (.slice none 0 0)
 |1=>v=.pointer (some ⟨bx,3,none⟩)
 |2=>v=.pointer (some ⟨bx,4,none⟩)
 |3=>v=.string (S tt)
 |4=>aaZ tt v
 |5=>v=.bool (o9 tt)
 |6=>b=true∧∃pv lv,W.heap[bx+1]?=some (.cells (y.cells pv lv).toArray 38 (0,0))∧dG (Wl L W) y pv lv
 |_=>True
theorem XQ(L:List Nat)(x:It)(pv lv:Value)(w:World)(hX:∀X∈L,X<w.heap.size)(h:dG (Wl L w) x pv lv)(hno:¬(x.v.ty=3∧∃a b,x.v.ps=[[a],[b]])):dP 93 #[x.val pv lv] w (fun r w'=>ItB (Wl L w') r (rq x)):=by
 have HR:=hid (show rq x=(x,false) by
  unfold rq
  split
  ·rename_i h3
   split
   ·rename_i a b he
    exact absurd ⟨h3,a,b,he⟩ hno
   ·rfl
  ·rfl)
 obtain⟨m,hm⟩:∃m,x.v.ps.length=m:=⟨_,rfl⟩
 obtain⟨pa,pc,rfl⟩:=h.un.pv
 obtain⟨la,lc,rfl⟩:=h.un.lv
 rw[hm]at h⊢
 have HIT:=hid h
 clear h hX
 go_enter Tryz.func93,Tryz.ntmps93
 go_upto_region 1 with fail
 generalize hw0:(w.alloc _).alloc _=w0
 have HB:=hid (show w0.heap[w.heap.size]?=some (.cells (x.cells (.slice pa x.ps.length pc) (.slice la m lc)).toArray 38 (0,0)) by rw[←hw0,Lib.alloc_old _ _ _ (by simp)];exact heap_alloc_new w _)
 have HBX:=hid (show w0.heap[w.heap.size+1]?=some (.cells (zIt.cells (.slice none 0 0) (.slice none 0 0)).toArray 38 (0,0)) by rw[←hw0];exact pz _ _ _)
 have G0:=hid (show G w w0 by rw[←hw0];exact((G.refl w).alloc _).alloc _)
 have IT0:=hid (show dG (Wl (w.heap.size::(w.heap.size+1)::L) w0) x (.slice pa x.ps.length pc) (.slice la m lc)from HIT.out.grow (Wl.g (L:=L) (show G w (Wo (w.heap.size+1) (Wo w.heap.size w0))from Wo.of (Wo.of G0.out (Nat.le_refl _)) (by omega))))
 clear hw0
 obtain⟨q0,q1,q2,q3,q4,q5,q6,q7,q8,q9,q10,q11,q12,q13,q14⟩:=aP HB.out
 obtain⟨c0,c1,c2,c3,c4,c5,c6,c7,c8,c9,c10,c11,c12,c13,c14⟩:=aP HBX.out
 have fz:=fun i=>Lib.frozen_of_heap HBX.out i
 have ways:(x.v.ty != 3)=true∨((x.v.ty != 3)=false∧((m:Int) != 2)=true)∨((x.v.ty != 3)=false∧m=2):=by
  by_cases h3:x.v.ty=3
  ·by_cases h2:m=2
   ·exact .inr (.inr ⟨by simpa using h3,h2⟩)
   ·exact .inr (.inl ⟨by simpa using h3,by simp;omega⟩)
  ·exact .inl (by simpa using h3)
 rcases ways with e3|⟨e3,e2⟩|⟨e3,rfl⟩
 ·go_wp2_with fail
  generalize hWF:World.setCell (World.setCell (World.setCell (World.setCell (World.setCell (World.setCell (World.setCell (World.setCell (World.setCell (World.setCell (World.setCell (World.setCell (World.setCell (World.setCell (World.setCell w0 _ _) _ _) _ _) _ _) _ _) _ _) _ _) _ _) _ _) _ _) _ _) _ _) _ _) _ _) _ _=WF
  have hrow:WF.heap[w.heap.size+1]?=some (.cells ((It.cells x (.slice pa x.ps.length pc) (.slice la m lc))).toArray 38 (0,0)):=by
   rw[←hWF]
   exact je HBX.out rfl _ _ _ _ _ _ _ _ _ _ _ _ _ _ _
  have hgf:G w WF:=by rw[←hWF];exact lY (by omega) G0.out _ _ _ _ _ _ _ _ _ _ _ _ _ _ _
  have hok:dG (Wl L WF) x (.slice pa x.ps.length pc) (.slice la m lc):=dG.sub (by rw[←hWF,jL (by simp)];exact IT0.out) ((Wl.tail w.heap.size _ WF).trans (Wl.tail (w.heap.size+1) L WF))
  exact lq rfl rfl rfl rfl hrow ⟨_,rfl,ItB.of HR.out hok,hgf⟩
 ·go_wp2_with fail
  generalize hWF:World.setCell (World.setCell (World.setCell (World.setCell (World.setCell (World.setCell (World.setCell (World.setCell (World.setCell (World.setCell (World.setCell (World.setCell (World.setCell (World.setCell (World.setCell w0 _ _) _ _) _ _) _ _) _ _) _ _) _ _) _ _) _ _) _ _) _ _) _ _) _ _) _ _) _ _=WF
  have hrow:WF.heap[w.heap.size+1]?=some (.cells ((It.cells x (.slice pa x.ps.length pc) (.slice la m lc))).toArray 38 (0,0)):=by
   rw[←hWF]
   exact je HBX.out rfl _ _ _ _ _ _ _ _ _ _ _ _ _ _ _
  have hgf:G w WF:=by rw[←hWF];exact lY (by omega) G0.out _ _ _ _ _ _ _ _ _ _ _ _ _ _ _
  have hok:dG (Wl L WF) x (.slice pa x.ps.length pc) (.slice la m lc):=dG.sub (by rw[←hWF,jL (by simp)];exact IT0.out) ((Wl.tail w.heap.size _ WF).trans (Wl.tail (w.heap.size+1) L WF))
  exact lq rfl rfl rfl rfl hrow ⟨_,rfl,ItB.of HR.out hok,hgf⟩
 obtain⟨l0,l1,hl⟩:=aa0 hm
 obtain⟨lb,lo,lc2,e,_,hb,hc⟩:=IT0.out.un.l.at_ (by rw[hl];simp)
 obtain⟨v0,k0,s0⟩:=hc 0 l0 (by rw[hl];rfl)
 obtain⟨v1,k1,s1⟩:=hc 1 l1 (by rw[hl];rfl)
 obtain⟨a0,cc0,rfl,_⟩:=s0.len
 obtain⟨a1,cc1,rfl,_⟩:=s1.len
 obtain⟨rfl,rfl⟩:la=some ⟨lb,lo,none⟩∧lc=lc2:=by injection e with e1 e2 e3;exact⟨e1,e3⟩
 rw[Nat.add_zero]at k0
 obtain⟨n0,hn0⟩:∃n0,l0.length=n0:=⟨_,rfl⟩
 obtain⟨n1,hn1⟩:∃n1,l1.length=n1:=⟨_,rfl⟩
 rw[hn0]at k0
 rw[hn1]at k1
 clear e s0 s1 hc
 have ways2:((n0:Int) != 1)=true∨(n0=1∧((n1:Int) != 1)=true):=by
  by_cases h0:n0=1
  ·by_cases h1:n1=1
   ·exfalso
    refine hno ⟨by simpa using e3,?_⟩
    obtain⟨a,ha⟩:=List.length_eq_one_iff.1 (hn0.trans h0)
    obtain⟨b,hb⟩:=List.length_eq_one_iff.1 (hn1.trans h1)
    exact⟨a,b,by rw[hl,ha,hb]⟩
   ·exact .inr ⟨h0,by simp;omega⟩
  ·exact .inl (by simp;omega)
 clear hno
 rcases ways2 with e0|⟨rfl,e1⟩
 ·go_wp2_with fail
  generalize hWF:World.setCell (World.setCell (World.setCell (World.setCell (World.setCell (World.setCell (World.setCell (World.setCell (World.setCell (World.setCell (World.setCell (World.setCell (World.setCell (World.setCell (World.setCell w0 _ _) _ _) _ _) _ _) _ _) _ _) _ _) _ _) _ _) _ _) _ _) _ _) _ _) _ _) _ _=WF
  have hrow:WF.heap[w.heap.size+1]?=some (.cells ((It.cells x (.slice pa x.ps.length pc) (.slice (some ⟨lb,lo,none⟩) 2 lc))).toArray 38 (0,0)):=by
   rw[←hWF]
   exact je HBX.out rfl _ _ _ _ _ _ _ _ _ _ _ _ _ _ _
  have hgf:G w WF:=by rw[←hWF];exact lY (by omega) G0.out _ _ _ _ _ _ _ _ _ _ _ _ _ _ _
  have hok:dG (Wl L WF) x (.slice pa x.ps.length pc) (.slice (some ⟨lb,lo,none⟩) 2 lc):=dG.sub (by rw[←hWF,jL (by simp)];exact IT0.out) ((Wl.tail w.heap.size _ WF).trans (Wl.tail (w.heap.size+1) L WF))
  exact lq rfl rfl rfl rfl hrow ⟨_,rfl,ItB.of HR.out hok,hgf⟩
 ·go_wp2_with fail
  generalize hWF:World.setCell (World.setCell (World.setCell (World.setCell (World.setCell (World.setCell (World.setCell (World.setCell (World.setCell (World.setCell (World.setCell (World.setCell (World.setCell (World.setCell (World.setCell w0 _ _) _ _) _ _) _ _) _ _) _ _) _ _) _ _) _ _) _ _) _ _) _ _) _ _) _ _) _ _=WF
  have hrow:WF.heap[w.heap.size+1]?=some (.cells ((It.cells x (.slice pa x.ps.length pc) (.slice (some ⟨lb,lo,none⟩) 2 lc))).toArray 38 (0,0)):=by
   rw[←hWF]
   exact je HBX.out rfl _ _ _ _ _ _ _ _ _ _ _ _ _ _ _
  have hgf:G w WF:=by rw[←hWF];exact lY (by omega) G0.out _ _ _ _ _ _ _ _ _ _ _ _ _ _ _
  have hok:dG (Wl L WF) x (.slice pa x.ps.length pc) (.slice (some ⟨lb,lo,none⟩) 2 lc):=dG.sub (by rw[←hWF,jL (by simp)];exact IT0.out) ((Wl.tail w.heap.size _ WF).trans (Wl.tail (w.heap.size+1) L WF))
  exact lq rfl rfl rfl rfl hrow ⟨_,rfl,ItB.of HR.out hok,hgf⟩
theorem VT(L:List Nat)(x:It)(pv lv:Value)(w:World)(hX:∀X∈L,X<w.heap.size)(h:dG (Wl L w) x pv lv)(hs:Sml x)(a0 a1:List UInt8)(h3:x.v.ty=3)(hl:x.v.ps=[[a0],[a1]]):dP 93 #[x.val pv lv] w (fun r w'=>ItB (Wl L w') r (rq x)):=by
 have HR:=hid (show rq x=(⟨x.g,x.n,aO x.ps bP,tV 4 (zq++a0++[44]++a1)⟩,o9 (zq++a0++[44]++a1)) by
  unfold rq
  rw[if_pos h3,hl])
 have hla:a0.length≤100000∧a1.length≤100000:=by
  have h:=hs.p
  rw[hl]at h
  simp[iL,jF]at h
  omega
 have HS:=hid hs
 have hpc:=jy hs
 obtain⟨pa,pc,rfl⟩:=h.un.pv
 obtain⟨la,lc,rfl⟩:=h.un.lv
 rw[show x.v.ps.length=2 by rw[hl];rfl]at h⊢
 have e3:(x.v.ty != 3)=false:=by simpa using h3
 have hXL:∀W:World,w.heap.size+1<W.heap.size→∀X∈w.heap.size::(w.heap.size+1)::L,X<W.heap.size:=fun W h1 X hx=>by
  rcases List.mem_cons.1 hx with rfl|hx
  ·omega
  rcases List.mem_cons.1 hx with rfl|hx
  ·exact h1
  ·have:=hX X hx;omega
 have HXL:=hid hXL
 have HIT:=hid h
 clear h hX hXL hs h3
 go_enter Tryz.func93,Tryz.ntmps93
 go_upto_region 1 with fail
 generalize hw0:(w.alloc _).alloc _=w1
 have HB:=hid (show w1.heap[w.heap.size]?=some (.cells (x.cells (.slice pa x.ps.length pc) (.slice la 2 lc)).toArray 38 (0,0)) by rw[←hw0,Lib.alloc_old _ _ _ (by simp)];exact heap_alloc_new w _)
 have HBX:=hid (show w1.heap[w.heap.size+1]?=some (.cells (zIt.cells (.slice none 0 0) (.slice none 0 0)).toArray 38 (0,0)) by rw[←hw0];exact pz _ _ _)
 have G1:=hid (show G w w1 by rw[←hw0];exact((G.refl w).alloc _).alloc _)
 have IT1:=hid (show dG (Wl (w.heap.size::(w.heap.size+1)::L) w1) x (.slice pa x.ps.length pc) (.slice la 2 lc)from HIT.out.grow (Wl.g (L:=L) (show G w (Wo (w.heap.size+1) (Wo w.heap.size w1))from Wo.of (Wo.of G1.out (Nat.le_refl _)) (by omega))))
 have hsz1:w.heap.size+1<w1.heap.size:=dn HBX.out
 clear hw0
 have WO:=hid (mg (w.heap.size::(w.heap.size+1)::L) (.slice pa x.ps.length pc) bP x.ps w1 (HXL.out w1 hsz1) IT1.out.pm hpc (iO HS.out) (by simp[bP]))
 unfold bP at WO
 obtain⟨q0,q1,q2,q3,q4,q5,q6,q7,q8,q9,q10,q11,q12,q13,q14⟩:=aP HB.out
 obtain⟨lb,lo,lc2,e,_,hb,hc⟩:=IT1.out.un.l.at_ (by rw[hl];simp)
 obtain⟨v0,k0,s0⟩:=hc 0 [a0] (by rw[hl];rfl)
 obtain⟨v1,k1,s1⟩:=hc 1 [a1] (by rw[hl];rfl)
 obtain⟨b0,o0,e0,rfl,_,hb0,z0⟩:=s0.at_ (by simp)
 obtain⟨b1,o1,e1,rfl,_,hb1,z1⟩:=s1.at_ (by simp)
 obtain⟨rfl,rfl⟩:la=some ⟨lb,lo,none⟩∧lc=lc2:=by injection e with e1 e2 e3;exact⟨e1,e3⟩
 rw[Nat.add_zero]at k0
 simp only[List.length_cons,List.length_nil,Nat.zero_add]at k0 k1
 clear e s0 s1 hc z0 z1
 go_wp2_with fail
 refine WO.out.use ?_
 intro u w2 hu g2
 obtain⟨ua,um,uc,rfl⟩:=hu.sl
 have HU:=hid hu
 have hb2:=aB HB.out g2
 have f2:=fun i=>Lib.frozen_of_heap hb2 i
 obtain⟨_,_,r2,_⟩:=aP hb2
 obtain⟨w3,hw3⟩:∃w3,w2.setCell ⟨w.heap.size,2,none⟩ (.slice ua um uc)=w3:=⟨_,rfl⟩
 have HB3:=hid (show w3.heap[w.heap.size]?=some (.cells ((It.cells ⟨x.g,x.n,aO x.ps bP,x.v⟩ (.slice ua um uc) (.slice (some ⟨lb,lo,none⟩) 2 lc))).toArray 38 (0,0)) by rw[←hw3];exact qY hb2)
 have HBX3:=hid (show w3.heap[w.heap.size+1]?=some (.cells (zIt.cells (.slice none 0 0) (.slice none 0 0)).toArray 38 (0,0)) by rw[←hw3,Below.heap_setCell _ _ _ _ (by simp only;omega)];exact aB HBX.out g2)
 have G3:=hid (show G w w3 by rw[←hw3];exact jU (G1.out.trans g2) (Nat.le_refl _))
 have IT3:=hid (show dG (Wl (w.heap.size::(w.heap.size+1)::L) w3) ⟨x.g,x.n,aO x.ps bP,x.v⟩ (.slice ua um uc) (.slice (some ⟨lb,lo,none⟩) 2 lc) by rw[←hw3,Wl.setm (by simp)];exact(IT1.out.wo g2).ps HU.out)
 have HU3:=hid (show PmR (Wl (w.heap.size::(w.heap.size+1)::L) w3) (.slice ua um uc) (aO x.ps bP)from IT3.out.pm)
 clear q0 q1 q2 q3 q4 q5 q6 q7 q8 q9 q10 q11 q12 q13 q14 hu k0 k1 hb hb0 hb1 WO
 go_wp2_with fail
 clear r2 f2 hw3 hb2 e3
 obtain⟨lb',lo',lc2,e,_,hb,hc⟩:=IT3.out.un.l.at_ (by rw[show(⟨x.g,x.n,aO x.ps bP,x.v⟩:It).v.ps=x.v.ps from rfl,hl];simp)
 obtain⟨v0,k0,s0⟩:=hc 0 [a0] (by rw[show(⟨x.g,x.n,aO x.ps bP,x.v⟩:It).v.ps=x.v.ps from rfl,hl];rfl)
 obtain⟨v1,k1,s1⟩:=hc 1 [a1] (by rw[show(⟨x.g,x.n,aO x.ps bP,x.v⟩:It).v.ps=x.v.ps from rfl,hl];rfl)
 obtain⟨b0,o0,e0,rfl,_,hb0,z0⟩:=s0.at_ (by simp)
 obtain⟨b1,o1,e1,rfl,_,hb1,z1⟩:=s1.at_ (by simp)
 obtain⟨rfl,rfl,rfl⟩:lb=lb'∧lo=lo'∧lc=lc2:=by injection e with e1 e2 e3;injection e1 with e1;injection e1 with e1 e4;exact⟨e1,e4,e3⟩
 rw[Nat.add_zero]at k0
 simp only[List.length_cons,List.length_nil,Nat.zero_add]at k0 k1
 have zz0:=z0 0 a0 rfl
 have zz1:=z1 0 a1 rfl
 rw[Nat.add_zero]at zz0 zz1
 have Y0:=hid k0
 have Y1:=hid k1
 have Z0:=hid zz0
 have Z1:=hid zz1
 have LB:=hid hb
 have LB0:=hid hb0
 have LB1:=hid hb1
 clear e s0 s1 hc z0 z1 zz0 zz1 k0 k1 hb hb0 hb1
 refine wp_region_any (by kernel_rfl) ?_
 refine jQ (E:=#[false,false,false,false,false,false,false,false,false,false,false,false,false,false,false,false]) G 12 (ZF 0 lb lo b0 o0 e0 b1 o1 e1 lc a0 a1) [some [],some [(0,36)],some [(1,37)],some [(2,38)],some [(3,39)],some [(4,40)],some [(5,41)],some [],some [(7,43)],some [(8,44)],some [(9,45)],some [(10,46)],none,none,none,none] [(0,36),(1,37),(2,38),(3,39),(4,40),(5,41),(6,42),(7,43),(8,44),(9,45),(10,46),(11,47)] _ (by kernel_rfl) (by decide) (by kernel_rfl) (by kernel_rfl) rfl G.refl (fun _ _ _=>G.trans) (w0:=w3) ((G.refl w3).drew) ?_ ?_ ?_
 ·intro k v W W' g h
  match k,h with
  |0,h=>exact h
  |1,h=>exact h
  |2,h=>exact h
  |3,h=>exact h
  |4,h=>exact h
  |5,h=>exact h
  |6,h=>exact h
  |7,h=>exact h
  |8,h=>exact h
  |9,h=>exact h
  |10,h=>exact h
  |11,h=>exact h
  |n+12,h=>trivial
 ·refine bi (fun vals W g d=>?_)<|bi (fun vals W g d=>?_)<|bi (fun vals W g d=>?_)<|bi (fun vals W g d=>?_)<|bi (fun vals W g d=>?_)<|bi (fun vals W g d=>?_)<|bi (fun vals W g d=>?_)<|bi (fun vals W g d=>?_)<|bi (fun vals W g d=>?_)<|bi (fun vals W g d=>?_)<|bi (fun vals W g d=>?_)<|bi (fun vals W g d=>?_)<|eY<|eY<|eY<|eY oD
  ·refine bI rfl rfl rfl fun K hK=>?_
   simp only[gFr]at hK⊢
   go_simp
   exact hK _ _ (G.refl _) rfl
  ·obtain⟨d0,_⟩:=d
   change vals 0=_ at d0
   refine bI rfl rfl rfl fun K hK=>?_
   simp only[gFr,d0]at hK⊢
   go_simp
   exact hK _ _ (G.refl _) rfl
  ·obtain⟨d1,_⟩:=d
   change vals 1=_ at d1
   refine bI rfl rfl rfl fun K hK=>?_
   simp only[gFr,d1]at hK⊢
   have s1:=(g.cell (p:=⟨lb,lo,none⟩) LB.out).trans Y0.out
   go_simp
   exact hK _ _ (G.refl _) rfl
  ·obtain⟨d2,_⟩:=d
   change vals 2=_ at d2
   refine bI rfl rfl rfl fun K hK=>?_
   simp only[gFr,d2]at hK⊢
   go_simp
   exact hK _ _ (G.refl _) rfl
  ·obtain⟨d3,_⟩:=d
   change vals 3=_ at d3
   refine bI rfl rfl rfl fun K hK=>?_
   simp only[gFr,d3]at hK⊢
   have s1:=(g.cell (p:=⟨b0,o0,none⟩) LB0.out).trans Z0.out
   go_simp
   exact hK _ _ (G.refl _) rfl
  ·obtain⟨d4,_⟩:=d
   change vals 4=_ at d4
   refine bI rfl rfl rfl fun K hK=>?_
   simp only[gFr,d4]at hK⊢
   have hov:¬9223372036854775807<4+a0.length:=by omega
   go_simp
   exact hK _ _ (G.refl _) rfl
  ·obtain⟨d5,_⟩:=d
   change vals 5=_ at d5
   refine bI rfl rfl rfl fun K hK=>?_
   simp only[gFr,d5]at hK⊢
   have hov:¬9223372036854775807<zq.length+a0.length+1:=by show ¬9223372036854775807<4+a0.length+1;omega
   go_simp
   refine hK _ _ (G.refl _) ?_
   show _=Value.string (S (zq++a0++[44]))
   simp
  ·refine bI rfl rfl rfl fun K hK=>?_
   simp only[gFr]at hK⊢
   go_simp
   exact hK _ _ (G.refl _) rfl
  ·obtain⟨d7,_⟩:=d
   change vals 7=_ at d7
   refine bI rfl rfl rfl fun K hK=>?_
   simp only[gFr,d7]at hK⊢
   go_simp
   exact hK _ _ (G.refl _) rfl
  ·obtain⟨d8,_⟩:=d
   change vals 8=_ at d8
   refine bI rfl rfl rfl fun K hK=>?_
   simp only[gFr,d8]at hK⊢
   have s1:=(g.cell (p:=⟨lb,lo+1,none⟩) LB.out).trans Y1.out
   go_simp
   exact hK _ _ (G.refl _) rfl
  ·obtain⟨d9,_⟩:=d
   change vals 9=_ at d9
   refine bI rfl rfl rfl fun K hK=>?_
   simp only[gFr,d9]at hK⊢
   go_simp
   exact hK _ _ (G.refl _) rfl
  ·obtain⟨d10,_⟩:=d
   change vals 10=_ at d10
   refine bI rfl rfl rfl fun K hK=>?_
   simp only[gFr,d10]at hK⊢
   have s1:=(g.cell (p:=⟨b1,o1,none⟩) LB1.out).trans Z1.out
   go_simp
   exact hK _ _ (G.refl _) rfl
 ·intro vals W g d
  simp only[jf,jH]at d
  obtain⟨d0,d1,d2,d3,d4,d5,d6,d7,d8,d9,d10,d11,_⟩:=d
  change vals 0=_ at d0
  change vals 1=_ at d1
  change vals 2=_ at d2
  change vals 3=_ at d3
  change vals 4=_ at d4
  change vals 5=_ at d5
  change vals 6=_ at d6
  change vals 7=_ at d7
  change vals 8=_ at d8
  change vals 9=_ at d9
  change vals 10=_ at d10
  change vals 11=_ at d11
  have GW:=hid (G3.out.trans g)
  have HB4:=hid (aB HB3.out g)
  have HBX4:=hid (aB HBX3.out g)
  have HU4:=hid (HU3.out.grow (Wl.g g))
  have hov:¬9223372036854775807<zq.length+a0.length+1+a1.length:=by show ¬9223372036854775807<4+a0.length+1+a1.length;omega
  have hov2:¬9223372036854775807<zq.length+(a0.length+1)+a1.length:=by show ¬9223372036854775807<4+(a0.length+1)+a1.length;omega
  refine⟨?_⟩
  show wpList _ _ _ [_,_,_,_] _ _
  simp only[gFr,d0,d1,d2,d3,d4,d5,d6,d7,d8,d9,d10,d11]
  clear d0 d1 d2 d3 d4 d5 d6 d7 d8 d9 d10 d11
  clear g
  obtain⟨tt,htt⟩:∃tt,tt=zq++(a0++44::a1):=⟨_,rfl⟩
  have htl:tt.length≤1000000:=by
   have e:tt.length=4+(a0.length+(a1.length+1)):=by rw[htt,List.length_append,List.length_append];rfl
   omega
  rw[show zq++a0++[44]++a1=zq++(a0++44::a1) by simp,←htt]at HR
  obtain⟨_,_,_,s3,s4,s5,s6,s7,s8,s9,s10,s11,s12,s13,s14⟩:=aP HB4.out
  have f9:=fun i=>Lib.frozen_of_heap HB4.out i
  obtain⟨w10,hw10⟩:∃w10,((((((((((((W.setCell ⟨w.heap.size,3,none⟩ (.int .i64 4)).setCell ⟨w.heap.size,4,none⟩ (.string (S tt))).setCell ⟨w.heap.size,5,none⟩ (.slice none 0 0)).setCell ⟨w.heap.size,6,none⟩ (.int .i64 0)).setCell ⟨w.heap.size,7,none⟩ (.int .i64 0)).setCell ⟨w.heap.size,8,none⟩ (.int .i64 0)).setCell ⟨w.heap.size,9,none⟩ (.int .i64 0)).setCell ⟨w.heap.size,10,none⟩ (.int .i64 0)).setCell ⟨w.heap.size,11,none⟩ (.int .i64 0)).setCell ⟨w.heap.size,12,none⟩ (.bool false)).setCell ⟨w.heap.size,13,none⟩ (.int .i64 0)).setCell ⟨w.heap.size,14,none⟩ (.int .i64 0))=w10:=⟨_,rfl⟩
  have HB10:=hid (show w10.heap[w.heap.size]?=some (.cells ((It.cells ⟨x.g,x.n,aO x.ps bP,tV 4 tt⟩ (.slice ua um uc) (.slice none 0 0))).toArray 38 (0,0)) by rw[←hw10];exact Ur HB4.out tt)
  have HBX10:=hid (show w10.heap[w.heap.size+1]?=some (.cells (zIt.cells (.slice none 0 0) (.slice none 0 0)).toArray 38 (0,0)) by rw[←hw10];exact zG HBX4.out (by omega) tt)
  have G10:=hid (show G w w10 by rw[←hw10];exact J9 GW.out (Nat.le_refl _) tt)
  have IT10:=hid (show dG (Wl (w.heap.size::(w.heap.size+1)::L) w10) ⟨x.g,x.n,aO x.ps bP,tV 4 tt⟩ (.slice ua um uc) (.slice none 0 0)from XP (by rw[←hw10,GV (by simp)];exact HU4.out))
  have HTT:=hid htt
  rw[show zq++a0++[44]=zq++(a0++[44]) by simp]
  go_wp2_with fail
  rw[←htt,hw10]
  clear s3 s4 s5 s6 s7 s8 s9 s10 s11 s12 s13 s14 f9 hw10 htt hov hov2
  refine wp_region_any (by kernel_rfl) ?_
  refine uZ (E:=#[false,false,false,false,false,false,false,false]) (Bi w w.heap.size (w.heap.size::(w.heap.size+1)::L) ⟨x.g,x.n,aO x.ps bP,tV 4 tt⟩ (It.cells ⟨x.g,x.n,aO x.ps bP,tV 4 tt⟩ (.slice ua um uc) (.slice none 0 0))) G (UT w w.heap.size (w.heap.size::(w.heap.size+1)::L)) 6 7 (ZG (w.heap.size::(w.heap.size+1)::L) w.heap.size ⟨x.g,x.n,aO x.ps bP,tV 4 tt⟩ (.slice ua um uc) tt) [some [],some [],some [(1,52)],some [(2,53)],some [(3,54)],some [(4,55)],some [(0,51),(0,51)],none] [(0,51),(1,52),(2,53),(3,54),(4,55),(5,56)] _ (by kernel_rfl) (by kernel_rfl) rfl (by decide) (by kernel_rfl) (by kernel_rfl) rfl G.refl (fun x=>⟨rfl,fun h=>h,rfl⟩) (fun b x y z h g=>h.grow g) (fun x y z v h g p=>h.turn g p.2) (w0:=w10) (⟨G10.out.drew,HB10.out,fun _=>(G.refl w10).drew,fun _=>HBX10.out,fun e=>(by cases e)⟩) ?_ ?_ ?_ ?_
  ·intro b k v W W' g h
   match k,h with
   |0,h=>exact h
   |1,h=>exact h
   |2,h=>exact h
   |3,h=>exact h
   |4,h=>exact h
   |5,h=>exact h
   |6,h=>exact by obtain⟨e,pv,lv,h1,h2⟩:=h;exact⟨e,pv,lv,aB h1 g,h2.wo g⟩
   |n+7,h=>trivial
  ·intro k v W W' g h
   match k,h with
   |0,h=>exact h
   |1,h=>exact h
   |2,h=>exact h
   |3,h=>exact h
   |4,h=>exact h
   |5,h=>exact h
   |6,h=>exact by obtain⟨e,_⟩:=h;cases e
   |n+7,h=>trivial
  ·refine fF (by decide) (by kernel_rfl) (fun vals W g d=>?_)<|fF (by decide) (by kernel_rfl) (fun vals W g d=>?_)<|fF (by decide) (by kernel_rfl) (fun vals W g d=>?_)<|fF (by decide) (by kernel_rfl) (fun vals W g d=>?_)<|fF (by decide) (by kernel_rfl) (fun vals W g d=>?_)<|jI (by decide) (fun b vals W g d=>?_)<|AQ rfl (fun vals W g d=>?_)<|TC Ei
   ·refine bI rfl rfl rfl fun K hK=>?_
    simp only[gFr]at hK⊢
    obtain⟨q0,q1,q2,q3,q4,q5,q6,q7,q8,q9,q10,q11,q12,q13,q14⟩:=aP g.b0
    go_simp
    exact hK _ _ (G.refl _) rfl
   ·refine bI rfl rfl rfl fun K hK=>?_
    simp only[gFr]at hK⊢
    go_simp
    exact hK _ _ (G.refl _) rfl
   ·obtain⟨d1,_⟩:=d
    change vals 1=_ at d1
    refine bI rfl rfl rfl fun K hK=>?_
    simp only[gFr,d1]at hK⊢
    go_simp
    exact hK _ _ (G.refl _) rfl
   ·obtain⟨d2,_⟩:=d
    change vals 2=_ at d2
    refine bI rfl rfl rfl fun K hK=>?_
    simp only[gFr,d2]at hK⊢
    obtain⟨q0,q1,q2,q3,q4,q5,q6,q7,q8,q9,q10,q11,q12,q13,q14⟩:=aP g.b0
    go_simp
    exact hK _ _ (G.refl _) rfl
   ·obtain⟨d3,_⟩:=d
    change vals 3=_ at d3
    refine bI rfl rfl rfl fun K hK=>?_
    simp only[gFr,d3]at hK⊢
    go_simp
    refine(wY tt W (by omega)).use ?_
    intro r W' hr hg
    exact hK _ _ hg (ZE hr)
   ·obtain⟨d4,_⟩:=d
    refine bI rfl rfl rfl fun K hK=>?_
    rcases d4 with⟨d4,e1⟩|⟨t4,u4,d4,e1⟩
    ·simp only[gFr,d4]at hK⊢
     go_simp
     exact hK _ _ (G.refl _) (by show Value.bool _=Value.bool _;rw[e1])
    ·simp only[gFr,d4]at hK⊢
     go_simp
     exact hK _ _ (G.refl _) (by show Value.bool _=Value.bool _;rw[e1])
   ·obtain⟨d0,_,_⟩:=d
    change vals 0=_ at d0
    refine Ey rfl rfl fun K hK=>?_
    generalize hy:(⟨x.g,x.n,aO x.ps bP,tV 4 tt⟩:It)=y at d0
    simp only[gFr,d0]at hK⊢
    have hz:=g.z rfl
    obtain⟨c0,c1,c2,c3,c4,c5,c6,c7,c8,c9,c10,c11,c12,c13,c14⟩:=aP hz
    have fz:=fun i=>Lib.frozen_of_heap hz i
    go_simp
    subst hy
    refine hK _ ⟨jL (by simp) _ _ _ _ _ _ _ _ _ _ _ _ _ _ _,fun h=>lY (by omega) h _ _ _ _ _ _ _ _ _ _ _ _ _ _ _,Ae (by omega) _ _ _ _ _ _ _ _ _ _ _ _ _ _ _⟩ ⟨rfl,_,_,je hz rfl _ _ _ _ _ _ _ _ _ _ _ _ _ _ _,?_⟩
    rw[jL (by simp)]
    exact IT10.out.wo (g.f rfl)
  ·intro vals W g d
   simp only[jf,jH]at d
   obtain⟨d0,d1,d2,d3,d4,d5,_⟩:=d
   change vals 0=_ at d0
   change vals 1=_ at d1
   change vals 2=_ at d2
   change vals 3=_ at d3
   change vals 5=_ at d5
   have HGT:=hid g
   refine⟨?_⟩
   show wpList _ _ _ [_] _ _
   simp only[gFr,d0,d1,d2,d3,d5]
   clear d0 d1 d2 d3 d5
   obtain⟨pv5,lv5,hrow,hok⟩:=HGT.out.t rfl
   have hgf:=HGT.out.g
   have hok2:=dG.sub hok ((Wl.tail w.heap.size _ W).trans (Wl.tail (w.heap.size+1) L W))
   clear HGT
   go_wp2_with fail
   refine lq (X:=w.heap.size+1) (s:=2) (t:=3) (bv:=o9 tt) rfl ?_ ?_ ?_ hrow ⟨_,rfl,ItB.of HR.out hok2,hgf⟩
   ·simp[Act.put]
   ·simp[Act.put]
   ·simp[Act.put]
theorem JC(L:List Nat)(x:It)(pv lv:Value)(w:World)(hX:∀X∈L,X<w.heap.size)(h:dG (Wl L w) x pv lv)(hs:Sml x):dP 93 #[x.val pv lv] w (fun r w'=>ItB (Wl L w') r (rq x)):=by
 by_cases hy:x.v.ty=3∧∃a b,x.v.ps=[[a],[b]]
 ·obtain⟨h3,a,b,hl⟩:=hy
  exact VT L x pv lv w hX h hs a b h3 hl
 ·exact XQ L x pv lv w hX h hy
end Go.Proofs.YtmffejnigppbpaaGreatDoor
