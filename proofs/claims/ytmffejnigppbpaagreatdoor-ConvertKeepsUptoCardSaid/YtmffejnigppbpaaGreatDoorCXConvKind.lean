/-
 CONTRACT of convert.one, at TZ and at UID. (written by gen_convkind.py)
-/
import Derived.Test.YtmffejnigppbpaaGreatDoorCXMA65
import Derived.Test.YtmffejnigppbpaaGreatDoorCXMVeil
set_option linter.unusedVariables false
set_option linter.unusedSimpArgs false
set_option maxHeartbeats 8000000
set_option maxRecDepth 100000
namespace Go.Proofs.YtmffejnigppbpaaGreatDoor
open Go.RowKit
theorem Zy{x:It}(h:bU x.n=nTZ):jX x=(xI ⟨x.g,x.n,bG x.ps,x.v⟩,true):=by
 unfold jX;simp only
 rw[h,if_neg (by decide),if_neg (by decide),if_neg (by decide),if_pos rfl]
theorem XH{x:It}(h:bU x.n=Q5):jX x=(if x.v.ty=1∧o9 x.v.tx=true then(⟨x.g,x.n,aO (bG x.ps) bP,⟨4,x.v.tx,x.v.ps,x.v.st,x.v.n⟩⟩,true)else(xI ⟨x.g,x.n,bG x.ps,x.v⟩,true)):=by
 unfold jX;simp only
 rw[h,if_neg (by decide),if_neg (by decide),if_neg (by decide),if_neg (by decide),if_pos rfl]
theorem aaX{W:World}{b:Nat}{x:It}{pv lv:Value}{t:TypeId}{k:Int}(h:W.heap[b]?=some (.cells (x.cells pv lv).toArray t (0,0))):(W.setCell ⟨b,3,none⟩ (.int .i64 k)).heap[b]?=some (.cells ((It.cells ⟨x.g,x.n,x.ps,⟨k,x.v.tx,x.v.ps,x.v.st,x.v.n⟩⟩ pv lv)).toArray t (0,0)):=by
 simp[World.setCell,Array.getElem?_modify,h,It.cells]
theorem MI{w W:World}{L:List Nat}{k:List UInt8}{t:TypeId}(h:∀X∈L,X<w.heap.size)(g:G w W):di (Wl L (W.alloc (.cells #[.string (S k)] t))) (.slice (some ⟨W.heap.size,0,none⟩) 1 1) [k]:=by
 refine di.one1 ?_
 rw[World.cell?_of_block (Wl.other (fun X hX=>by show W.heap.size≠X;have:=h X hX;have:=g.size;omega)),cell_of_row _ _ _ _ _ _ (heap_alloc_new W _)]
 rfl
theorem XI{w:World}{L:List Nat}(hX:∀X∈L,X<w.heap.size){W:World}(h1:w.heap.size+1<W.heap.size):∀X∈(w.heap.size::(w.heap.size+1)::L),X<W.heap.size:=fun X hx=>by
 rcases List.mem_cons.1 hx with rfl|hx
 ·omega
 rcases List.mem_cons.1 hx with rfl|hx
 ·exact h1
 ·have:=hX X hx;omega
def XJ(L:List Nat)(bx:Nat)(ps:List Pm)(ty:Int)(pv:Value)(k:Nat)(v:Value)(W:World):Prop:=
 match k with
 |0=>v=.pointer (some ⟨bx,2,none⟩)
 |1=>v=pv
 |2=>PmR (Wl L W) v (aO ps bP)
 |3=>v=.pointer (some ⟨bx,3,none⟩)
 |4=>v=.pointer (some ⟨bx,3,none⟩)
 |5=>v=.int .i64 ty
 |_=>True
theorem aaY(L:List Nat)(x:It)(pv lv:Value)(w:World)(hX:∀X∈L,X<w.heap.size)(h:dG (Wl L w) x pv lv)(hs:Sml x)(hs2:Sml ⟨x.g,x.n,bG x.ps,x.v⟩)(hne:∀p∈bG x.ps,p.2≠[])(hup:bU x.n=nTZ):dP 51 #[x.val pv lv] w (fun r w'=>ItB (Wl L w') r (jX x)):=by
 have HIT:=hid h
 have HS2:=hid hs2
 have HNE:=hid hne
 have hpc:=jy hs
 obtain⟨pa,pc,rfl⟩:=h.un.pv
 obtain⟨la,lc,rfl⟩:=h.un.lv
 have hXL:∀W:World,w.heap.size+1<W.heap.size→∀X∈(w.heap.size::(w.heap.size+1)::L),X<W.heap.size:=fun W h1 X hx=>by
  rcases List.mem_cons.1 hx with rfl|hx
  ·omega
  rcases List.mem_cons.1 hx with rfl|hx
  ·exact h1
  ·have:=hX X hx;omega
 have HXL:=hid hXL
 have hnl:x.n.length≤1000000:=by have:=hs.bounds.2.1;omega
 have UP:=hid (fun W=>kV x.n W (by omega))
 have PF:=hid (fun W (h1:w.heap.size+1<W.heap.size) (h:PmR W (.slice pa x.ps.length pc) x.ps)=>oZ (w.heap.size::(w.heap.size+1)::L) _ x.ps W (hXL W h1) h hpc (iO hs) (mP hs))
 obtain⟨u,hu⟩:∃u,u=bU x.n:=⟨_,rfl⟩
 rw[←hu]at UP
 have HR:=hid (Zy hup)
 have hXX:=hid hX
 rw[←hu]at hup
 have m1:(u==[80,72,79,84,79])=false:=by rw[hup];decide
 have m2:(u==[76,79,71,79])=false:=by rw[hup];decide
 have m3:(u==[83,79,85,78,68])=false:=by rw[hup];decide
 have m4:(u==[75,69,89])=false:=by rw[hup];decide
 have m5:(u==[65,71,69,78,84])=false:=by rw[hup];decide
 have m6:(u==[67,76,65,83,83])=false:=by rw[hup];decide
 have m7:(u==[77,65,73,76,69,82])=false:=by rw[hup];decide
 have m8:(u==[78,65,77,69])=false:=by rw[hup];decide
 have m9:(u==[83,79,82,84,45,83,84,82,73,78,71])=false:=by rw[hup];decide
 have m10:(u==[76,65,66,69,76])=false:=by rw[hup];decide
 have m11:(u==[71,69,79])=false:=by rw[hup];decide
 have m12:(u==[84,90])=true:=by rw[hup];decide
 clear hup
 have HU:=hid hu
 clear h hs hs2 hne hXL hX hu
 go_enter Tryz.func51,Tryz.ntmps51
 go_wp2_with fail
 generalize hw0:(w.alloc _).alloc _=w0
 have HB0:=hid (show w0.heap[w.heap.size]?=some (.cells (x.cells (.slice pa x.ps.length pc) (.slice la x.v.ps.length lc)).toArray 38 (0,0)) by rw[←hw0,Lib.alloc_old _ _ _ (by simp)];exact heap_alloc_new w _)
 have HX0:=hid (show w0.heap[w.heap.size+1]?=some (.cells (zIt.cells (.slice none 0 0) (.slice none 0 0)).toArray 38 (0,0)) by rw[←hw0];exact pz _ _ _)
 have G0:=hid (show G w w0 by rw[←hw0];exact((G.refl w).alloc _).alloc _)
 clear hw0
 refine(UP.out w0).use ?_
 intro w1 g1
 have HB:=hid (aB HB0.out g1)
 have HBX:=hid (aB HX0.out g1)
 have G1:=hid (G0.out.trans g1)
 clear g1
 obtain⟨_,q1,q2,_⟩:=aP HB.out
 go_wp2_with fail
 refine(PF.out w1 (dn HBX.out) (HIT.out.un.pm.grow G1.out)).use ?_
 intro pu w2 hpu g2
 obtain⟨ua,um,uc,rfl⟩:=hpu.sl
 have hb2:=aB HB.out g2
 have f2:=fun i=>Lib.frozen_of_heap hb2 i
 obtain⟨_,_,r2,_⟩:=aP hb2
 obtain⟨w3,hw3⟩:∃w3,w2.setCell ⟨w.heap.size,2,none⟩ (.slice ua um uc)=w3:=⟨_,rfl⟩
 have HB3:=hid (show w3.heap[w.heap.size]?=some (.cells ((It.cells ⟨x.g,x.n,bG x.ps,x.v⟩ (.slice ua um uc) (.slice la x.v.ps.length lc))).toArray 38 (0,0)) by rw[←hw3];exact qY hb2)
 have HBX3:=hid (show w3.heap[w.heap.size+1]?=some (.cells (zIt.cells (.slice none 0 0) (.slice none 0 0)).toArray 38 (0,0)) by rw[←hw3,Below.heap_setCell _ _ _ _ (by simp only;omega)];exact aB HBX.out g2)
 have G3:=hid (show G w w3 by rw[←hw3];exact jU (G1.out.trans g2) (Nat.le_refl _))
 have IT3:=hid (show dG (Wl (w.heap.size::(w.heap.size+1)::L) w3) ⟨x.g,x.n,bG x.ps,x.v⟩ (.slice ua um uc) (.slice la x.v.ps.length lc) by
  rw[←hw3,Wl.setm (by simp)]
  have h0:dG (Wl (w.heap.size::(w.heap.size+1)::L) w2) x (.slice pa x.ps.length pc) (.slice la x.v.ps.length lc):=HIT.out.grow (Wl.g (L:=L) (show G w (Wo (w.heap.size+1) (Wo w.heap.size w2))from Wo.of (Wo.of (G1.out.trans g2) (Nat.le_refl _)) (by omega)))
  exact h0.ps hpu)
 clear hpu hb2 q1 q2 g2
 have HQ:=hid (rfl:bG x.ps=bG x.ps)
 obtain⟨qs,hqs⟩:∃qs,qs=bG x.ps:=⟨_,rfl⟩
 rw[←hqs]at HB3 IT3 HS2
 have HQS:=hid hqs
 have hql:=jy HS2.out
 have hqn:=iO HS2.out
 simp only at hql hqn
 have HL3:=hid (XI hXX.out (dn HBX3.out))
 have WO:=hid (fun W (g:G w3 W)=>mg (w.heap.size::(w.heap.size+1)::L) _ bP qs W (fun X hx=>Nat.lt_of_lt_of_le (HL3.out X hx) g.size) (IT3.out.pm.wo g) hql hqn (by simp[bP]))
 have hwl:(aO qs bP).length≤10000:=by unfold aO;exact Nat.le_trans (List.length_filter_le _ _) hql
 have WI:=hid (fun W (g:G w3 W) (a b:Value) (h1:PmR (Wl (w.heap.size::(w.heap.size+1)::L) W) a (aO qs bP)) (h2:di (Wl (w.heap.size::(w.heap.size+1)::L) W) b [mD x.v.ty])=>yJ (w.heap.size::(w.heap.size+1)::L) a bP b [mD x.v.ty] (aO qs bP) W (fun X hx=>Nat.lt_of_lt_of_le (HL3.out X hx) g.size) h1 h2 hwl)
 obtain⟨ty,hty⟩:∃ty,ty=x.v.ty:=⟨_,rfl⟩
 unfold bP at WO WI
 clear hql hqn hwl
 obtain⟨q0,q1,q2,q3,q4,q5,q6,q7,q8,q9,q10,q11,q12,q13,q14⟩:=aP HB3.out
 go_wp2_with fail
 clear q0 q1 q2 q3 q4 q5 q6 q7 q8 q9 q10 q11 q12 q13 q14 hty ty
 refine wp_region_any (by kernel_rfl) ?_
 refine jQ (E:=#[false,false,false,false,false,false,false,false,false,false,false]) G 6 (XJ (w.heap.size::(w.heap.size+1)::L) w.heap.size qs x.v.ty (.slice ua um uc)) [some [],some [(0,51)],some [(1,52)],some [],some [(3,54)],some [(4,55)],none,none,none,none,none] [(0,51),(1,52),(2,53),(3,54),(4,55),(5,56)] _ (by kernel_rfl) (by decide) (by kernel_rfl) (by kernel_rfl) rfl G.refl (fun _ _ _=>G.trans) (w0:=w3) ((G.refl w3).drew) ?_ ?_ ?_
 ·intro k v W W' g h
  match k,h with
  |0,h=>exact h
  |1,h=>exact h
  |2,h=>exact PmR.wo h g
  |3,h=>exact h
  |4,h=>exact h
  |5,h=>exact h
  |n+6,h=>trivial
 ·refine bi (fun vals W g d=>?_)<|bi (fun vals W g d=>?_)<|bi (fun vals W g d=>?_)<|bi (fun vals W g d=>?_)<|bi (fun vals W g d=>?_)<|bi (fun vals W g d=>?_)<|eY<|eY<|eY<|eY<|eY oD
  ·refine bI rfl rfl rfl fun K hK=>?_
   simp only[gFr]at hK⊢
   go_simp
   exact hK _ _ (G.refl _) rfl
  ·obtain⟨d0,_⟩:=d
   change vals 0=_ at d0
   refine bI rfl rfl rfl fun K hK=>?_
   simp only[gFr,d0]at hK⊢
   obtain⟨q0,q1,q2,q3,_⟩:=aP (aB HB3.out g)
   go_simp
   exact hK _ _ (G.refl _) rfl
  ·obtain⟨d1,_⟩:=d
   change vals 1=_ at d1
   refine bI rfl rfl rfl fun K hK=>?_
   simp only[gFr,d1]at hK⊢
   go_simp
   refine(WO.out W g).use ?_
   intro r W' hr hg
   exact hK _ _ hg hr
  ·refine bI rfl rfl rfl fun K hK=>?_
   simp only[gFr]at hK⊢
   go_simp
   exact hK _ _ (G.refl _) rfl
  ·obtain⟨d3,_⟩:=d
   change vals 3=_ at d3
   refine bI rfl rfl rfl fun K hK=>?_
   simp only[gFr,d3]at hK⊢
   go_simp
   exact hK _ _ (G.refl _) rfl
  ·obtain⟨d4,_⟩:=d
   change vals 4=_ at d4
   refine bI rfl rfl rfl fun K hK=>?_
   simp only[gFr,d4]at hK⊢
   obtain⟨q0,q1,q2,q3,_⟩:=aP (aB HB3.out g)
   go_simp
   exact hK _ _ (G.refl _) rfl
 ·intro vals W g d
  simp only[jf,jH]at d
  obtain⟨d0,d1,d2,d3,d4,d5,_⟩:=d
  change vals 0=_ at d0
  change vals 1=_ at d1
  change vals 3=_ at d3
  change vals 4=_ at d4
  change vals 5=_ at d5
  change PmR (Wl (w.heap.size::(w.heap.size+1)::L) W) (vals 2) (aO qs bP)at d2
  obtain⟨sa,sm,sc,e2⟩:=PmR.sl d2
  rw[e2]at d2
  have HD2:=hid d2
  have HB4:=hid (aB HB3.out g)
  have HBX4:=hid (aB HBX3.out g)
  have GW:=hid (G3.out.trans g)
  have HG4:=hid g
  refine⟨?_⟩
  show wpList _ _ _ [_,_,_,_,_] _ _
  simp only[gFr,d0,d1,d3,d4,d5,e2]
  clear d0 d1 d3 d4 d5
  clear d2 g
  go_wp2_with fail
  refine(IL x.v.ty _).use ?_
  go_wp2_with fail
  refine(WI.out _ (HG4.out.alloc _) _ _ (PmR.wo HD2.out ((G.refl W).alloc _)) (MI HL3.out HG4.out)).use ?_
  intro ru w4 hru g4
  obtain⟨ra,rm,rc,rfl⟩:=PmR.sl hru
  have HD8:=hid hru
  have hb6:=aB HB4.out (((G.refl W).alloc _).trans g4)
  have f4:=fun i=>Lib.frozen_of_heap hb6 i
  obtain⟨_,_,r4,_⟩:=aP hb6
  obtain⟨w5,hw5⟩:∃w5,w4.setCell ⟨w.heap.size,2,none⟩ (.slice ra rm rc)=w5:=⟨_,rfl⟩
  have HB5:=hid (show w5.heap[w.heap.size]?=some (.cells ((It.cells ⟨x.g,x.n,aO qs bP++[(bP,[mD x.v.ty])],x.v⟩ (.slice ra rm rc) (.slice la x.v.ps.length lc))).toArray 38 (0,0)) by rw[←hw5];exact qY hb6)
  have HBX5:=hid (show w5.heap[w.heap.size+1]?=some (.cells (zIt.cells (.slice none 0 0) (.slice none 0 0)).toArray 38 (0,0)) by rw[←hw5,Below.heap_setCell _ _ _ _ (by simp only;omega)];exact aB HBX4.out (((G.refl W).alloc _).trans g4))
  have G5:=hid (show G w w5 by rw[←hw5];exact jU (GW.out.trans (((G.refl W).alloc _).trans g4)) (Nat.le_refl _))
  have IT5:=hid (show dG (Wl (w.heap.size::(w.heap.size+1)::L) w5) ⟨x.g,x.n,aO qs bP++[(bP,[mD x.v.ty])],x.v⟩ (.slice ra rm rc) (.slice la x.v.ps.length lc) by
   rw[←hw5,Wl.setm (by simp)]
   exact((IT3.out.wo (HG4.out.trans (((G.refl W).alloc _).trans g4)))).ps HD8.out)
  have HY:=hid (show jX x=(⟨x.g,x.n,aO qs bP++[(bP,[mD x.v.ty])],x.v⟩,true) by rw[HR.out,HQS.out];rfl)
  clear hru hb6 g4
  obtain⟨q0,q1,q2,q3,q4,q5,q6,q7,q8,q9,q10,q11,q12,q13,q14⟩:=aP HB5.out
  obtain⟨c0,c1,c2,c3,c4,c5,c6,c7,c8,c9,c10,c11,c12,c13,c14⟩:=aP HBX5.out
  have fz:=fun i=>Lib.frozen_of_heap HBX5.out i
  go_wp2_with fail
  generalize hWF:World.setCell (World.setCell (World.setCell (World.setCell (World.setCell (World.setCell (World.setCell (World.setCell (World.setCell (World.setCell (World.setCell (World.setCell (World.setCell (World.setCell (World.setCell w5 _ _) _ _) _ _) _ _) _ _) _ _) _ _) _ _) _ _) _ _) _ _) _ _) _ _) _ _) _ _=WF
  have hrow:WF.heap[w.heap.size+1]?=some (.cells ((It.cells ⟨x.g,x.n,aO qs bP++[(bP,[mD x.v.ty])],x.v⟩ (.slice ra rm rc) (.slice la x.v.ps.length lc))).toArray 38 (0,0)):=by
   rw[←hWF]
   exact je HBX5.out rfl _ _ _ _ _ _ _ _ _ _ _ _ _ _ _
  have hgf:G w WF:=by rw[←hWF];exact lY (by omega) G5.out _ _ _ _ _ _ _ _ _ _ _ _ _ _ _
  have hok:dG (Wl L WF) ⟨x.g,x.n,aO qs bP++[(bP,[mD x.v.ty])],x.v⟩ (.slice ra rm rc) (.slice la x.v.ps.length lc):=dG.sub (by rw[←hWF,jL (by simp)];exact IT5.out) ((Wl.tail w.heap.size _ WF).trans (Wl.tail (w.heap.size+1) L WF))
  exact lq rfl rfl rfl rfl hrow ⟨_,rfl,ItB.of HY.out hok,hgf⟩
theorem Zz(L:List Nat)(x:It)(pv lv:Value)(w:World)(hX:∀X∈L,X<w.heap.size)(h:dG (Wl L w) x pv lv)(hs:Sml x)(hs2:Sml ⟨x.g,x.n,bG x.ps,x.v⟩)(hne:∀p∈bG x.ps,p.2≠[])(hup:bU x.n=Q5):dP 51 #[x.val pv lv] w (fun r w'=>ItB (Wl L w') r (jX x)):=by
 have HIT:=hid h
 have HS2:=hid hs2
 have HNE:=hid hne
 have hpc:=jy hs
 obtain⟨pa,pc,rfl⟩:=h.un.pv
 obtain⟨la,lc,rfl⟩:=h.un.lv
 have hXL:∀W:World,w.heap.size+1<W.heap.size→∀X∈(w.heap.size::(w.heap.size+1)::L),X<W.heap.size:=fun W h1 X hx=>by
  rcases List.mem_cons.1 hx with rfl|hx
  ·omega
  rcases List.mem_cons.1 hx with rfl|hx
  ·exact h1
  ·have:=hX X hx;omega
 have HXL:=hid hXL
 have hnl:x.n.length≤1000000:=by have:=hs.bounds.2.1;omega
 have UP:=hid (fun W=>kV x.n W (by omega))
 have PF:=hid (fun W (h1:w.heap.size+1<W.heap.size) (h:PmR W (.slice pa x.ps.length pc) x.ps)=>oZ (w.heap.size::(w.heap.size+1)::L) _ x.ps W (hXL W h1) h hpc (iO hs) (mP hs))
 obtain⟨u,hu⟩:∃u,u=bU x.n:=⟨_,rfl⟩
 rw[←hu]at UP
 have HR:=hid (XH hup)
 have hXX:=hid hX
 rw[←hu]at hup
 have m1:(u==[80,72,79,84,79])=false:=by rw[hup];decide
 have m2:(u==[76,79,71,79])=false:=by rw[hup];decide
 have m3:(u==[83,79,85,78,68])=false:=by rw[hup];decide
 have m4:(u==[75,69,89])=false:=by rw[hup];decide
 have m5:(u==[65,71,69,78,84])=false:=by rw[hup];decide
 have m6:(u==[67,76,65,83,83])=false:=by rw[hup];decide
 have m7:(u==[77,65,73,76,69,82])=false:=by rw[hup];decide
 have m8:(u==[78,65,77,69])=false:=by rw[hup];decide
 have m9:(u==[83,79,82,84,45,83,84,82,73,78,71])=false:=by rw[hup];decide
 have m10:(u==[76,65,66,69,76])=false:=by rw[hup];decide
 have m11:(u==[71,69,79])=false:=by rw[hup];decide
 have m12:(u==[84,90])=false:=by rw[hup];decide
 have m13:(u==[85,73,68])=true:=by rw[hup];decide
 clear hup
 have HU:=hid hu
 clear h hs hs2 hne hXL hX hu
 go_enter Tryz.func51,Tryz.ntmps51
 go_wp2_with fail
 generalize hw0:(w.alloc _).alloc _=w0
 have HB0:=hid (show w0.heap[w.heap.size]?=some (.cells (x.cells (.slice pa x.ps.length pc) (.slice la x.v.ps.length lc)).toArray 38 (0,0)) by rw[←hw0,Lib.alloc_old _ _ _ (by simp)];exact heap_alloc_new w _)
 have HX0:=hid (show w0.heap[w.heap.size+1]?=some (.cells (zIt.cells (.slice none 0 0) (.slice none 0 0)).toArray 38 (0,0)) by rw[←hw0];exact pz _ _ _)
 have G0:=hid (show G w w0 by rw[←hw0];exact((G.refl w).alloc _).alloc _)
 clear hw0
 refine(UP.out w0).use ?_
 intro w1 g1
 have HB:=hid (aB HB0.out g1)
 have HBX:=hid (aB HX0.out g1)
 have G1:=hid (G0.out.trans g1)
 clear g1
 obtain⟨_,q1,q2,_⟩:=aP HB.out
 go_wp2_with fail
 refine(PF.out w1 (dn HBX.out) (HIT.out.un.pm.grow G1.out)).use ?_
 intro pu w2 hpu g2
 obtain⟨ua,um,uc,rfl⟩:=hpu.sl
 have hb2:=aB HB.out g2
 have f2:=fun i=>Lib.frozen_of_heap hb2 i
 obtain⟨_,_,r2,_⟩:=aP hb2
 obtain⟨w3,hw3⟩:∃w3,w2.setCell ⟨w.heap.size,2,none⟩ (.slice ua um uc)=w3:=⟨_,rfl⟩
 have HB3:=hid (show w3.heap[w.heap.size]?=some (.cells ((It.cells ⟨x.g,x.n,bG x.ps,x.v⟩ (.slice ua um uc) (.slice la x.v.ps.length lc))).toArray 38 (0,0)) by rw[←hw3];exact qY hb2)
 have HBX3:=hid (show w3.heap[w.heap.size+1]?=some (.cells (zIt.cells (.slice none 0 0) (.slice none 0 0)).toArray 38 (0,0)) by rw[←hw3,Below.heap_setCell _ _ _ _ (by simp only;omega)];exact aB HBX.out g2)
 have G3:=hid (show G w w3 by rw[←hw3];exact jU (G1.out.trans g2) (Nat.le_refl _))
 have IT3:=hid (show dG (Wl (w.heap.size::(w.heap.size+1)::L) w3) ⟨x.g,x.n,bG x.ps,x.v⟩ (.slice ua um uc) (.slice la x.v.ps.length lc) by
  rw[←hw3,Wl.setm (by simp)]
  have h0:dG (Wl (w.heap.size::(w.heap.size+1)::L) w2) x (.slice pa x.ps.length pc) (.slice la x.v.ps.length lc):=HIT.out.grow (Wl.g (L:=L) (show G w (Wo (w.heap.size+1) (Wo w.heap.size w2))from Wo.of (Wo.of (G1.out.trans g2) (Nat.le_refl _)) (by omega)))
  exact h0.ps hpu)
 clear hpu hb2 q1 q2 g2
 obtain⟨bu,hbu⟩:∃bu,bu=decide (x.v.ty=1∧o9 x.v.tx=true):=⟨_,rfl⟩
 have HBU:=hid hbu
 have UR:=hid (fun W=>wY x.v.tx W (by have:=HS2.out.t;simp only at this;omega))
 clear hbu
 go_upto_region 21 with fail
 go_cut [73] from 63 to 73 (fun v wq=>v=.bool bu∧∃w6,w6=wq∧G w3 w6)
 case first=>
  obtain⟨q0,q1,q2,q3,q4,_⟩:=aP HB3.out
  by_cases hty:x.v.ty=1
  ·have e1:(x.v.ty==1)=true:=by simpa using hty
   go_wp2_with fail
   refine(UR.out w3).use ?_
   intro v w4 hv g4
   have hv2:o9 x.v.tx=true∧v=.nilIface∨o9 x.v.tx=false∧∃t e,v=.iface t e:=by
    unfold nY at hv
    by_cases hb:rF x.v.tx=0
    ·rw[if_pos hb]at hv
     exact .inr ⟨by unfold o9;simp[hb],_,_,hv⟩
    ·rw[if_neg hb]at hv
     cases hs2:Dk Df x.v.tx with
     |some i=>rw[hs2]at hv;obtain⟨b,e,_⟩:=hv;exact .inr ⟨by unfold o9;simp[hs2],_,_,e⟩
     |none=>
      rw[hs2]at hv
      dsimp only at hv
      by_cases hl:rF x.v.tx+1=x.v.tx.length
      ·rw[if_pos hl]at hv;obtain⟨b,e,_⟩:=hv;exact .inr ⟨by unfold o9;simp[hl],_,_,e⟩
      ·rw[if_neg hl]at hv;exact .inl ⟨by unfold o9;simp[hb,hs2,hl],hv⟩
   clear hv
   rcases hv2 with⟨hu,rfl⟩|⟨hu,t,e,rfl⟩
   ·obtain rfl:bu=true:=by rw[HBU.out,decide_eq_true ⟨hty,hu⟩]
    clear hu hty
    go_wp2_with fail
    go_meet
    exact⟨rfl,_,rfl,g4⟩
   ·obtain rfl:bu=false:=by rw[HBU.out,decide_eq_false (fun q=>by rw[hu]at q;cases q.2)]
    clear hu hty
    go_wp2_with fail
    go_meet
    exact⟨rfl,_,rfl,g4⟩
  ·have e1:(x.v.ty==1)=false:=by simpa using hty
   obtain rfl:bu=false:=by rw[HBU.out,decide_eq_false (fun q=>hty q.1)]
   clear hty
   go_wp2_with fail
   go_meet
   exact⟨rfl,_,rfl,G.refl _⟩
 case rest=>
  obtain⟨rfl,w6,rfl,gx⟩:=hcut
  have HB3:=hid (aB HB3.out gx)
  have HBX3:=hid (aB HBX3.out gx)
  have G3:=hid (G3.out.trans gx)
  have IT3:=hid (IT3.out.wo gx)
  clear gx UR m1 m2 m3 m4 m5 m6 m7 m8 m9 m10 m11 m12 m13
  have HQ:=hid (rfl:bG x.ps=bG x.ps)
  obtain⟨qs,hqs⟩:∃qs,qs=bG x.ps:=⟨_,rfl⟩
  rw[←hqs]at HB3 IT3 HS2
  have HQS:=hid hqs
  have hql:=jy HS2.out
  have hqn:=iO HS2.out
  simp only at hql hqn
  have HL3:=hid (XI hXX.out (dn HBX3.out))
  have WO:=hid (fun W (g:G w6 W)=>mg (w.heap.size::(w.heap.size+1)::L) _ bP qs W (fun X hx=>Nat.lt_of_lt_of_le (HL3.out X hx) g.size) (IT3.out.pm.wo g) hql hqn (by simp[bP]))
  have hwl:(aO qs bP).length≤10000:=by unfold aO;exact Nat.le_trans (List.length_filter_le _ _) hql
  have WI:=hid (fun W (g:G w6 W) (a b:Value) (h1:PmR (Wl (w.heap.size::(w.heap.size+1)::L) W) a (aO qs bP)) (h2:di (Wl (w.heap.size::(w.heap.size+1)::L) W) b [mD x.v.ty])=>yJ (w.heap.size::(w.heap.size+1)::L) a bP b [mD x.v.ty] (aO qs bP) W (fun X hx=>Nat.lt_of_lt_of_le (HL3.out X hx) g.size) h1 h2 hwl)
  obtain⟨ty,hty⟩:∃ty,ty=x.v.ty:=⟨_,rfl⟩
  unfold bP at WO WI
  clear hql hqn hwl
  cases bu with
  |true=>
   have HY0:=hid (show jX x=(⟨x.g,x.n,aO qs bP,⟨4,x.v.tx,x.v.ps,x.v.st,x.v.n⟩⟩,true) by rw[HR.out,if_pos (of_decide_eq_true HBU.out.symm),HQS.out])
   obtain⟨q0,q1,q2,q3,q4,q5,q6,q7,q8,q9,q10,q11,q12,q13,q14⟩:=aP HB3.out
   go_wp2_with fail
   refine(WO.out w6 (G.refl _)).use ?_
   intro ru w4 hru g4
   obtain⟨ra,rm,rc,rfl⟩:=PmR.sl hru
   have HD8:=hid hru
   have hb6:=aB HB3.out g4
   have f4:=fun i=>Lib.frozen_of_heap hb6 i
   obtain⟨_,_,r4,r5,_⟩:=aP hb6
   obtain⟨w5,hw5⟩:∃w5,w4.setCell ⟨w.heap.size,2,none⟩ (.slice ra rm rc)=w5:=⟨_,rfl⟩
   have HB5:=hid (show w5.heap[w.heap.size]?=some (.cells ((It.cells ⟨x.g,x.n,aO qs bP,x.v⟩ (.slice ra rm rc) (.slice la x.v.ps.length lc))).toArray 38 (0,0)) by rw[←hw5];exact qY hb6)
   have f5:=fun i=>Lib.frozen_of_heap HB5.out i
   obtain⟨_,_,_,r6,_⟩:=aP HB5.out
   obtain⟨w7,hw7⟩:∃w7,w5.setCell ⟨w.heap.size,3,none⟩ (.int .i64 4)=w7:=⟨_,rfl⟩
   have HB7:=hid (show w7.heap[w.heap.size]?=some (.cells ((It.cells ⟨x.g,x.n,aO qs bP,⟨4,x.v.tx,x.v.ps,x.v.st,x.v.n⟩⟩ (.slice ra rm rc) (.slice la x.v.ps.length lc))).toArray 38 (0,0)) by rw[←hw7];exact aaX HB5.out)
   have HBX7:=hid (show w7.heap[w.heap.size+1]?=some (.cells (zIt.cells (.slice none 0 0) (.slice none 0 0)).toArray 38 (0,0)) by rw[←hw7,←hw5,Below.heap_setCell _ _ _ _ (by simp only;omega),Below.heap_setCell _ _ _ _ (by simp only;omega)];exact aB HBX3.out g4)
   have G7:=hid (show G w w7 by rw[←hw7,←hw5];exact jU (jU (G3.out.trans g4) (Nat.le_refl _)) (Nat.le_refl _))
   have IT7:=hid (show dG (Wl (w.heap.size::(w.heap.size+1)::L) w7) ⟨x.g,x.n,aO qs bP,⟨4,x.v.tx,x.v.ps,x.v.st,x.v.n⟩⟩ (.slice ra rm rc) (.slice la x.v.ps.length lc) by
    rw[←hw7,←hw5,Wl.setm (by simp),Wl.setm (by simp)]
    have h8:=(IT3.out.wo g4).ps HD8.out
    exact⟨h8.p,h8.l,h8.f,h8.y,⟨by show(-9223372036854775808:Int)≤4;decide,by show(4:Int)≤9223372036854775807;decide⟩⟩)
   clear hru hb6 g4 q0 q1 q2 q3 q4 q5 q6 q7 q8 q9 q10 q11 q12 q13 q14
   obtain⟨q0,q1,q2,q3,q4,q5,q6,q7,q8,q9,q10,q11,q12,q13,q14⟩:=aP HB7.out
   obtain⟨c0,c1,c2,c3,c4,c5,c6,c7,c8,c9,c10,c11,c12,c13,c14⟩:=aP HBX7.out
   have fz:=fun i=>Lib.frozen_of_heap HBX7.out i
   go_wp2_with fail
   generalize hWF:World.setCell (World.setCell (World.setCell (World.setCell (World.setCell (World.setCell (World.setCell (World.setCell (World.setCell (World.setCell (World.setCell (World.setCell (World.setCell (World.setCell (World.setCell w7 _ _) _ _) _ _) _ _) _ _) _ _) _ _) _ _) _ _) _ _) _ _) _ _) _ _) _ _) _ _=WF
   have hrow:WF.heap[w.heap.size+1]?=some (.cells ((It.cells ⟨x.g,x.n,aO qs bP,⟨4,x.v.tx,x.v.ps,x.v.st,x.v.n⟩⟩ (.slice ra rm rc) (.slice la x.v.ps.length lc))).toArray 38 (0,0)):=by
    rw[←hWF]
    exact je HBX7.out rfl _ _ _ _ _ _ _ _ _ _ _ _ _ _ _
   have hgf:G w WF:=by rw[←hWF];exact lY (by omega) G7.out _ _ _ _ _ _ _ _ _ _ _ _ _ _ _
   have hok:dG (Wl L WF) ⟨x.g,x.n,aO qs bP,⟨4,x.v.tx,x.v.ps,x.v.st,x.v.n⟩⟩ (.slice ra rm rc) (.slice la x.v.ps.length lc):=dG.sub (by rw[←hWF,jL (by simp)];exact IT7.out) ((Wl.tail w.heap.size _ WF).trans (Wl.tail (w.heap.size+1) L WF))
   exact lq rfl rfl rfl rfl hrow ⟨_,rfl,ItB.of HY0.out hok,hgf⟩
  |false=>
   obtain⟨q0,q1,q2,q3,q4,q5,q6,q7,q8,q9,q10,q11,q12,q13,q14⟩:=aP HB3.out
   go_wp2_with fail
   clear q0 q1 q2 q3 q4 q5 q6 q7 q8 q9 q10 q11 q12 q13 q14 hty ty
   refine wp_region_any (by kernel_rfl) ?_
   refine jQ (E:=#[false,false,false,false,false,false,false,false,false,false,false]) G 6 (XJ (w.heap.size::(w.heap.size+1)::L) w.heap.size qs x.v.ty (.slice ua um uc)) [some [],some [(0,80)],some [(1,81)],some [],some [(3,83)],some [(4,84)],none,none,none,none,none] [(0,80),(1,81),(2,82),(3,83),(4,84),(5,85)] _ (by kernel_rfl) (by decide) (by kernel_rfl) (by kernel_rfl) rfl G.refl (fun _ _ _=>G.trans) (w0:=w6) ((G.refl w6).drew) ?_ ?_ ?_
   ·intro k v W W' g h
    match k,h with
    |0,h=>exact h
    |1,h=>exact h
    |2,h=>exact PmR.wo h g
    |3,h=>exact h
    |4,h=>exact h
    |5,h=>exact h
    |n+6,h=>trivial
   ·refine bi (fun vals W g d=>?_)<|bi (fun vals W g d=>?_)<|bi (fun vals W g d=>?_)<|bi (fun vals W g d=>?_)<|bi (fun vals W g d=>?_)<|bi (fun vals W g d=>?_)<|eY<|eY<|eY<|eY<|eY oD
    ·refine bI rfl rfl rfl fun K hK=>?_
     simp only[gFr]at hK⊢
     go_simp
     exact hK _ _ (G.refl _) rfl
    ·obtain⟨d0,_⟩:=d
     change vals 0=_ at d0
     refine bI rfl rfl rfl fun K hK=>?_
     simp only[gFr,d0]at hK⊢
     obtain⟨q0,q1,q2,q3,_⟩:=aP (aB HB3.out g)
     go_simp
     exact hK _ _ (G.refl _) rfl
    ·obtain⟨d1,_⟩:=d
     change vals 1=_ at d1
     refine bI rfl rfl rfl fun K hK=>?_
     simp only[gFr,d1]at hK⊢
     go_simp
     refine(WO.out W g).use ?_
     intro r W' hr hg
     exact hK _ _ hg hr
    ·refine bI rfl rfl rfl fun K hK=>?_
     simp only[gFr]at hK⊢
     go_simp
     exact hK _ _ (G.refl _) rfl
    ·obtain⟨d3,_⟩:=d
     change vals 3=_ at d3
     refine bI rfl rfl rfl fun K hK=>?_
     simp only[gFr,d3]at hK⊢
     go_simp
     exact hK _ _ (G.refl _) rfl
    ·obtain⟨d4,_⟩:=d
     change vals 4=_ at d4
     refine bI rfl rfl rfl fun K hK=>?_
     simp only[gFr,d4]at hK⊢
     obtain⟨q0,q1,q2,q3,_⟩:=aP (aB HB3.out g)
     go_simp
     exact hK _ _ (G.refl _) rfl
   ·intro vals W g d
    simp only[jf,jH]at d
    obtain⟨d0,d1,d2,d3,d4,d5,_⟩:=d
    change vals 0=_ at d0
    change vals 1=_ at d1
    change vals 3=_ at d3
    change vals 4=_ at d4
    change vals 5=_ at d5
    change PmR (Wl (w.heap.size::(w.heap.size+1)::L) W) (vals 2) (aO qs bP)at d2
    obtain⟨sa,sm,sc,e2⟩:=PmR.sl d2
    rw[e2]at d2
    have HD2:=hid d2
    have HB4:=hid (aB HB3.out g)
    have HBX4:=hid (aB HBX3.out g)
    have GW:=hid (G3.out.trans g)
    have HG4:=hid g
    refine⟨?_⟩
    show wpList _ _ _ [_,_,_,_,_] _ _
    simp only[gFr,d0,d1,d3,d4,d5,e2]
    clear d0 d1 d3 d4 d5
    clear d2 g
    go_wp2_with fail
    refine(IL x.v.ty _).use ?_
    go_wp2_with fail
    refine(WI.out _ (HG4.out.alloc _) _ _ (PmR.wo HD2.out ((G.refl W).alloc _)) (MI HL3.out HG4.out)).use ?_
    intro ru w4 hru g4
    obtain⟨ra,rm,rc,rfl⟩:=PmR.sl hru
    have HD8:=hid hru
    have hb6:=aB HB4.out (((G.refl W).alloc _).trans g4)
    have f4:=fun i=>Lib.frozen_of_heap hb6 i
    obtain⟨_,_,r4,_⟩:=aP hb6
    obtain⟨w5,hw5⟩:∃w5,w4.setCell ⟨w.heap.size,2,none⟩ (.slice ra rm rc)=w5:=⟨_,rfl⟩
    have HB5:=hid (show w5.heap[w.heap.size]?=some (.cells ((It.cells ⟨x.g,x.n,aO qs bP++[(bP,[mD x.v.ty])],x.v⟩ (.slice ra rm rc) (.slice la x.v.ps.length lc))).toArray 38 (0,0)) by rw[←hw5];exact qY hb6)
    have HBX5:=hid (show w5.heap[w.heap.size+1]?=some (.cells (zIt.cells (.slice none 0 0) (.slice none 0 0)).toArray 38 (0,0)) by rw[←hw5,Below.heap_setCell _ _ _ _ (by simp only;omega)];exact aB HBX4.out (((G.refl W).alloc _).trans g4))
    have G5:=hid (show G w w5 by rw[←hw5];exact jU (GW.out.trans (((G.refl W).alloc _).trans g4)) (Nat.le_refl _))
    have IT5:=hid (show dG (Wl (w.heap.size::(w.heap.size+1)::L) w5) ⟨x.g,x.n,aO qs bP++[(bP,[mD x.v.ty])],x.v⟩ (.slice ra rm rc) (.slice la x.v.ps.length lc) by
     rw[←hw5,Wl.setm (by simp)]
     exact((IT3.out.wo (HG4.out.trans (((G.refl W).alloc _).trans g4)))).ps HD8.out)
    have HY:=hid (show jX x=(⟨x.g,x.n,aO qs bP++[(bP,[mD x.v.ty])],x.v⟩,true) by rw[HR.out,if_neg (of_decide_eq_false HBU.out.symm),HQS.out];rfl)
    clear hru hb6 g4
    obtain⟨q0,q1,q2,q3,q4,q5,q6,q7,q8,q9,q10,q11,q12,q13,q14⟩:=aP HB5.out
    obtain⟨c0,c1,c2,c3,c4,c5,c6,c7,c8,c9,c10,c11,c12,c13,c14⟩:=aP HBX5.out
    have fz:=fun i=>Lib.frozen_of_heap HBX5.out i
    go_wp2_with fail
    generalize hWF:World.setCell (World.setCell (World.setCell (World.setCell (World.setCell (World.setCell (World.setCell (World.setCell (World.setCell (World.setCell (World.setCell (World.setCell (World.setCell (World.setCell (World.setCell w5 _ _) _ _) _ _) _ _) _ _) _ _) _ _) _ _) _ _) _ _) _ _) _ _) _ _) _ _) _ _=WF
    have hrow:WF.heap[w.heap.size+1]?=some (.cells ((It.cells ⟨x.g,x.n,aO qs bP++[(bP,[mD x.v.ty])],x.v⟩ (.slice ra rm rc) (.slice la x.v.ps.length lc))).toArray 38 (0,0)):=by
     rw[←hWF]
     exact je HBX5.out rfl _ _ _ _ _ _ _ _ _ _ _ _ _ _ _
    have hgf:G w WF:=by rw[←hWF];exact lY (by omega) G5.out _ _ _ _ _ _ _ _ _ _ _ _ _ _ _
    have hok:dG (Wl L WF) ⟨x.g,x.n,aO qs bP++[(bP,[mD x.v.ty])],x.v⟩ (.slice ra rm rc) (.slice la x.v.ps.length lc):=dG.sub (by rw[←hWF,jL (by simp)];exact IT5.out) ((Wl.tail w.heap.size _ WF).trans (Wl.tail (w.heap.size+1) L WF))
    exact lq rfl rfl rfl rfl hrow ⟨_,rfl,ItB.of HY.out hok,hgf⟩
end Go.Proofs.YtmffejnigppbpaaGreatDoor
