/-
 CONTRACT of convert.one, at names that the new version does not know. (written by gen_convold.py)
-/
import Derived.Test.YtmffejnigppbpaaGreatDoorCXMA65
import Derived.Test.YtmffejnigppbpaaGreatDoorCXMVeil
set_option linter.unusedVariables false
set_option linter.unusedSimpArgs false
set_option maxHeartbeats 32000000
set_option maxRecDepth 100000
namespace Go.Proofs.YtmffejnigppbpaaGreatDoor
open Go.RowKit
theorem XL{x:It}(h:sH (bU x.n)=true):jX x=(nC (bU x.n) ⟨x.g,x.n,bG x.ps,x.v⟩,decide (x.v.ty=1∨x.v.ty=8)):=by
 have hb:DI (bU x.n)=false:=by
  unfold sH at h
  simp only[Bool.or_eq_true,beq_iff_eq]at h
  rcases h with((((h|h)|h)|h)|h)|h<;>(rw[h];decide)
 unfold jX;simp only
 rw[if_neg (by rw[hb];decide),if_pos h]
theorem ItR.wo{w w':World}{L:List Nat}{v:Value}{y:It}(h:ItR (Wl L w) v y)(g:G w w'):ItR (Wl L w') v y:=by
 obtain⟨pv,lv,e,ho⟩:=h
 exact⟨pv,lv,e,ho.wo g⟩
theorem ItR.turn{w y z:World}{bx:Nat}{L:List Nat}{v:Value}{q:It}(g:Wl L z=Wl L y∧(G w y→G w z)∧z.heap[bx]?=y.heap[bx]?)(h:ItR (Wl L y) v q):ItR (Wl L z) v q:=by rw[g.1];exact h
theorem Ae{W:World}{X k:Nat}(h:k≠X)(a0 a1 a2 a3 a4 a5 a6 a7 a8 a9 a10 a11 a12 a13 a14:Value):(((((((((((((((W.setCell ⟨X,0,none⟩ a0).setCell ⟨X,1,none⟩ a1).setCell ⟨X,2,none⟩ a2).setCell ⟨X,3,none⟩ a3).setCell ⟨X,4,none⟩ a4).setCell ⟨X,5,none⟩ a5).setCell ⟨X,6,none⟩ a6).setCell ⟨X,7,none⟩ a7).setCell ⟨X,8,none⟩ a8).setCell ⟨X,9,none⟩ a9).setCell ⟨X,10,none⟩ a10).setCell ⟨X,11,none⟩ a11).setCell ⟨X,12,none⟩ a12).setCell ⟨X,13,none⟩ a13).setCell ⟨X,14,none⟩ a14).heap[k]?=W.heap[k]?:=by
 rw[Below.heap_setCell _ _ _ _ h,Below.heap_setCell _ _ _ _ h,Below.heap_setCell _ _ _ _ h,Below.heap_setCell _ _ _ _ h,Below.heap_setCell _ _ _ _ h,Below.heap_setCell _ _ _ _ h,Below.heap_setCell _ _ _ _ h,Below.heap_setCell _ _ _ _ h,Below.heap_setCell _ _ _ _ h,Below.heap_setCell _ _ _ _ h,Below.heap_setCell _ _ _ _ h,Below.heap_setCell _ _ _ _ h,Below.heap_setCell _ _ _ _ h,Below.heap_setCell _ _ _ _ h,Below.heap_setCell _ _ _ _ h]
structure Bi(w:World)(bx:Nat)(L:List Nat)(y:It)(cs:List Value)(b:Bool)(W0 W:World):Prop where
 g:G w W
 b0:W.heap[bx]?=some (.cells cs.toArray 38 (0,0))
 f:b=false→G W0 W
 z:b=false→W.heap[bx+1]?=some (.cells (zIt.cells (.slice none 0 0) (.slice none 0 0)).toArray 38 (0,0))
 t:b=true→∃pv lv,W.heap[bx+1]?=some (.cells (y.cells pv lv).toArray 38 (0,0))∧dG (Wl L W) y pv lv
def UT(w:World)(bx:Nat)(L:List Nat)(y z:World):Prop:=Wl L z=Wl L y∧(G w y→G w z)∧z.heap[bx]?=y.heap[bx]?
theorem Bi.grow{w:World}{bx:Nat}{L:List Nat}{y:It}{cs:List Value}{b:Bool}{W0 W W':World}(h:Bi w bx L y cs b W0 W)(g:G W W'):Bi w bx L y cs b W0 W':=
 ⟨h.g.trans g,aB h.b0 g,fun e=>(h.f e).trans g,fun e=>aB (h.z e) g,fun e=>by obtain⟨pv,lv,h1,h2⟩:=h.t e;exact⟨pv,lv,aB h1 g,h2.wo g⟩⟩
theorem Bi.turn{w:World}{bx:Nat}{L:List Nat}{y:It}{cs:List Value}{W0 W W':World}(h:Bi w bx L y cs false W0 W)(g:UT w bx L W W')(t:∃pv lv,W'.heap[bx+1]?=some (.cells (y.cells pv lv).toArray 38 (0,0))∧dG (Wl L W') y pv lv):Bi w bx L y cs true W0 W':=
 ⟨g.2.1 h.g,g.2.2.trans h.b0,fun e=>(by cases e),fun e=>(by cases e),fun _=>t⟩
def ZA(L:List Nat)(bx:Nat)(u:List UInt8)(x:It)(pv lv:Value)(bv:Bool)(b:Bool)(k:Nat)(v:Value)(W:World):Prop:=
 match k with
 |0=>v=.string (S u)
 |1=>v=x.val pv lv
 |2=>ItR (Wl L W) v (nC u x)
 |3=>v=.pointer (some ⟨bx,3,none⟩)
 |4=>v=.pointer (some ⟨bx,3,none⟩)
 |5=>v=.int .i64 x.v.ty
 |6=>v=.bool true
 |7=>v=.bool true
 |8=>v=undef
 |9=>v=undef
 |10=>v=undef
 |11=>v=undef
 |12=>v=.bool bv
 |13=>b=true∧∃pv lv,W.heap[bx+1]?=some (.cells (It.cells (nC u x) pv lv).toArray 38 (0,0))∧dG (Wl L W) (nC u x) pv lv
 |14=>v=.bool bv
 |_=>True
def ZB(L:List Nat)(bx:Nat)(u:List UInt8)(x:It)(pv lv:Value)(bv:Bool)(b:Bool)(k:Nat)(v:Value)(W:World):Prop:=
 match k with
 |0=>v=.string (S u)
 |1=>v=x.val pv lv
 |2=>ItR (Wl L W) v (nC u x)
 |3=>v=.pointer (some ⟨bx,3,none⟩)
 |4=>v=.pointer (some ⟨bx,3,none⟩)
 |5=>v=.int .i64 x.v.ty
 |6=>v=.bool false
 |7=>v=.bool false
 |8=>v=.pointer (some ⟨bx,3,none⟩)
 |9=>v=.pointer (some ⟨bx,3,none⟩)
 |10=>v=.int .i64 x.v.ty
 |11=>v=.bool bv
 |12=>v=.bool bv
 |13=>b=true∧∃pv lv,W.heap[bx+1]?=some (.cells (It.cells (nC u x) pv lv).toArray 38 (0,0))∧dG (Wl L W) (nC u x) pv lv
 |14=>v=.bool bv
 |_=>True
theorem ZC(L:List Nat)(x:It)(pv lv:Value)(w:World)(hX:∀X∈L,X<w.heap.size)(h:dG (Wl L w) x pv lv)(hs:Sml x)(hs2:Sml ⟨x.g,x.n,bG x.ps,x.v⟩)(hne:∀p∈bG x.ps,p.2≠[])(hup:sH (bU x.n)=true):dP 51 #[x.val pv lv] w (fun r w'=>ItB (Wl L w') r (jX x)):=by
 have HIT:=hid h
 have HS2:=hid hs2
 have HNE:=hid hne
 have hpc:=jy hs
 obtain⟨pa,pc,rfl⟩:=h.un.pv
 obtain⟨la,lc,rfl⟩:=h.un.lv
 have hXL:∀W:World,w.heap.size+1<W.heap.size→∀X∈(w.heap.size::(w.heap.size+1)::L),X<W.heap.size:=fun W h1 X hx=>by
  rcases List.mem_cons.1 hx with rfl|hx
  ·omega
  rcases List.mem_cons.1 hx with rfl|hx
  ·exact h1
  ·have:=hX X hx;omega
 have HXL:=hid hXL
 have hnl:x.n.length≤1000000:=by have:=hs.bounds.2.1;omega
 have UP:=hid (fun W=>kV x.n W (by omega))
 have PF:=hid (fun W (h1:w.heap.size+1<W.heap.size) (h:PmR W (.slice pa x.ps.length pc) x.ps)=>oZ (w.heap.size::(w.heap.size+1)::L) _ x.ps W (hXL W h1) h hpc (iO hs) (mP hs))
 obtain⟨u,hu⟩:∃u,u=bU x.n:=⟨_,rfl⟩
 rw[←hu]at UP
 have HR:=hid (XL hup)
 have hXX:=hid hX
 have hul:u.length≤10000:=by rw[hu,uQ];have:=hs.bounds.2.1;omega
 rw[←hu]at hup HR
 have HUP:=hid hup
 have hsix:u=ML∨u=MM∨u=FZ∨u=U0∨u=U1∨u=dN:=by
  unfold sH at hup
  simp only[Bool.or_eq_true,beq_iff_eq]at hup
  rcases hup with((((h|h)|h)|h)|h)|h
  ·exact .inl h
  ·exact .inr (.inl h)
  ·exact .inr (.inr (.inl h))
  ·exact .inr (.inr (.inr (.inl h)))
  ·exact .inr (.inr (.inr (.inr (.inl h))))
  ·exact .inr (.inr (.inr (.inr (.inr h))))
 have HSIX:=hid hsix
 have m1:(u==[80,72,79,84,79])=false:=by rcases hsix with h|h|h|h|h|h<;>(rw[h];decide)
 have m2:(u==[76,79,71,79])=false:=by rcases hsix with h|h|h|h|h|h<;>(rw[h];decide)
 have m3:(u==[83,79,85,78,68])=false:=by rcases hsix with h|h|h|h|h|h<;>(rw[h];decide)
 have m4:(u==[75,69,89])=false:=by rcases hsix with h|h|h|h|h|h<;>(rw[h];decide)
 clear hup hsix
 have HU:=hid hu
 clear h hs hs2 hne hXL hX hu
 go_enter Tryz.func51,Tryz.ntmps51
 go_wp2_with fail
 generalize hw0:(w.alloc _).alloc _=w0
 have HB0:=hid (show w0.heap[w.heap.size]?=some (.cells (x.cells (.slice pa x.ps.length pc) (.slice la x.v.ps.length lc)).toArray 38 (0,0)) by rw[←hw0,Lib.alloc_old _ _ _ (by simp)];exact heap_alloc_new w _)
 have HX0:=hid (show w0.heap[w.heap.size+1]?=some (.cells (zIt.cells (.slice none 0 0) (.slice none 0 0)).toArray 38 (0,0)) by rw[←hw0];exact pz _ _ _)
 have G0:=hid (show G w w0 by rw[←hw0];exact((G.refl w).alloc _).alloc _)
 clear hw0
 refine(UP.out w0).use ?_
 intro w1 g1
 have HB:=hid (aB HB0.out g1)
 have HBX:=hid (aB HX0.out g1)
 have G1:=hid (G0.out.trans g1)
 clear g1
 obtain⟨_,q1,q2,_⟩:=aP HB.out
 go_wp2_with fail
 refine(PF.out w1 (dn HBX.out) (HIT.out.un.pm.grow G1.out)).use ?_
 intro pu w2 hpu g2
 obtain⟨ua,um,uc,rfl⟩:=hpu.sl
 have hb2:=aB HB.out g2
 have f2:=fun i=>Lib.frozen_of_heap hb2 i
 obtain⟨_,_,r2,_⟩:=aP hb2
 obtain⟨w3,hw3⟩:∃w3,w2.setCell ⟨w.heap.size,2,none⟩ (.slice ua um uc)=w3:=⟨_,rfl⟩
 have HB3:=hid (show w3.heap[w.heap.size]?=some (.cells ((It.cells ⟨x.g,x.n,bG x.ps,x.v⟩ (.slice ua um uc) (.slice la x.v.ps.length lc))).toArray 38 (0,0)) by rw[←hw3];exact qY hb2)
 have HBX3:=hid (show w3.heap[w.heap.size+1]?=some (.cells (zIt.cells (.slice none 0 0) (.slice none 0 0)).toArray 38 (0,0)) by rw[←hw3,Below.heap_setCell _ _ _ _ (by simp only;omega)];exact aB HBX.out g2)
 have G3:=hid (show G w w3 by rw[←hw3];exact jU (G1.out.trans g2) (Nat.le_refl _))
 have IT3:=hid (show dG (Wl (w.heap.size::(w.heap.size+1)::L) w3) ⟨x.g,x.n,bG x.ps,x.v⟩ (.slice ua um uc) (.slice la x.v.ps.length lc) by
  rw[←hw3,Wl.setm (by simp)]
  have h0:dG (Wl (w.heap.size::(w.heap.size+1)::L) w2) x (.slice pa x.ps.length pc) (.slice la x.v.ps.length lc):=HIT.out.grow (Wl.g (L:=L) (show G w (Wo (w.heap.size+1) (Wo w.heap.size w2))from Wo.of (Wo.of (G1.out.trans g2) (Nat.le_refl _)) (by omega)))
  exact h0.ps hpu)
 clear hpu hb2 q1 q2 g2
 have OT:=hid (fun W (g:G w3 W)=>VS (w.heap.size::(w.heap.size+1)::L) u ⟨x.g,x.n,bG x.ps,x.v⟩ _ _ W (fun X hx=>Nat.lt_of_lt_of_le (HXL.out w3 (dn HBX3.out) X hx) g.size) (IT3.out.wo g) HS2.out hul)
 clear hul
 go_upto_if 23 with fail
 go_cut [23] from 25 to 29 (fun v wx=>v=.bool true∧w3=wx)
 case first=>
  have ways:(u==[65,71,69,78,84])=true∨((u==[65,71,69,78,84])=false∧(u==[67,76,65,83,83])=true)∨((u==[65,71,69,78,84])=false∧(u==[67,76,65,83,83])=false∧(u==[77,65,73,76,69,82])=true)∨((u==[65,71,69,78,84])=false∧(u==[67,76,65,83,83])=false∧(u==[77,65,73,76,69,82])=false∧(u==[78,65,77,69])=true)∨((u==[65,71,69,78,84])=false∧(u==[67,76,65,83,83])=false∧(u==[77,65,73,76,69,82])=false∧(u==[78,65,77,69])=false∧(u==[83,79,82,84,45,83,84,82,73,78,71])=true)∨((u==[65,71,69,78,84])=false∧(u==[67,76,65,83,83])=false∧(u==[77,65,73,76,69,82])=false∧(u==[78,65,77,69])=false∧(u==[83,79,82,84,45,83,84,82,73,78,71])=false∧(u==[76,65,66,69,76])=true):=by
   rcases HSIX.out with h|h|h|h|h|h<;>(rw[h];decide)
  rcases ways with q1|⟨q1,q2⟩|⟨q1,q2,q3⟩|⟨q1,q2,q3,q4⟩|⟨q1,q2,q3,q4,q5⟩|⟨q1,q2,q3,q4,q5,q6⟩
  all_goals
   go_wp2_with fail
  all_goals
   go_meet
   refine⟨?_,rfl⟩
   first|rfl|exact congrArg Value.bool (by assumption)|(exfalso;rename_i za zb zc zd ze;rw[q1]at za;cases za)
 case rest=>
  obtain⟨rfl,rfl⟩:=hcut
  clear m1 m2 m3 m4
  by_cases hty:x.v.ty=1
  ·have E1:=hid (show(x.v.ty==1)=true by simpa using hty)
   obtain⟨bv,hbv⟩:∃bv,bv=decide (x.v.ty=1∨x.v.ty=8):=⟨_,rfl⟩
   obtain rfl:bv=true:=by rw[hbv,decide_eq_true (.inl hty)]
   have HBV:=hid hbv
   clear hty hbv
   go_wp2_with fail
   refine wp_region_any (by kernel_rfl) ?_
   refine uZ (E:=#[false,false,false,false,false,false,false,false,false,false,false,false,false,false,false]) (Bi w w.heap.size (w.heap.size::(w.heap.size+1)::L) (nC u ⟨x.g,x.n,bG x.ps,x.v⟩) (It.cells ⟨x.g,x.n,bG x.ps,x.v⟩ (.slice ua um uc) (.slice la x.v.ps.length lc))) G (UT w w.heap.size (w.heap.size::(w.heap.size+1)::L)) 13 15 (ZA (w.heap.size::(w.heap.size+1)::L) w.heap.size u ⟨x.g,x.n,bG x.ps,x.v⟩ (.slice ua um uc) (.slice la x.v.ps.length lc) true) [some [],some [],some [(0,30),(1,31)],some [],some [(3,33)],some [(4,34)],some [(5,35)],some [(6,36)],some [(7,37)],some [(8,38),(7,37)],some [(9,39),(7,37)],some [(10,40),(7,37)],some [(7,37),(11,41)],some [(2,32),(2,32)],some [(12,42),(12,42)]] [(0,30),(1,31),(2,32),(3,33),(4,34),(5,35),(6,36),(7,37),(8,38),(9,39),(10,40),(11,41),(12,42),(14,3)] _ (by kernel_rfl) (by kernel_rfl) rfl (by decide) (by kernel_rfl) (by kernel_rfl) rfl G.refl (fun x=>⟨rfl,fun h=>h,rfl⟩) (fun b x y z h g=>h.grow g) (fun x y z v h g p=>h.turn g p.2) (w0:=w3) (⟨G3.out.drew,HB3.out,fun _=>(G.refl w3).drew,fun _=>HBX3.out,fun e=>(by cases e)⟩) ?_ ?_ ?_ ?_
   ·intro b k v W W' g h
    match k,h with
    |0,h=>exact h
    |1,h=>exact h
    |2,h=>exact ItR.wo h g
    |3,h=>exact h
    |4,h=>exact h
    |5,h=>exact h
    |6,h=>exact h
    |7,h=>exact h
    |8,h=>exact h
    |9,h=>exact h
    |10,h=>exact h
    |11,h=>exact h
    |12,h=>exact h
    |13,h=>exact by obtain⟨e,pv,lv,h1,h2⟩:=h;exact⟨e,pv,lv,aB h1 g,h2.wo g⟩
    |14,h=>exact h
    |n+15,h=>trivial
   ·intro k v W W' g h
    match k,h with
    |0,h=>exact h
    |1,h=>exact h
    |2,h=>exact ItR.turn g h
    |3,h=>exact h
    |4,h=>exact h
    |5,h=>exact h
    |6,h=>exact h
    |7,h=>exact h
    |8,h=>exact h
    |9,h=>exact h
    |10,h=>exact h
    |11,h=>exact h
    |12,h=>exact h
    |13,h=>exact by obtain⟨e,_⟩:=h;cases e
    |14,h=>exact h
    |n+15,h=>trivial
   ·refine fF (by decide) (by kernel_rfl) (fun vals W g d=>?_)<|fF (by decide) (by kernel_rfl) (fun vals W g d=>?_)<|fF (by decide) (by kernel_rfl) (fun vals W g d=>?_)<|fF (by decide) (by kernel_rfl) (fun vals W g d=>?_)<|fF (by decide) (by kernel_rfl) (fun vals W g d=>?_)<|fF (by decide) (by kernel_rfl) (fun vals W g d=>?_)<|fF (by decide) (by kernel_rfl) (fun vals W g d=>?_)<|fF (by decide) (by kernel_rfl) (fun vals W g d=>?_)<|jI (by decide) (fun b vals W g d=>?_)<|jI (by decide) (fun b vals W g d=>?_)<|jI (by decide) (fun b vals W g d=>?_)<|jI (by decide) (fun b vals W g d=>?_)<|jI (by decide) (fun b vals W g d=>?_)<|AQ rfl (fun vals W g d=>?_)<|jI (by decide) (fun b vals W g d=>?_) Ei
    ·refine bI rfl rfl rfl fun K hK=>?_
     simp only[gFr]at hK⊢
     go_simp
     exact hK _ _ (G.refl _) rfl
    ·refine bI rfl rfl rfl fun K hK=>?_
     simp only[gFr]at hK⊢
     obtain⟨q0,q1,q2,q3,q4,q5,q6,q7,q8,q9,q10,q11,q12,q13,q14⟩:=aP g.b0
     go_simp
     exact hK _ _ (G.refl _) rfl
    ·obtain⟨d0,d1,_⟩:=d
     change vals 0=_ at d0
     change vals 1=_ at d1
     refine bI rfl rfl rfl fun K hK=>?_
     simp only[gFr,d0,d1]at hK⊢
     go_simp
     refine(OT.out W (g.f rfl)).use ?_
     intro r W' hr hg
     exact hK _ _ hg hr
    ·refine bI rfl rfl rfl fun K hK=>?_
     simp only[gFr]at hK⊢
     go_simp
     exact hK _ _ (G.refl _) rfl
    ·obtain⟨d3,_⟩:=d
     change vals 3=_ at d3
     refine bI rfl rfl rfl fun K hK=>?_
     simp only[gFr,d3]at hK⊢
     go_simp
     exact hK _ _ (G.refl _) rfl
    ·obtain⟨d4,_⟩:=d
     change vals 4=_ at d4
     refine bI rfl rfl rfl fun K hK=>?_
     simp only[gFr,d4]at hK⊢
     obtain⟨q0,q1,q2,q3,q4,q5,q6,q7,q8,q9,q10,q11,q12,q13,q14⟩:=aP g.b0
     go_simp
     exact hK _ _ (G.refl _) rfl
    ·obtain⟨d5,_⟩:=d
     change vals 5=_ at d5
     refine bI rfl rfl rfl fun K hK=>?_
     simp only[gFr,d5]at hK⊢
     have e1:=E1.out
     go_simp
     exact hK _ _ (G.refl _) rfl
    ·obtain⟨d6,_⟩:=d
     change vals 6=_ at d6
     refine bI rfl rfl rfl fun K hK=>?_
     simp only[gFr,d6]at hK⊢
     go_simp
     exact hK _ _ (G.refl _) rfl
    ·obtain⟨d7,_⟩:=d
     change vals 7=_ at d7
     exact Dp (t:=38) (g:=7) (tg:=37) d7 (F9 (by decide)) rfl rfl (by decide) (by decide) rfl rfl rfl rfl
    ·obtain⟨d8,d7,_⟩:=d
     change vals 8=_ at d8
     change vals 7=_ at d7
     exact Dp (t:=39) (g:=7) (tg:=37) d7 (F9 (by decide)) rfl rfl (by decide) (by decide) rfl rfl rfl rfl
    ·obtain⟨d9,d7,_⟩:=d
     change vals 9=_ at d9
     change vals 7=_ at d7
     exact Dp (t:=40) (g:=7) (tg:=37) d7 (F9 (by decide)) rfl rfl (by decide) (by decide) rfl rfl rfl rfl
    ·obtain⟨d10,d7,_⟩:=d
     change vals 10=_ at d10
     change vals 7=_ at d7
     exact Dp (t:=41) (g:=7) (tg:=37) d7 (F9 (by decide)) rfl rfl (by decide) (by decide) rfl rfl rfl rfl
    ·obtain⟨d7,d11,_⟩:=d
     change vals 7=_ at d7
     change vals 11=_ at d11
     refine bI rfl rfl rfl fun K hK=>?_
     simp only[gFr,d7,d11]at hK⊢
     go_simp
     exact hK _ _ (G.refl _) rfl
    ·obtain⟨d2,_,_⟩:=d
     refine Ey rfl rfl fun K hK=>?_
     obtain⟨pv2,lv2,e2,hok2⟩:=d2
     obtain⟨pa4,pc4,rfl⟩:=hok2.un.pv
     obtain⟨la4,lc4,rfl⟩:=hok2.un.lv
     generalize hy:nC u ⟨x.g,x.n,bG x.ps,x.v⟩=y at e2 hok2
     simp only[gFr,e2]at hK⊢
     have hz:=g.z rfl
     obtain⟨c0,c1,c2,c3,c4,c5,c6,c7,c8,c9,c10,c11,c12,c13,c14⟩:=aP hz
     have fz:=fun i=>Lib.frozen_of_heap hz i
     go_simp
     subst hy
     refine hK _ ⟨jL (by simp) _ _ _ _ _ _ _ _ _ _ _ _ _ _ _,fun h=>lY (by omega) h _ _ _ _ _ _ _ _ _ _ _ _ _ _ _,Ae (by omega) _ _ _ _ _ _ _ _ _ _ _ _ _ _ _⟩ ⟨rfl,_,_,je hz rfl _ _ _ _ _ _ _ _ _ _ _ _ _ _ _,?_⟩
     rw[jL (by simp)]
     exact hok2
    ·obtain⟨d12,_,_⟩:=d
     change vals 12=_ at d12
     refine bI rfl rfl rfl fun K hK=>?_
     simp only[gFr,d12]at hK⊢
     go_simp
     exact hK _ _ (G.refl _) rfl
   ·intro vals W g d
    simp only[jf,jH]at d
    obtain⟨d0,d1,d2,d3,d4,d5,d6,d7,d8,d9,d10,d11,d12,d14,_⟩:=d
    change vals 0=_ at d0
    change vals 1=_ at d1
    change vals 3=_ at d3
    change vals 4=_ at d4
    change vals 5=_ at d5
    change vals 6=_ at d6
    change vals 7=_ at d7
    change vals 8=_ at d8
    change vals 9=_ at d9
    change vals 10=_ at d10
    change vals 11=_ at d11
    change vals 12=_ at d12
    change vals 14=_ at d14
    have HGT:=hid g
    refine⟨?_⟩
    show wpList _ _ _ [] _ _
    simp only[gFr,d0,d1,d3,d4,d5,d6,d7,d8,d9,d10,d11,d12,d14]
    clear d0 d1 d3 d4 d5 d6 d7 d8 d9 d10 d11 d12 d14
    obtain⟨pv5,lv5,hrow,hok⟩:=HGT.out.t rfl
    obtain⟨y,hy⟩:∃y,y=nC u ⟨x.g,x.n,bG x.ps,x.v⟩:=⟨_,rfl⟩
    rw[←hy]at hrow hok
    have HY:=hid (show jX x=(y,true) by rw[HR.out,hy,HBV.out])
    have hgf:=HGT.out.g
    have hok2:dG (Wl L W) y pv5 lv5:=dG.sub hok ((Wl.tail w.heap.size _ W).trans (Wl.tail (w.heap.size+1) L W))
    clear hy HGT
    go_wp2_with fail
    refine lq (X:=w.heap.size+1) (s:=2) (t:=3) (bv:=true) rfl ?_ ?_ ?_ hrow ⟨_,rfl,ItB.of HY.out hok2,hgf⟩
    ·simp[Act.put]
    ·simp[Act.put]
    ·simp[Act.put]
  ·have E1:=hid (show(x.v.ty==1)=false by simpa using hty)
   obtain⟨bv,hbv⟩:∃bv,bv=decide (x.v.ty=1∨x.v.ty=8):=⟨_,rfl⟩
   have E2:=hid (show(x.v.ty==8)=bv by rw[hbv];by_cases h8:x.v.ty=8<;>simp[hty,h8])
   have HBV:=hid hbv
   clear hty hbv
   go_wp2_with fail
   refine wp_region_any (by kernel_rfl) ?_
   refine uZ (E:=#[false,false,false,false,false,false,false,false,false,false,false,false,false,false,false]) (Bi w w.heap.size (w.heap.size::(w.heap.size+1)::L) (nC u ⟨x.g,x.n,bG x.ps,x.v⟩) (It.cells ⟨x.g,x.n,bG x.ps,x.v⟩ (.slice ua um uc) (.slice la x.v.ps.length lc))) G (UT w w.heap.size (w.heap.size::(w.heap.size+1)::L)) 13 15 (ZB (w.heap.size::(w.heap.size+1)::L) w.heap.size u ⟨x.g,x.n,bG x.ps,x.v⟩ (.slice ua um uc) (.slice la x.v.ps.length lc) bv) [some [],some [],some [(0,30),(1,31)],some [],some [(3,33)],some [(4,34)],some [(5,35)],some [(6,36)],some [(7,37)],some [(8,38),(7,37)],some [(9,39),(7,37)],some [(10,40),(7,37)],some [(7,37),(11,41)],some [(2,32),(2,32)],some [(12,42),(12,42)]] [(0,30),(1,31),(2,32),(3,33),(4,34),(5,35),(6,36),(7,37),(8,38),(9,39),(10,40),(11,41),(12,42),(14,3)] _ (by kernel_rfl) (by kernel_rfl) rfl (by decide) (by kernel_rfl) (by kernel_rfl) rfl G.refl (fun x=>⟨rfl,fun h=>h,rfl⟩) (fun b x y z h g=>h.grow g) (fun x y z v h g p=>h.turn g p.2) (w0:=w3) (⟨G3.out.drew,HB3.out,fun _=>(G.refl w3).drew,fun _=>HBX3.out,fun e=>(by cases e)⟩) ?_ ?_ ?_ ?_
   ·intro b k v W W' g h
    match k,h with
    |0,h=>exact h
    |1,h=>exact h
    |2,h=>exact ItR.wo h g
    |3,h=>exact h
    |4,h=>exact h
    |5,h=>exact h
    |6,h=>exact h
    |7,h=>exact h
    |8,h=>exact h
    |9,h=>exact h
    |10,h=>exact h
    |11,h=>exact h
    |12,h=>exact h
    |13,h=>exact by obtain⟨e,pv,lv,h1,h2⟩:=h;exact⟨e,pv,lv,aB h1 g,h2.wo g⟩
    |14,h=>exact h
    |n+15,h=>trivial
   ·intro k v W W' g h
    match k,h with
    |0,h=>exact h
    |1,h=>exact h
    |2,h=>exact ItR.turn g h
    |3,h=>exact h
    |4,h=>exact h
    |5,h=>exact h
    |6,h=>exact h
    |7,h=>exact h
    |8,h=>exact h
    |9,h=>exact h
    |10,h=>exact h
    |11,h=>exact h
    |12,h=>exact h
    |13,h=>exact by obtain⟨e,_⟩:=h;cases e
    |14,h=>exact h
    |n+15,h=>trivial
   ·refine fF (by decide) (by kernel_rfl) (fun vals W g d=>?_)<|fF (by decide) (by kernel_rfl) (fun vals W g d=>?_)<|fF (by decide) (by kernel_rfl) (fun vals W g d=>?_)<|fF (by decide) (by kernel_rfl) (fun vals W g d=>?_)<|fF (by decide) (by kernel_rfl) (fun vals W g d=>?_)<|fF (by decide) (by kernel_rfl) (fun vals W g d=>?_)<|fF (by decide) (by kernel_rfl) (fun vals W g d=>?_)<|fF (by decide) (by kernel_rfl) (fun vals W g d=>?_)<|jI (by decide) (fun b vals W g d=>?_)<|jI (by decide) (fun b vals W g d=>?_)<|jI (by decide) (fun b vals W g d=>?_)<|jI (by decide) (fun b vals W g d=>?_)<|jI (by decide) (fun b vals W g d=>?_)<|AQ rfl (fun vals W g d=>?_)<|jI (by decide) (fun b vals W g d=>?_) Ei
    ·refine bI rfl rfl rfl fun K hK=>?_
     simp only[gFr]at hK⊢
     go_simp
     exact hK _ _ (G.refl _) rfl
    ·refine bI rfl rfl rfl fun K hK=>?_
     simp only[gFr]at hK⊢
     obtain⟨q0,q1,q2,q3,q4,q5,q6,q7,q8,q9,q10,q11,q12,q13,q14⟩:=aP g.b0
     go_simp
     exact hK _ _ (G.refl _) rfl
    ·obtain⟨d0,d1,_⟩:=d
     change vals 0=_ at d0
     change vals 1=_ at d1
     refine bI rfl rfl rfl fun K hK=>?_
     simp only[gFr,d0,d1]at hK⊢
     go_simp
     refine(OT.out W (g.f rfl)).use ?_
     intro r W' hr hg
     exact hK _ _ hg hr
    ·refine bI rfl rfl rfl fun K hK=>?_
     simp only[gFr]at hK⊢
     go_simp
     exact hK _ _ (G.refl _) rfl
    ·obtain⟨d3,_⟩:=d
     change vals 3=_ at d3
     refine bI rfl rfl rfl fun K hK=>?_
     simp only[gFr,d3]at hK⊢
     go_simp
     exact hK _ _ (G.refl _) rfl
    ·obtain⟨d4,_⟩:=d
     change vals 4=_ at d4
     refine bI rfl rfl rfl fun K hK=>?_
     simp only[gFr,d4]at hK⊢
     obtain⟨q0,q1,q2,q3,q4,q5,q6,q7,q8,q9,q10,q11,q12,q13,q14⟩:=aP g.b0
     go_simp
     exact hK _ _ (G.refl _) rfl
    ·obtain⟨d5,_⟩:=d
     change vals 5=_ at d5
     refine bI rfl rfl rfl fun K hK=>?_
     simp only[gFr,d5]at hK⊢
     have e1:=E1.out
     go_simp
     exact hK _ _ (G.refl _) rfl
    ·obtain⟨d6,_⟩:=d
     change vals 6=_ at d6
     refine bI rfl rfl rfl fun K hK=>?_
     simp only[gFr,d6]at hK⊢
     go_simp
     exact hK _ _ (G.refl _) rfl
    ·obtain⟨d7,_⟩:=d
     change vals 7=_ at d7
     refine BH (t:=38) (g:=7) (tg:=37) rfl rfl (by decide) (by decide) rfl d7 rfl rfl fun K hK=>?_
     simp only[gFr,d7]at hK⊢
     go_simp
     exact hK _ _ (G.refl _) rfl
    ·obtain⟨d8,d7,_⟩:=d
     change vals 8=_ at d8
     change vals 7=_ at d7
     refine BH (t:=39) (g:=7) (tg:=37) rfl rfl (by decide) (by decide) rfl d7 rfl rfl fun K hK=>?_
     simp only[gFr,d8,d7]at hK⊢
     go_simp
     exact hK _ _ (G.refl _) rfl
    ·obtain⟨d9,d7,_⟩:=d
     change vals 9=_ at d9
     change vals 7=_ at d7
     refine BH (t:=40) (g:=7) (tg:=37) rfl rfl (by decide) (by decide) rfl d7 rfl rfl fun K hK=>?_
     simp only[gFr,d9,d7]at hK⊢
     obtain⟨q0,q1,q2,q3,q4,q5,q6,q7,q8,q9,q10,q11,q12,q13,q14⟩:=aP g.b0
     go_simp
     exact hK _ _ (G.refl _) rfl
    ·obtain⟨d10,d7,_⟩:=d
     change vals 10=_ at d10
     change vals 7=_ at d7
     refine BH (t:=41) (g:=7) (tg:=37) rfl rfl (by decide) (by decide) rfl d7 rfl rfl fun K hK=>?_
     simp only[gFr,d10,d7]at hK⊢
     have e2:=E2.out
     go_simp
     exact hK _ _ (G.refl _) rfl
    ·obtain⟨d7,d11,_⟩:=d
     change vals 7=_ at d7
     change vals 11=_ at d11
     refine bI rfl rfl rfl fun K hK=>?_
     simp only[gFr,d7,d11]at hK⊢
     have e2:=E2.out
     go_simp
     exact hK _ _ (G.refl _) rfl
    ·obtain⟨d2,_,_⟩:=d
     refine Ey rfl rfl fun K hK=>?_
     obtain⟨pv2,lv2,e2,hok2⟩:=d2
     obtain⟨pa4,pc4,rfl⟩:=hok2.un.pv
     obtain⟨la4,lc4,rfl⟩:=hok2.un.lv
     generalize hy:nC u ⟨x.g,x.n,bG x.ps,x.v⟩=y at e2 hok2
     simp only[gFr,e2]at hK⊢
     have hz:=g.z rfl
     obtain⟨c0,c1,c2,c3,c4,c5,c6,c7,c8,c9,c10,c11,c12,c13,c14⟩:=aP hz
     have fz:=fun i=>Lib.frozen_of_heap hz i
     go_simp
     subst hy
     refine hK _ ⟨jL (by simp) _ _ _ _ _ _ _ _ _ _ _ _ _ _ _,fun h=>lY (by omega) h _ _ _ _ _ _ _ _ _ _ _ _ _ _ _,Ae (by omega) _ _ _ _ _ _ _ _ _ _ _ _ _ _ _⟩ ⟨rfl,_,_,je hz rfl _ _ _ _ _ _ _ _ _ _ _ _ _ _ _,?_⟩
     rw[jL (by simp)]
     exact hok2
    ·obtain⟨d12,_,_⟩:=d
     change vals 12=_ at d12
     refine bI rfl rfl rfl fun K hK=>?_
     simp only[gFr,d12]at hK⊢
     go_simp
     exact hK _ _ (G.refl _) rfl
   ·intro vals W g d
    simp only[jf,jH]at d
    obtain⟨d0,d1,d2,d3,d4,d5,d6,d7,d8,d9,d10,d11,d12,d14,_⟩:=d
    change vals 0=_ at d0
    change vals 1=_ at d1
    change vals 3=_ at d3
    change vals 4=_ at d4
    change vals 5=_ at d5
    change vals 6=_ at d6
    change vals 7=_ at d7
    change vals 8=_ at d8
    change vals 9=_ at d9
    change vals 10=_ at d10
    change vals 11=_ at d11
    change vals 12=_ at d12
    change vals 14=_ at d14
    have HGT:=hid g
    refine⟨?_⟩
    show wpList _ _ _ [] _ _
    simp only[gFr,d0,d1,d3,d4,d5,d6,d7,d8,d9,d10,d11,d12,d14]
    clear d0 d1 d3 d4 d5 d6 d7 d8 d9 d10 d11 d12 d14
    obtain⟨pv5,lv5,hrow,hok⟩:=HGT.out.t rfl
    obtain⟨y,hy⟩:∃y,y=nC u ⟨x.g,x.n,bG x.ps,x.v⟩:=⟨_,rfl⟩
    rw[←hy]at hrow hok
    have HY:=hid (show jX x=(y,bv) by rw[HR.out,hy,HBV.out])
    have hgf:=HGT.out.g
    have hok2:dG (Wl L W) y pv5 lv5:=dG.sub hok ((Wl.tail w.heap.size _ W).trans (Wl.tail (w.heap.size+1) L W))
    clear hy HGT
    go_wp2_with fail
    refine lq (X:=w.heap.size+1) (s:=2) (t:=3) (bv:=bv) rfl ?_ ?_ ?_ hrow ⟨_,rfl,ItB.of HY.out hok2,hgf⟩
    ·simp[Act.put]
    ·simp[Act.put]
    ·simp[Act.put]
end Go.Proofs.YtmffejnigppbpaaGreatDoor
