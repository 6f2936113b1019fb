/-
  Texts merged into one: LabBox, ConvGeo, ConvUp.
-/
import Derived.Test.YtmffejnigppbpaaGreatDoorCXMA51
import Derived.Test.YtmffejnigppbpaaGreatDoorCXMA71
import Derived.Test.YtmffejnigppbpaaGreatDoorCXConvPlace
import Derived.Test.YtmffejnigppbpaaGreatDoorCXConvKind
import Derived.Test.YtmffejnigppbpaaGreatDoorCXMA65
import Derived.Test.YtmffejnigppbpaaGreatDoorCXMA73
import Derived.Deep.AppendLies
set_option linter.unusedVariables false
set_option linter.unusedSimpArgs false
namespace Go.Proofs.YtmffejnigppbpaaGreatDoor
open Go.RowKit
def Wb:Option Nat→World→World
 |none,w=>w
 |some D,w=>Wo D w
theorem Wb.g{a b:World}(h:G a b):∀ {o:Option Nat},G (Wb o a) (Wb o b)
 |none=>h
 |some D=>Wo.g h
theorem Wb.sub:∀(o:Option Nat) (w:World),Sub (Wb o w) w
 |none,w=>Sub.refl w
 |some D,w=>Wo.sub D w
theorem wC{L:List Nat}{w W w':World}{v:Value}{n g:Nat}{ys:List It}{ds:List Value}{x:It}{pv lv:Value}(how:kS w.heap.size W v n ds)(hir:fO (Wl L (Wb v.ownBlock W)) ys ds)(hgr:W.grownBy w' v.ownBlock)(hat:v.ownBlock=some g∨g=W.heap.size)(hok:dG (Wl L w) x pv lv)(gw:G w W):G w w'∧fO (Wl L (Wo g w')) (ys++[x]) (ds++x.cells pv lv):=by
 have g3:G w w':=Below.grown gw hgr gw.size (fun j hj=>(how.lt j hj).1)
 have hg:w.heap.size≤g:=by
  rcases hat with e|e
  ·exact(how.lt g e).1
  ·rw[e];exact gw.size
 refine⟨g3,fO.append ?_ (fO.single (hok.grow (Wl.g (Wo.of g3 hg))))⟩
 rcases hat with e|e
 ·rw[e]at hir hgr
  exact hir.grow (Wl.g (Wo.mv hgr))
 ·cases ho:v.ownBlock with
  |none=>
   rw[ho]at hir hgr
   have gg:G W w':=Below.grown (G.refl W) hgr (Nat.le_refl _) (fun j hj=>by cases hj)
   exact hir.grow (Wl.g (Wo.of gg (by omega)))
  |some D=>
   rw[ho]at hir hgr
   have h1:fO (Wl L (Wo g (Wo D w'))) ys ds:=hir.grow (Wl.g (Wo.of (Wo.mv hgr) (by rw[Wo.size];omega)))
   exact h1.sub (Wl.mono (Wl.mono (L:=[g]) (Wo.sub D w')))
theorem U5{L:List Nat}{w W:World}{D n cap i:Nat}{ys:List It}{ds:List Value}{y:It}(how:kS w.heap.size W (.slice (some ⟨D,0,none⟩) n cap) n ds)(hir:fO (Wl L (Wo D W)) ys ds)(hn:ys.length=n)(hy:ys[i]?=some y) :
  ∃pv lv,dG (Wl L (Wo D W)) y pv lv∧D<W.heap.size∧w.heap.size≤D∧(∀(j:Nat) (u:Value),(y.cells pv lv)[j]?=some u→W.cell? ⟨D,i*15+j,none⟩=some u)∧(∀j,W.frozen? ⟨D,j,none⟩=false) ∧
   ∀(W':World) (ps':List Pm) (pv':Value),G W W'→PmR (Wl L (Wo D W')) pv' ps'→∃ds',kS w.heap.size (W'.setCell ⟨D,i*15+2,none⟩ pv') (.slice (some ⟨D,0,none⟩) n cap) n ds'∧fO (Wl L (Wo D (W'.setCell ⟨D,i*15+2,none⟩ pv'))) (ys.set i { y with ps:=ps' }) ds':=by
 obtain⟨pv,lv,k1,k2,_⟩:=hir.setPs hy
 have hi:=(List.getElem?_eq_some_iff.1 hy).1
 rcases how.2 with⟨e,_⟩|⟨b,c,cur,e,hb,hg,h1,h2,h3,h4⟩
 ·cases e
 ·cases e
  have hlt:=dn hg
  refine⟨pv,lv,k1,hlt,hb,fun j u hu=>?_,fun j=>Lib.frozen_of_heap hg j,fun W' ps' pv' g hps=>?_⟩
  ·have:=k2 j u hu
   rw[←h4,List.getElem?_take]at this
   split at this
   ·rw[cell_of_row W _ _ _ _ _ hg]
    simpa using this
   ·cases this
  ·obtain⟨pv3,lv3,m1,m2,m3⟩:=(hir.grow (Wl.g (L:=L) (Wo.g g))).setPs hy
   have hg2:=aB hg g
   have hs:(W'.setCell ⟨D,i*15+2,none⟩ pv').heap[D]?=some (.cells (cur.setIfInBounds (i*15+2) pv') 38 (0,0)):=by
    simp[World.setCell,Array.getElem?_modify,hg2]
   refine⟨ds.set (i*15+2) pv',⟨by rw[List.length_set];exact how.1,.inr ⟨D,cap,_,rfl,hb,hs,h1,h2,by rw[Array.size_setIfInBounds];exact h3,?_⟩⟩,?_⟩
   ·rw[Array.toList_setIfInBounds,List.take_set,h4]
   ·rw[Wo.set]
    exact m3 ps' pv' ⟨hps.p,m1.l,hps.f,m1.y,m1.t⟩
theorem Ky{α:Type}{p q:α→Bool}:∀ {l:List α},(∀a∈l,p a=q a)→l.find? p=l.find? q
 |[],_=>rfl
 |a::l,h=>by
  rw[List.find?_cons,List.find?_cons,h a List.mem_cons_self,Ky (fun b hb=>h b (List.mem_cons_of_mem _ hb))]
theorem RQ(n:List UInt8)(l:List It)(x:It):uk n (l++[x])=if dC x.n n=true then some l.length else uk n l:=by
 unfold uk
 rw[List.length_append,List.length_singleton,List.range_succ,List.reverse_append,List.reverse_singleton,List.singleton_append,List.find?_cons]
 rw[List.getElem?_append_right (Nat.le_refl _),Nat.sub_self]
 simp only[List.getElem?_cons_zero]
 split
 ·rename_i h;rw[if_pos h]
 ·rename_i h
  rw[if_neg (by rw[h];decide)]
  refine Ky fun i hi=>?_
  have hl:i<l.length:=by simpa using hi
  rw[List.getElem?_append_left hl]
theorem X8{n:List UInt8}{l:List It}{k:Nat}(h:uk n l=some k):k<l.length:=by
 unfold uk at h
 have:=List.mem_of_find?_eq_some h
 simpa using this
theorem O6{xs:List It}{k:Nat}{x:It}(h:xs[k]?=some x):dS (xs.take (k+1))=ja (dS (xs.take k)) x:=by
 unfold dS
 rw[List.take_add_one,h,List.foldl_append]
 rfl
def O7(y:It):Prop:=y.n.length≤10000∧(∀p∈y.ps,p.1.length≤1000000)∧y.ps.length≤10001∧((gZ y.ps dN).isNone=true→y.ps.length≤10000)
theorem V5(ps:List Pm)(v:List (List UInt8)):(gZ (ps++[(dN,v)]) dN).isNone=false:=by
 unfold gZ
 cases h:(ps++[(dN,v)]).findIdx? (fun p=>dC p.1 dN)with
 |some k=>rfl
 |none=>
  have:=List.findIdx?_eq_none_iff.1 h (dN,v) (by simp)
  have e:dC dN dN=true:=by decide +kernel
  simp[e]at this
theorem RS{ys:List It}{x y:It}{k:Nat}(hx:dC x.n dN=true)(ht:x.v.ty=1)(hk:uk xn ys=some k)(hy:ys[k]?=some y)(hn:(gZ y.ps dN).isNone=true):ja ys x=ys.set k { y with ps:=y.ps++[(dN,[x.v.tx])] }:=by
 unfold ja
 rw[if_pos ⟨hx,ht⟩,hk]
 simp only[hy]
 rw[if_pos hn]
theorem RV{ys:List It}{x y:It}{k:Nat}(hk:uk xn ys=some k)(hy:ys[k]?=some y)(hn:(gZ y.ps dN).isNone=false):ja ys x=ys++[x]:=by
 unfold ja
 split
 ·rw[hk]
  simp only[hy]
  rw[if_neg (by rw[hn];decide)]
 ·rfl
theorem O8{ys:List It}{x:It}(hk:uk xn ys=none):ja ys x=ys++[x]:=by
 unfold ja
 split
 ·rw[hk]
 ·rfl
theorem MW{ys:List It}{x:It}(h:¬(dC x.n dN=true∧x.v.ty=1)):ja ys x=ys++[x]:=by
 unfold ja
 rw[if_neg h]
theorem X9{ys:List It}{y:It}{k:Nat}{v:List (List UInt8)}(h:∀z∈ys,O7 z)(hy:ys[k]?=some y)(hn:(gZ y.ps dN).isNone=true):∀z∈ys.set k { y with ps:=y.ps++[(dN,v)] },O7 z:=by
 intro z hz
 rcases List.mem_or_eq_of_mem_set hz with hz|rfl
 ·exact h z hz
 ·obtain⟨h1,h2,h3,h4⟩:=h y (List.mem_of_getElem? hy)
  refine⟨h1,fun p hp=>?_,?_,fun e=>?_⟩
  ·rcases List.mem_append.1 hp with hp|hp
   ·exact h2 p hp
   ·rw[List.mem_singleton.1 hp];simp[dN]
  ·have:=h4 hn
   rw[List.length_append];simp only[List.length_singleton];omega
  ·rw[V5]at e;cases e
theorem yM{ys:List It}{x:It}(h:∀z∈ys,O7 z)(hx:O7 x):∀z∈ys++[x],O7 z:=by
 intro z hz
 rcases List.mem_append.1 hz with hz|hz
 ·exact h z hz
 ·rw[List.mem_singleton.1 hz];exact hx
end Go.Proofs.YtmffejnigppbpaaGreatDoor

set_option maxHeartbeats 8000000
set_option maxRecDepth 100000
namespace Go.Proofs.YtmffejnigppbpaaGreatDoor
open Go.RowKit
theorem XG{x:It}(h:bU x.n=QZ):jX x=rq ⟨x.g,x.n,bG x.ps,x.v⟩:=by
 unfold jX;simp only
 rw[h,if_neg (by decide),if_neg (by decide),if_pos rfl]
theorem Zw(L:List Nat)(x:It)(pv lv:Value)(w:World)(hX:∀X∈L,X<w.heap.size)(h:dG (Wl L w) x pv lv)(hs:Sml x)(hs2:Sml ⟨x.g,x.n,bG x.ps,x.v⟩)(hne:∀p∈bG x.ps,p.2≠[])(hup:bU x.n=QZ):dP 51 #[x.val pv lv] w (fun r w'=>ItB (Wl L w') r (jX x)):=by
 have HIT:=hid h
 have HS2:=hid hs2
 have HNE:=hid hne
 have hpc:=jy hs
 obtain⟨pa,pc,rfl⟩:=h.un.pv
 obtain⟨la,lc,rfl⟩:=h.un.lv
 have hXL:∀W:World,w.heap.size+1<W.heap.size→∀X∈(w.heap.size::(w.heap.size+1)::L),X<W.heap.size:=fun W h1 X hx=>by
  rcases List.mem_cons.1 hx with rfl|hx
  ·omega
  rcases List.mem_cons.1 hx with rfl|hx
  ·exact h1
  ·have:=hX X hx;omega
 have HXL:=hid hXL
 have hnl:x.n.length≤1000000:=by have:=hs.bounds.2.1;omega
 have UP:=hid (fun W=>kV x.n W (by omega))
 have PF:=hid (fun W (h1:w.heap.size+1<W.heap.size) (h:PmR W (.slice pa x.ps.length pc) x.ps)=>oZ (w.heap.size::(w.heap.size+1)::L) _ x.ps W (hXL W h1) h hpc (iO hs) (mP hs))
 obtain⟨u,hu⟩:∃u,u=bU x.n:=⟨_,rfl⟩
 rw[←hu]at UP
 have HR:=hid (XG hup)
 have hXX:=hid hX
 rw[←hu]at hup
 have m1:(u==[80,72,79,84,79])=false:=by rw[hup];decide
 have m2:(u==[76,79,71,79])=false:=by rw[hup];decide
 have m3:(u==[83,79,85,78,68])=false:=by rw[hup];decide
 have m4:(u==[75,69,89])=false:=by rw[hup];decide
 have m5:(u==[65,71,69,78,84])=false:=by rw[hup];decide
 have m6:(u==[67,76,65,83,83])=false:=by rw[hup];decide
 have m7:(u==[77,65,73,76,69,82])=false:=by rw[hup];decide
 have m8:(u==[78,65,77,69])=false:=by rw[hup];decide
 have m9:(u==[83,79,82,84,45,83,84,82,73,78,71])=false:=by rw[hup];decide
 have m10:(u==[76,65,66,69,76])=false:=by rw[hup];decide
 have m11:(u==[71,69,79])=true:=by rw[hup];decide
 clear hup
 have HU:=hid hu
 clear h hs hs2 hne hXL hX hu
 go_enter Tryz.func51,Tryz.ntmps51
 go_wp2_with fail
 generalize hw0:(w.alloc _).alloc _=w0
 have HB0:=hid (show w0.heap[w.heap.size]?=some (.cells (x.cells (.slice pa x.ps.length pc) (.slice la x.v.ps.length lc)).toArray 38 (0,0)) by rw[←hw0,Lib.alloc_old _ _ _ (by simp)];exact heap_alloc_new w _)
 have HX0:=hid (show w0.heap[w.heap.size+1]?=some (.cells (zIt.cells (.slice none 0 0) (.slice none 0 0)).toArray 38 (0,0)) by rw[←hw0];exact pz _ _ _)
 have G0:=hid (show G w w0 by rw[←hw0];exact((G.refl w).alloc _).alloc _)
 clear hw0
 refine(UP.out w0).use ?_
 intro w1 g1
 have HB:=hid (aB HB0.out g1)
 have HBX:=hid (aB HX0.out g1)
 have G1:=hid (G0.out.trans g1)
 clear g1
 obtain⟨_,q1,q2,_⟩:=aP HB.out
 go_wp2_with fail
 refine(PF.out w1 (dn HBX.out) (HIT.out.un.pm.grow G1.out)).use ?_
 intro pu w2 hpu g2
 obtain⟨ua,um,uc,rfl⟩:=hpu.sl
 have hb2:=aB HB.out g2
 have f2:=fun i=>Lib.frozen_of_heap hb2 i
 obtain⟨_,_,r2,_⟩:=aP hb2
 obtain⟨w3,hw3⟩:∃w3,w2.setCell ⟨w.heap.size,2,none⟩ (.slice ua um uc)=w3:=⟨_,rfl⟩
 have HB3:=hid (show w3.heap[w.heap.size]?=some (.cells ((It.cells ⟨x.g,x.n,bG x.ps,x.v⟩ (.slice ua um uc) (.slice la x.v.ps.length lc))).toArray 38 (0,0)) by rw[←hw3];exact qY hb2)
 have HBX3:=hid (show w3.heap[w.heap.size+1]?=some (.cells (zIt.cells (.slice none 0 0) (.slice none 0 0)).toArray 38 (0,0)) by rw[←hw3,Below.heap_setCell _ _ _ _ (by simp only;omega)];exact aB HBX.out g2)
 have G3:=hid (show G w w3 by rw[←hw3];exact jU (G1.out.trans g2) (Nat.le_refl _))
 have IT3:=hid (show dG (Wl (w.heap.size::(w.heap.size+1)::L) w3) ⟨x.g,x.n,bG x.ps,x.v⟩ (.slice ua um uc) (.slice la x.v.ps.length lc) by
  rw[←hw3,Wl.setm (by simp)]
  have h0:dG (Wl (w.heap.size::(w.heap.size+1)::L) w2) x (.slice pa x.ps.length pc) (.slice la x.v.ps.length lc):=HIT.out.grow (Wl.g (L:=L) (show G w (Wo (w.heap.size+1) (Wo w.heap.size w2))from Wo.of (Wo.of (G1.out.trans g2) (Nat.le_refl _)) (by omega)))
  exact h0.ps hpu)
 clear hpu hb2 q1 q2 g2
 have PL:=hid (JC (w.heap.size::(w.heap.size+1)::L) ⟨x.g,x.n,bG x.ps,x.v⟩ (.slice ua um uc) (.slice la x.v.ps.length lc) w3 (XI hXX.out (dn HBX3.out)) IT3.out HS2.out)
 obtain⟨q0,q1,q2,q3,q4,q5,q6,q7,q8,q9,q10,q11,q12,q13,q14⟩:=aP HB3.out
 go_wp2_with fail
 refine PL.out.use ?_
 intro r w4 hr g4
 obtain⟨pv4,lv4,rfl,ho4⟩:=hr
 obtain⟨y,hy⟩:∃y,y=rq ⟨x.g,x.n,bG x.ps,x.v⟩:=⟨_,rfl⟩
 rw[←hy]at ho4⊢
 have HY:=hid (show jX x=y by rw[HR.out,hy])
 obtain⟨pa4,pc4,rfl⟩:=ho4.un.pv
 obtain⟨la4,lc4,rfl⟩:=ho4.un.lv
 obtain⟨y,yb⟩:=y
 have HO4:=hid ho4
 have HBX4:=hid (aB HBX3.out g4)
 have G4:=hid (G3.out.trans g4)
 clear q0 q1 q2 q3 q4 q5 q6 q7 q8 q9 q10 q11 q12 q13 q14 ho4 hy g4
 simp only
 obtain⟨c0,c1,c2,c3,c4,c5,c6,c7,c8,c9,c10,c11,c12,c13,c14⟩:=aP HBX4.out
 have fz:=fun i=>Lib.frozen_of_heap HBX4.out i
 go_wp2_with fail
 generalize hWF:World.setCell (World.setCell (World.setCell (World.setCell (World.setCell (World.setCell (World.setCell (World.setCell (World.setCell (World.setCell (World.setCell (World.setCell (World.setCell (World.setCell (World.setCell w4 _ _) _ _) _ _) _ _) _ _) _ _) _ _) _ _) _ _) _ _) _ _) _ _) _ _) _ _) _ _=WF
 have hrow:WF.heap[w.heap.size+1]?=some (.cells ((It.cells y (.slice pa4 y.ps.length pc4) (.slice la4 y.v.ps.length lc4))).toArray 38 (0,0)):=by
  rw[←hWF]
  exact je HBX4.out rfl _ _ _ _ _ _ _ _ _ _ _ _ _ _ _
 have hgf:G w WF:=by rw[←hWF];exact lY (by omega) G4.out _ _ _ _ _ _ _ _ _ _ _ _ _ _ _
 have hok:dG (Wl L WF) y (.slice pa4 y.ps.length pc4) (.slice la4 y.v.ps.length lc4):=dG.sub (by rw[←hWF,jL (by simp)];exact HO4.out) ((Wl.tail w.heap.size _ WF).trans (Wl.tail (w.heap.size+1) L WF))
 exact lq rfl rfl rfl rfl hrow ⟨_,rfl,ItB.of HY.out hok,hgf⟩
end Go.Proofs.YtmffejnigppbpaaGreatDoor

set_option maxHeartbeats 16000000
set_option maxRecDepth 100000
namespace Go.Proofs.YtmffejnigppbpaaGreatDoor
open Go.RowKit
def UpR(ver:Int)(xs:List It)(r:Value)(w:World):Prop:=
 (ver=3∧∃ys u,upX xs=some ys∧r=.tuple #[gY 4 u,.nilIface]∧dX w u ys∧Frm u) ∨
 ((¬(ver=3∧∃ys,upX xs=some ys))∧∃t e,r=.tuple #[gY 0 (.slice none 0 0),.iface t e]∧∃c k,lL w (.iface t e) (some (c,k))∧c≠0∧(jq ver xs=true→ver≠3→c=6)∧(jq ver xs=true→ver=3→c=13)∧(jq ver xs=false→Be ver xs c))
structure UpS(w1 wo wr:World)(L:List Nat)(O:Nat)(ov:Value)(ys:List It)(ds:List Value):Prop where
 box:wr.heap[O]?=some (.cells #[.int .i64 4,ov] 24 (0,0))
 own:kS wo.heap.size wr ov ys.length ds
 row:fO (Wl (NJ ov++L) wr) ys ds
 g:G w1 wr
theorem UpR.no13{xs:List It}{w:World}{k:Option Nat}{t:TypeId}{e:Value}(hok:jq 3 xs=true)(hf:upX xs=none)(he:lL w (.iface t e) (some (13,k))):UpR 3 xs (.tuple #[gY 0 (.slice none 0 0),.iface t e]) w:=
 .inr ⟨(by rintro⟨_,ys,hy⟩;rw[hf]at hy;cases hy),t,e,rfl,13,k,he,by decide,fun _ h=>absurd rfl h,fun _ _=>rfl,fun h=>(by rw[hok]at h;cases h)⟩
theorem XU{xs:List It}{i:Nat}{x:It}(hx:(dS xs)[i]?=some x)(hb:(jX x).2=false):upX xs=none:=by
 unfold upX
 split
 ·rw[if_neg]
  rw[Bool.not_eq_true,List.all_eq_false]
  exact⟨x,List.mem_of_getElem? hx,by rw[hb];decide⟩
 ·rfl
theorem XV(ver:Int)(iv:Value)(xs:List It)(w:World)(h:dX w iv xs)(hl:xs.length≤1000)(hs:∀x∈xs,Sml x)(hR:qm w)(hM:nJ w)(hE:gQ w)(hLB:∀(L:List Nat) (W:World),G w W→(∀X∈L,w.heap.size≤X∧X<W.heap.size)→dP 50 #[iv] W (fun r w'=>∃ds,kS W.heap.size w' r (dS xs).length ds∧fO (Wl L w') (dS xs) ds))(hON:∀x∈dS xs,∀(L:List Nat) (W:World) (pv lv:Value),(∀X∈L,X<W.heap.size)→dG (Wl L W) x pv lv→dP 51 #[x.val pv lv] W (fun r w'=>ItB (Wl L w') r (jX x)))(hll:(dS xs).length≤1000)(hs2:∀x∈dS xs,Sml (jX x).1):dP 14 #[gY ver iv] w (fun r w'=>UpR ver xs r w'):=by
 have RT:=hid (fun W (g:G w W)=>qG ver iv xs W (h.grow g) hl hs (hR.grow g) (hM.grow g) (hE.grow g))
 have RT2:=hid (fun W ov ys (g:G w W) (hi:dX W ov ys) (h1:ys.length≤1000) (h2:∀y∈ys,Sml y)=>qG 4 ov ys W hi h1 h2 (hR.grow g) (hM.grow g) (hE.grow g))
 have LB:=hid hLB
 have ON:=hid hON
 have HS2:=hid hs2
 obtain⟨ia,ic,rfl,_⟩:=h.len
 obtain⟨i0,hi,hz0,hz1,hz2⟩:=info_parts x8
 unfold gY at RT RT2
 clear h hs hR hM hE hLB hON hs2
 unfold gY
 go_enter Tryz.func14,Tryz.ntmps14
 go_wp2_with fail
 generalize hw0:(w.alloc _).alloc _=w0
 have HB0:=hid (show w0.heap[w.heap.size]?=some (.cells #[.int .i64 ver,.slice ia xs.length ic] 24 (0,0)) by rw[←hw0,Lib.alloc_old _ _ _ (by simp)];exact heap_alloc_new w _)
 have HX0:=hid (show w0.heap[w.heap.size+1]?=some (.cells #[.int .i64 0,.slice none 0 0] 24 (0,0)) by rw[←hw0];exact pz _ _ _)
 have G0:=hid (show G w w0 by rw[←hw0];exact((G.refl w).alloc _).alloc _)
 clear hw0
 refine(RT.out w0 G0.out).use ?_
 intro r w1 hr g1
 have HB1:=hid (aB HB0.out g1)
 have HX1:=hid (aB HX0.out g1)
 have G1:=hid (G0.out.trans g1)
 clear g1
 obtain⟨x0,x1⟩:=jJ HX1.out
 have fx:=fun i=>Lib.frozen_of_heap HX1.out i
 rcases hr with⟨hok,rfl⟩|⟨hno,c,k,he,hc,hfb,_⟩
 case inr=>
  have HNO:=hid hno
  have HE:=hid he
  have HC:=hid hc
  have HFB:=hid hfb
  obtain⟨t,e,rfl⟩:=lL.iface he
  clear hno he hc hfb
  go_wp2_with fail
  refine tZ rfl rfl rfl rfl (I7 HX1.out) ⟨_,rfl,?_,jU (jU G1.out (by omega)) (by omega)⟩
  refine .inr ⟨fun ⟨e3,ys,hy⟩=>?_,_,_,rfl,c,k,lL.put HE.out HX1.out _ _,HC.out,fun h=>absurd h (by rw[HNO.out];decide),fun h=>absurd h (by rw[HNO.out];decide),fun _=>HFB.out⟩
  subst e3
  unfold upX at hy
  rw[if_neg (by rw[HNO.out];decide)]at hy
  cases hy
 have HOK:=hid hok
 clear hok
 by_cases hv:ver=3
 case neg=>
  have bv:(ver != 3)=true:=by simpa using hv
  have HV:=hid hv
  obtain⟨c0,c1⟩:=jJ HB1.out
  clear hv
  go_wp2_with fail
  exact tZ rfl rfl rfl rfl (I7 HX1.out) ⟨_,rfl,.inr ⟨fun ⟨e3,_⟩=>HV.out e3,_,_,rfl,6,none,rfl,by decide,fun _ _=>rfl,fun _ e3=>absurd e3 HV.out,fun h=>absurd HOK.out (by rw[h];decide)⟩,jU (jU G1.out (by omega)) (by omega)⟩
 subst hv
 have hb2:=aB HB1.out ((G.refl w1).alloc (.cells #[.int .i64 4,.slice none 0 0] 24))
 have hxo:=dn HX1.out
 obtain⟨c0,c1⟩:=jJ HB1.out
 obtain⟨c0',c1'⟩:=jJ hb2
 go_wp2_with fail
 clear c0' c1' hb2 c0 c1
 generalize hw2:w1.alloc _=w2
 have HO2:=hid (show w2.heap[w1.heap.size]?=some (.cells #[.int .i64 4,.slice none 0 0] 24 (0,0)) by rw[←hw2];exact heap_alloc_new w1 _)
 have G12:=hid (show G w1 w2 by rw[←hw2];exact(G.refl w1).alloc _)
 have G2:=hid (G1.out.trans G12.out)
 have HX2:=hid (aB HX1.out G12.out)
 have LBB:=hid (LB.out [w.heap.size+1,w1.heap.size] w2 G2.out (fun X hX=>by
  have:=dn HX2.out
  have:=dn HO2.out
  have:=G1.out.size
  simp at hX
  rcases hX with rfl|rfl<;>omega))
 clear hw2 x0 x1 fx
 refine LBB.out.use ?_
 rintro r w3 ⟨ds0,how,hir⟩ g3
 obtain⟨ra,rc,rfl⟩:=ug how
 have hXL:∀X∈[w.heap.size+1,w1.heap.size],X<w2.heap.size:=fun X hX=>by
  have:=dn HX2.out
  have:=dn HO2.out
  simp at hX
  rcases hX with rfl|rfl<;>omega
 have HXL:=hid hXL
 have LI:=hid (show dX (Wl [w.heap.size+1,w1.heap.size] w3) (.slice ra (dS xs).length rc) (dS xs)from(kS.lies (Wl.own how hXL) hir.one).items hir)
 have G3:=hid (G2.out.trans g3)
 have HX3:=hid (aB HX2.out g3)
 have HO3:=hid (aB HO2.out g3)
 have K3:=hid (G12.out.trans g3)
 obtain⟨ls,hls⟩:∃ls,ls=dS xs:=⟨_,rfl⟩
 rw[←hls]at LI hll ON HS2⊢
 have HLS:=hid hls
 have hs3:=g3.size
 clear how hir g3 hls LBB LB hXL RT
 go_wp2_with fail
 go_loopw [26] (fun i wr=>∃(k:Nat) (ys:List It) (ds:List Value) (ov:Value),k≤ls.length∧i=.int .i64 k∧ys=(ls.take k).map (fun x=>(jX x).1)∧(∀(j:Nat) (x:It),j<k→ls[j]?=some x→(jX x).2=true)∧UpS w1 w3 wr [w.heap.size+1,w1.heap.size] w1.heap.size ov ys ds∧w3.grownBy wr (some w1.heap.size)) (fun i _=>ls.length-(intOf i).toNat)
 case atStart=>exact⟨0,[],[],.slice none 0 0,Nat.zero_le _,rfl,rfl,fun j x h=>by omega,⟨HO3.out,World.ownsRow_nil _ _ _ _,rfl,K3.out⟩,BU _ _⟩
 case round=>
  obtain⟨k,ys,ds,ov,hk,rfl,hys,hok,hst,hm⟩:=hrel
  have HYS:=hid hys
  have HKO:=hid hok
  have HST:=hid hst
  have HMV:=hid hm
  obtain⟨oa,oc,rfl⟩:=ug hst.own
  have hyl:ys.length=k:=by rw[hys,List.length_map,List.length_take];omega
  have hbl:=aaf hst.own
  have hA:∀X∈NJ (.slice oa ys.length oc),w3.heap.size≤X:=fun X hX=>(hbl X hX).2
  have hw3:=dn HX3.out
  have HXR:=hid (show wr.heap[w.heap.size+1]?=some (.cells #[.int .i64 0,.slice none 0 0] 24 (0,0))from(hm.block _ hw3 (fun e=>by have:=Option.some.inj e;omega)).trans HX3.out)
  have HOR:=hid hst.box
  have hm3:=hm.size
  have hor:=dn HO3.out
  have HLT:=hid (show ∀X∈NJ (.slice oa ys.length oc)++[w.heap.size+1,w1.heap.size],X<wr.heap.size from fun X hX=>by
   rcases List.mem_append.1 hX with h|h
   ·exact(hbl X h).1
   ·have:=dn HXR.out
    have:=dn HOR.out
    simp at h
    rcases h with rfl|rfl<;>omega)
  have LIR:=hid (LI.out.sub0 (Wl.step hm (by simp) hA))
  have HAA:=hid hA
  clear hys hok hst hm hbl hA
  by_cases hlt:k<ls.length
  ·obtain⟨b,off,cap,e,hb,hit⟩:=pq LIR.out (by rintro rfl;simp at hlt)
   cases e
   have hx:=List.getElem?_eq_getElem hlt
   obtain⟨x,hxe⟩:∃x,ls[k]=x:=⟨_,rfl⟩
   rw[hxe]at hx
   obtain⟨pv,lv,hat⟩:=hit k x hx
   have hsg:xZ wr b (off+k*15) x pv lv:=⟨fun j u hu=>(Wl.sub _ wr).cell _ _ (hat.c j u hu),hat.ok.sub (Wl.sub _ wr)⟩
   obtain⟨pa,pc,rfl⟩:=hsg.ok.pv
   obtain⟨la,lc,rfl⟩:=hsg.ok.lv
   obtain⟨k0,k1,k2,k3,k4,k5,k6,k7,k8,k9,k10,k11,k12,k13,k14⟩:=hsg.e
   have HX:=hid hx
   have hkl:(k:Int)<(ls.length:Int):=by omega
   have GA:=hid ((G.refl wr).alloc (.cells (x.cells (.slice pa x.ps.length pc) (.slice la x.v.ps.length lc)).toArray 38))
   have ONE:=hid (ON.out x (List.mem_of_getElem? hx) (NJ (.slice oa ys.length oc)++[w.heap.size+1,w1.heap.size]) (wr.alloc (.cells (x.cells (.slice pa x.ps.length pc) (.slice la x.v.ps.length lc)).toArray 38)) (.slice pa x.ps.length pc) (.slice la x.v.ps.length lc) (fun X hX=>Nat.lt_of_lt_of_le (HLT.out X hX) GA.out.size) (hat.ok.wo GA.out))
   have hsy:=HS2.out x (List.mem_of_getElem? hx)
   clear hit hat hsg hx hxe
   go_wp2_with fail
   refine ONE.out.use ?_
   rintro r w4 ⟨ypv,ylv,rfl,hyo⟩ g4
   have HYO:=hid hyo
   obtain⟨y,hy⟩:∃y,y=jX x:=⟨_,rfl⟩
   rw[←hy]at HYO hyo⊢
   obtain⟨y,yb⟩:=y
   simp only at hyo HYO⊢
   have HY:=hid hy
   obtain⟨pa4,pc4,rfl⟩:=hyo.un.pv
   obtain⟨la4,lc4,rfl⟩:=hyo.un.lv
   have G4:=hid (GA.out.trans g4)
   clear hyo hy g4 k0 k1 k2 k3 k4 k5 k6 k7 k8 k9 k10 k11 k12 k13 k14 ONE hsy
   have GY:=hid (G4.out.alloc (.cells (y.cells (.slice pa4 y.ps.length pc4) (.slice la4 y.v.ps.length lc4)).toArray 38))
   cases yb with
   |false=>
    have GZ:=hid (GY.out.alloc (.cells #[.int .i64 13,.int .i64 k] 82))
    have hxz:=aB HXR.out GZ.out
    have HXZ:=hid hxz
    obtain⟨x0,x1⟩:=jJ hxz
    have fx:=fun i=>Lib.frozen_of_heap hxz i
    have HFL:=hid (show upX xs=none from XU (by rw[←HLS.out];exact HX.out) (by rw[←HY.out]))
    have HGW:=hid (show G w wr from G1.out.trans HST.out.g)
    clear hxz
    simp only[It.cells]at x0 x1 fx
    go_wp2_with fail
    refine tZ rfl rfl rfl rfl (I7 HXZ.out) ⟨_,rfl,UpR.no13 (k:=some k) HOK.out HFL.out (lL.put ?_ HXZ.out _ _),jU (jU (HGW.out.trans GZ.out) (by omega)) (by omega)⟩
    exact ji.newAt _ _ _ _ _ (by simp)
   |true=>
    have hoz:=aB HOR.out GY.out
    obtain⟨o0,o1⟩:=jJ hoz
    obtain⟨n,hn⟩:∃n,n=ys.length:=⟨_,rfl⟩
    have hn1:n≤1000:=by omega
    have HSTO:=HST.out.own
    have HSTB:=HST.out.box
    have HSTR:=HST.out.row
    rw[←hn]at HSTO HSTB HSTR o1
    have SO:=hid HSTO
    have SR:=hid HSTR
    have SB:=hid HSTB
    have SG:=hid HST.out.g
    have HN:=hid hn
    have hbs:w3.heap.size≤w4.heap.size:=Nat.le_trans hm3 G4.out.size
    clear hoz hn HSTO HSTB HSTR
    simp only[It.cells]at o0 o1
    go_wp2_with (at_builtin;refine wpList_append_lies _ rfl _ _ 22 rfl w3.heap.size 38 i0 _ 15 176 Tryz.underlying22 hi hz0 hz1 hz2 rfl (by decide) _ _ _ rfl (kS.grow SO.out (GY.out.alloc _)) ⟨w4.heap.size+1,0,none⟩ 1 1 (y.cells (.slice pa4 y.ps.length pc4) (.slice la4 y.v.ps.length lc4)) rfl rfl (fun j u hu=>by rw[mV,Nat.zero_add,cell_of_row _ _ j _ _ _ (pz w4 _ _)];simpa[It.cells]using hu) HYO.out.un.one (by omega) (by unfold maxLen;omega) (by omega) (by simp;omega) _ rfl ?_;intro g cap w7 hown' hgrow hg hglt;have hoz7:=(hgrow.block w1.heap.size (dn (aB SB.out (GY.out.alloc _))) (fun e=>by have:=(SO.out.lt _ e.symm).1;omega)).trans (aB SB.out (GY.out.alloc _));have o17:=(jJ hoz7).2;have f17:=Lib.frozen_of_heap hoz7 1)
    have W6G:=hid (GY.out.alloc (.cells (y.cells (.slice pa4 y.ps.length pc4) (.slice la4 y.v.ps.length lc4)).toArray 38))
    have hrow7:fO (Wl (g::[w.heap.size+1,w1.heap.size]) w7) (ys++[y]) (ds++y.cells (.slice pa4 y.ps.length pc4) (.slice la4 y.v.ps.length lc4)):=by
     have hsub:=Wl.mono (L:=[w.heap.size+1,w1.heap.size]) (Sub.app (C:=(Value.slice oa n oc).ownBlock) hgrow (g:=g) (by rcases hg with h|h;(· exact .inl h);exact .inr (by rw[h];exact Nat.le_refl _)))
     rw[←abN,←Wl.app]at hsub
     have hyo2:=HYO.out
     rw[←HN.out]at hyo2
     refine fO.append ((SR.out.grow (Wl.g W6G.out)).sub hsub) (fO.single ((hyo2.grow (Wl.g ?_)).sub hsub))
     exact(((G.refl w4).alloc _).alloc _)
    have hmv8:w3.grownBy (w7.setCell ⟨w1.heap.size,1,none⟩ (.slice (some ⟨g,0,none⟩) (n+1) cap)) (some w1.heap.size):=Yv (Ez (Wy HMV.out W6G.out) hgrow (fun j hj=>.inr (SO.out.lt j hj).1))
    have hg8:G w1 (w7.setCell ⟨w1.heap.size,1,none⟩ (.slice (some ⟨g,0,none⟩) (n+1) cap)):=jU (Below.grown (SG.out.trans W6G.out) hgrow (SG.out.trans W6G.out).size (fun j hj=>by have:=(SO.out.lt j hj).1;have:=K3.out.size;omega)) (Nat.le_refl _)
    have hown8:=hown'.kept (AC w7 w1.heap.size 1 (.slice (some ⟨g,0,none⟩) (n+1) cap)) (l9 hown' hor)
    have hups:UpS w1 w3 (w7.setCell ⟨w1.heap.size,1,none⟩ (.slice (some ⟨g,0,none⟩) (n+1) cap)) [w.heap.size+1,w1.heap.size] w1.heap.size (.slice (some ⟨g,0,none⟩) (n+1) cap) (ys++[y]) (ds++y.cells (.slice pa4 y.ps.length pc4) (.slice la4 y.v.ps.length lc4)):=by
     refine⟨Zl hoz7,?_,?_,hg8⟩
     ·rw[List.length_append,←HN.out];exact hown8
     ·show fO (Wl (g::[w.heap.size+1,w1.heap.size]) _) _ _
      rw[Wl.setm (by simp)]
      exact hrow7
    have HUPS:=hid hups
    have HM8:=hid hmv8
    have HYS2:=hid (show ys++[y]=(ls.take (k+1)).map (fun x=>(jX x).1) by
     rw[List.take_add_one,HX.out,List.map_append,HYS.out]
     simp[←HY.out])
    have HKO2:=hid (show ∀(j:Nat) (x:It),j<k+1→ls[j]?=some x→(jX x).2=true from fun j z hj hz=>by
     rcases Nat.lt_or_ge j k with h1|h1
     ·exact HKO.out j z h1 hz
     ·obtain rfl:j=k:=by omega
      rw[HX.out]at hz;cases hz;rw[←HY.out])
    clear hown' hgrow hg hglt hrow7 hmv8 hg8 hown8 hups
    go_wp2_with fail
    go_roundw
    case measure=>simp[intOf];omega
    case rel=>exact⟨k+1,_,_,_,by omega,by go_num,HYS2.out,HKO2.out,HUPS.out,HM8.out⟩
  ·obtain rfl:k=ls.length:=by omega
   have hyl1:ys.length≤1000:=by omega
   clear hyl
   have HYF:=hid (show ys=ls.map (fun x=>(jX x).1) by have:=HYS.out;rwa [List.take_length]at this)
   have HIY:=hid (show dX wr (.slice oa ys.length oc) ys from(kS.lies HST.out.own HST.out.row.one).items (HST.out.row.sub (Wl.sub _ wr)))
   have HGW:=hid (show G w wr from G1.out.trans HST.out.g)
   have RR:=hid (RT2.out wr (.slice oa ys.length oc) ys HGW.out HIY.out hyl1 (fun y hy=>by
    rw[HYF.out]at hy
    obtain⟨x,hx,rfl⟩:=List.mem_map.1 hy
    exact HS2.out x hx))
   have HALL:=hid (show(dS xs).all (fun x=>(jX x).2)=true by
    rw[List.all_eq_true,←HLS.out]
    intro x hx
    obtain⟨j,hj,rfl⟩:=List.getElem_of_mem hx
    exact HKO.out j _ hj (List.getElem?_eq_getElem hj))
   obtain⟨o0,o1⟩:=jJ HOR.out
   go_wp2_with fail
   refine RR.out.use ?_
   intro r w5 hr g5
   have HX5:=hid (aB HXR.out g5)
   have HO5:=hid (aB HOR.out g5)
   have G5:=hid (HGW.out.trans g5)
   have GS:=hid g5
   clear o0 o1 g5
   obtain⟨o0,o1⟩:=jJ HO5.out
   obtain⟨x0,x1⟩:=jJ HX5.out
   have fx:=fun i=>Lib.frozen_of_heap HX5.out i
   rcases hr with⟨hyes,rfl⟩|⟨hno,c,kk,he,hc,_⟩
   ·have HUX:=hid (show upX xs=some ys by
     unfold upX
     rw[if_pos HOK.out,if_pos HALL.out,←HLS.out,←HYF.out,if_pos hyes])
    clear hyes
    go_wp2_with fail
    refine tZ rfl rfl rfl rfl (I7 HX5.out) ⟨_,rfl,.inl ⟨rfl,ys,.slice oa ys.length oc,HUX.out,rfl,?_,N8 HST.out.own⟩,jU (jU G5.out (by omega)) (by omega)⟩
    have ho5:=kS.grow HST.out.own GS.out
    have hr5:=HST.out.row.grow (Wl.g GS.out)
    refine(kS.lies (Vj (Vj ho5 (by omega)) (by omega)) hr5.one).items (fO.sub (Wl.sub (NJ (.slice oa ys.length oc)++[w.heap.size+1,w1.heap.size]) _) ?_)
    rw[Wl.setm (by simp),Wl.setm (by simp)]
    exact hr5
   ·have HFX:=hid (show upX xs=none by
     unfold upX
     rw[if_pos HOK.out,if_pos HALL.out,←HLS.out,←HYF.out,if_neg (by rw[hno];decide)])
    obtain⟨t,e,rfl⟩:=lL.iface he
    clear hno he hc
    go_wp2_with fail
    exact tZ rfl rfl rfl rfl (I7 HX5.out) ⟨_,rfl,UpR.no13 (k:=none) HOK.out HFX.out rfl,jU (jU G5.out (by omega)) (by omega)⟩
end Go.Proofs.YtmffejnigppbpaaGreatDoor
