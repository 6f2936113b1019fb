/-
  Texts merged into one: With, Turned.
-/
import Derived.Test.YtmffejnigppbpaaGreatDoorCXMA60
import Derived.Test.YtmffejnigppbpaaGreatDoorCXMVeil
import Derived.Deep.AppendLies
import Derived.Test.YtmffejnigppbpaaGreatDoorCXMA61
import Derived.Test.YtmffejnigppbpaaGreatDoorCXMA51
import Derived.Test.YtmffejnigppbpaaGreatDoorCXMA71
set_option linter.unusedVariables false
set_option linter.unusedSimpArgs false
set_option maxHeartbeats 4000000
set_option maxRecDepth 100000
namespace Go.Proofs.YtmffejnigppbpaaGreatDoor
open Go.RowKit
theorem Xe{w:World}{C Z:Nat}(hne:C≠Z){a0 a1 z0 z1:Value}{t t':TypeId}(hC:w.heap[C]?=some (.cells #[a0,a1] t (0,0)))(hZ:w.heap[Z]?=some (.cells #[z0,z1] t' (0,0)))(V:Value) :
  w.cell? ⟨C,1,none⟩=some a1∧w.frozen? ⟨C,1,none⟩=false∧(w.setCell ⟨C,1,none⟩ V).cell? ⟨C,0,none⟩=some a0∧(w.setCell ⟨C,1,none⟩ V).cell? ⟨C,1,none⟩=some V∧(w.setCell ⟨C,1,none⟩ V).cell? ⟨Z,0,none⟩=some z0∧(w.setCell ⟨C,1,none⟩ V).frozen? ⟨Z,0,none⟩=false∧((w.setCell ⟨C,1,none⟩ V).setCell ⟨Z,0,none⟩ a0).cell? ⟨Z,1,none⟩=some z1∧((w.setCell ⟨C,1,none⟩ V).setCell ⟨Z,0,none⟩ a0).frozen? ⟨Z,1,none⟩=false∧(((w.setCell ⟨C,1,none⟩ V).setCell ⟨Z,0,none⟩ a0).setCell ⟨Z,1,none⟩ V).cell? ⟨Z,0,none⟩=some a0∧(((w.setCell ⟨C,1,none⟩ V).setCell ⟨Z,0,none⟩ a0).setCell ⟨Z,1,none⟩ V).cell? ⟨Z,1,none⟩=some V:=by
 have c0:w.cell? ⟨C,0,none⟩=some a0:=(cell_of_row w C 0 _ _ _ hC).trans rfl
 have c1:w.cell? ⟨C,1,none⟩=some a1:=(cell_of_row w C 1 _ _ _ hC).trans rfl
 have d0:w.cell? ⟨Z,0,none⟩=some z0:=(cell_of_row w Z 0 _ _ _ hZ).trans rfl
 have d1:w.cell? ⟨Z,1,none⟩=some z1:=(cell_of_row w Z 1 _ _ _ hZ).trans rfl
 have far:∀(w:World) (i j:Nat) (v:Value),(w.setCell ⟨C,i,none⟩ v).cell? ⟨Z,j,none⟩=w.cell? ⟨Z,j,none⟩:=fun w i j v=>World.cell?_setCell_other _ _ _ _ (by intro e;injection e with e;exact hne e)
 have near:∀(w:World) (b i j:Nat) (v:Value),i≠j→(w.setCell ⟨b,i,none⟩ v).cell? ⟨b,j,none⟩=w.cell? ⟨b,j,none⟩:=fun w b i j v h=>World.cell?_setCell_other _ _ _ _ (by intro e;injection e with _ e;exact h e)
 have same:∀(w:World) (b i:Nat) (u v:Value),w.cell? ⟨b,i,none⟩=some u→(w.setCell ⟨b,i,none⟩ v).cell? ⟨b,i,none⟩=some v:=fun w b i u v h=>World.cell?_setCell_same _ _ _ h
 have e0:=(far w 1 0 V).trans d0
 have e1:=(far w 1 1 V).trans d1
 have g1:=(near (w.setCell ⟨C,1,none⟩ V) Z 0 1 a0 (by decide)).trans e1
 refine⟨c1,Lib.frozen_of_heap hC 1,(near _ _ _ _ _ (by decide)).trans c0,same _ _ _ _ _ c1,e0,by rw[World.frozen?_setCell];exact Lib.frozen_of_heap hZ 0,g1,by rw[World.frozen?_setCell,World.frozen?_setCell];exact Lib.frozen_of_heap hZ 1,?_,same _ _ _ _ _ g1⟩
 rw[near _ _ _ _ _ (by decide)]
 exact same _ _ _ _ _ e0
def aaA(C:Nat)(iv xv:Value)(x:It)(pv lv:Value)(n m:Nat)(cs:List Value)(k:Nat)(v:Value)(W:World):Prop:=
 match k with
 |0=>v=.pointer (some ⟨C,1,none⟩)
 |1=>v=iv
 |2=>kS n W v m cs
 |3=>v=xv
 |4=>∃b,v=.slice (some ⟨b,0,none⟩) 1 1∧W.heap[b]?=some (.cells (x.cells pv lv).toArray 38 (0,0))
 |_=>True
theorem Zj(ver:Int)(iv:Value)(k:Nat)(cs:List Value)(x:It)(pv lv:Value)(w:World)(h:BJ w iv k cs)(hf:iv=.slice none 0 0∨∃a n c,iv=.slice (some a) n c)(hx:dG w x pv lv)(hl:k≤1000) :
  dP 31 #[gY ver iv,x.val pv lv] w (fun v w'=>∃u,v=gY ver u∧kS (w.heap.size+1) w' u (k+1) (cs++x.cells pv lv)):=by
 have hcl:=O5 iv k cs w h hf (by omega)
 have HCL:=hid hcl
 have HX:=hid hx
 obtain⟨pa,pc,rfl⟩:=hx.pv
 obtain⟨la,lc,rfl⟩:=hx.lv
 obtain⟨ia,ic,rfl⟩:=h.form
 obtain⟨i0,hi,hz0,hz1,hz2⟩:=info_parts x8
 clear hcl hx h hf
 unfold gY
 go_enter Tryz.func31,Tryz.ntmps31
 go_wp2_with fail
 generalize hw5:((World.alloc (World.alloc (World.alloc _ _) _) _))=w5
 have GW5:Hid (G w w5):=hid (by rw[←hw5];exact(((G.refl w).alloc _).alloc _).alloc _)
 have HBX:=hid (show w5.heap[w.heap.size]?=some (.cells #[.int .i64 ver,.slice ia k ic] 24 (0,0)) by rw[←hw5,Lib.alloc_old _ _ _ (by simp;omega),Lib.alloc_old _ _ _ (by simp)];exact heap_alloc_new w _)
 have HIX:=hid (show w5.heap[w.heap.size+1]?=some (.cells (x.cells (.slice pa x.ps.length pc) (.slice la x.v.ps.length lc)).toArray 38 (0,0)) by rw[←hw5,Lib.alloc_old _ _ _ (by simp)];have:=heap_alloc_new (w.alloc (.cells #[.int .i64 ver,.slice ia k ic] 24)) (.cells (x.cells (.slice pa x.ps.length pc) (.slice la x.v.ps.length lc)).toArray 38);simpa[It.cells]using this)
 have HZX:=hid (show w5.heap[w.heap.size+1+1]?=some (.cells #[.int .i64 0,.slice none 0 0] 24 (0,0)) by
  rw[←hw5]
  have:=heap_alloc_new ((w.alloc (.cells #[.int .i64 ver,.slice ia k ic] 24)).alloc (.cells (x.cells (.slice pa x.ps.length pc) (.slice la x.v.ps.length lc)).toArray 38)) (.cells #[.int .i64 0,.slice none 0 0] 24)
  simpa[It.cells]using this)
 clear hw5
 refine wp_region_any (by kernel_rfl) ?_
 refine BF (E:=#[false,false,false,false,false,false,false,false]) G 5 (aaA w.heap.size (.slice ia k ic) (x.val (.slice pa x.ps.length pc) (.slice la x.v.ps.length lc)) x (.slice pa x.ps.length pc) (.slice la x.v.ps.length lc) w5.heap.size k cs) [some [],some [(0,5)],some [(1,6)],some [],some [(3,8)],none,none,none] [(0,5),(1,6),(2,7),(3,8),(4,9)] _ (by kernel_rfl) (by decide) (by kernel_rfl) (by kernel_rfl) rfl G.refl (fun _ _ _=>G.trans) (w0:=w5) ((G.refl w5).drew) ?_ ?_ ?_
 ·intro i v W W' g h
  match i,h with
  |0,h=>exact h
  |1,h=>exact h
  |2,h=>exact kS.grow h g
  |3,h=>exact h
  |4,⟨b,e,h⟩=>exact⟨b,e,(g.below.block b (Array.getElem?_eq_some_iff.1 h).1).trans h⟩
  |n+5,h=>trivial
 ·refine⟨fun vals W g d=>?_,⟨fun vals W g d=>?_,⟨fun vals W g d=>?_,⟨fun vals W g d=>?_,⟨fun vals W g d=>?_,trivial⟩⟩⟩⟩⟩
  ·refine bI rfl rfl rfl fun K hK=>?_
   simp only[gFr]at hK⊢
   go_simp
   exact hK _ _ (G.refl _) rfl
  ·refine bI rfl rfl rfl fun K hK=>?_
   obtain⟨d0,_⟩:=d
   change vals 0=_ at d0
   simp only[gFr,d0]at hK⊢
   have c1:W.cell? ⟨w.heap.size,1,none⟩=some (.slice ia k ic):=by rw[g.cell (World.block_lt_of_cell? _ _ (by rw[cell_of_row w5 w.heap.size 1 _ _ _ HBX.out];rfl)),cell_of_row w5 w.heap.size 1 _ _ _ HBX.out];rfl
   go_simp
   exact hK _ _ (G.refl _) rfl
  ·refine bI rfl rfl rfl fun K hK=>?_
   obtain⟨d1,_⟩:=d
   change vals 1=_ at d1
   simp only[gFr,d1]at hK⊢
   go_simp
   refine(HCL.out W (GW5.out.trans g) w5.heap.size g.size).mono ?_
   rintro e W' ⟨u,rfl,ho,hg⟩
   exact hK u W' hg ho
  ·refine bI rfl rfl rfl fun K hK=>?_
   simp only[gFr]at hK⊢
   obtain⟨k0,k1,k2,k3,k4,k5,k6,k7,k8,k9,k10,k11,k12,k13,k14⟩:=(xZ.e (xZ.grow ⟨fun j u hu=>by rw[Nat.zero_add,cell_of_row w5 (w.heap.size+1) j _ _ _ HIX.out];simpa using hu,HX.out.grow GW5.out⟩ (Array.getElem?_eq_some_iff.1 HIX.out).1 g):_)
   go_simp
   exact hK _ _ (G.refl _) rfl
  ·refine bI rfl rfl rfl fun K hK=>?_
   obtain⟨d3,_⟩:=d
   change vals 3=_ at d3
   simp only[gFr,d3]at hK⊢
   go_simp
   exact hK _ _ ((G.refl _).alloc _) ⟨W.heap.size,rfl,heap_alloc_new W _⟩
 ·intro vals W g d
  obtain⟨d0,d1,d2,d3,⟨b,d4,d5⟩,_⟩:=d
  change vals 0=_ at d0
  change vals 1=_ at d1
  change kS w5.heap.size W (vals 2) k cs at d2
  change vals 3=_ at d3
  have GW:=hid (GW5.out.trans g)
  have BC:=hid ((g.below.block _ (Array.getElem?_eq_some_iff.1 HBX.out).1).trans HBX.out)
  have BZ:=hid ((g.below.block _ (Array.getElem?_eq_some_iff.1 HZX.out).1).trans HZX.out)
  have hCZ:w.heap.size+1+1<w5.heap.size:=(Array.getElem?_eq_some_iff.1 HZX.out).1
  have hgz:=g.size
  have GG:=hid g
  have R2:=hid d2
  show wpList _ _ _ [_,_,_] _ _
  simp only[gFr,d0,d1,d3,d4]
  clear d2 d0 d1 d3 d4
  go_wp2_with (at_builtin;(refine wpList_append_own _ rfl _ _ 22 rfl w5.heap.size 38 i0 _ 15 176 Tryz.underlying22 hi hz0 hz1 hz2 rfl (by decide) _ _ _ rfl R2.out ⟨b,0,none⟩ 1 1 (x.cells (.slice pa x.ps.length pc) (.slice la x.v.ps.length lc)) rfl rfl (fun j u hu=>by rw[mV,Nat.zero_add,cell_of_row W b j _ _ _ d5];simpa using hu) HX.out.one (by unfold maxLen;omega) (by omega) hgz ?_;intro v' w1 hown' hgrow hnil;obtain⟨⟨b',cap',rfl⟩,hB⟩:=kS.snoc R2.out GG.out.below hgz hgrow hown';have hO:=hown';clear hown' hgrow hnil;have B1C:=hid ((hB.block _ (Array.getElem?_eq_some_iff.1 HBX.out).1).trans HBX.out);have B1Z:=hid ((hB.block _ (Array.getElem?_eq_some_iff.1 HZX.out).1).trans HZX.out);have HO:=hid hO;have HB:=hid hB;clear hO hB d5 hCZ;clear BC BZ GG R2 HIX;obtain⟨c1,f1,t0,t1,z0,y0,z1,y1,r0,r1⟩:=Xe (show w.heap.size≠w.heap.size+1+1 by omega) B1C.out B1Z.out (.slice (some ⟨b',0,none⟩) (k+1) cap')))
  have hW:G w (((w1.setCell ⟨w.heap.size,1,none⟩ (.slice (some ⟨b',0,none⟩) (k+1) cap')).setCell ⟨w.heap.size+1+1,0,none⟩ (.int .i64 ver)).setCell ⟨w.heap.size+1+1,1,none⟩ (.slice (some ⟨b',0,none⟩) (k+1) cap')):=by
   refine Below.setCell (Below.setCell (Below.setCell (GW5.out.below.trans (HB.out.mono GW5.out.size)) ?_ _) ?_ _) ?_ _<;>simp only<;>omega
  have hZ:w.heap.size+1+1<w5.heap.size:=(Array.getElem?_eq_some_iff.1 HZX.out).1
  refine bodyPost_ret (v:=gY ver (.slice (some ⟨b',0,none⟩) (k+1) cap')) ?_ rfl ⟨_,rfl,⟨_,rfl,rU (kS.same HO.out fun b hb _=>?_) (by omega)⟩,hW⟩
  ·unfold gY
   simp only[results,Tryz.f31]
   go_simp
  ·rw[Below.heap_setCell _ _ _ _ (by simp only;omega),Below.heap_setCell _ _ _ _ (by simp only;omega),Below.heap_setCell _ _ _ _ (by simp only;omega)]
end Go.Proofs.YtmffejnigppbpaaGreatDoor

set_option maxHeartbeats 4000000
set_option maxRecDepth 100000
namespace Go.Proofs.YtmffejnigppbpaaGreatDoor
open Go.RowKit
theorem YK(ver:Int)(iv:Value)(xs:List It)(w:World)(h:dX w iv xs)(hl:xs.length≤1000)(hs:∀x∈xs,Sml x)(hR:qm w)(hM:nJ w)(hE:gQ w)(hnl:∀x∈xs,dC x.n dN=false)(hnm:∀x∈xs,vX (bU x.n)=true∨DI (bU x.n)=true)(hs1:∀x∈xs,Sml ⟨x.g,x.n,bG x.ps,x.v⟩)(hne:∀x∈xs,∀p∈bG x.ps,p.2≠[])(hs2:∀x∈xs,Sml (jX x).1):dP 14 #[gY ver iv] w (fun r w'=>UpR ver xs r w'):=by
 have el:=OE hnl
 refine XV ver iv xs w h hl hs hR hM hE (fun L W g hX=>?_) (fun x hx L W pv lv hX ho=>?_) (by rw[el];exact hl) (fun x hx=>hs2 x (by rw[el]at hx;exact hx))
 ·rw[el]
  exact MJ L iv xs W (h.grow (Wl.of g (fun X hx=>(hX X hx).1))) hl (fun x hx=>by have:=(hs x hx).bounds.2.1;omega) hnl
 ·rw[el]at hx
  rcases hnm x hx with hp|hb
  ·exact Ko L x pv lv W hX ho (hs x hx) (hs1 x hx) (hne x hx) hp
  ·exact UU L x pv lv W hX ho (hs x hx) (hs1 x hx) (hne x hx) hb
def Qh:It:=⟨[],[80,72,79,84,79],[([69,78,67,79,68,73,78,71],[[98]]),([84,89,80,69],[[74,80,69,71],[112,114,101,102]])],⟨8,[84,87,69,61],[],St0,0⟩⟩
def AU:List It:=Gi++[Qh]
def phT:List UInt8:=[100,97,116,97,58,105,109,97,103,101,47,106,112,101,103,59,98,97,115,101,54,52,44,84,87,69,61]
def phY:It:=⟨[],[80,72,79,84,79],[([80,82,69,70],[[49]])],⟨4,phT,[],St0,0⟩⟩
theorem YL:jq 3 AU=true:=by decide +kernel
theorem abJ:(dS AU).all (fun x=>(jX x).2)=true:=by decide +kernel
theorem abK:(dS AU).map (fun x=>(jX x).1)=Gi++[phY]:=by kernel_rfl
theorem Lu:jq 4 (Gi++[phY])=true:=by decide +kernel
theorem aaN:upX AU=some (Gi++[phY]):=by
 unfold upX
 rw[if_pos YL,if_pos abJ,abK,if_pos Lu]
theorem Z9:pO ((4:Int)==4) (lnX phY phY.v.text)=[80,72,79,84,79,59,80,82,69,70,61,49,58]++phT:=by decide +kernel
theorem Ej{P:It→Prop}(h1:P Uf)(h2:P QC)(h3:P Qh):∀x∈AU,P x:=by
 intro x hx
 simp only[AU,Gi,List.mem_append,List.mem_cons,List.mem_nil_iff,or_false]at hx
 rcases hx with(rfl|rfl)|rfl
 ·exact h1
 ·exact h2
 ·exact h3
theorem abL:∀x∈AU,Sml x:=Ej ⟨by decide,by decide,by decide⟩ ⟨by decide,by decide,by decide⟩ ⟨by decide,by decide,by decide⟩
theorem aab:∀x∈AU,Sml ⟨x.g,x.n,bG x.ps,x.v⟩:=Ej ⟨by decide +kernel,by decide,by decide⟩ ⟨by decide +kernel,by decide,by decide⟩ ⟨by decide +kernel,by decide,by decide⟩
theorem aac:∀x∈AU,Sml (jX x).1:=Ej ⟨by decide +kernel,by decide +kernel,by decide +kernel⟩ ⟨by decide +kernel,by decide +kernel,by decide +kernel⟩ ⟨by decide +kernel,by decide +kernel,by decide +kernel⟩
theorem aco:∀x∈AU,∀p∈bG x.ps,p.2≠[]:=Ej (by decide +kernel) (by decide +kernel) (by decide +kernel)
theorem acp:∀x∈AU,dC x.n dN=false:=Ej (by decide +kernel) (by decide +kernel) (by decide +kernel)
theorem acr:∀x∈AU,vX (bU x.n)=true∨DI (bU x.n)=true:=Ej (by decide +kernel) (by decide +kernel) (by decide +kernel)
theorem aad:Sml phY:=⟨by decide +kernel,by decide,by decide⟩
theorem aae:qM 4 phY=true:=(nK.1 Lu).2.2.1 phY (by simp)
theorem I4(w:World)(hR:qm w)(hM:nJ w)(hE:gQ w):dA 12 #[] w (.bool true):=by
 have AN:=hid (Zm 3 w)
 have HR:=hid hR
 have HM:=hid hM
 have HE:=hid hE
 clear hR hM hE
 go_enter Tryz.func12,Tryz.ntmps12
 go_wp2_with fail
 refine AN.out.use ?_
 rintro v w1 ⟨u,rfl,hit,b,c,rfl⟩ g1
 have HIT:=hid hit
 have G1:=hid g1
 clear hit g1
 unfold gY
 go_wp2_with fail
 generalize hw2:((w1.alloc _).alloc _).alloc _=w2
 have hA1:w2.heap[w1.heap.size]?=some (.cells #[.string (S [98])] 9 (0,0)):=by rw[←hw2,Lib.alloc_old _ _ _ (by simp;omega),Lib.alloc_old _ _ _ (by simp)];exact heap_alloc_new w1 _
 have hA2:w2.heap[w1.heap.size+1]?=some (.cells #[.string (S [74,80,69,71]),.string (S [112,114,101,102])] 9 (0,0)):=by rw[←hw2,Lib.alloc_old _ _ _ (by simp)];exact pz w1 _ _
 have hA3:w2.heap[w1.heap.size+2]?=some (.cells #[.string (S [69,78,67,79,68,73,78,71]),.slice (some ⟨w1.heap.size,0,none⟩) 1 1,.string (S [84,89,80,69]),.slice (some ⟨w1.heap.size+1,0,none⟩) 2 2] 41 (0,0)):=by rw[←hw2];exact Xg _ _ _ (by simp)
 have G12:=hid (show G w1 w2 by rw[←hw2];exact((((G.refl w1).alloc _).alloc _).alloc _))
 clear hw2
 have hs1:di w2 (.slice (some ⟨w1.heap.size,0,none⟩) 1 1) [[98]]:=di.one1 (by rw[cell_of_row w2 _ 0 _ _ _ hA1];rfl)
 have hs2:di w2 (.slice (some ⟨w1.heap.size+1,0,none⟩) 2 2) [[74,80,69,71],[112,114,101,102]]:=by
  refine⟨⟨rfl,by intro v hv;simp at hv;rcases hv with rfl|rfl<;>rfl,.inr ⟨_,0,2,rfl,dn hA2,by simp,fun j hj=>?_⟩⟩,Nat.le_refl _⟩
  match j,hj with
  |0,_=>rw[cell_of_row w2 _ _ _ _ _ hA2];rfl
  |1,_=>rw[cell_of_row w2 _ _ _ _ _ hA2];rfl
  |n+2,hj=>exact absurd hj (by simp only[List.length_map,List.length_cons,List.length_nil];omega)
 have hok:dG w2 Qh (.slice (some ⟨w1.heap.size+2,0,none⟩) 2 2) (.slice none 0 0):=by
  refine⟨⟨_,_,rfl,Nat.le_refl _,fun _=>⟨_,0,rfl,dn hA3,fun i p hp=>?_⟩⟩,⟨[],⟨rfl,by simp,.inl ⟨rfl,.inl rfl⟩⟩,Nat.le_refl _,by simp[Qh]⟩,.inr ⟨_,_,_,rfl⟩,by decide,by decide⟩
  match i,hp with
  |0,hp=>cases hp;exact⟨_,by rw[cell_of_row w2 _ _ _ _ _ hA3];rfl,by rw[cell_of_row w2 _ _ _ _ _ hA3];rfl,hs1⟩
  |1,hp=>cases hp;exact⟨_,by rw[cell_of_row w2 _ _ _ _ _ hA3];rfl,by rw[cell_of_row w2 _ _ _ _ _ hA3];rfl,hs2⟩
  |n+2,hp=>simp[Qh]at hp
 obtain⟨cs,hlies,hrow⟩:=(HIT.out.grow G12.out).lies
 have WT:=hid (show dP 31 #[.agg #[.int .i64 3,.slice (some b) 2 c],.agg #[.string ⟨#[]⟩,.string ⟨#[80,72,79,84,79]⟩,.slice (some ⟨w1.heap.size+2,0,none⟩) 2 2,.int .i64 8,.string ⟨#[84,87,69,61]⟩,.slice none 0 0,.int .i64 0,.int .i64 0,.int .i64 0,.int .i64 0,.int .i64 0,.int .i64 0,.bool false,.int .i64 0,.int .i64 0]] w2 (fun v w'=>∃u,v=gY 3 u∧kS (w2.heap.size+1) w' u 3 (cs++Qh.cells (.slice (some ⟨w1.heap.size+2,0,none⟩) 2 2) (.slice none 0 0)))from
  Zj 3 (.slice (some b) 2 c) 2 cs Qh (.slice (some ⟨w1.heap.size+2,0,none⟩) 2 2) (.slice none 0 0) w2 hlies (.inr ⟨_,_,_,rfl⟩) hok (by decide))
 have HOK:=hid hok
 have HROW:=hid hrow
 have G2:=hid (G1.out.trans G12.out)
 clear hlies hrow hok hs1 hs2 hA1 hA2 hA3
 refine WT.out.use ?_
 rintro v w3 ⟨u2,rfl,how⟩ g3
 have hr3:fO w3 AU (cs++Qh.cells (.slice (some ⟨w1.heap.size+2,0,none⟩) 2 2) (.slice none 0 0)):=((HROW.out.grow g3).append (fO.single (HOK.out.grow g3)))
 have HI3:=hid (show dX w3 u2 AU from(kS.lies how hr3.one).items hr3)
 obtain⟨a2,c2,rfl⟩:=ug how
 have G3:=hid (G2.out.trans g3)
 clear how hr3 g3 WT HROW HOK
 unfold gY
 have UPC:=hid (fun W (g:G w3 W)=>YK 3 (.slice a2 3 c2) AU W (HI3.out.grow g) (by decide) abL (HR.out.grow (G3.out.trans g)) (HM.out.grow (G3.out.trans g)) (HE.out.grow (G3.out.trans g)) acp acr aab aco aac)
 unfold gY at UPC
 go_wp2_with fail
 refine(UPC.out _ ((G.refl w3).alloc _)).use ?_
 rintro r w5 hr g5
 rcases hr with⟨_,ys,u3,hup,rfl,hiy,hfrm⟩|⟨hn,_⟩
 case inr=>exact absurd ⟨rfl,_,aaN⟩ hn
 rw[aaN]at hup
 cases hup
 obtain⟨ua,uc,hu3,_⟩:=hiy.len
 obtain rfl:u3=.slice ua 3 uc:=hu3
 have HIY:=hid hiy
 have G5:=hid (G3.out.trans (((G.refl w3).alloc (.cells #[.int .i64 3,.slice a2 3 c2] 24)).trans g5))
 clear hiy hfrm g5 UPC
 unfold gY
 have G6:=hid ((G.refl w5).alloc (.cells #[.int .i64 4,.slice ua 3 uc] 24))
 have HD:=hid (heap_alloc_new w5 (.cells #[.int .i64 4,.slice ua 3 uc] 24))
 obtain⟨b2,off,cap2,e,hb2,hit⟩:=pq (HIY.out.grow G6.out) (by decide)
 obtain⟨pv,lv,hat⟩:=hit 2 phY rfl
 simp only[Value.slice.injEq]at e
 obtain⟨rfl,hlen,rfl⟩:=e
 clear hlen
 obtain⟨pa,pc,rfl⟩:=hat.ok.pv
 obtain⟨la,lc,rfl⟩:=hat.ok.lv
 obtain⟨l,hl⟩:∃l,l=pO ((4:Int)==4) (lnX phY phY.v.text):=⟨_,rfl⟩
 have LN:=Xt 4 (.inr rfl) phY _ _ _ hat.ok aad (HR.out.grow (G5.out.trans G6.out)) (HM.out.grow (G5.out.trans G6.out)) (HE.out.grow (G5.out.trans G6.out)) aae
 rw[←hl]at LN
 have hlit:(l==[80,72,79,84,79,59,80,82,69,70,61,49,58,100,97,116,97,58,105,109,97,103,101,47,106,112,101,103,59,98,97,115,101,54,52,44,84,87,69,61])=true:=by rw[hl,Z9];decide
 obtain⟨y,hy⟩:∃y,y=phY:=⟨_,rfl⟩
 rw[←hy]at hat LN
 have LNN:=hid LN
 obtain⟨k0,k1,k2,k3,k4,k5,k6,k7,k8,k9,k10,k11,k12,k13,k14⟩:=hat.e
 clear hit hat hl LN hy
 obtain⟨d0,d1⟩:=jJ HD.out
 simp only[Nat.reduceMul]at k0 k1 k2 k3 k4 k5 k6 k7 k8 k9 k10 k11 k12 k13 k14
 go_wp2_with fail
 refine LNN.out.use ?_
 intro w7 g7
 obtain⟨d0',d1'⟩:=jJ (aB HD.out g7)
 clear d0 d1 k0 k1 k2 k3 k4 k5 k6 k7 k8 k9 k10 k11 k12 k13 k14
 go_wp2_with fail
 go_ret
 exact⟨rfl,(G5.out.trans G6.out).trans g7⟩
end Go.Proofs.YtmffejnigppbpaaGreatDoor
