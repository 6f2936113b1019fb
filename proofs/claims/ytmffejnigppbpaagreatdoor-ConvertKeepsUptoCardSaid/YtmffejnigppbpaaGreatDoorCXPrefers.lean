/-
 CONTRACT of convert.prefers.
-/
import Derived.Test.YtmffejnigppbpaaGreatDoorCXMA56
import Derived.Test.YtmffejnigppbpaaGreatDoorCXMA47
import Derived.Test.YtmffejnigppbpaaGreatDoorCXMA52
import Derived.Test.YtmffejnigppbpaaGreatDoorCXMA58
set_option linter.unusedVariables false
set_option linter.unusedSimpArgs false
set_option maxHeartbeats 8000000
set_option maxRecDepth 100000
namespace Go.Proofs.YtmffejnigppbpaaGreatDoor
open Go.RowKit
theorem Yl(v:Value)(n:Nat)(cs:List Value)(w:World)(hP:mi 1 w v n cs)(hl:n≤100000)(W:World)(gW:G w W) :
  Calls Tryz.prog 136 #[v] W fun e w'=>∃u,e=.returned u∧w'.ownsRow W.heap.size 9 1 u n cs∧G W w':=by
 obtain⟨i0,hi,hz0,hz1,hz2⟩:=info_parts Nl
 have heq:=fun W a n c=>Lib.run_eql_slice_nil (P:=Tryz.prog) W 39 9 a n c 0 0 Tryz.underlying39
 obtain⟨hnl,hone,⟨rfl,rfl|⟨a,c,rfl⟩⟩|⟨b,off,cap,rfl,hb,h0,hc⟩⟩:=hP
 ·obtain rfl:cs=[]:=List.eq_nil_of_length_eq_zero (by simpa using hnl)
  clear gW
  go_enter Tryz.func136,Tryz.ntmps136
  go_wp2_with fail
  go_ret
  exact⟨_,rfl,World.ownsRow_nil _ _ _ _,(by repeat (first|exact G.refl _|assumption|apply G.drew|apply G.drewN|apply G.alloc|refine G.trans ?_ (by assumption)))⟩
 ·obtain rfl:cs=[]:=List.eq_nil_of_length_eq_zero (by simpa using hnl)
  clear gW
  go_enter Tryz.func136,Tryz.ntmps136
  go_wp2_with fail
  go_ret
  exact⟨_,rfl,World.ownsRow_made W #[] 0 (Nat.le_refl _) (by unfold maxLen;omega) rfl,(by repeat (first|exact G.refl _|assumption|apply G.drew|apply G.drewN|apply G.alloc|refine G.trans ?_ (by assumption)))⟩
 ·have hadd:∀j,(⟨b,off,none⟩:Addr).add j=⟨b,off+j,none⟩:=fun j=>by unfold Addr.add;split<;>simp_all
  have hcc:∀(j:Nat) (u:Value),cs[j]?=some u→(W.alloc (.cells #[] 9)).cell? ((⟨b,off,none⟩:Addr).add j)=some u:=fun j u hu=>by
   obtain⟨hj,rfl⟩:=List.getElem?_eq_some_iff.1 hu
   rw[hadd,(gW.alloc _).cell (p:=⟨b,off+j,none⟩) hb];exact hc j hj
  have HCC:=hid hcc
  have HN:=hid hnl
  have HONE:=hid hone
  have hown0:(W.alloc (.cells #[] 9)).ownsRow W.heap.size 9 1 (.slice (some ⟨W.heap.size,0,none⟩) 0 0) 0 []:=World.ownsRow_made W #[] 0 (Nat.le_refl _) (by unfold maxLen;omega) rfl
  have HOWN:=hid hown0
  clear hcc hc hnl hone hown0 hadd gW hb
  go_enter Tryz.func136,Tryz.ntmps136
  go_wp2_with (at_builtin;refine wpList_append_own _ rfl _ _ 39 rfl W.heap.size 9 i0 _ 1 16 Tryz.underlying39 hi hz0 hz1 hz2 rfl (by decide) _ _ _ rfl HOWN.out ⟨b,off,none⟩ n cap cs rfl HN.out HCC.out HONE.out (by unfold maxLen;omega) (by omega) (by simp) ?_;intro v' w1 hown' hgrow _)
  go_ret
  have hgrow':(W.alloc (.cells #[] 9)).grownBy w1 (some W.heap.size):=hgrow
  have hG:G W w1:=Below.grown ((Below.refl W.heap.size W).alloc (Nat.le_refl _) (.cells #[] 9)) hgrow' (by simp) (fun j hj=>by cases hj;exact Nat.le_refl _)
  exact⟨_,rfl,by simpa using hown',hG⟩
theorem Wu(xs:List (List UInt8)):xs.flatMap oh=xs.map fun l=>.string (S l):=by
 induction xs with
 |nil=>rfl
 |cons x xs ih=>rw[List.flatMap_cons,ih];rfl
abbrev OwS(w:World)(base:Nat)(v:Value)(ls:List (List UInt8)):Prop:=w.ownsRow base 9 1 v ls.length (ls.flatMap oh)
theorem OwS.strs{w:World}{base:Nat}{v:Value}{ls:List (List UInt8)}(h:OwS w base v ls):di w v ls:=qO (by rw[←Wu];exact h)
theorem Ym{W:World}{P:Nat}{v:Value}{t:TypeId}{m:Nat×Nat}(h:W.heap[P]?=some (.cells #[v] t m)):W.setCell ⟨P,0,none⟩ v=W:=by
 have e:(W.setCell ⟨P,0,none⟩ v).heap=W.heap:=by
  apply Array.ext_getElem?
  intro j
  by_cases hj:P=j
  ·subst hj
   simp[World.setCell,Array.getElem?_modify,h]
  ·simp[World.setCell,Array.getElem?_modify,hj]
 have e2:W.setCell ⟨P,0,none⟩ v={ W with heap:=(W.setCell ⟨P,0,none⟩ v).heap }:=rfl
 rw[e2,e]
theorem PO{W:World}{P:Nat}{v u:Value}{t:TypeId}{m:Nat×Nat}(h:W.heap[P]?=some (.cells #[v] t m)):(W.setCell ⟨P,0,none⟩ u).heap[P]?=some (.cells #[u] t m):=by
 simp[World.setCell,Array.getElem?_modify,h]
theorem Yn(x:List UInt8)(P:Nat)(b:Bool)(t:TypeId)(W:World)(hc:W.heap[P]?=some (.cells #[.bool b] t (0,0)))(hx:x.length≤1000000):Calls Tryz.prog 138 #[OM x,.pointer (some ⟨P,0,none⟩)] W fun e w'=>e=.returned (.bool (dC x mf))∧∃w2,G W w2∧w'=w2.setCell ⟨P,0,none⟩ (.bool (b||dC x mf)):=by
 have SM:=hid (kM x mf W (by omega) (by simp[mf]))
 unfold mf at SM⊢
 have HC:=hid hc
 clear hc
 go_enter Tryz.func138,Tryz.ntmps138
 go_wp2_with fail
 refine SM.out.use ?_
 intro w2 g2
 have h2:=aB HC.out g2
 have c0:w2.cell? ⟨P,0,none⟩=some (.bool b):=by rw[cell_of_row w2 P 0 _ _ _ h2];rfl
 have f0:=Lib.frozen_of_heap h2 0
 clear h2
 cases b with
 |true=>
  go_wp2_with fail
  go_ret
  exact⟨rfl,w2,g2,rfl⟩
 |false=>
  go_wp2_with fail
  go_ret
  exact⟨rfl,w2,g2,rfl⟩
theorem IC{w:World}{b:Nat}{a0 a1:Value}{t:TypeId}(h:w.heap[b]?=some (.cells #[a0,a1] t (0,0))):w.cell? ⟨b,0,none⟩=some a0∧w.cell? ⟨b,1,none⟩=some a1:=by
 refine⟨?_,?_⟩<;>(rw[cell_of_row w b _ _ _ _ h];rfl)
structure PrS(w wr:World)(ov:Value)(ys:List PmC)(b:Bool):Prop where
 own:wr.ownsRow (w.heap.size+1) 41 2 ov ys.length (ys.flatMap lU)
 vals:∀y∈ys,OwS wr (w.heap.size+1) (slP y) y.1.2
 pr:wr.heap[w.heap.size]?=some (.cells #[.bool b] 4 (0,0))
 g:G w wr
theorem PrS.step{w wr w':World}{ov:Value}{ys:List PmC}{b b':Bool}(h:PrS w wr ov ys b)(m:wr.grownBy w' (some w.heap.size))(hp:w'.heap[w.heap.size]?=some (.cells #[.bool b'] 4 (0,0))):PrS w w' ov ys b':=
 ⟨h.own.kept m (l9 h.own (Nat.lt_succ_self _)),fun y hy=>(h.vals y hy).kept m (l9 (h.vals y hy) (Nat.lt_succ_self _)),hp,Below.grown h.g m h.g.size (fun j hj=>by cases hj;exact Nat.le_refl _)⟩
theorem PrS.grow{w wr w':World}{ov:Value}{ys:List PmC}{b:Bool}(h:PrS w wr ov ys b)(g:G wr w'):PrS w w' ov ys b:=h.step (rM _ g) (aB h.pr g)
theorem PrS.push{w wr w':World}{ov u v':Value}{ys:List PmC}{b:Bool}{n:List UInt8}{vs:List (List UInt8)}{a:Option Addr}{c:Nat}(h:PrS w wr ov ys b)(hu:OwS wr (w.heap.size+1) u vs)(he:u=.slice a vs.length c)(hown:w'.ownsRow (w.heap.size+1) 41 2 v' (ys.length+1) (ys.flatMap lU++[.string (S n),u]))(hgrow:wr.grownBy w' ov.ownBlock):PrS w w' v' (ys++[((n,vs),a,vs.length,c)]) b:=by
 refine⟨?_,fun y hy=>?_,?_,?_⟩
 ·rw[List.length_append,List.flatMap_append]
  rw[he]at hown
  exact hown
 ·rcases List.mem_append.1 hy with hy|hy
  ·exact(h.vals y hy).kept hgrow (IB (h.vals y hy) h.own (by decide))
  ·rw[List.mem_singleton.1 hy]
   have:=hu.kept hgrow (IB hu h.own (by decide))
   rw[he]at this
   exact this
 ·rw[hgrow.block w.heap.size (Nat.lt_of_lt_of_le (dn h.pr) (Nat.le_refl _)) (fun e=>by have:=(h.own.lt _ e.symm).1;omega)]
  exact h.pr
 ·exact Below.grown h.g hgrow h.g.size (fun j hj=>by have:=(h.own.lt j hj).1;omega)
theorem PT{q:List UInt8→Bool}{xs:List (List UInt8)}:(xs.findIdx? q=none→xs.any q=false)∧(∀k,xs.findIdx? q=some k→xs.any q=true):=by
 refine⟨fun h=>?_,fun k h=>?_⟩
 ·rw[List.findIdx?_eq_none_iff]at h
  rw[List.any_eq_false];intro x hx;simp[h x hx]
 ·rw[List.findIdx?_eq_some_iff_getElem]at h
  obtain⟨hk,h1,_⟩:=h
  exact List.any_eq_true.2 ⟨_,List.getElem_mem hk,h1⟩
theorem ZW(P:Nat)(b0:Bool)(t:TypeId)(cv:Value)(xs:List (List UInt8))(w5:World)(base:Nat)(hP:w5.heap[P]?=some (.cells #[.bool b0] t (0,0)))(hPb:P<base)(h:OwS w5 base cv xs)(hl:xs.length≤1000000)(hx:∀x∈xs,x.length≤1000000) :
  Calls Tryz.prog 137 #[cv,.func (.func 138) #[] #[.pointer (some ⟨P,0,none⟩)]] w5 fun e w6=>∃u w1,e=.returned u∧OwS w6 base u (qN xs)∧w5.grownBy w1 (some P)∧w1.grownBy w6 cv.ownBlock∧w6.heap[P]?=some (.cells #[.bool (b0||xs.any fun v=>dC v mf)] t (0,0)):=by
 have hne:cv.ownBlock≠some P:=fun e=>by have:=(h.lt _ e).1;omega
 have eg:=enters_of Tryz.func138 (by kernel_rfl) rfl
 have fn:=fun (W:World) (x:List UInt8) (b:Bool) (hW:W.heap[P]?=some (.cells #[.bool b] t (0,0))) (hm:x∈xs)=>Yn x P b t W hW (hx x hm)
 have still:∀(W:World) (x:List UInt8) (b:Bool),W.heap[P]?=some (.cells #[.bool b] t (0,0))→x∈xs→(b||dC x mf)=b→dA 138 #[OM x,.pointer (some ⟨P,0,none⟩)] W (.bool (dC x mf)):=fun W x b hW hm hb=>by
  refine(fn W x b hW hm).mono ?_
  rintro e w' ⟨rfl,w2,g2,rfl⟩
  refine⟨rfl,?_⟩
  rw[hb,Ym (aB hW g2)]
  exact g2
 have ix:=Ws 138 #[.pointer (some ⟨P,0,none⟩)] eg (fun v=>dC v mf) cv xs w5 (fun W w1=>∃w2,G W w2∧w1=w2.setCell ⟨P,0,none⟩ (.bool true)) (IA h (by intro u hu;obtain⟨l,_,hl⟩:=List.mem_flatMap.1 hu;simp[oh]at hl;subst hl;rfl)) hl
  (fun W g x hm hq=>by
   have:=still W x b0 (aB hP g) hm (by rw[hq];simp)
   rw[hq]at this
   exact this)
  (fun W g x hm hq=>by
   refine(fn W x b0 (aB hP g) hm).mono ?_
   rintro e w' ⟨rfl,w2,g2,rfl⟩
   rw[hq]
   exact⟨rfl,w2,g2,by simp⟩)
 have kept1:∀w1,ack (fun v=>dC v mf) xs (fun W w1=>∃w2,G W w2∧w1=w2.setCell ⟨P,0,none⟩ (.bool true)) w5 w1→w5.grownBy w1 (some P)∧w1.heap[P]?=some (.cells #[.bool (b0||xs.any fun v=>dC v mf)] t (0,0))∧(∀k,xs.findIdx? (fun v=>dC v mf)=some k→w1.heap[P]?=some (.cells #[.bool true] t (0,0))):=fun w1 hr=>by
  rcases hr with⟨h0,g⟩|⟨k,hk,W,gW,w2,g2,rfl⟩
  ·refine⟨rM _ g,?_,fun k hk=>by rw[h0]at hk;cases hk⟩
   rw[PT.1 h0,Bool.or_false]
   exact aB hP g
  ·have hp2:=aB hP (gW.trans g2)
   refine⟨Yv (rM _ (gW.trans g2)),?_,fun _ _=>PO hp2⟩
   rw[PT.2 k hk,Bool.or_true]
   exact PO hp2
 refine(Tc 138 #[.pointer (some ⟨P,0,none⟩)] eg (fun v=>dC v mf) base cv xs w5 _ h hl ix (fun w1 hr=>⟨World.ownsRow.kept h (kept1 w1 hr).1 (l9 h hPb),fun k hk W gW x hm=>?_⟩)).mono ?_
 ·have hW:W.heap[P]?=some (.cells #[.bool true] t (0,0)):=by
   have:=(kept1 w1 hr).2.2 k hk
   rw[gW.block P (dn this) (fun e=>hne e.symm)]
   exact this
  exact still W x true hW hm (by simp)
 ·rintro e w6 ⟨u,w1,hr,rfl,ho,hg,_⟩
  obtain⟨k1,k2,_⟩:=kept1 w1 hr
  refine⟨u,w1,rfl,ho,k1,hg,?_⟩
  rw[hg.block P (dn k2) (fun e=>hne e.symm)]
  exact k2
theorem Ec{ps:List Pm}{k:Nat}{p:Pm}(h:ps[k]?=some p)(f:Pm→List Pm):(ps.take (k+1)).flatMap f=(ps.take k).flatMap f++f p:=by
 rw[List.take_add_one,h];simp
theorem KZ{ps:List Pm}{k:Nat}{p:Pm}(h:ps[k]?=some p)(f:Pm→Bool):(ps.take (k+1)).any f=((ps.take k).any f||f p):=by
 rw[List.take_add_one,h];simp
theorem Td{ps:List Pm}{q:Pm}(h:q∈ps.flatMap dU):∃p∈ps,q.1=p.1:=by
 obtain⟨p,hp,hq⟩:=List.mem_flatMap.1 h
 refine⟨p,hp,?_⟩
 unfold dU at hq
 split at hq
 ·split at hq
  ·cases hq
  ·rw[List.mem_singleton.1 hq]
 ·rw[List.mem_singleton.1 hq]
theorem oZ(L:List Nat)(v:Value)(ps:List Pm)(w:World)(hX:∀X∈L,X<w.heap.size)(h:PmR w v ps)(hl:ps.length≤10000)(hn:∀p∈ps,p.1.length≤1000000)(hv:∀p∈ps,p.2.length≤100000∧∀u∈p.2,u.length≤100000):dP 90 #[v] w (fun u w'=>PmR (Wl L w') u (bG ps)):=by
 have HPS:=hid h.p
 have HN:=hid hn
 have HV:=hid hv
 obtain⟨va,vc,rfl⟩:∃a c,v=.slice a ps.length c:=by
  obtain⟨a,c,e,_⟩:=h.p
  exact⟨a,c,e⟩
 clear h hn hv
 go_enter Tryz.func90,Tryz.ntmps90
 go_wp2_with fail
 go_loopw [3,9] (fun ov i wr=>∃(k:Nat) (ys:List PmC),k≤ps.length∧i=.int .i64 k∧ys.map (·.1)=(ps.take k).flatMap dU∧ys.length≤k∧PrS w wr ov ys ((ps.take k).any ed)) (fun _ i _=>ps.length-(intOf i).toNat)
 case atStart=>exact⟨0,[],Nat.zero_le _,rfl,rfl,Nat.le_refl _,⟨World.ownsRow_nil _ _ _ _,fun y hy=>(by cases hy),heap_alloc_new w _,(G.refl w).alloc _⟩⟩
 case round=>
  obtain⟨k,ys,hk,rfl,hys,hyl,hst⟩:=hrel
  have HYS:=hid hys
  have HST:=hid hst
  obtain⟨oa,oc,hov⟩:=ug hst.own
  subst hov
  clear hys hst
  by_cases hlt:k<ps.length
  ·obtain⟨a2,cap2,e1,_,hc⟩:=(HPS.out.grow HST.out.g)
   obtain⟨b,off,e2,hb,hcc⟩:=hc (by intro e;rw[e]at hlt;simp at hlt)
   clear hc
   simp only[Value.slice.injEq,true_and]at e1
   obtain⟨rfl,rfl⟩:=e1
   subst e2
   obtain⟨sv,c1,c2,c3⟩:=hcc k _ (List.getElem?_eq_getElem hlt)
   have hp1:=HN.out _ (List.getElem_mem hlt)
   have hp2:=HV.out _ (List.getElem_mem hlt)
   obtain⟨p,hpe⟩:∃p,ps[k]=p:=⟨_,rfl⟩
   rw[hpe]at c1 c3 hp1 hp2
   have HP:=hid (show ps[k]?=some p by rw[List.getElem?_eq_getElem hlt,hpe])
   have CLN:=hid (fun W (g:G wr W)=>Yl sv p.2.length _ wr c3.row (by omega) W g)
   obtain⟨sa,sc,rfl,_⟩:=c3.len
   have HP2:=hid hp2.2
   have hp2l:=hp2.1
   clear hcc c3 hpe hp2
   go_wp2_with fail
   refine(CLN.out _ ((G.refl _).alloc _)).mono ?_
   rintro e w3 ⟨cv,rfl,hown,hg⟩
   have HOC:=hid (show OwS w3 (wr.alloc (.cells #[.string (S p.1),.slice sa p.2.length sc] 41)).heap.size cv p.2 from hown)
   have hbx:w3.heap[wr.heap.size]?=some (.cells #[.string (S p.1),.slice sa p.2.length sc] 41 (0,0)):=aB (heap_alloc_new wr _) hg
   have G3:=hid (((G.refl wr).alloc (.cells #[.string (S p.1),.slice sa p.2.length sc] 41)).trans hg)
   have HBX:=hid hbx
   obtain⟨ca,cc,rfl⟩:=ug hown
   obtain⟨q0,q1⟩:=IC hbx
   have f1:=Lib.frozen_of_heap hbx 1
   obtain⟨w4,hw4⟩:∃w4,w3.setCell ⟨wr.heap.size,1,none⟩ (.slice ca p.2.length cc)=w4:=⟨_,rfl⟩
   have hbx4:w4.heap[wr.heap.size]?=some (.cells #[.string (S p.1),.slice ca p.2.length cc] 41 (0,0)):=by rw[←hw4];exact Zl hbx
   have G4:=hid (show G wr w4 by rw[←hw4];exact jU G3.out (Nat.le_refl _))
   have HOC4:=hid (show OwS w4 (wr.heap.size+1) (.slice ca p.2.length cc) p.2 from by
    rw[←hw4]
    have e:(wr.alloc (.cells #[.string (S p.1),.slice sa p.2.length sc] 41)).heap.size=wr.heap.size+1:=by simp
    have ho:=HOC.out
    rw[e]at ho
    exact ho.kept (AC w3 wr.heap.size 1 _) (l9 ho (Nat.lt_succ_self _)))
   have HBX4:=hid hbx4
   clear hown hg hbx c1 c2
   obtain⟨p0,p1⟩:=IC hbx4
   have SM:=hid (fun W=>kM p.1 gJ W (by omega) (by simp[gJ]))
   have HST4:=hid (HST.out.grow G4.out)
   have IP:=info_parts Ea
   obtain⟨i0,hi,hz0,hz1,hz2⟩:=IP
   cases hsm:dC p.1 gJ with
   |false=>
    have HF:=hid (show(ys++[((p.1,p.2),ca,p.2.length,cc)]).map (·.1)=(ps.take (k+1)).flatMap dU by
     rw[Ec HP.out,List.map_append,HYS.out]
     unfold dU
     rw[if_neg (by rw[hsm];decide)];rfl)
    have HA:=hid (show(ps.take (k+1)).any ed=(ps.take k).any ed by rw[KZ HP.out];unfold ed;rw[hsm];simp)
    have SM2:=SM.out
    rw[hsm]at SM2
    unfold gJ at SM2
    have SMM:=hid SM2
    clear hsm SM2 hbx4
    go_wp2_with fail
    refine(SMM.out _).use ?_
    intro w5 g5
    have HST5:=hid (HST4.out.grow g5)
    have HBX5:=hid (aB HBX4.out g5)
    have HOC5:=hid (show OwS w5 (wr.heap.size+1) (.slice ca p.2.length cc) p.2 from Dv HOC4.out g5)
    clear g5 p0 p1 q0 q1 f1
    obtain⟨p0,p1⟩:=IC HBX5.out
    have hszz:=dn HST5.out.pr
    have hwr:=dn HST.out.pr
    go_wp2_with (at_builtin;refine wpList_append_own _ rfl _ _ 31 rfl (w.heap.size+1) 41 i0 _ 2 40 Tryz.underlying31 hi hz0 hz1 hz2 rfl (by decide) _ _ _ rfl (HST5.out.own.alloc _) ⟨w5.heap.size,0,none⟩ 1 1 [.string (S p.1),.slice ca p.2.length cc] rfl rfl (fun j x hx=>by rw[mV,Nat.zero_add,cell_of_row _ _ j _ _ _ (heap_alloc_new w5 _)];simpa using hx) (by intro x hx;simp at hx;rcases hx with rfl|rfl<;>rfl) (by unfold maxLen;omega) (by omega) (by simp;omega) ?_;intro v' w6 hown' hgrow hnil)
    have HPU:=hid (PrS.push (HST5.out.grow ((G.refl _).alloc _)) (rU (Dv HOC5.out ((G.refl _).alloc _)) (by omega)) rfl hown' hgrow)
    clear hown' hgrow hnil
    go_wp2_with fail
    go_roundw
    case measure=>simp[intOf];omega
    case rel=>exact⟨k+1,_,by omega,by go_num,HF.out,by simp;omega,by rw[HA.out];exact HPU.out⟩
   |true=>
    have SM2:=SM.out
    rw[hsm]at SM2
    unfold gJ at SM2
    have SMM:=hid SM2
    have HSM:=hid hsm
    clear hsm SM2 hbx4
    go_wp2_with fail
    refine(SMM.out _).use ?_
    intro w5 g5
    have HST5:=hid (HST4.out.grow g5)
    have HBX5:=hid (aB HBX4.out g5)
    have HOC5:=hid (show OwS w5 (wr.heap.size+1) (.slice ca p.2.length cc) p.2 from Dv HOC4.out g5)
    have G5:=hid (G4.out.trans g5)
    have hwr:=dn HST.out.pr
    have DEL:=hid (ZW w.heap.size ((ps.take k).any ed) 4 _ p.2 w5 (wr.heap.size+1) HST5.out.pr (by omega) HOC5.out (by omega) (fun x hx=>by have:=HP2.out x hx;omega))
    clear g5 p0 p1 q0 q1 f1
    obtain⟨p0,p1⟩:=IC HBX5.out
    go_wp2_with fail
    refine DEL.out.mono ?_
    rintro e w6 ⟨u,w1,rfl,ho,m1,m2,hpp⟩
    obtain⟨ua,uc,rfl⟩:=ug ho
    have M:=Ez (IG (rM _ G5.out) m1) m2 (fun j hj=>.inr (by have:=(HOC5.out.lt j hj).1;omega))
    have HST6:=hid (HST.out.step M hpp)
    have hbx6:w6.heap[wr.heap.size]?=some (.cells #[.string (S p.1),.slice ca p.2.length cc] 41 (0,0)):=by
     have h1:w1.heap[wr.heap.size]?=_:=(m1.block wr.heap.size (dn HBX5.out) (fun e=>by have:=Option.some.inj e;omega)).trans HBX5.out
     exact(m2.block wr.heap.size (dn h1) (fun e=>by have:=(HOC5.out.lt _ e.symm).1;omega)).trans h1
    have f1:=Lib.frozen_of_heap hbx6 1
    obtain⟨p0',p1'⟩:=IC hbx6
    obtain⟨w7,hw7⟩:∃w7,w6.setCell ⟨wr.heap.size,1,none⟩ (.slice ua (qN p.2).length uc)=w7:=⟨_,rfl⟩
    have HST7:=hid (show PrS w w7 (.slice oa ys.length oc) ys ((ps.take k).any ed||p.2.any fun v=>dC v mf)from by
     rw[←hw7]
     refine HST.out.step (Ez M (AC w6 wr.heap.size 1 _) (fun j hj=>by cases hj;exact .inr (Nat.le_refl _))) ?_
     rw[Below.heap_setCell _ _ _ _ (by simp only;omega)]
     exact hpp)
    have HBX7:=hid (show w7.heap[wr.heap.size]?=some (.cells #[.string (S p.1),.slice ua (qN p.2).length uc] 41 (0,0)) by rw[←hw7];exact Zl hbx6)
    have HOC7:=hid (show OwS w7 (wr.heap.size+1) (.slice ua (qN p.2).length uc) (qN p.2)from by
     rw[←hw7]
     exact ho.kept (AC w6 wr.heap.size 1 _) (l9 ho (Nat.lt_succ_self _)))
    have HAA:=hid (show(ps.take (k+1)).any ed=((ps.take k).any ed||p.2.any fun v=>dC v mf) by rw[KZ HP.out];unfold ed;rw[HSM.out];simp)
    clear ho m1 m2 hpp M hbx6 p0 p1
    by_cases hk0:qN p.2=[]
    ·have hl0:(((qN p.2).length:Int)==0)=true:=by rw[hk0];rfl
     have HF:=hid (show ys.map (·.1)=(ps.take (k+1)).flatMap dU by
      rw[Ec HP.out,HYS.out]
      unfold dU
      rw[if_pos HSM.out,if_pos hk0,List.append_nil])
     obtain⟨r0,r1⟩:=IC HBX7.out
     clear hk0
     go_wp2_with fail
     go_roundw
     case measure=>simp[intOf];omega
     case rel=>exact⟨k+1,ys,by omega,by go_num,HF.out,by omega,by rw[HAA.out];exact HST7.out⟩
    ·have hl0:(((qN p.2).length:Int)==0)=false:=beq_eq_false_iff_ne.2 (by have:=List.length_pos_iff.2 hk0;omega)
     have HF:=hid (show(ys++[((p.1,qN p.2),ua,(qN p.2).length,uc)]).map (·.1)=(ps.take (k+1)).flatMap dU by
      rw[Ec HP.out,List.map_append,HYS.out]
      unfold dU
      rw[if_pos HSM.out,if_neg hk0];rfl)
     have hszz:=dn HST7.out.pr
     obtain⟨r0,r1⟩:=IC HBX7.out
     clear hk0
     go_wp2_with (at_builtin;refine wpList_append_own _ rfl _ _ 31 rfl (w.heap.size+1) 41 i0 _ 2 40 Tryz.underlying31 hi hz0 hz1 hz2 rfl (by decide) _ _ _ rfl (HST7.out.own.alloc _) ⟨w7.heap.size,0,none⟩ 1 1 [.string (S p.1),.slice ua (qN p.2).length uc] rfl rfl (fun j x hx=>by rw[mV,Nat.zero_add,cell_of_row _ _ j _ _ _ (heap_alloc_new w7 _)];simpa using hx) (by intro x hx;simp at hx;rcases hx with rfl|rfl<;>rfl) (by unfold maxLen;omega) (by omega) (by simp;omega) ?_;intro v' w8 hown' hgrow hnil)
     have HPU:=hid (PrS.push (HST7.out.grow ((G.refl _).alloc _)) (rU (Dv HOC7.out ((G.refl _).alloc _)) (by omega)) rfl hown' hgrow)
     clear hown' hgrow hnil
     go_wp2_with fail
     go_roundw
     case measure=>simp[intOf];omega
     case rel=>exact⟨k+1,_,by omega,by go_num,HF.out,by simp;omega,by rw[HAA.out];exact HPU.out⟩
  ·obtain rfl:k=ps.length:=by omega
   have HF:=hid (show ys.map (·.1)=ps.flatMap dU by have:=HYS.out;rwa [List.take_length]at this)
   have HPR:=hid (show PmR (Wl L wr) (.slice oa ys.length oc) (ps.flatMap dU)from⟨by rw[←HF.out];exact EJ (w:=wr) (fun y hy=>OwS.strs (Wl.own (HST.out.vals y hy) (fun X hx=>by have:=hX X hx;omega))) (Wl.own HST.out.own (fun X hx=>by have:=hX X hx;omega)),N8 HST.out.own⟩)
   have hp:=HST.out.pr
   rw[List.take_length]at hp
   have c0:wr.cell? ⟨w.heap.size,0,none⟩=some (.bool (ps.any ed)):=by rw[cell_of_row wr _ 0 _ _ _ hp];rfl
   have hfl:(ps.flatMap dU).length=ys.length:=by rw[←HF.out];simp
   have FD:=hid (qQ (.slice oa ys.length oc) (ps.flatMap dU) oV wr HPR.out.un.p (by omega) (fun q hq=>by obtain⟨p,hp,e⟩:=Td hq;rw[e];exact HN.out p hp) (by simp[oV]))
   have HG:=hid HST.out.g
   clear hp
   cases hany:ps.any ed with
   |false=>
    have HR:=hid (show bG ps=ps.flatMap dU by unfold bG;rw[hany];rfl)
    rw[hany]at c0
    clear hany hfl
    go_wp2_with fail
    go_ret
    exact⟨_,rfl,by rw[HR.out];exact HPR.out,HG.out⟩
   |true=>
    rw[hany]at c0
    have HAN:=hid hany
    clear hany
    cases hfd:gZ (ps.flatMap dU) oV with
    |some i=>
     have HR:=hid (show bG ps=ps.flatMap dU by unfold bG;rw[HAN.out,hfd];rfl)
     rw[hfd]at FD
     unfold oV at FD
     clear hfd hfl
     go_wp2_with fail
     refine FD.out.use ?_
     intro w2 g2
     simp only[kF]
     go_wp2_with fail
     go_ret
     exact⟨_,rfl,by rw[HR.out];exact HPR.out.wo g2,HG.out.trans g2⟩
    |none=>
     have HR:=hid (show bG ps=ps.flatMap dU++[(oV,[[49]])] by unfold bG;rw[HAN.out,hfd];rfl)
     rw[hfd]at FD
     have WTH:=hid (fun W b (g:G wr W) (hb:∀X∈L,X<b) (hc:W.cell? ⟨b,0,none⟩=some (.string (S [49])))=>yJ L (.slice oa ys.length oc) oV (.slice (some ⟨b,0,none⟩) 1 1) [[49]] (ps.flatMap dU) W (fun X hx=>Nat.lt_trans (hb X hx) (World.block_lt_of_cell? _ _ hc)) (HPR.out.wo g) (di.one1 (by rw[World.cell?_of_block (Wl.other (L:=L) (w:=W) (fun X hx=>by have:=hb X hx;show b≠X;omega))];exact hc)) (by omega))
     unfold oV at FD WTH HR
     clear hfd hfl
     go_wp2_with fail
     refine FD.out.use ?_
     intro w2 g2
     simp only[kF]
     go_wp2_with fail
     refine(WTH.out _ w2.heap.size (g2.alloc _) (fun X hx=>by have:=hX X hx;have:=g2.size;have:=HG.out.size;omega) (World.cell?_alloc_new w2 _ _ 0)).use ?_
     intro u w3 hu g3
     obtain⟨ua,um,uc,hus⟩:∃a n c,u=.slice a n c:=by obtain⟨a,c,e,_⟩:=hu.p;exact⟨a,_,c,e⟩
     have HU:=hid hu
     have G3:=hid ((HG.out.trans (g2.alloc _)).trans g3)
     subst hus
     clear hu g2 g3
     go_wp2_with fail
     go_ret
     exact⟨_,rfl,by rw[HR.out];exact HU.out,G3.out⟩
end Go.Proofs.YtmffejnigppbpaaGreatDoor
