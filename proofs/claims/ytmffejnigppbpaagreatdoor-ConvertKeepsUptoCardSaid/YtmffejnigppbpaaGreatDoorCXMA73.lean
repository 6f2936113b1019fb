/-
  Texts merged into one: CardRight, ConvOther.
-/
import Derived.Test.YtmffejnigppbpaaGreatDoorCXCardOne
import Derived.Test.YtmffejnigppbpaaGreatDoorCXMA71
import Derived.Test.YtmffejnigppbpaaGreatDoorCXMA58
import Derived.Test.YtmffejnigppbpaaGreatDoorCXMA70
import Derived.Test.YtmffejnigppbpaaGreatDoorCXMA67
import Derived.Carry
import Derived.Test.YtmffejnigppbpaaGreatDoorCXMA56
import Derived.Test.YtmffejnigppbpaaGreatDoorCXMVeil
import Derived.Test.YtmffejnigppbpaaGreatDoorCXMA63
set_option linter.unusedVariables false
set_option linter.unusedSimpArgs false
set_option maxHeartbeats 8000000
set_option maxRecDepth 100000
namespace Go.Proofs.YtmffejnigppbpaaGreatDoor
open Go.RowKit
def Be(ver:Int)(xs:List It)(c:Int):Prop:=(ver=3∨ver=4)→xs.length≤60→∀(i:Nat) (x:It),xs[i]?=some x→(∀(j:Nat) (y:It),j<i→xs[j]?=some y→qM ver y=true)→qM ver x=false→xm ver x c
def aaF(ver:Int)(xs:List It)(c:Int)(k:Option Nat):Prop:=(∀i,k=some i→i<xs.length)∧((ver=3∨ver=4)→xs.length≤60→(∀x∈xs,qM ver x=true)→Gz ver (xs.map It.n)=false→c=9)
def jG(ver:Int)(xs:List It)(r:Value)(w:World):Prop:=(jq ver xs=true∧r=.nilIface)∨(jq ver xs=false∧∃c k,lL w r (some (c,k))∧c≠0∧Be ver xs c∧aaF ver xs c k)
theorem jG.no{ver:Int}{xs:List It}{r:Value}{w:World}{c:Int}{k:Option Nat}(h:jq ver xs=false)(hr:lL w r (some (c,k)))(hc:c≠0)(hf:Be ver xs c)(hb:aaF ver xs c k):jG ver xs r w:=.inr ⟨h,c,k,hr,hc,hf,hb⟩
theorem jG.ver{ver:Int}{xs:List It}{w:World}{c:Int}(h:¬(ver=3∨ver=4))(hc:c≠0):jG ver xs (eno c) w:=jG.no (k:=none) (by unfold jq;rw[decide_eq_false h];rfl) rfl hc (fun h'=>absurd h' h) ⟨fun i e=>(by cases e),fun h'=>absurd h' h⟩
theorem jG.many{ver:Int}{xs:List It}{w:World}{c:Int}(h:¬xs.length≤60)(hc:c≠0):jG ver xs (eno c) w:=jG.no (k:=none) (by unfold jq;rw[decide_eq_false h];simp) rfl hc (fun _ h'=>absurd h' h) ⟨fun i e=>(by cases e),fun _ h'=>absurd h' h⟩
theorem jG.item{ver:Int}{xs:List It}{w:World}{r:Value}{c:Int}{i:Nat}{x:It}(hx:xs[i]?=some x)(hn:∀(j:Nat) (y:It),j<i→xs[j]?=some y→qM ver y=true)(ho:xm ver x c)(hc:c≠0)(hr:lL w r (some (c,some i))):jG ver xs r w:=by
 have hb:qM ver x=false:=by
  cases h:qM ver x with
  |false=>rfl
  |true=>exact absurd (ho.ok.2 h) hc
 have hlt:i<xs.length:=(List.getElem?_eq_some_iff.1 hx).1
 refine jG.no (k:=some i) ?_ hr hc ?_ ⟨fun j e=>by cases e;exact hlt,fun _ _ ha _=>by rw[ha x (List.mem_of_getElem? hx)]at hb;cases hb⟩
 ·cases h:jq ver xs with
  |false=>rfl
  |true=>rw[(nK.1 h).2.2.1 x (List.mem_of_getElem? hx)]at hb;cases hb
 ·intro _ _ j y hy hj hyb
  rcases Nat.lt_trichotomy i j with h|h|h
  ·rw[hj i x h hx]at hb;cases hb
  ·subst h;rw[hx]at hy;cases hy;exact ho
  ·rw[hn j y h hy]at hyb;cases hyb
theorem Bf{ver:Int}{xs:List It}{c:Int}(h:∀x∈xs,qM ver x=true):Be ver xs c:=fun _ _ i x hx _ hb=>by rw[h x (List.mem_of_getElem? hx)]at hb;cases hb
theorem jG.most{ver:Int}{xs:List It}{w:World}{r:Value}{i:Nat}(ha:∀x∈xs,qM ver x=true)(hi:i<xs.length)(hm:qW ver (xs.map It.n) i=false)(hr:lL w r (some (9,some i))):jG ver xs r w:=by
 refine jG.no (k:=some i) ?_ hr (by decide) (Bf ha) ⟨fun j e=>by cases e;exact hi,fun _ _ _ _=>rfl⟩
 cases h:jq ver xs with
 |false=>rfl
 |true=>
  have:=(nK.1 h).2.2.2.1
  unfold Gz at this
  rw[List.all_eq_true]at this
  rw[this i (List.mem_range.2 (by simpa using hi))]at hm;cases hm
theorem jG.least{ver:Int}{xs:List It}{w:World}{c:Int}{e:Ent}(ha:∀x∈xs,qM ver x=true)(hmo:∀i,i<xs.length→qW ver (xs.map It.n) i=true)(he:e∈fM ver)(hm:(vk e.name (xs.map It.n):Int)<(jE ver e.name).2.1)(hc:c≠0):jG ver xs (eno c) w:=by
 refine jG.no (k:=none) ?_ rfl hc (Bf ha) ⟨fun i e=>(by cases e),fun _ _ _ hm=>by
  have:Gz ver (xs.map It.n)=true:=by unfold Gz;rw[List.all_eq_true];intro i hi;exact hmo i (by simpa using hi)
  rw[this]at hm;cases hm⟩
 cases h:jq ver xs with
 |false=>rfl
 |true=>
  have:=(nK.1 h).2.2.2.2
  unfold MH at this
  rw[List.all_eq_true]at this
  have:=this e he
  rw[decide_eq_true hm]at this;cases this
theorem jG.yes{ver:Int}{xs:List It}{w:World}(hv:ver=3∨ver=4)(hl:xs.length≤60)(ha:∀x∈xs,qM ver x=true)(hm:∀i,i<xs.length→qW ver (xs.map It.n) i=true)(hb:∀j (h:j<(fM ver).length),¬((vk ((fM ver)[j]).name (xs.map It.n):Int)<(jE ver ((fM ver)[j]).name).2.1)):jG ver xs .nilIface w:=by
 refine .inl ⟨nK.2 ⟨hv,hl,ha,?_,?_⟩,rfl⟩
 ·unfold Gz;rw[List.all_eq_true];intro i hi;exact hm i (by simpa using hi)
 ·unfold MH;rw[List.all_eq_true];intro e he
  obtain⟨j,hj,rfl⟩:=List.getElem_of_mem he
  rw[decide_eq_false (hb j hj)];rfl
theorem pq{w:World}{v:Value}{xs:List It}(h:dX w v xs)(h0:xs≠[]):∃b off cap,v=.slice (some ⟨b,off,none⟩) xs.length cap∧b<w.heap.size∧∀(i:Nat) (x:It),xs[i]?=some x→∃pv lv,xZ w b (off+i*15) x pv lv:=by
 obtain⟨a,cap,e,_,h⟩:=h
 obtain⟨b,off,e2,hb,h⟩:=h h0
 exact⟨b,off,cap,by rw[e,e2],hb,h⟩
theorem Zu(n:List UInt8)(ns:List (List UInt8)):vk n ns≤ns.length:=List.length_filter_le _ _
theorem J7{xs:List It}{k:Nat}{x:It}(hx:xs[k]?=some x)(n:List UInt8):(vk n ((xs.map It.n).take (k+1)):Int)=if n=bU x.n then(vk (bU x.n) ((xs.map It.n).take k):Int)+1 else(vk n ((xs.map It.n).take k):Int):=by
 have e:(xs.map It.n).take (k+1)=(xs.map It.n).take k++[x.n]:=by
  rw[List.take_add_one,List.getElem?_map,hx];rfl
 rw[e]
 unfold vk
 rw[List.filter_append,List.length_append]
 by_cases h:n=bU x.n
 ·rw[if_pos h];subst h;simp
 ·rw[if_neg h]
  have:(bU x.n==n)=false:=beq_eq_false_iff_ne.2 (fun q=>h q.symm)
  simp[this]
theorem VI{ver:Int}{xs:List It}{k:Nat}{x:It}(hx:xs[k]?=some x):qW ver (xs.map It.n) k=!(decide (0<(jE ver x.n).2.2.1∧(jE ver x.n).2.2.1<(vk (bU x.n) ((xs.map It.n).take k):Int)+1)):=by
 unfold qW
 have e:(xs.map It.n)[k]?=some x.n:=by rw[List.getElem?_map,hx];rfl
 rw[e]
 simp only
 rw[J7 hx,if_pos rfl]
theorem Xy(v:Int)(w:World)(h3:v≠3)(h4:v≠4):dA 66 #[.int .i64 v] w (.tuple #[.slice none 0 0,eno 1]):=by
 have b3:(v != 3)=true:=by simpa using h3
 have b4:(v != 4)=true:=by simpa using h4
 go_enter Tryz.func66,Tryz.ntmps66
 clear h3 h4
 go_wp2_with fail
 refine bodyPost_ret (v:=.tuple #[.slice none 0 0,eno 1]) ?_ rfl ⟨rfl,?_⟩
 ·simp[results,Tryz.f66,go_sem]
 ·exact(by repeat (first|exact G.refl _|assumption|apply G.drew|apply G.drewN|apply G.alloc|refine G.trans ?_ (by assumption)))
theorem jJ{w:World}{b:Nat}{a0 a1:Value}{t:TypeId}(h:w.heap[b]?=some (.cells #[a0,a1] t (0,0))):w.cell? ⟨b,0,none⟩=some a0∧w.cell? ⟨b,1,none⟩=some a1:=by
 refine⟨?_,?_⟩<;>(rw[cell_of_row w b _ _ _ _ h];rfl)
theorem JB(ver:Int)(iv:Value)(xs:List It)(w:World)(h:dX w iv xs)(hl:xs.length≤1000000)(hs:∀x∈xs,Sml x)(hR:qm w)(hM:nJ w)(hE:gQ w):dP 30 #[gY ver iv] w (jG ver xs):=by
 obtain⟨w1,hw1⟩:∃w1,w.alloc (.cells #[.int .i64 ver,iv] 24)=w1:=⟨_,rfl⟩
 have HB:=hid (show w1.heap[w.heap.size]?=some (.cells #[.int .i64 ver,iv] 24 (0,0)) by rw[←hw1];exact heap_alloc_new w _)
 have G1:=hid (show G w w1 by rw[←hw1];exact(G.refl w).alloc _)
 have HIT:=hid h
 have HS:=hid hs
 have HRM:=hid hR
 have HM:=hid hM
 have HE:=hid hE
 obtain⟨ia,ic,rfl,hcap⟩:=h.len
 clear h hcap hs hR hM hE
 unfold gY
 obtain⟨c0,c1⟩:=jJ HB.out
 by_cases hv:ver=3∨ver=4
 case neg=>
  have HN:=hid hv
  have h3:ver≠3:=fun e=>hv (.inl e)
  have h4:ver≠4:=fun e=>hv (.inr e)
  clear hv
  go_enter Tryz.func30,Tryz.ntmps30
  go_wp2_with fail
  refine(Xy ver _ h3 h4).use ?_
  intro w2 g2
  clear h3 h4
  go_wp2_with fail
  go_ret
  exact⟨_,rfl,jG.ver HN.out (by decide),G1.out.trans g2⟩
 have HV:=hid hv
 have hlen2:=Na ver
 have hlen25:=(YG ver).2
 have NM:=hid (fun W g=>WH ver W hv (HRM.out.grow g))
 have OF:=hid (fun (s:List UInt8) W (g:G w W) (hs:s.length≤1000000)=>Eh s ver W hv hs (HRM.out.grow g))
 have ONE:=hid (fun (x:It) pv lv W (g:G w W) (hx:x∈xs) (ho:dG W x pv lv)=>Uo ver hv x pv lv W ho (HS.out x hx) (HRM.out.grow g) (HM.out.grow g) (HE.out.grow g))
 have HTO:=hid (YG ver).1
 clear hv
 go_enter Tryz.func30,Tryz.ntmps30
 go_wp2_with fail
 refine(NM.out w1 G1.out).mono ?_
 rintro e w2 ⟨u,rfl,hrow,hB⟩
 obtain⟨g,cap,hu⟩:∃g cap,u=.slice (some ⟨g,0,none⟩) (fM ver).length cap:=by
  obtain⟨n,hn⟩:∃n,(fM ver).length=n+1:=⟨(fM ver).length-1,by omega⟩
  rw[hn]at hrow⊢
  exact ownsRow_succ hrow
 subst hu
 have hcell:∀j,(hj:j<(fM ver).length)→w2.cell? ⟨g,j,none⟩=some (.string (S ((fM ver)[j]).name)):=fun j hj=>by
  have:=hrow.cells (g:=g) rfl j (.string (S ((fM ver)[j]).name)) (by simp[hj])
  have ea:(⟨g,0,none⟩:Addr).add j=⟨g,j,none⟩:=by unfold Addr.add;split<;>simp_all
  rw[ea]at this
  exact this
 have hgl:g<w2.heap.size:=World.block_lt_of_cell? _ _ (hcell 0 (by omega))
 have HC:=hid hcell
 have g2:G w1 w2:=hB
 have K2:=hid g2
 have HB2:=hid (aB HB.out g2)
 have HGL:=hid hgl
 clear hcell hrow hB g2 c0 c1 hgl
 obtain⟨c0,c1⟩:=jJ HB2.out
 by_cases h60:xs.length≤60
 case neg=>
  have HN:=hid h60
  have h60':(60:Int)<xs.length:=by omega
  clear h60
  go_wp2_with fail
  go_ret
  exact⟨_,rfl,jG.many HN.out (by decide),G1.out.trans K2.out⟩
 have h60':¬(60:Int)<xs.length:=by omega
 go_wp2_with fail
 clear c0 c1 h60'
 go_loopw [35] (fun i wr=>∃k:Nat,k≤xs.length∧i=.int .i64 k∧(∀(j:Nat) (y:It),j<k→xs[j]?=some y→qM ver y=true)∧G w2 wr) (fun i _=>xs.length-(intOf i).toNat)
 case atStart=>exact⟨0,Nat.zero_le _,rfl,fun j _ h=>by omega,G.refl _⟩
 case round=>
  obtain⟨k,hk,rfl,hno,gr⟩:=hrel
  have KR:=hid gr
  have GR:=hid (G1.out.trans (K2.out.trans gr))
  have HB3:=hid (aB HB2.out gr)
  have HNO:=hid hno
  clear hno gr
  by_cases hlt2:k<xs.length
  ·obtain⟨b,off,cap2,e,hb,hit⟩:=pq (HIT.out.grow GR.out) (by rintro rfl;simp at hlt2)
   cases e
   have hx:=List.getElem?_eq_getElem hlt2
   obtain⟨x,hxe⟩:∃x,xs[k]=x:=⟨_,rfl⟩
   rw[hxe]at hx
   obtain⟨pv,lv,hat⟩:=hit k x hx
   obtain⟨pa,pc,rfl⟩:=hat.ok.pv
   obtain⟨la,lc,rfl⟩:=hat.ok.lv
   obtain⟨k0,k1,k2,k3,k4,k5,k6,k7,k8,k9,k10,k11,k12,k13,k14⟩:=hat.e
   have HX:=hid hx
   have HOK:=hid hat.ok
   have hkl:(k:Int)<(xs.length:Int):=by omega
   have HBX:=hid (aB HB3.out ((G.refl wr).alloc (.cells (x.cells (.slice pa x.ps.length pc) (.slice la x.v.ps.length lc)).toArray 38)))
   clear hit hat hx hxe
   obtain⟨c0,c1⟩:=jJ HBX.out
   simp only[It.cells]at c0 c1
   go_wp2_with fail
   refine(ONE.out x _ _ _ (GR.out.trans ((G.refl wr).alloc _)) (List.mem_of_getElem? HX.out) (HOK.out.grow ((G.refl wr).alloc _))).use ?_
   rintro r w4 ⟨c,rfl,ho⟩ g4
   have G4:=hid (GR.out.trans (((G.refl wr).alloc _).trans g4))
   have K4:=hid (KR.out.trans (((G.refl wr).alloc _).trans g4))
   clear k0 k1 k2 k3 k4 k5 k6 k7 k8 k9 k10 k11 k12 k13 k14 g4 c0 c1
   have HO:=hid ho
   clear ho
   by_cases hc:c=0
   ·subst hc
    have HN2:=hid (show ∀(j:Nat) (y:It),j<k+1→xs[j]?=some y→qM ver y=true from fun j y hj hy=>by
     rcases Nat.lt_or_ge j k with h1|h1
     ·exact HNO.out j y h1 hy
     ·obtain rfl:j=k:=by omega
      rw[HX.out]at hy;cases hy;exact HO.out.ok.1 rfl)
    go_wp2_with fail
    go_roundw
    case measure=>simp[intOf];omega
    case rel=>exact⟨k+1,by omega,by go_num,HN2.out,K4.out⟩
   ·have hc':(c != 0)=true:=by simpa using hc
    have HCN:=hid hc
    clear hc
    go_wp2_with fail
    go_ret
    exact⟨_,rfl,jG.item HX.out HNO.out HO.out HCN.out (ji.new _ _ _ _),G4.out.alloc _⟩
  ·obtain rfl:k=xs.length:=by omega
   obtain⟨wo,rfl⟩:∃wo,wo=wr:=⟨_,rfl⟩
   have HALL:=hid (show ∀x∈xs,qM ver x=true from fun x hx=>by
    obtain⟨j,hj,rfl⟩:=List.getElem_of_mem hx
    exact HNO.out j _ hj (List.getElem?_eq_getElem hj))
   obtain⟨c0,c1⟩:=jJ HB3.out
   have e0:=(HB3.out)
   obtain⟨wm,hwm⟩:∃wm,wo.alloc (.map #[] 0)=wm:=⟨_,rfl⟩
   have KM:=hid (show G w2 wm by rw[←hwm];exact KR.out.alloc _)
   have GM:=hid (show G w wm by rw[←hwm];exact GR.out.alloc _)
   have HM0:=hid (show wm.heap[wo.heap.size]?=some (.map #[] 0) by rw[←hwm];exact heap_alloc_new wo _)
   have HRW:=hid (show G wo wm by rw[←hwm];exact(G.refl wo).alloc _)
   have HBM:=hid (aB HB3.out HRW.out)
   clear c0 c1 e0
   obtain⟨c0,c1⟩:=jJ HBM.out
   have hmm:=@run_makeMap Tryz.prog
   go_wp2_with fail
   clear hmm
   clear c0 c1
   go_loopw [56] (fun i wr=>∃k:Nat,k≤xs.length∧i=.int .i64 k∧(∃es cl,wr.heap[wo.heap.size]?=some (.map es cl)∧xM es cl (fun n=>(vk n ((xs.map It.n).take k):Int)))∧(∀j,j<k→qW ver (xs.map It.n) j=true)∧G wo wr) (fun i _=>xs.length-(intOf i).toNat)
   case atStart=>exact⟨0,Nat.zero_le _,rfl,⟨_,_,HM0.out,ZJ 0⟩,fun j h=>by omega,HRW.out⟩
   case round=>
    obtain⟨k,hk,rfl,⟨es,cl,hmap,hcnt⟩,hno,gr⟩:=hrel
    have KQ:=hid gr
    have GQ:=hid (GR.out.trans gr)
    have HBQ:=hid (aB HB3.out gr)
    have HMO:=hid hno
    have HMAP:=hid hmap
    have HCNT:=hid hcnt
    clear hno gr hmap hcnt
    by_cases hlt2:k<xs.length
    ·obtain⟨b,off,cap2,e,hb,hit⟩:=pq (HIT.out.grow GQ.out) (by rintro rfl;simp at hlt2)
     cases e
     have hx:=List.getElem?_eq_getElem hlt2
     obtain⟨x,hxe⟩:∃x,xs[k]=x:=⟨_,rfl⟩
     rw[hxe]at hx
     obtain⟨pv,lv,hat⟩:=hit k x hx
     obtain⟨pa,pc,rfl⟩:=hat.ok.pv
     obtain⟨la,lc,rfl⟩:=hat.ok.lv
     obtain⟨k0,k1,k2,k3,k4,k5,k6,k7,k8,k9,k10,k11,k12,k13,k14⟩:=hat.e
     have HX:=hid hx
     have hkl:(k:Int)<(xs.length:Int):=by omega
     have hnl:=(HS.out x (List.mem_of_getElem? hx)).bounds.2.1
     clear hit hat hx hxe
     go_wp2_with fail
     refine(kV x.n _ (by omega)).use ?_
     intro w4 g4
     have GA:=hid (((G.refl wr).alloc (.cells (x.cells (.slice pa x.ps.length pc) (.slice la x.v.ps.length lc)).toArray 38)).trans g4)
     clear k0 k1 k2 k3 k4 k5 k6 k7 k8 k9 k10 k11 k12 k13 k14 g4
     have hm4:=aB HMAP.out GA.out
     obtain⟨u,hu⟩:∃u,u=bU x.n:=⟨_,rfl⟩
     have lk:=Hr hm4 HCNT.out u
     obtain⟨a,ha⟩:∃a:Nat,a=vk u ((xs.map It.n).take k):=⟨_,rfl⟩
     have hal:a≤1000:=by
      rw[ha]
      have h1:=Zu u ((xs.map It.n).take k)
      rw[List.length_take,List.length_map]at h1
      omega
     rw[←ha]at lk
     obtain⟨es',cl',pt,hcn⟩:=ZK hm4 HCNT.out u ((a:Int)+1)
     obtain⟨w5,hw5⟩:∃w5,({ w4 with heap:=w4.heap.setIfInBounds wo.heap.size (.map es' cl') }:World)=w5:=⟨_,rfl⟩
     have hgr5:=VV w4 wo.heap.size (.map es' cl')
     have HM5:=hid (XX hm4 (.map es' cl'))
     rw[hw5]at pt hgr5 HM5
     have K5:=hid (show G wo w5 from Below.grown (KQ.out.trans GA.out) hgr5 (Nat.le_trans KQ.out.size GA.out.size) (fun j hj=>by cases hj;exact Nat.le_refl _))
     have G5:=hid (GR.out.trans K5.out)
     have HB5:=hid (aB HB3.out K5.out)
     obtain⟨r0,r1,r2,r3,hru⟩:∃r0 r1 r2 r3,jE ver x.n=(r0,r1,r2,r3):=⟨_,_,_,_,rfl⟩
     have OF1:=OF.out u w5 G5.out (by rw[hu,uQ];omega)
     rw[show iM (fM ver) (bU u)=jE ver x.n by rw[hu,Po];rfl,hru]at OF1
     have HOF:=hid OF1
     have HRU:=hid hru
     clear hw5 hgr5 hru OF1
     have HCN:=hid hcn
     rw[←hu]
     have HU:=hid hu
     have HA:=hid ha
     have HM4:=hid hm4
     clear hcn hu ha hm4
     obtain⟨c0,c1⟩:=jJ HB5.out
     go_wp2_with fail
     clear pt lk
     refine HOF.out.use ?_
     intro w6 g6
     have GL:=hid (g6.alloc (.cells #[.int .i64 r0,.int .i64 r1,.int .i64 r2,.int .i64 r3] 47))
     have HM6:=hid (aB HM5.out GL.out)
     have lk:=Hr HM6.out HCN.out u
     simp only[if_true]at lk
     have HB6:=hid (aB HB5.out GL.out)
     have K6:=hid (K5.out.trans GL.out)
     have G6:=hid (G5.out.trans GL.out)
     clear c0 c1 g6 HOF
     have HMA:=hid (show qW ver (xs.map It.n) k=!(decide (0<r2∧r2<(a:Int)+1)) by rw[VI HX.out,HRU.out,HA.out,HU.out])
     by_cases hbad:0<r2∧r2<(a:Int)+1
     case pos=>
      have HNO:=hid (show qW ver (xs.map It.n) k=false by rw[HMA.out,decide_eq_true hbad];rfl)
      obtain⟨b1,b2⟩:=hbad
      go_wp2_with fail
      go_ret
      exact⟨_,rfl,jG.most HALL.out hlt2 HNO.out (ji.newAt _ _ _ _ _ (by simp)),G6.out.alloc _⟩
     have HYES:=hid (show qW ver (xs.map It.n) k=true by rw[HMA.out,decide_eq_false hbad];rfl)
     have HCN2:=hid (show xM es' cl' (fun n=>(vk n ((xs.map It.n).take (k+1)):Int)) by
      have e:(fun n=>(vk n ((xs.map It.n).take (k+1)):Int))=fun x=>if x=u then(a:Int)+1 else(vk x ((xs.map It.n).take k):Int):=by
       funext n
       rw[J7 HX.out,HA.out,HU.out]
      rw[e];exact HCN.out)
     have HMO2:=hid (show ∀j,j<k+1→qW ver (xs.map It.n) j=true from fun j hj=>by
      rcases Nat.lt_or_ge j k with h1|h1
      ·exact HMO.out j h1
      ·obtain rfl:j=k:=by omega
       exact HYES.out)
     rcases(show ¬0<r2∨(0<r2∧¬r2<(a:Int)+1) by
      by_cases b1:0<r2
      ·exact .inr ⟨b1,fun b2=>hbad ⟨b1,b2⟩⟩
      ·exact .inl b1)with b1|⟨b1,b2⟩
     all_goals
      clear hbad
      go_wp2_with fail
      go_roundw
      case measure=>simp[intOf];omega
      case rel=>exact⟨k+1,by omega,by go_num,⟨es',cl',HM6.out,HCN2.out⟩,HMO2.out,K6.out⟩
    ·obtain rfl:k=xs.length:=by omega
     obtain⟨wp,rfl⟩:∃wp,wp=wr:=⟨_,rfl⟩
     have HMOST:=hid (show ∀i,i<xs.length→qW ver (xs.map It.n) i=true from HMO.out)
     have HCNT2:=hid (show xM es cl (fun n=>(vk n (xs.map It.n):Int)) by
      have:=HCNT.out
      rwa [List.take_of_length_le (by simp)]at this)
     have KN:=hid (KR.out.trans KQ.out)
     go_wp2_with fail
     go_loopw [93] (fun i wr=>∃k:Nat,k≤(fM ver).length∧i=.int .i64 k∧(∀j (h:j<(fM ver).length),j<k→(jE ver ((fM ver)[j]).name).2.1≤(vk ((fM ver)[j]).name (xs.map It.n):Int))∧G wp wr) (fun i _=>(fM ver).length-(intOf i).toNat)
     case atStart=>exact⟨0,Nat.zero_le _,rfl,fun j _ h=>by omega,G.refl _⟩
     case round=>
      obtain⟨k,hk,rfl,hno,gr⟩:=hrel
      have HLO:=hid hno
      have KW:=hid gr
      have GW:=hid (GQ.out.trans gr)
      have HBW:=hid (aB HBQ.out gr)
      have HMW:=hid (aB HMAP.out gr)
      clear hno gr
      by_cases hlt3:k<(fM ver).length
      ·have hc0:=(KN.out.trans KW.out).cell (p:=⟨g,k,none⟩) HGL.out
       rw[HC.out k hlt3]at hc0
       have hem:=List.getElem_mem hlt3
       have hoe:=HTO.out _ hem
       simp only[aaL,Bool.and_eq_true,decide_eq_true_eq,beq_iff_eq]at hoe
       obtain⟨e,he⟩:∃e,(fM ver)[k]=e:=⟨_,rfl⟩
       rw[he]at hc0 hem hoe
       have hel:e.name.length≤1000000:=by have:=hoe.2.2.2.2.2.2;omega
       obtain⟨r0,r1,r2,r3,hru⟩:∃r0 r1 r2 r3,jE ver e.name=(r0,r1,r2,r3):=⟨_,_,_,_,rfl⟩
       have OF1:=OF.out e.name wr GW.out hel
       rw[show iM (fM ver) (bU e.name)=jE ver e.name from rfl,hru]at OF1
       have HOF:=hid OF1
       have HRU:=hid hru
       have HEM:=hid hem
       have HEK:=hid he
       obtain⟨c0,c1⟩:=jJ HBW.out
       have hkl:(k:Int)<((fM ver).length:Int):=by omega
       clear hoe hel hru OF1 hem he
       go_wp2_with fail
       refine HOF.out.use ?_
       intro w6 g6
       have GL:=hid (g6.alloc (.cells #[.int .i64 r0,.int .i64 r1,.int .i64 r2,.int .i64 r3] 47))
       have HM6:=hid (aB HMW.out GL.out)
       have lk:=Hr HM6.out HCNT2.out e.name
       obtain⟨a,ha⟩:∃a:Nat,a=vk e.name (xs.map It.n):=⟨_,rfl⟩
       rw[←ha]at lk
       have HA:=hid ha
       have K6:=hid (KW.out.trans GL.out)
       have G6:=hid (GW.out.trans GL.out)
       clear c0 c1 g6 HOF hc0 ha
       by_cases hbad:(a:Int)<r1
       ·have HNO:=hid (show(vk e.name (xs.map It.n):Int)<(jE ver e.name).2.1 by rw[HRU.out,←HA.out];exact hbad)
        go_wp2_with fail
        go_ret
        exact⟨_,rfl,jG.least HALL.out HMOST.out HEM.out HNO.out (by decide),G6.out⟩
       ·have HN2:=hid (show ∀j (h:j<(fM ver).length),j<k+1→(jE ver ((fM ver)[j]).name).2.1≤(vk ((fM ver)[j]).name (xs.map It.n):Int)from fun j h hj=>by
         rcases Nat.lt_or_ge j k with h1|h1
         ·exact HLO.out j h h1
         ·obtain rfl:j=k:=by omega
          rw[HEK.out,HRU.out,←HA.out];simp only;omega)
        go_wp2_with fail
        go_roundw
        case measure=>simp[intOf];omega
        case rel=>exact⟨k+1,by omega,by go_num,HN2.out,K6.out⟩
      ·obtain rfl:k=(fM ver).length:=by omega
       go_wp2_with fail
       go_ret
       exact⟨_,rfl,jG.yes HV.out h60 HALL.out HMOST.out (fun j h=>by have:=HLO.out j h h;omega),GW.out⟩
theorem qG(ver:Int)(iv:Value)(xs:List It)(w:World)(h:dX w iv xs)(hl:xs.length≤1000)(hs:∀x∈xs,Sml x)(hR:qm w)(hM:nJ w)(hE:gQ w):dP 30 #[gY ver iv] w (jG ver xs):=
 JB ver iv xs w h (by omega) hs hR hM hE
end Go.Proofs.YtmffejnigppbpaaGreatDoor

set_option maxHeartbeats 4000000
set_option maxRecDepth 100000
namespace Go.Proofs.YtmffejnigppbpaaGreatDoor
open Go.RowKit
def zIt:It:=⟨[],[],[],⟨0,[],[],St0,0⟩⟩
def Hm(X:Nat):World→Nat→List Value→World
 |W,_,[]=>W
 |W,i,v::vs=>Hm X (W.setCell ⟨X,i,none⟩ v) (i+1) vs
theorem Aj{X:Nat}{T:TypeId}:∀(vs:List Value) (W:World) (i:Nat) (cs:Array Value),W.heap[X]?=some (.cells cs T (0,0))→cs.size=i+vs.length→(Hm X W i vs).heap[X]?=some (.cells ((cs.toList.take i)++vs).toArray T (0,0))
 |[],W,i,cs,h,hs=>by
  simp only[Hm,List.append_nil]
  rw[h,List.take_of_length_le (by simp at hs;simp[hs])]
 |v::vs,W,i,cs,h,hs=>by
  have h1:(W.setCell ⟨X,i,none⟩ v).heap[X]?=some (.cells (cs.setIfInBounds i v) T (0,0)):=by
   simp[World.setCell,Array.getElem?_modify,h]
  have h2:=Aj vs _ (i+1) _ h1 (by simp at hs⊢;omega)
  rw[Hm,h2]
  congr 2
  have hi:i<cs.toList.length:=by simp at hs⊢;omega
  rw[Array.toList_setIfInBounds,List.take_succ_eq_append_getElem (by simpa using hi),List.take_set_of_le (Nat.le_refl _)]
  simp
theorem Ho{w:World}{X:Nat}(hX:w.heap.size≤X):∀(vs:List Value) (W:World) (i:Nat),G w W→G w (Hm X W i vs)
 |[],W,i,g=>g
 |v::vs,W,i,g=>Ho hX vs _ _ (jU g hX)
theorem je{W:World}{X:Nat}{T:TypeId}{cs:Array Value}(h:W.heap[X]?=some (.cells cs T (0,0)))(hs:cs.size=15)(a0 a1 a2 a3 a4 a5 a6 a7 a8 a9 a10 a11 a12 a13 a14:Value):(((((((((((((((W.setCell ⟨X,0,none⟩ a0).setCell ⟨X,1,none⟩ a1).setCell ⟨X,2,none⟩ a2).setCell ⟨X,3,none⟩ a3).setCell ⟨X,4,none⟩ a4).setCell ⟨X,5,none⟩ a5).setCell ⟨X,6,none⟩ a6).setCell ⟨X,7,none⟩ a7).setCell ⟨X,8,none⟩ a8).setCell ⟨X,9,none⟩ a9).setCell ⟨X,10,none⟩ a10).setCell ⟨X,11,none⟩ a11).setCell ⟨X,12,none⟩ a12).setCell ⟨X,13,none⟩ a13).setCell ⟨X,14,none⟩ a14).heap[X]?=some (.cells #[a0,a1,a2,a3,a4,a5,a6,a7,a8,a9,a10,a11,a12,a13,a14] T (0,0)):=
 Aj [a0,a1,a2,a3,a4,a5,a6,a7,a8,a9,a10,a11,a12,a13,a14] W 0 cs h hs
theorem lY{w W:World}{X:Nat}(hX:w.heap.size≤X)(g:G w W)(a0 a1 a2 a3 a4 a5 a6 a7 a8 a9 a10 a11 a12 a13 a14:Value):G w (((((((((((((((W.setCell ⟨X,0,none⟩ a0).setCell ⟨X,1,none⟩ a1).setCell ⟨X,2,none⟩ a2).setCell ⟨X,3,none⟩ a3).setCell ⟨X,4,none⟩ a4).setCell ⟨X,5,none⟩ a5).setCell ⟨X,6,none⟩ a6).setCell ⟨X,7,none⟩ a7).setCell ⟨X,8,none⟩ a8).setCell ⟨X,9,none⟩ a9).setCell ⟨X,10,none⟩ a10).setCell ⟨X,11,none⟩ a11).setCell ⟨X,12,none⟩ a12).setCell ⟨X,13,none⟩ a13).setCell ⟨X,14,none⟩ a14):=
 Ho hX [a0,a1,a2,a3,a4,a5,a6,a7,a8,a9,a10,a11,a12,a13,a14] W 0 g
theorem jL{W:World}{X:Nat}{L:List Nat}(h:X∈L)(a0 a1 a2 a3 a4 a5 a6 a7 a8 a9 a10 a11 a12 a13 a14:Value):Wl L (((((((((((((((W.setCell ⟨X,0,none⟩ a0).setCell ⟨X,1,none⟩ a1).setCell ⟨X,2,none⟩ a2).setCell ⟨X,3,none⟩ a3).setCell ⟨X,4,none⟩ a4).setCell ⟨X,5,none⟩ a5).setCell ⟨X,6,none⟩ a6).setCell ⟨X,7,none⟩ a7).setCell ⟨X,8,none⟩ a8).setCell ⟨X,9,none⟩ a9).setCell ⟨X,10,none⟩ a10).setCell ⟨X,11,none⟩ a11).setCell ⟨X,12,none⟩ a12).setCell ⟨X,13,none⟩ a13).setCell ⟨X,14,none⟩ a14)=Wl L W:=by
 simp only[Wl.setm h]
theorem UV{W:World}{X:Nat}{L:List Nat}(a0 a1 a2 a3 a4 a5 a6 a7 a8 a9 a10 a11 a12 a13 a14:Value):Wl (X::L) (((((((((((((((W.setCell ⟨X,0,none⟩ a0).setCell ⟨X,1,none⟩ a1).setCell ⟨X,2,none⟩ a2).setCell ⟨X,3,none⟩ a3).setCell ⟨X,4,none⟩ a4).setCell ⟨X,5,none⟩ a5).setCell ⟨X,6,none⟩ a6).setCell ⟨X,7,none⟩ a7).setCell ⟨X,8,none⟩ a8).setCell ⟨X,9,none⟩ a9).setCell ⟨X,10,none⟩ a10).setCell ⟨X,11,none⟩ a11).setCell ⟨X,12,none⟩ a12).setCell ⟨X,13,none⟩ a13).setCell ⟨X,14,none⟩ a14)=Wl (X::L) W:=by
 simp only[Wl.set]
def ItR(w:World)(r:Value)(y:It):Prop:=∃pv lv,r=y.val pv lv∧dG w y pv lv
theorem dG.un{w:World}{x:It}{pv lv:Value}{L:List Nat}(h:dG (Wl L w) x pv lv):dG w x pv lv:=h.sub (Wl.sub L w)
theorem PmR.sl{w:World}{u:Value}{ps:List Pm}(h:PmR w u ps):∃a n c,u=.slice a n c:=by obtain⟨a,c,e,_⟩:=h.p;exact⟨a,_,c,e⟩
theorem dG.pm{w:World}{x:It}{pv lv:Value}(h:dG w x pv lv):PmR w pv x.ps:=⟨h.p,h.f⟩
theorem aaG{w:World}{g n t:List UInt8}{k:Int}{ps:List Pm}{u:Value}(hk : -9223372036854775808≤k∧k≤9223372036854775807)(h:PmR w u ps):dG w ⟨g,n,ps,tV k t⟩ u (.slice none 0 0):=
 ⟨h.p,⟨[],⟨rfl,by simp,.inl ⟨rfl,.inl rfl⟩⟩,Nat.le_refl _,by simp[tV]⟩,h.f,(show -9223372036854775808≤(0:Int)∧(0:Int)≤9223372036854775807 by decide),hk⟩
theorem XO{w:World}{g n t:List UInt8}{ps:List Pm}{u:Value}(h:PmR w u ps):dG w ⟨g,n,ps,tV 8 t⟩ u (.slice none 0 0):=aaG (by decide) h
theorem XP{w:World}{g n t:List UInt8}{ps:List Pm}{u:Value}(h:PmR w u ps):dG w ⟨g,n,ps,tV 4 t⟩ u (.slice none 0 0):=aaG (by decide) h
def UZ(L:List Nat)(bx:Nat)(x:It)(pv:Value)(nn tt:List UInt8)(k:Nat)(v:Value)(W:World):Prop:=
 match k with
 |0=>v=.pointer (some ⟨bx,0,none⟩)
 |1=>v=.string (S x.g)
 |2=>v=.string (S nn)
 |3=>v=.string (S (88::45::nn))
 |4=>v=.pointer (some ⟨bx,2,none⟩)
 |5=>v=pv
 |6=>PmR (Wl ((bx+1)::L) W) v (aO x.ps bP)
 |7=>v=.string (S tt)
 |8=>v=.agg #[.int .i64 8,.string (S tt),.slice none 0 0,.int .i64 0,.int .i64 0,.int .i64 0,.int .i64 0,.int .i64 0,.int .i64 0,.bool false,.int .i64 0,.int .i64 0]
 |_=>True
theorem VS(L:List Nat)(nn:List UInt8)(x:It)(pv lv:Value)(w:World)(hX:∀X∈L,X<w.heap.size)(h:dG (Wl L w) x pv lv)(hs:Sml x)(hn:nn.length≤10000):dP 92 #[.string (S nn),x.val pv lv] w (fun r w'=>ItR (Wl L w') r (nC nn x)):=by
 have hb:=hs.bounds
 have WO0:=fun W (g:G w W) (hX1:w.heap.size+1<W.heap.size)=>mg ((w.heap.size+1)::L) pv bP x.ps W (fun X hx=>by rcases List.mem_cons.1 hx with rfl|hx;(· exact hX1);have:=hX X hx;omega) (h.pm.into g (by omega)) (by have:=hb.2.2.1;unfold fK at this;omega) (fun p hp=>by have h1:gG p≤(x.ps.map gG).sum:=kJ (List.mem_map_of_mem hp);have h2:gG p=p.1.length+p.2.length+(p.2.map List.length).sum:=rfl;have h0:=hb.2.2.1;unfold fK at h0;omega) (by simp[bP])
 have ES:=hid (fun W=>Am x.v.tx W (by have:=hs.t;omega))
 obtain⟨pa,pc,rfl⟩:=h.un.pv
 obtain⟨la,lc,rfl⟩:=h.un.lv
 obtain⟨tt,htt⟩:∃tt,tt=(if x.v.ty=1 then kN x.v.tx else x.v.tx):=⟨_,rfl⟩
 have HR:=hid (show nC nn x=⟨x.g,88::45::nn,aO x.ps bP,tV 8 tt⟩ by unfold nC;rw[htt])
 have HTT:=hid htt
 have htl:tt.length≤10000:=by
  have h1:=CY x.v.tx
  have h2:=hs.t
  rw[htt];split<;>omega
 have HWO:=hid WO0
 clear h hb hs htt WO0
 have key:(x.v.ty==1)=true∧tt=kN x.v.tx∨(x.v.ty==1)=false∧x.v.ty≠1∧tt=x.v.tx:=by
  have:=HTT.out
  by_cases h1:x.v.ty=1
  ·exact .inl ⟨by simpa using h1,by rw[this,if_pos h1]⟩
  ·exact .inr ⟨by simpa using h1,h1,by rw[this,if_neg h1]⟩
 rcases key with⟨b1,htt⟩|⟨b1,b2,htt⟩
 ·have ESS:=hid (fun W=>show dA 142 #[.string (S x.v.tx)] W (.string (S tt)) by rw[htt];exact ES.out W)
  clear htt
  go_enter Tryz.func92,Tryz.ntmps92
  go_wp2_with fail
  generalize hw0:(w.alloc _).alloc _=w0
  have HB0:=hid (show w0.heap[w.heap.size]?=some (.cells (x.cells (.slice pa x.ps.length pc) (.slice la x.v.ps.length lc)).toArray 38 (0,0)) by rw[←hw0,Lib.alloc_old _ _ _ (by simp)];exact heap_alloc_new w _)
  have HX0:=hid (show w0.heap[w.heap.size+1]?=some (.cells (zIt.cells (.slice none 0 0) (.slice none 0 0)).toArray 38 (0,0)) by rw[←hw0];exact pz _ _ _)
  have G0:=hid (show G w w0 by rw[←hw0];exact((G.refl w).alloc _).alloc _)
  clear hw0
  refine(ESS.out _).use ?_
  intro w1 g1
  have HB:=hid (aB HB0.out g1)
  have HX1:=hid (aB HX0.out g1)
  have G1:=hid (G0.out.trans g1)
  have WO:=hid (fun W (g:G w1 W)=>HWO.out W (G1.out.trans g) (Nat.lt_of_lt_of_le (dn HX1.out) g.size))
  clear g1 b1
  go_wp2_with fail
  refine wp_region_any (by kernel_rfl) ?_
  refine jQ (E:=#[false,false,false,false,false,false,false,false,false,false,false]) G 9 (UZ L w.heap.size x (.slice pa x.ps.length pc) nn tt) [some [],some [(0,15)],some [],some [(2,17)],some [],some [(4,19)],some [(5,20)],some [],some [(7,22)],none,none] [(0,15),(1,16),(2,17),(3,18),(4,19),(5,20),(6,21),(7,22),(8,23)] _ (by kernel_rfl) (by decide) (by kernel_rfl) (by kernel_rfl) rfl G.refl (fun _ _ _=>G.trans) (w0:=w1) ((G.refl w1).drew) ?_ ?_ ?_
  ·intro k v W W' g h
   match k,h with
   |0,h=>exact h
   |1,h=>exact h
   |2,h=>exact h
   |3,h=>exact h
   |4,h=>exact h
   |5,h=>exact h
   |6,h=>exact PmR.wo h g
   |7,h=>exact h
   |8,h=>exact h
   |n+9,h=>trivial
  ·refine bi (fun vals W g d=>?_)<|bi (fun vals W g d=>?_)<|bi (fun vals W g d=>?_)<|bi (fun vals W g d=>?_)<|bi (fun vals W g d=>?_)<|bi (fun vals W g d=>?_)<|bi (fun vals W g d=>?_)<|bi (fun vals W g d=>?_)<|bi (fun vals W g d=>?_)<|eY<|eY oD
   ·refine bI rfl rfl rfl fun K hK=>?_
    simp only[gFr]at hK⊢
    go_simp
    exact hK _ _ (G.refl _) rfl
   ·obtain⟨d0,_⟩:=d
    change vals 0=_ at d0
    refine bI rfl rfl rfl fun K hK=>?_
    simp only[gFr,d0]at hK⊢
    obtain⟨k0,_⟩:=aP (aB HB.out g)
    go_simp
    exact hK _ _ (G.refl _) rfl
   ·refine bI rfl rfl rfl fun K hK=>?_
    simp only[gFr]at hK⊢
    go_simp
    exact hK _ _ (G.refl _) rfl
   ·obtain⟨d2,_⟩:=d
    change vals 2=_ at d2
    refine bI rfl rfl rfl fun K hK=>?_
    simp only[gFr,d2]at hK⊢
    have hov:¬9223372036854775807<2+nn.length:=by omega
    go_simp
    exact hK _ _ (G.refl _) rfl
   ·refine bI rfl rfl rfl fun K hK=>?_
    simp only[gFr]at hK⊢
    go_simp
    exact hK _ _ (G.refl _) rfl
   ·obtain⟨d4,_⟩:=d
    change vals 4=_ at d4
    refine bI rfl rfl rfl fun K hK=>?_
    simp only[gFr,d4]at hK⊢
    obtain⟨_,_,k2,_⟩:=aP (aB HB.out g)
    go_simp
    exact hK _ _ (G.refl _) rfl
   ·obtain⟨d5,_⟩:=d
    change vals 5=_ at d5
    refine bI rfl rfl rfl fun K hK=>?_
    simp only[gFr,d5]at hK⊢
    go_simp
    refine(WO.out W g).use ?_
    intro r W' hr hg
    exact hK _ _ hg hr
   ·refine bI rfl rfl rfl fun K hK=>?_
    simp only[gFr]at hK⊢
    go_simp
    exact hK _ _ (G.refl _) rfl
   ·obtain⟨d7,_⟩:=d
    change vals 7=_ at d7
    refine bI rfl rfl rfl fun K hK=>?_
    simp only[gFr,d7]at hK⊢
    go_simp
    exact hK _ _ (G.refl _) rfl
  ·intro vals W g d
   simp only[jf,jH]at d
   obtain⟨d0,d1,d2,d3,d4,d5,d6,d7,d8,_⟩:=d
   change vals 0=_ at d0
   change vals 1=_ at d1
   change vals 2=_ at d2
   change vals 3=_ at d3
   change vals 4=_ at d4
   change vals 5=_ at d5
   change vals 7=_ at d7
   change vals 8=_ at d8
   change PmR (Wl ((w.heap.size+1)::L) W) (vals 6) (aO x.ps bP)at d6
   obtain⟨ua,um,uc,e6⟩:=d6.sl
   rw[e6]at d6
   refine⟨?_⟩
   show wpList _ _ _ [_,_] _ _
   simp only[gFr,d0,d1,d2,d3,d4,d5,d7,d8,e6]
   clear d0 d1 d2 d3 d4 d5 d7 d8 e6
   have HX2:=aB HX1.out g
   have HBX:=hid HX2
   obtain⟨c0,c1,c2,c3,c4,c5,c6,c7,c8,c9,c10,c11,c12,c13,c14⟩:=aP HX2
   have fz:=fun i=>Lib.frozen_of_heap HX2 i
   have GW:=hid (G1.out.trans g)
   have HD6:=hid d6
   clear d6 HX2 g
   go_wp2_with fail
   generalize hWF:World.setCell (World.setCell (World.setCell (World.setCell (World.setCell (World.setCell (World.setCell (World.setCell (World.setCell (World.setCell (World.setCell (World.setCell (World.setCell (World.setCell (World.setCell W _ _) _ _) _ _) _ _) _ _) _ _) _ _) _ _) _ _) _ _) _ _) _ _) _ _) _ _) _ _=WF
   have hrow:WF.heap[w.heap.size+1]?=some (.cells ((It.cells ⟨x.g,88::45::nn,aO x.ps bP,tV 8 tt⟩ (.slice ua um uc) (.slice none 0 0))).toArray 38 (0,0)):=by
    rw[←hWF]
    exact je HBX.out rfl _ _ _ _ _ _ _ _ _ _ _ _ _ _ _
   have hgf:G w WF:=by rw[←hWF];exact lY (by omega) GW.out _ _ _ _ _ _ _ _ _ _ _ _ _ _ _
   have hok:dG (Wl L WF) ⟨x.g,88::45::nn,aO x.ps bP,tV 8 tt⟩ (.slice ua um uc) (.slice none 0 0):=XO (PmR.sub (by rw[←hWF,UV];exact HD6.out) (Wl.tail (w.heap.size+1) L WF))
   refine bodyPost_ret (results_cell_row rfl _ WF (w.heap.size+1) 38 _ (0,0) _ rfl hrow Tryz.underlying38 (by kernel_rfl) (by kernel_rfl)) rfl ⟨_,rfl,?_,hgf⟩
   rw[HR.out]
   exact⟨_,_,rfl,hok⟩
 ·subst htt
  go_enter Tryz.func92,Tryz.ntmps92
  go_wp2_with fail
  generalize hw0:(w.alloc _).alloc _=w0
  have HB0:=hid (show w0.heap[w.heap.size]?=some (.cells (x.cells (.slice pa x.ps.length pc) (.slice la x.v.ps.length lc)).toArray 38 (0,0)) by rw[←hw0,Lib.alloc_old _ _ _ (by simp)];exact heap_alloc_new w _)
  have HX0:=hid (show w0.heap[w.heap.size+1]?=some (.cells (zIt.cells (.slice none 0 0) (.slice none 0 0)).toArray 38 (0,0)) by rw[←hw0];exact pz _ _ _)
  have G0:=hid (show G w w0 by rw[←hw0];exact((G.refl w).alloc _).alloc _)
  clear hw0
  obtain⟨w1,rfl⟩:∃w1,w1=w0:=⟨_,rfl⟩
  have HB:=hid HB0.out
  have HX1:=hid HX0.out
  have G1:=hid G0.out
  have WO:=hid (fun W (g:G w1 W)=>HWO.out W (G1.out.trans g) (Nat.lt_of_lt_of_le (dn HX1.out) g.size))
  clear b1 b2
  refine wp_region_any (by kernel_rfl) ?_
  refine jQ (E:=#[false,false,false,false,false,false,false,false,false,false,false]) G 9 (UZ L w.heap.size x (.slice pa x.ps.length pc) nn x.v.tx) [some [],some [(0,15)],some [],some [(2,17)],some [],some [(4,19)],some [(5,20)],some [],some [(7,22)],none,none] [(0,15),(1,16),(2,17),(3,18),(4,19),(5,20),(6,21),(7,22),(8,23)] _ (by kernel_rfl) (by decide) (by kernel_rfl) (by kernel_rfl) rfl G.refl (fun _ _ _=>G.trans) (w0:=w1) ((G.refl w1).drew) ?_ ?_ ?_
  ·intro k v W W' g h
   match k,h with
   |0,h=>exact h
   |1,h=>exact h
   |2,h=>exact h
   |3,h=>exact h
   |4,h=>exact h
   |5,h=>exact h
   |6,h=>exact PmR.wo h g
   |7,h=>exact h
   |8,h=>exact h
   |n+9,h=>trivial
  ·refine bi (fun vals W g d=>?_)<|bi (fun vals W g d=>?_)<|bi (fun vals W g d=>?_)<|bi (fun vals W g d=>?_)<|bi (fun vals W g d=>?_)<|bi (fun vals W g d=>?_)<|bi (fun vals W g d=>?_)<|bi (fun vals W g d=>?_)<|bi (fun vals W g d=>?_)<|eY<|eY oD
   ·refine bI rfl rfl rfl fun K hK=>?_
    simp only[gFr]at hK⊢
    go_simp
    exact hK _ _ (G.refl _) rfl
   ·obtain⟨d0,_⟩:=d
    change vals 0=_ at d0
    refine bI rfl rfl rfl fun K hK=>?_
    simp only[gFr,d0]at hK⊢
    obtain⟨k0,_⟩:=aP (aB HB.out g)
    go_simp
    exact hK _ _ (G.refl _) rfl
   ·refine bI rfl rfl rfl fun K hK=>?_
    simp only[gFr]at hK⊢
    go_simp
    exact hK _ _ (G.refl _) rfl
   ·obtain⟨d2,_⟩:=d
    change vals 2=_ at d2
    refine bI rfl rfl rfl fun K hK=>?_
    simp only[gFr,d2]at hK⊢
    have hov:¬9223372036854775807<2+nn.length:=by omega
    go_simp
    exact hK _ _ (G.refl _) rfl
   ·refine bI rfl rfl rfl fun K hK=>?_
    simp only[gFr]at hK⊢
    go_simp
    exact hK _ _ (G.refl _) rfl
   ·obtain⟨d4,_⟩:=d
    change vals 4=_ at d4
    refine bI rfl rfl rfl fun K hK=>?_
    simp only[gFr,d4]at hK⊢
    obtain⟨_,_,k2,_⟩:=aP (aB HB.out g)
    go_simp
    exact hK _ _ (G.refl _) rfl
   ·obtain⟨d5,_⟩:=d
    change vals 5=_ at d5
    refine bI rfl rfl rfl fun K hK=>?_
    simp only[gFr,d5]at hK⊢
    go_simp
    refine(WO.out W g).use ?_
    intro r W' hr hg
    exact hK _ _ hg hr
   ·refine bI rfl rfl rfl fun K hK=>?_
    simp only[gFr]at hK⊢
    go_simp
    exact hK _ _ (G.refl _) rfl
   ·obtain⟨d7,_⟩:=d
    change vals 7=_ at d7
    refine bI rfl rfl rfl fun K hK=>?_
    simp only[gFr,d7]at hK⊢
    go_simp
    exact hK _ _ (G.refl _) rfl
  ·intro vals W g d
   simp only[jf,jH]at d
   obtain⟨d0,d1,d2,d3,d4,d5,d6,d7,d8,_⟩:=d
   change vals 0=_ at d0
   change vals 1=_ at d1
   change vals 2=_ at d2
   change vals 3=_ at d3
   change vals 4=_ at d4
   change vals 5=_ at d5
   change vals 7=_ at d7
   change vals 8=_ at d8
   change PmR (Wl ((w.heap.size+1)::L) W) (vals 6) (aO x.ps bP)at d6
   obtain⟨ua,um,uc,e6⟩:=d6.sl
   rw[e6]at d6
   refine⟨?_⟩
   show wpList _ _ _ [_,_] _ _
   simp only[gFr,d0,d1,d2,d3,d4,d5,d7,d8,e6]
   clear d0 d1 d2 d3 d4 d5 d7 d8 e6
   have HX2:=aB HX1.out g
   have HBX:=hid HX2
   obtain⟨c0,c1,c2,c3,c4,c5,c6,c7,c8,c9,c10,c11,c12,c13,c14⟩:=aP HX2
   have fz:=fun i=>Lib.frozen_of_heap HX2 i
   have GW:=hid (G1.out.trans g)
   have HD6:=hid d6
   clear d6 HX2 g
   go_wp2_with fail
   generalize hWF:World.setCell (World.setCell (World.setCell (World.setCell (World.setCell (World.setCell (World.setCell (World.setCell (World.setCell (World.setCell (World.setCell (World.setCell (World.setCell (World.setCell (World.setCell W _ _) _ _) _ _) _ _) _ _) _ _) _ _) _ _) _ _) _ _) _ _) _ _) _ _) _ _) _ _=WF
   have hrow:WF.heap[w.heap.size+1]?=some (.cells ((It.cells ⟨x.g,88::45::nn,aO x.ps bP,tV 8 x.v.tx⟩ (.slice ua um uc) (.slice none 0 0))).toArray 38 (0,0)):=by
    rw[←hWF]
    exact je HBX.out rfl _ _ _ _ _ _ _ _ _ _ _ _ _ _ _
   have hgf:G w WF:=by rw[←hWF];exact lY (by omega) GW.out _ _ _ _ _ _ _ _ _ _ _ _ _ _ _
   have hok:dG (Wl L WF) ⟨x.g,88::45::nn,aO x.ps bP,tV 8 x.v.tx⟩ (.slice ua um uc) (.slice none 0 0):=XO (PmR.sub (by rw[←hWF,UV];exact HD6.out) (Wl.tail (w.heap.size+1) L WF))
   refine bodyPost_ret (results_cell_row rfl _ WF (w.heap.size+1) 38 _ (0,0) _ rfl hrow Tryz.underlying38 (by kernel_rfl) (by kernel_rfl)) rfl ⟨_,rfl,?_,hgf⟩
   rw[HR.out]
   exact⟨_,_,rfl,hok⟩
end Go.Proofs.YtmffejnigppbpaaGreatDoor
