/-
 CONTRACT of card.Right: whether a card is right.
-/
import Derived.Test.YtmffejnigppbpaaGreatDoorDXCardOne
import Derived.Test.YtmffejnigppbpaaGreatDoorDXMA67
import Derived.Test.YtmffejnigppbpaaGreatDoorDXMA70
import Derived.Carry
set_option linter.unusedVariables false
set_option linter.unusedSimpArgs false
set_option maxHeartbeats 8000000
set_option maxRecDepth 100000
namespace Go.Proofs.YtmffejnigppbpaaGreatDoor
open Go.RowKit
def alX(ver:Int)(xs:List It)(c:Int):Prop:=(ver=3∨ver=4)→xs.length≤60→∀(i:Nat) (x:It),xs[i]?=some x→(∀(j:Nat) (y:It),j<i→xs[j]?=some y→adY ver y=true)→adY ver x=false→agD ver x c
def axT(ver:Int)(xs:List It)(c:Int)(k:Option Nat):Prop:=(∀i,k=some i→i<xs.length)∧((ver=3∨ver=4)→xs.length≤60→(∀x∈xs,adY ver x=true)→afQ ver (xs.map It.n)=false→c=9)
def ado(ver:Int)(xs:List It)(r:Value)(w:World):Prop:=(acN ver xs=true∧r=.nilIface)∨(acN ver xs=false∧∃c k,ad8 w r (some (c,k))∧c≠0∧alX ver xs c∧axT ver xs c k)
theorem ado.no{ver:Int}{xs:List It}{r:Value}{w:World}{c:Int}{k:Option Nat}(h:acN ver xs=false)(hr:ad8 w r (some (c,k)))(hc:c≠0)(hf:alX ver xs c)(hb:axT ver xs c k):ado ver xs r w:=.inr ⟨h,c,k,hr,hc,hf,hb⟩
theorem ado.ver{ver:Int}{xs:List It}{w:World}{c:Int}(h:¬(ver=3∨ver=4))(hc:c≠0):ado ver xs (eno c) w:=ado.no (k:=none) (by unfold acN;rw[decide_eq_false h];rfl) rfl hc (fun h'=>absurd h' h) ⟨fun i e=>(by cases e),fun h'=>absurd h' h⟩
theorem ado.many{ver:Int}{xs:List It}{w:World}{c:Int}(h:¬xs.length≤60)(hc:c≠0):ado ver xs (eno c) w:=ado.no (k:=none) (by unfold acN;rw[decide_eq_false h];simp) rfl hc (fun _ h'=>absurd h' h) ⟨fun i e=>(by cases e),fun _ h'=>absurd h' h⟩
theorem ado.item{ver:Int}{xs:List It}{w:World}{r:Value}{c:Int}{i:Nat}{x:It}(hx:xs[i]?=some x)(hn:∀(j:Nat) (y:It),j<i→xs[j]?=some y→adY ver y=true)(ho:agD ver x c)(hc:c≠0)(hr:ad8 w r (some (c,some i))):ado ver xs r w:=by
 have hb:adY ver x=false:=by
  cases h:adY ver x with
  |false=>rfl
  |true=>exact absurd (ho.ok.2 h) hc
 have hlt:i<xs.length:=(List.getElem?_eq_some_iff.1 hx).1
 refine ado.no (k:=some i) ?_ hr hc ?_ ⟨fun j e=>by cases e;exact hlt,fun _ _ ha _=>by rw[ha x (List.mem_of_getElem? hx)]at hb;cases hb⟩
 ·cases h:acN ver xs with
  |false=>rfl
  |true=>rw[(adn.1 h).2.2.1 x (List.mem_of_getElem? hx)]at hb;cases hb
 ·intro _ _ j y hy hj hyb
  rcases Nat.lt_trichotomy i j with h|h|h
  ·rw[hj i x h hx]at hb;cases hb
  ·subst h;rw[hx]at hy;cases hy;exact ho
  ·rw[hn j y h hy]at hyb;cases hyb
theorem ajt{ver:Int}{xs:List It}{c:Int}(h:∀x∈xs,adY ver x=true):alX ver xs c:=fun _ _ i x hx _ hb=>by rw[h x (List.mem_of_getElem? hx)]at hb;cases hb
theorem ado.most{ver:Int}{xs:List It}{w:World}{r:Value}{i:Nat}(ha:∀x∈xs,adY ver x=true)(hi:i<xs.length)(hm:aeR ver (xs.map It.n) i=false)(hr:ad8 w r (some (9,some i))):ado ver xs r w:=by
 refine ado.no (k:=some i) ?_ hr (by decide) (ajt ha) ⟨fun j e=>by cases e;exact hi,fun _ _ _ _=>rfl⟩
 cases h:acN ver xs with
 |false=>rfl
 |true=>
  have:=(adn.1 h).2.2.2.1
  unfold afQ at this
  rw[List.all_eq_true]at this
  rw[this i (List.mem_range.2 (by simpa using hi))]at hm;cases hm
theorem ado.least{ver:Int}{xs:List It}{w:World}{c:Int}{e:Ent}(ha:∀x∈xs,adY ver x=true)(hmo:∀i,i<xs.length→aeR ver (xs.map It.n) i=true)(he:e∈UG ver)(hm:(aek e.name (xs.map It.n):Int)<(acM ver e.name).2.1)(hc:c≠0):ado ver xs (eno c) w:=by
 refine ado.no (k:=none) ?_ rfl hc (ajt ha) ⟨fun i e=>(by cases e),fun _ _ _ hm=>by
  have:afQ ver (xs.map It.n)=true:=by unfold afQ;rw[List.all_eq_true];intro i hi;exact hmo i (by simpa using hi)
  rw[this]at hm;cases hm⟩
 cases h:acN ver xs with
 |false=>rfl
 |true=>
  have:=(adn.1 h).2.2.2.2
  unfold aki at this
  rw[List.all_eq_true]at this
  have:=this e he
  rw[decide_eq_true hm]at this;cases this
theorem ado.yes{ver:Int}{xs:List It}{w:World}(hv:ver=3∨ver=4)(hl:xs.length≤60)(ha:∀x∈xs,adY ver x=true)(hm:∀i,i<xs.length→aeR ver (xs.map It.n) i=true)(hb:∀j (h:j<(UG ver).length),¬((aek ((UG ver)[j]).name (xs.map It.n):Int)<(acM ver ((UG ver)[j]).name).2.1)):ado ver xs .nilIface w:=by
 refine .inl ⟨adn.2 ⟨hv,hl,ha,?_,?_⟩,rfl⟩
 ·unfold afQ;rw[List.all_eq_true];intro i hi;exact hm i (by simpa using hi)
 ·unfold aki;rw[List.all_eq_true];intro e he
  obtain⟨j,hj,rfl⟩:=List.getElem_of_mem he
  rw[decide_eq_false (hb j hj)];rfl
theorem af5{w:World}{v:Value}{xs:List It}(h:UA w v xs)(h0:xs≠[]):∃b off cap,v=.slice (some ⟨b,off,none⟩) xs.length cap∧b<w.heap.size∧∀(i:Nat) (x:It),xs[i]?=some x→∃pv lv,alo w b (off+i*15) x pv lv:=by
 obtain⟨a,cap,e,_,h⟩:=h
 obtain⟨b,off,e2,hb,h⟩:=h h0
 exact⟨b,off,cap,by rw[e,e2],hb,h⟩
theorem awv(n:List UInt8)(ns:List (List UInt8)):aek n ns≤ns.length:=List.length_filter_le _ _
theorem anK{xs:List It}{k:Nat}{x:It}(hx:xs[k]?=some x)(n:List UInt8):(aek n ((xs.map It.n).take (k+1)):Int)=if n=Eg x.n then(aek (Eg x.n) ((xs.map It.n).take k):Int)+1 else(aek n ((xs.map It.n).take k):Int):=by
 have e:(xs.map It.n).take (k+1)=(xs.map It.n).take k++[x.n]:=by
  rw[List.take_add_one,List.getElem?_map,hx];rfl
 rw[e]
 unfold aek
 rw[List.filter_append,List.length_append]
 by_cases h:n=Eg x.n
 ·rw[if_pos h];subst h;simp
 ·rw[if_neg h]
  have:(Eg x.n==n)=false:=beq_eq_false_iff_ne.2 (fun q=>h q.symm)
  simp[this]
theorem as7{ver:Int}{xs:List It}{k:Nat}{x:It}(hx:xs[k]?=some x):aeR ver (xs.map It.n) k=!(decide (0<(acM ver x.n).2.2.1∧(acM ver x.n).2.2.1<(aek (Eg x.n) ((xs.map It.n).take k):Int)+1)):=by
 unfold aeR
 have e:(xs.map It.n)[k]?=some x.n:=by rw[List.getElem?_map,hx];rfl
 rw[e]
 simp only
 rw[anK hx,if_pos rfl]
theorem auN(v:Int)(w:World)(h3:v≠3)(h4:v≠4):Um 66 #[.int .i64 v] w (.tuple #[.slice none 0 0,eno 1]):=by
 have b3:(v != 3)=true:=by simpa using h3
 have b4:(v != 4)=true:=by simpa using h4
 go_enter Tryz.func66,Tryz.ntmps66
 clear h3 h4
 go_wp2_with fail
 refine bodyPost_ret (v:=.tuple #[.slice none 0 0,eno 1]) ?_ rfl ⟨rfl,?_⟩
 ·simp[results,Tryz.f66,go_sem]
 ·exact(by repeat (first|exact G.refl _|assumption|apply G.drew|apply G.drewN|apply G.alloc|refine G.trans ?_ (by assumption)))
theorem acP{w:World}{b:Nat}{a0 a1:Value}{t:TypeId}(h:w.heap[b]?=some (.cells #[a0,a1] t (0,0))):w.cell? ⟨b,0,none⟩=some a0∧w.cell? ⟨b,1,none⟩=some a1:=by
 refine⟨?_,?_⟩<;>(rw[cell_of_row w b _ _ _ _ h];rfl)
theorem aiA(ver:Int)(iv:Value)(xs:List It)(w:World)(h:UA w iv xs)(hl:xs.length≤1000000)(hs:∀x∈xs,Sml x)(hR:aeV w)(hM:aer w)(hE:UO w):Uz 30 #[acH ver iv] w (ado ver xs):=by
 obtain⟨w1,hw1⟩:∃w1,w.alloc (.cells #[.int .i64 ver,iv] 24)=w1:=⟨_,rfl⟩
 have HB:=hid (show w1.heap[w.heap.size]?=some (.cells #[.int .i64 ver,iv] 24 (0,0)) by rw[←hw1];exact heap_alloc_new w _)
 have G1:=hid (show G w w1 by rw[←hw1];exact(G.refl w).alloc _)
 have HIT:=hid h
 have HS:=hid hs
 have HRM:=hid hR
 have HM:=hid hM
 have HE:=hid hE
 obtain⟨ia,ic,rfl,hcap⟩:=h.len
 clear h hcap hs hR hM hE
 unfold acH
 obtain⟨c0,c1⟩:=acP HB.out
 by_cases hv:ver=3∨ver=4
 case neg=>
  have HN:=hid hv
  have h3:ver≠3:=fun e=>hv (.inl e)
  have h4:ver≠4:=fun e=>hv (.inr e)
  clear hv
  go_enter Tryz.func30,Tryz.ntmps30
  go_wp2_with fail
  refine(auN ver _ h3 h4).use ?_
  intro w2 g2
  clear h3 h4
  go_wp2_with fail
  go_ret
  exact⟨_,rfl,ado.ver HN.out (by decide),G1.out.trans g2⟩
 have HV:=hid hv
 have hlen2:=aoG ver
 have hlen25:=(avJ ver).2
 have NM:=hid (fun W g=>atV ver W hv (HRM.out.grow g))
 have OF:=hid (fun (s:List UInt8) W (g:G w W) (hs:s.length≤1000000)=>amK s ver W hv hs (HRM.out.grow g))
 have ONE:=hid (fun (x:It) pv lv W (g:G w W) (hx:x∈xs) (ho:adE W x pv lv)=>aon ver hv x pv lv W ho (HS.out x hx) (HRM.out.grow g) (HM.out.grow g) (HE.out.grow g))
 have HTO:=hid (avJ ver).1
 clear hv
 go_enter Tryz.func30,Tryz.ntmps30
 go_wp2_with fail
 refine(NM.out w1 G1.out).mono ?_
 rintro e w2 ⟨u,rfl,hrow,hB⟩
 obtain⟨g,cap,hu⟩:∃g cap,u=.slice (some ⟨g,0,none⟩) (UG ver).length cap:=by
  obtain⟨n,hn⟩:∃n,(UG ver).length=n+1:=⟨(UG ver).length-1,by omega⟩
  rw[hn]at hrow⊢
  exact ownsRow_succ hrow
 subst hu
 have hcell:∀j,(hj:j<(UG ver).length)→w2.cell? ⟨g,j,none⟩=some (.string (S ((UG ver)[j]).name)):=fun j hj=>by
  have:=hrow.cells (g:=g) rfl j (.string (S ((UG ver)[j]).name)) (by simp[hj])
  have ea:(⟨g,0,none⟩:Addr).add j=⟨g,j,none⟩:=by unfold Addr.add;split<;>simp_all
  rw[ea]at this
  exact this
 have hgl:g<w2.heap.size:=World.block_lt_of_cell? _ _ (hcell 0 (by omega))
 have HC:=hid hcell
 have g2:G w1 w2:=hB
 have K2:=hid g2
 have HB2:=hid (uU HB.out g2)
 have HGL:=hid hgl
 clear hcell hrow hB g2 c0 c1 hgl
 obtain⟨c0,c1⟩:=acP HB2.out
 by_cases h60:xs.length≤60
 case neg=>
  have HN:=hid h60
  have h60':(60:Int)<xs.length:=by omega
  clear h60
  go_wp2_with fail
  go_ret
  exact⟨_,rfl,ado.many HN.out (by decide),G1.out.trans K2.out⟩
 have h60':¬(60:Int)<xs.length:=by omega
 go_wp2_with fail
 clear c0 c1 h60'
 go_loopw [35] (fun i wr=>∃k:Nat,k≤xs.length∧i=.int .i64 k∧(∀(j:Nat) (y:It),j<k→xs[j]?=some y→adY ver y=true)∧G w2 wr) (fun i _=>xs.length-(intOf i).toNat)
 case atStart=>exact⟨0,Nat.zero_le _,rfl,fun j _ h=>by omega,G.refl _⟩
 case round=>
  obtain⟨k,hk,rfl,hno,gr⟩:=hrel
  have KR:=hid gr
  have GR:=hid (G1.out.trans (K2.out.trans gr))
  have HB3:=hid (uU HB2.out gr)
  have HNO:=hid hno
  clear hno gr
  by_cases hlt2:k<xs.length
  ·obtain⟨b,off,cap2,e,hb,hit⟩:=af5 (HIT.out.grow GR.out) (by rintro rfl;simp at hlt2)
   cases e
   have hx:=List.getElem?_eq_getElem hlt2
   obtain⟨x,hxe⟩:∃x,xs[k]=x:=⟨_,rfl⟩
   rw[hxe]at hx
   obtain⟨pv,lv,hat⟩:=hit k x hx
   obtain⟨pa,pc,rfl⟩:=hat.ok.pv
   obtain⟨la,lc,rfl⟩:=hat.ok.lv
   obtain⟨k0,k1,k2,k3,k4,k5,k6,k7,k8,k9,k10,k11,k12,k13,k14⟩:=hat.e
   have HX:=hid hx
   have HOK:=hid hat.ok
   have hkl:(k:Int)<(xs.length:Int):=by omega
   have HBX:=hid (uU HB3.out ((G.refl wr).alloc (.cells (x.cells (.slice pa x.ps.length pc) (.slice la x.v.ps.length lc)).toArray 38)))
   clear hit hat hx hxe
   obtain⟨c0,c1⟩:=acP HBX.out
   simp only[It.cells]at c0 c1
   go_wp2_with fail
   refine(ONE.out x _ _ _ (GR.out.trans ((G.refl wr).alloc _)) (List.mem_of_getElem? HX.out) (HOK.out.grow ((G.refl wr).alloc _))).use ?_
   rintro r w4 ⟨c,rfl,ho⟩ g4
   have G4:=hid (GR.out.trans (((G.refl wr).alloc _).trans g4))
   have K4:=hid (KR.out.trans (((G.refl wr).alloc _).trans g4))
   clear k0 k1 k2 k3 k4 k5 k6 k7 k8 k9 k10 k11 k12 k13 k14 g4 c0 c1
   have HO:=hid ho
   clear ho
   by_cases hc:c=0
   ·subst hc
    have HN2:=hid (show ∀(j:Nat) (y:It),j<k+1→xs[j]?=some y→adY ver y=true from fun j y hj hy=>by
     rcases Nat.lt_or_ge j k with h1|h1
     ·exact HNO.out j y h1 hy
     ·obtain rfl:j=k:=by omega
      rw[HX.out]at hy;cases hy;exact HO.out.ok.1 rfl)
    go_wp2_with fail
    go_roundw
    case measure=>simp[intOf];omega
    case rel=>exact⟨k+1,by omega,by go_num,HN2.out,K4.out⟩
   ·have hc':(c != 0)=true:=by simpa using hc
    have HCN:=hid hc
    clear hc
    go_wp2_with fail
    go_ret
    exact⟨_,rfl,ado.item HX.out HNO.out HO.out HCN.out (UE.new _ _ _ _),G4.out.alloc _⟩
  ·obtain rfl:k=xs.length:=by omega
   obtain⟨wo,rfl⟩:∃wo,wo=wr:=⟨_,rfl⟩
   have HALL:=hid (show ∀x∈xs,adY ver x=true from fun x hx=>by
    obtain⟨j,hj,rfl⟩:=List.getElem_of_mem hx
    exact HNO.out j _ hj (List.getElem?_eq_getElem hj))
   obtain⟨c0,c1⟩:=acP HB3.out
   have e0:=(HB3.out)
   obtain⟨wm,hwm⟩:∃wm,wo.alloc (.map #[] 0)=wm:=⟨_,rfl⟩
   have KM:=hid (show G w2 wm by rw[←hwm];exact KR.out.alloc _)
   have GM:=hid (show G w wm by rw[←hwm];exact GR.out.alloc _)
   have HM0:=hid (show wm.heap[wo.heap.size]?=some (.map #[] 0) by rw[←hwm];exact heap_alloc_new wo _)
   have HRW:=hid (show G wo wm by rw[←hwm];exact(G.refl wo).alloc _)
   have HBM:=hid (uU HB3.out HRW.out)
   clear c0 c1 e0
   obtain⟨c0,c1⟩:=acP HBM.out
   have hmm:=@run_makeMap Tryz.prog
   go_wp2_with fail
   clear hmm
   clear c0 c1
   go_loopw [56] (fun i wr=>∃k:Nat,k≤xs.length∧i=.int .i64 k∧(∃es cl,wr.heap[wo.heap.size]?=some (.map es cl)∧ahA es cl (fun n=>(aek n ((xs.map It.n).take k):Int)))∧(∀j,j<k→aeR ver (xs.map It.n) j=true)∧G wo wr) (fun i _=>xs.length-(intOf i).toNat)
   case atStart=>exact⟨0,Nat.zero_le _,rfl,⟨_,_,HM0.out,awz 0⟩,fun j h=>by omega,HRW.out⟩
   case round=>
    obtain⟨k,hk,rfl,⟨es,cl,hmap,hcnt⟩,hno,gr⟩:=hrel
    have KQ:=hid gr
    have GQ:=hid (GR.out.trans gr)
    have HBQ:=hid (uU HB3.out gr)
    have HMO:=hid hno
    have HMAP:=hid hmap
    have HCNT:=hid hcnt
    clear hno gr hmap hcnt
    by_cases hlt2:k<xs.length
    ·obtain⟨b,off,cap2,e,hb,hit⟩:=af5 (HIT.out.grow GQ.out) (by rintro rfl;simp at hlt2)
     cases e
     have hx:=List.getElem?_eq_getElem hlt2
     obtain⟨x,hxe⟩:∃x,xs[k]=x:=⟨_,rfl⟩
     rw[hxe]at hx
     obtain⟨pv,lv,hat⟩:=hit k x hx
     obtain⟨pa,pc,rfl⟩:=hat.ok.pv
     obtain⟨la,lc,rfl⟩:=hat.ok.lv
     obtain⟨k0,k1,k2,k3,k4,k5,k6,k7,k8,k9,k10,k11,k12,k13,k14⟩:=hat.e
     have HX:=hid hx
     have hkl:(k:Int)<(xs.length:Int):=by omega
     have hnl:=(HS.out x (List.mem_of_getElem? hx)).bounds.2.1
     clear hit hat hx hxe
     go_wp2_with fail
     refine(afa x.n _ (by omega)).use ?_
     intro w4 g4
     have GA:=hid (((G.refl wr).alloc (.cells (x.cells (.slice pa x.ps.length pc) (.slice la x.v.ps.length lc)).toArray 38)).trans g4)
     clear k0 k1 k2 k3 k4 k5 k6 k7 k8 k9 k10 k11 k12 k13 k14 g4
     have hm4:=uU HMAP.out GA.out
     obtain⟨u,hu⟩:∃u,u=Eg x.n:=⟨_,rfl⟩
     have lk:=al5 hm4 HCNT.out u
     obtain⟨a,ha⟩:∃a:Nat,a=aek u ((xs.map It.n).take k):=⟨_,rfl⟩
     have hal:a≤1000:=by
      rw[ha]
      have h1:=awv u ((xs.map It.n).take k)
      rw[List.length_take,List.length_map]at h1
      omega
     rw[←ha]at lk
     obtain⟨es',cl',pt,hcn⟩:=awC hm4 HCNT.out u ((a:Int)+1)
     obtain⟨w5,hw5⟩:∃w5,({ w4 with heap:=w4.heap.setIfInBounds wo.heap.size (.map es' cl') }:World)=w5:=⟨_,rfl⟩
     have hgr5:=atf w4 wo.heap.size (.map es' cl')
     have HM5:=hid (auT hm4 (.map es' cl'))
     rw[hw5]at pt hgr5 HM5
     have K5:=hid (show G wo w5 from Below.grown (KQ.out.trans GA.out) hgr5 (Nat.le_trans KQ.out.size GA.out.size) (fun j hj=>by cases hj;exact Nat.le_refl _))
     have G5:=hid (GR.out.trans K5.out)
     have HB5:=hid (uU HB3.out K5.out)
     obtain⟨r0,r1,r2,r3,hru⟩:∃r0 r1 r2 r3,acM ver x.n=(r0,r1,r2,r3):=⟨_,_,_,_,rfl⟩
     have OF1:=OF.out u w5 G5.out (by rw[hu,anm];omega)
     rw[show acX (UG ver) (Eg u)=acM ver x.n by rw[hu,aqe];rfl,hru]at OF1
     have HOF:=hid OF1
     have HRU:=hid hru
     clear hw5 hgr5 hru OF1
     have HCN:=hid hcn
     rw[←hu]
     have HU:=hid hu
     have HA:=hid ha
     have HM4:=hid hm4
     clear hcn hu ha hm4
     obtain⟨c0,c1⟩:=acP HB5.out
     go_wp2_with fail
     clear pt lk
     refine HOF.out.use ?_
     intro w6 g6
     have GL:=hid (g6.alloc (.cells #[.int .i64 r0,.int .i64 r1,.int .i64 r2,.int .i64 r3] 47))
     have HM6:=hid (uU HM5.out GL.out)
     have lk:=al5 HM6.out HCN.out u
     simp only[if_true]at lk
     have HB6:=hid (uU HB5.out GL.out)
     have K6:=hid (K5.out.trans GL.out)
     have G6:=hid (G5.out.trans GL.out)
     clear c0 c1 g6 HOF
     have HMA:=hid (show aeR ver (xs.map It.n) k=!(decide (0<r2∧r2<(a:Int)+1)) by rw[as7 HX.out,HRU.out,HA.out,HU.out])
     by_cases hbad:0<r2∧r2<(a:Int)+1
     case pos=>
      have HNO:=hid (show aeR ver (xs.map It.n) k=false by rw[HMA.out,decide_eq_true hbad];rfl)
      obtain⟨b1,b2⟩:=hbad
      go_wp2_with fail
      go_ret
      exact⟨_,rfl,ado.most HALL.out hlt2 HNO.out (UE.newAt _ _ _ _ _ (by simp)),G6.out.alloc _⟩
     have HYES:=hid (show aeR ver (xs.map It.n) k=true by rw[HMA.out,decide_eq_false hbad];rfl)
     have HCN2:=hid (show ahA es' cl' (fun n=>(aek n ((xs.map It.n).take (k+1)):Int)) by
      have e:(fun n=>(aek n ((xs.map It.n).take (k+1)):Int))=fun x=>if x=u then(a:Int)+1 else(aek x ((xs.map It.n).take k):Int):=by
       funext n
       rw[anK HX.out,HA.out,HU.out]
      rw[e];exact HCN.out)
     have HMO2:=hid (show ∀j,j<k+1→aeR ver (xs.map It.n) j=true from fun j hj=>by
      rcases Nat.lt_or_ge j k with h1|h1
      ·exact HMO.out j h1
      ·obtain rfl:j=k:=by omega
       exact HYES.out)
     rcases(show ¬0<r2∨(0<r2∧¬r2<(a:Int)+1) by
      by_cases b1:0<r2
      ·exact .inr ⟨b1,fun b2=>hbad ⟨b1,b2⟩⟩
      ·exact .inl b1)with b1|⟨b1,b2⟩
     all_goals
      clear hbad
      go_wp2_with fail
      go_roundw
      case measure=>simp[intOf];omega
      case rel=>exact⟨k+1,by omega,by go_num,⟨es',cl',HM6.out,HCN2.out⟩,HMO2.out,K6.out⟩
    ·obtain rfl:k=xs.length:=by omega
     obtain⟨wp,rfl⟩:∃wp,wp=wr:=⟨_,rfl⟩
     have HMOST:=hid (show ∀i,i<xs.length→aeR ver (xs.map It.n) i=true from HMO.out)
     have HCNT2:=hid (show ahA es cl (fun n=>(aek n (xs.map It.n):Int)) by
      have:=HCNT.out
      rwa [List.take_of_length_le (by simp)]at this)
     have KN:=hid (KR.out.trans KQ.out)
     go_wp2_with fail
     go_loopw [93] (fun i wr=>∃k:Nat,k≤(UG ver).length∧i=.int .i64 k∧(∀j (h:j<(UG ver).length),j<k→(acM ver ((UG ver)[j]).name).2.1≤(aek ((UG ver)[j]).name (xs.map It.n):Int))∧G wp wr) (fun i _=>(UG ver).length-(intOf i).toNat)
     case atStart=>exact⟨0,Nat.zero_le _,rfl,fun j _ h=>by omega,G.refl _⟩
     case round=>
      obtain⟨k,hk,rfl,hno,gr⟩:=hrel
      have HLO:=hid hno
      have KW:=hid gr
      have GW:=hid (GQ.out.trans gr)
      have HBW:=hid (uU HBQ.out gr)
      have HMW:=hid (uU HMAP.out gr)
      clear hno gr
      by_cases hlt3:k<(UG ver).length
      ·have hc0:=(KN.out.trans KW.out).cell (p:=⟨g,k,none⟩) HGL.out
       rw[HC.out k hlt3]at hc0
       have hem:=List.getElem_mem hlt3
       have hoe:=HTO.out _ hem
       simp only[axY,Bool.and_eq_true,decide_eq_true_eq,beq_iff_eq]at hoe
       obtain⟨e,he⟩:∃e,(UG ver)[k]=e:=⟨_,rfl⟩
       rw[he]at hc0 hem hoe
       have hel:e.name.length≤1000000:=by have:=hoe.2.2.2.2.2.2;omega
       obtain⟨r0,r1,r2,r3,hru⟩:∃r0 r1 r2 r3,acM ver e.name=(r0,r1,r2,r3):=⟨_,_,_,_,rfl⟩
       have OF1:=OF.out e.name wr GW.out hel
       rw[show acX (UG ver) (Eg e.name)=acM ver e.name from rfl,hru]at OF1
       have HOF:=hid OF1
       have HRU:=hid hru
       have HEM:=hid hem
       have HEK:=hid he
       obtain⟨c0,c1⟩:=acP HBW.out
       have hkl:(k:Int)<((UG ver).length:Int):=by omega
       clear hoe hel hru OF1 hem he
       go_wp2_with fail
       refine HOF.out.use ?_
       intro w6 g6
       have GL:=hid (g6.alloc (.cells #[.int .i64 r0,.int .i64 r1,.int .i64 r2,.int .i64 r3] 47))
       have HM6:=hid (uU HMW.out GL.out)
       have lk:=al5 HM6.out HCNT2.out e.name
       obtain⟨a,ha⟩:∃a:Nat,a=aek e.name (xs.map It.n):=⟨_,rfl⟩
       rw[←ha]at lk
       have HA:=hid ha
       have K6:=hid (KW.out.trans GL.out)
       have G6:=hid (GW.out.trans GL.out)
       clear c0 c1 g6 HOF hc0 ha
       by_cases hbad:(a:Int)<r1
       ·have HNO:=hid (show(aek e.name (xs.map It.n):Int)<(acM ver e.name).2.1 by rw[HRU.out,←HA.out];exact hbad)
        go_wp2_with fail
        go_ret
        exact⟨_,rfl,ado.least HALL.out HMOST.out HEM.out HNO.out (by decide),G6.out⟩
       ·have HN2:=hid (show ∀j (h:j<(UG ver).length),j<k+1→(acM ver ((UG ver)[j]).name).2.1≤(aek ((UG ver)[j]).name (xs.map It.n):Int)from fun j h hj=>by
         rcases Nat.lt_or_ge j k with h1|h1
         ·exact HLO.out j h h1
         ·obtain rfl:j=k:=by omega
          rw[HEK.out,HRU.out,←HA.out];simp only;omega)
        go_wp2_with fail
        go_roundw
        case measure=>simp[intOf];omega
        case rel=>exact⟨k+1,by omega,by go_num,HN2.out,K6.out⟩
      ·obtain rfl:k=(UG ver).length:=by omega
       go_wp2_with fail
       go_ret
       exact⟨_,rfl,ado.yes HV.out h60 HALL.out HMOST.out (fun j h=>by have:=HLO.out j h h;omega),GW.out⟩
theorem aem(ver:Int)(iv:Value)(xs:List It)(w:World)(h:UA w iv xs)(hl:xs.length≤1000)(hs:∀x∈xs,Sml x)(hR:aeV w)(hM:aer w)(hE:UO w):Uz 30 #[acH ver iv] w (ado ver xs):=
 aiA ver iv xs w h (by omega) hs hR hM hE
end Go.Proofs.YtmffejnigppbpaaGreatDoor
