/-
  Texts merged into one: ConvPrefs, ConvKeeps.
-/
import Derived.Test.YtmffejnigppbpaaGreatDoorCXMA57
import Derived.Test.YtmffejnigppbpaaGreatDoorCXMA48
import Derived.Test.YtmffejnigppbpaaGreatDoorCXMA53
import Derived.Test.YtmffejnigppbpaaGreatDoorCXMFn
import Derived.Test.YtmffejnigppbpaaGreatDoorCXMA58
import Derived.Test.YtmffejnigppbpaaGreatDoorCXMA56
set_option linter.unusedVariables false
set_option linter.unusedSimpArgs false
set_option maxHeartbeats 16000000
set_option maxRecDepth 100000
namespace Go.Proofs.YtmffejnigppbpaaGreatDoor
open Go.RowKit
theorem VU(l:List UInt8)(w:World)(h1:l.length≤1000000):dA 18 (#[OM l]++#[]) w (.bool (dC l mf)):=by
 go_enter Tryz.func18,Tryz.ntmps18
 go_wp2_with fail
 refine(kM l mf _ (by omega) (by decide)).use ?_
 intro w1 g1
 go_wp2_with fail
 go_ret
 exact⟨rfl,g1⟩
def QN(n:List UInt8)(f:Pm→Bool):Prop:=(n=gJ∧f=ed)∨(n=oV∧f=mM)
theorem XR{f:Pm→Bool}{ps:List Pm}{q:Nat}{p:Pm}(h:ps[q]?=some p):(ps.take (q+1)).any f=((ps.take q).any f||f p):=by
 rw[List.take_add_one,h,List.any_append];simp
theorem XT{f:It→Bool}{xs:List It}{k:Nat}{x:It}(h:xs[k]?=some x):(xs.take (k+1)).countP f=(xs.take k).countP f+if f x then 1 else 0:=by
 rw[List.take_add_one,h,List.countP_append]
 simp[List.countP_cons]
theorem Kt(n:List UInt8)(f:Pm→Bool)(hn:QN n f)(iv:Value)(xs:List It)(w:World)(h:dX w iv xs)(hl:xs.length≤1000)(hs:∀x∈xs,Sml x):dA 15 #[iv,.string (S n)] w (.int .i64 ((xs.countP (fun x=>x.ps.any f):Nat):Int)):=by
 have HI:=hid h
 have HS:=hid hs
 have HN:=hid hn
 have hnl:n.length≤1000000:=by rcases hn with⟨rfl,_⟩|⟨rfl,_⟩<;>decide
 obtain⟨ia,ic,rfl,_⟩:=h.len
 obtain⟨bn,hbn⟩:∃bn,(n != [84,89,80,69])=bn:=⟨_,rfl⟩
 have HBN:=hid hbn
 clear h hs hn
 go_enter Tryz.func15,Tryz.ntmps15
 go_wp2_with fail
 go_loopw [5,13] (fun m i wr=>∃k:Nat,k≤xs.length∧m=.int .i64 (((xs.take k).countP (fun x=>x.ps.any f):Nat):Int)∧i=.int .i64 k∧G w wr) (fun _ i _=>xs.length-(intOf i).toNat)
 case atStart=>exact⟨0,Nat.zero_le _,rfl,rfl,G.refl _⟩
 case round=>
  obtain⟨k,hk,rfl,rfl,gr⟩:=hrel
  have GR:=hid gr
  clear gr
  obtain⟨cn,hcn⟩:∃cn,(xs.take k).countP (fun x=>x.ps.any f)=cn:=⟨_,rfl⟩
  have hcl:cn≤1000:=by rw[←hcn];have:=List.countP_le_length (p:=fun x:It=>x.ps.any f) (l:=xs.take k);rw[List.length_take]at this;omega
  rw[hcn]
  have HCN:=hid hcn
  clear hcn
  by_cases hlt:k<xs.length
  ·obtain⟨b,off,cap2,e,hb,hit⟩:=pq (HI.out.grow GR.out) (by rintro rfl;simp at hlt)
   cases e
   have hx:=List.getElem?_eq_getElem hlt
   obtain⟨x,hxe⟩:∃x,xs[k]=x:=⟨_,rfl⟩
   rw[hxe]at hx
   obtain⟨pv,lv,hat⟩:=hit k x hx
   obtain⟨pa,pc,rfl⟩:=hat.ok.pv
   obtain⟨la,lc,rfl⟩:=hat.ok.lv
   obtain⟨k0,k1,k2,k3,k4,k5,k6,k7,k8,k9,k10,k11,k12,k13,k14⟩:=hat.e
   have HX:=hid hx
   have HP:=hid hat.ok.p
   have hkl:(k:Int)<(xs.length:Int):=by omega
   have hsx:=HS.out x (List.mem_of_getElem? hx)
   have hps:=jy hsx
   have HPN:=hid (iO hsx)
   have HPV:=hid (mP hsx)
   clear hit hat hx hxe hsx
   go_wp2_with fail
   clear k0 k1 k2 k3 k4 k5 k6 k7 k8 k9 k10 k11 k12 k13 k14
   obtain⟨w1,rfl⟩:∃w1,w1=wr:=⟨_,rfl⟩
   generalize hw2:w1.alloc _=w2
   have G12:=hid (show G w1 w2 by rw[←hw2];exact(G.refl w1).alloc _)
   clear hw2
   go_loopw [8,20] (fun v j wi=>∃q:Nat,q≤x.ps.length∧v=.bool ((x.ps.take q).any f)∧j=.int .i64 q∧G w2 wi) (fun _ j _=>x.ps.length-(intOf j).toNat)
   case atStart=>exact⟨0,Nat.zero_le _,rfl,rfl,G.refl _⟩
   case round=>
    obtain⟨q,hq,rfl,rfl,gq⟩:=hrel
    have GQ:=hid gq
    have GW:=hid (G12.out.trans gq)
    clear gq
    obtain⟨tb,htb⟩:∃tb,(x.ps.take q).any f=tb:=⟨_,rfl⟩
    rw[htb]
    have HTB:=hid htb
    clear htb
    by_cases hql:q<x.ps.length
    ·obtain⟨a2,cap3,e1,_,hc⟩:=(HP.out.grow GW.out)
     obtain⟨b2,off2,e2,hb2,hcc⟩:=hc (by intro e;rw[e]at hql;simp at hql)
     simp only[Value.slice.injEq,true_and]at e1
     obtain⟨rfl,rfl⟩:=e1
     subst e2
     have hpx:=List.getElem?_eq_getElem hql
     obtain⟨p,hpe⟩:∃p,x.ps[q]=p:=⟨_,rfl⟩
     rw[hpe]at hpx
     obtain⟨sv,c1,c2,c3⟩:=hcc q p hpx
     obtain⟨sa,sc,rfl,_⟩:=c3.len
     have hpm:=List.mem_of_getElem? hpx
     have hn1:=HPN.out p hpm
     obtain⟨hv1,hv2⟩:=HPV.out p hpm
     have HV2:=hid hv2
     have HPX:=hid hpx
     have C3:=hid c3
     have hqz:(q:Int)<(x.ps.length:Int):=by omega
     have A1:=hid ((G.refl wr).alloc (.cells #[.string (S p.1),.slice sa p.2.length sc] 41))
     clear hcc hc hpx hpe c3 hpm hv2
     have step:∀v:Bool,f p=v→(x.ps.take (q+1)).any f=(tb||v):=fun v hv=>by rw[XR HPX.out,HTB.out,hv]
     have STEP:=hid step
     clear step
     cases tb with
     |true=>
      go_wp2_with fail
      go_roundw
      case measure=>simp[intOf];omega
      case rel=>exact⟨q+1,by omega,by rw[STEP.out _ rfl];rfl,by go_num,GQ.out.trans A1.out⟩
     |false=>
      have SM:=hid (fun W=>kM p.1 n W (by omega) (by omega))
      obtain⟨sb,hsb⟩:∃sb,dC p.1 n=sb:=⟨_,rfl⟩
      rw[hsb]at SM
      have HSB:=hid hsb
      clear hsb
      go_wp2_with fail
      refine(SM.out _).use ?_
      intro w5 g5
      have G5:=hid (A1.out.trans g5)
      have hz1:w5.cell? ⟨wr.heap.size,1,none⟩=some (.slice sa p.2.length sc):=by rw[g5.cell (by simp)];simp[go_sem]
      clear g5 c1 c2
      cases sb with
      |false=>
       have HF:=hid (show f p=false by
        rcases HN.out with⟨e1,e2⟩|⟨e1,e2⟩
        ·rw[e2];unfold ed;rw[←e1,HSB.out];rfl
        ·rw[e2];unfold mM;rw[←e1];exact HSB.out)
       go_wp2_with fail
       go_roundw
       case measure=>simp[intOf];omega
       case rel=>exact⟨q+1,by omega,by rw[STEP.out _ HF.out];rfl,by go_num,GQ.out.trans G5.out⟩
      |true=>
       cases bn with
       |true=>
        have HF:=hid (show f p=true by
         rcases HN.out with⟨e1,e2⟩|⟨e1,e2⟩
         ·have:=HBN.out;rw[e1]at this;exact absurd this (by decide)
         ·rw[e2];unfold mM;rw[←e1];exact HSB.out)
        have hne:¬n=[84,89,80,69]:=by simpa using HBN.out
        clear hbn
        go_wp2_with fail
        go_roundw
        case measure=>simp[intOf];omega
        case rel=>exact⟨q+1,by omega,by rw[STEP.out _ HF.out];rfl,by go_num,GQ.out.trans G5.out⟩
       |false=>
        have HF:=hid (show f p=p.2.any (fun v=>dC v mf) by
         rcases HN.out with⟨e1,e2⟩|⟨e1,e2⟩
         ·rw[e2];unfold ed;rw[←e1,HSB.out];rfl
         ·have:=HBN.out;rw[e1]at this;exact absurd this (by decide))
        have en:n=[84,89,80,69]:=by simpa using HBN.out
        subst en
        clear hbn
        have HC:=hid (vZ 18 #[] (enters_of Tryz.func18 (by kernel_rfl) rfl) (fun v=>dC v mf) _ p.2 w5 ((C3.out.grow G5.out).row) (by omega) (fun W gW v hv=>VU v W (by have:=HV2.out v hv;omega)))
        go_wp2_with fail
        refine HC.out.use ?_
        intro w6 g6
        have G6:=hid (G5.out.trans g6)
        clear g6
        go_wp2_with fail
        go_roundw
        case measure=>simp[intOf];omega
        case rel=>exact⟨q+1,by omega,by rw[STEP.out _ HF.out];rfl,by go_num,GQ.out.trans G6.out⟩
    ·obtain rfl:q=x.ps.length:=by omega
     have HTA:=hid (show x.ps.any f=tb by have:=HTB.out;rwa [List.take_length]at this)
     have GX:=hid (GR.out.trans GW.out)
     have HCX:=hid (show(xs.take (k+1)).countP (fun x=>x.ps.any f)=cn+if tb then 1 else 0 by rw[XT HX.out,HCN.out,HTA.out])
     cases tb with
     |false=>
      go_wp2_with fail
      go_roundw
      case measure=>simp[intOf];omega
      case rel=>exact⟨k+1,by omega,by rw[HCX.out];simp,by go_num,GX.out⟩
     |true=>
      go_wp2_with fail
      go_roundw
      case measure=>simp[intOf];omega
      case rel=>exact⟨k+1,by omega,by rw[HCX.out];simp,by go_num,GX.out⟩
  ·obtain rfl:k=xs.length:=by omega
   have HCA:=hid (show xs.countP (fun x=>x.ps.any f)=cn by have:=HCN.out;rwa [List.take_length]at this)
   go_wp2_with fail
   go_ret
   exact⟨kX (by rw[HCA.out]),GR.out⟩
def ZH(B n c:Nat)(a:Option Addr)(t p:Nat)(k:Nat)(v:Value)(W:World):Prop:=
 match k with
 |0=>v=.func (.func 15) #[] #[]
 |1=>v=.pointer (some ⟨B,1,none⟩)
 |2=>v=.slice a n c
 |3=>v=.int .i64 (t:Int)
 |4=>v=.func (.func 15) #[] #[]
 |5=>v=.pointer (some ⟨B,1,none⟩)
 |6=>v=.slice a n c
 |_=>True
theorem Bj(ver:Int)(iv:Value)(xs:List It)(w:World)(h:dX w iv xs)(hf:iv=.slice none 0 0∨∃a n c,iv=.slice (some a) n c)(hl:xs.length≤1048576)(hL:∀y∈xs,D7 y≤1048576)(hR:qm w)(hE:gQ w) :
  dA 3 #[gY ver iv] w (.bool true):=by
 have TU:=hid (fun W (g:G w W)=>I4 W (hR.grow g) (hR.grow g).hm (hE.grow g))
 have HL:=hid (fun W (g:G w W)=>O3 ver iv xs W (h.grow g) hl hL (hR.grow g) (hE.grow g))
 have HI:=hid h
 have HR:=hid hR
 have HE:=hid hE
 obtain⟨hb,hhb⟩:∃hb,Ii ver xs=hb:=⟨_,rfl⟩
 rw[hhb]at HL
 have HHB:=hid hhb
 obtain⟨ia,ic,rfl,_⟩:=h.len
 clear h hf hl hL hR hE hhb
 unfold gY at HL
 unfold gY
 go_enter Tryz.func3,Tryz.ntmps3
 go_wp2_with fail
 generalize hw1:w.alloc _=w1
 have HB1:=hid (show w1.heap[w.heap.size]?=some (.cells #[.int .i64 ver,.slice ia xs.length ic] 24 (0,0)) by rw[←hw1];exact heap_alloc_new w _)
 have G1:=hid (show G w w1 by rw[←hw1];exact(G.refl w).alloc _)
 clear hw1
 refine(TU.out w1 G1.out).use ?_
 intro w2 g2
 have G2:=hid (G1.out.trans g2)
 have HB2:=hid (aB HB1.out g2)
 clear g2 TU
 obtain⟨c0,c1⟩:=jJ HB2.out
 go_wp2_with fail
 refine(HL.out w2 G2.out).use ?_
 intro w3 g3
 have G3:=hid (G2.out.trans g3)
 have HB3:=hid (aB HB2.out g3)
 clear g3 HL c0 c1
 cases hb with
 |false=>
  go_wp2_with fail
  go_ret
  exact⟨rfl,G3.out⟩
 |true=>
 obtain⟨hbig,hri⟩:Gm xs=false∧jq ver xs=true:=by
  have:=HHB.out
  unfold Ii at this
  simpa using this
 obtain⟨h40,hsm⟩:=Ih hbig
 have UPC:=hid (YM ver (.slice ia xs.length ic) xs w3 (HI.out.grow G3.out) (by omega) hsm (HR.out.grow G3.out) (HR.out.grow G3.out).hm (HE.out.grow G3.out))
 have HSM:=hid hsm
 unfold gY at UPC
 clear hsm hbig hri
 obtain⟨c0,c1⟩:=jJ HB3.out
 go_wp2_with fail
 refine UPC.out.use ?_
 intro r w5 hr g5
 have G5:=hid (G3.out.trans g5)
 have HB5:=hid (aB HB3.out g5)
 clear g5 UPC c0 c1
 rcases hr with⟨rfl,ys,u,hup,rfl,hiy,hfr⟩|⟨_,t,e,rfl,_⟩
 case inr=>
  unfold gY
  go_wp2_with fail
  go_ret
  exact⟨rfl,G5.out.alloc _⟩
 obtain⟨h3,h4,hle,hys⟩:=Qj hup
 obtain⟨p1,p2,p3⟩:=Yt hup
 obtain⟨ya,yc,rfl,_⟩:=hiy.len
 unfold gY
 go_upto_region 9 with fail
 generalize hw6:w5.alloc _=w6
 have G56:=hid (show G w5 w6 by rw[←hw6];exact(G.refl w5).alloc _)
 have HD6:=hid (show w6.heap[w5.heap.size]?=some (.cells #[.int .i64 4,.slice ya ys.length yc] 24 (0,0)) by rw[←hw6];exact heap_alloc_new w5 _)
 have HB6:=hid (aB HB5.out G56.out)
 have PF:=hid (fun n f hq W (g:G w6 W)=>Kt n f hq (.slice ia xs.length ic) xs W (HI.out.grow (G5.out.trans (G56.out.trans g))) (by omega) HSM.out)
 have PY:=hid (fun n f hq W (g:G w6 W)=>Kt n f hq (.slice ya ys.length yc) ys W (hiy.grow (G56.out.trans g)) (by omega) hys)
 have HP1:=hid p1
 have hc1:JO xs≤1000:=by unfold JO;have:=List.countP_le_length (p:=fun x:It=>x.ps.any ed) (l:=xs);omega
 have hc2:BQ xs≤1000:=by unfold BQ;have:=List.countP_le_length (p:=fun x:It=>x.ps.any mM) (l:=xs);omega
 have hc3:BQ ys≤1000:=by unfold BQ;have:=List.countP_le_length (p:=fun x:It=>x.ps.any mM) (l:=ys);omega
 clear hw6 hup hiy hfr h3 h4 hle hys p1 h40
 refine wp_region_any (by kernel_rfl) ?_
 refine jQ (E:=#[false,false,false,false,false,false,false,false,false,false]) G 7 (ZH w.heap.size xs.length ic ia (JO xs) (BQ xs)) [some [],some [],some [(1,22)],some [(0,21),(2,23)],some [],some [],some [(5,26)],none,none,none] [(0,21),(1,22),(2,23),(3,24),(4,25),(5,26),(6,27)] _ (by kernel_rfl) (by decide) (by kernel_rfl) (by kernel_rfl) rfl G.refl (fun _ _ _=>G.trans) (w0:=w6) ((G.refl w6).drew) ?_ ?_ ?_
 ·intro k v W W' g h
  match k,h with
  |0,h=>exact h
  |1,h=>exact h
  |2,h=>exact h
  |3,h=>exact h
  |4,h=>exact h
  |5,h=>exact h
  |6,h=>exact h
  |n+7,h=>trivial
 ·refine bi (fun vals W g d=>?_)<|bi (fun vals W g d=>?_)<|bi (fun vals W g d=>?_)<|bi (fun vals W g d=>?_)<|bi (fun vals W g d=>?_)<|bi (fun vals W g d=>?_)<|bi (fun vals W g d=>?_)<|eY<|eY<|eY oD
  ·refine bI rfl rfl rfl fun K hK=>?_
   simp only[gFr]at hK⊢
   go_simp
   exact hK _ _ (G.refl _) rfl
  ·refine bI rfl rfl rfl fun K hK=>?_
   simp only[gFr]at hK⊢
   go_simp
   exact hK _ _ (G.refl _) rfl
  ·obtain⟨d1,_⟩:=d
   change vals 1=_ at d1
   refine bI rfl rfl rfl fun K hK=>?_
   simp only[gFr,d1]at hK⊢
   obtain⟨c0,c1⟩:=jJ (aB HB6.out g)
   go_simp
   exact hK _ _ (G.refl _) rfl
  ·obtain⟨d0,d2,_⟩:=d
   change vals 0=_ at d0
   change vals 2=_ at d2
   refine bI rfl rfl rfl fun K hK=>?_
   simp only[gFr,d0,d2]at hK⊢
   go_simp
   refine(PF.out [84,89,80,69] ed (.inl ⟨rfl,rfl⟩) W g).use ?_
   intro W' hg
   exact hK _ _ hg rfl
  ·refine bI rfl rfl rfl fun K hK=>?_
   simp only[gFr]at hK⊢
   go_simp
   exact hK _ _ (G.refl _) rfl
  ·refine bI rfl rfl rfl fun K hK=>?_
   simp only[gFr]at hK⊢
   go_simp
   exact hK _ _ (G.refl _) rfl
  ·obtain⟨d5,_⟩:=d
   change vals 5=_ at d5
   refine bI rfl rfl rfl fun K hK=>?_
   simp only[gFr,d5]at hK⊢
   obtain⟨c0,c1⟩:=jJ (aB HB6.out g)
   go_simp
   exact hK _ _ (G.refl _) rfl
 ·intro vals W g d
  simp only[jf,jH]at d
  obtain⟨d0,d1,d2,d3,d4,d5,d6,_⟩:=d
  change vals 0=_ at d0
  change vals 1=_ at d1
  change vals 2=_ at d2
  change vals 3=_ at d3
  change vals 4=_ at d4
  change vals 5=_ at d5
  change vals 6=_ at d6
  have GW:=hid g
  have HBW:=hid (aB HB6.out g)
  have HDW:=hid (aB HD6.out g)
  clear g
  obtain⟨d0,d1⟩:=jJ HDW.out
  refine⟨?_⟩
  show wpList _ _ _ [_,_,_] _ _
  simp only[gFr,d0,d1,d2,d3,d4,d5,d6]
  clear d0 d1 d2 d3 d4 d5 d6
  go_wp2_with fail
  refine(PF.out [80,82,69,70] mM (.inr ⟨rfl,rfl⟩) W GW.out).use ?_
  rw[show(xs.countP fun x=>x.ps.any mM)=BQ xs from rfl]
  intro w7 g7
  have G7:=hid (GW.out.trans g7)
  have HB7:=hid (aB HBW.out g7)
  have HD7:=hid (aB HDW.out g7)
  clear g7 d0 d1
  obtain⟨d0,d1⟩:=jJ HD7.out
  go_wp2_with fail
  refine(PY.out [80,82,69,70] mM (.inr ⟨rfl,rfl⟩) w7 G7.out).use ?_
  intro w8 g8
  have G8:=hid (G7.out.trans g8)
  have HB8:=hid (aB HB7.out g8)
  have HD8:=hid (aB HD7.out g8)
  clear g8 d0 d1
  obtain⟨d0,d1⟩:=jJ HD8.out
  go_wp2_with fail
  refine(PY.out [84,89,80,69] ed (.inl ⟨rfl,rfl⟩) w8 G8.out).use ?_
  rw[show(ys.countP fun x=>x.ps.any ed)=0 from HP1.out]
  intro w9 g9
  have G9:=hid (G8.out.trans g9)
  clear d0 d1
  obtain⟨d0,d1⟩:=jJ (aB HD8.out g9)
  obtain⟨c0,c1⟩:=jJ (aB HB8.out g9)
  obtain⟨tx,htx⟩:∃tx,JO xs=tx:=⟨_,rfl⟩
  obtain⟨px,hpx⟩:∃px,BQ xs=px:=⟨_,rfl⟩
  obtain⟨py,hpy⟩:∃py,(ys.countP fun x=>x.ps.any mM)=py:=⟨_,rfl⟩
  rw[show BQ ys=py from hpy]at p2 p3 hc3
  rw[htx]at p2 p3 hc1
  rw[hpx]at p2 hc2
  rw[htx,hpx,hpy]
  clear htx hpx hpy PF PY g9
  have q2:(py:Int)≤(tx:Int)+(px:Int):=by omega
  have q3:(tx:Int)≤(py:Int)∨¬(tx:Int)≤(py:Int)∧(ys.length:Int)<(xs.length:Int):=by omega
  clear p2 p3
  rcases q3 with q3|⟨q3,q4⟩
  all_goals
   go_wp2_with fail
   go_ret
   exact⟨rfl,(G5.out.trans (G56.out.trans G9.out))⟩
end Go.Proofs.YtmffejnigppbpaaGreatDoor

set_option maxHeartbeats 16000000
set_option maxRecDepth 100000
namespace Go.Proofs.YtmffejnigppbpaaGreatDoor
open Go.RowKit
theorem VM(l:List UInt8)(w:World)(h1:l.length≤1000000):dA 23 (#[OM l]++#[]) w (.bool (dC l mf)):=by
 go_enter Tryz.func23,Tryz.ntmps23
 go_wp2_with fail
 refine(kM l mf _ (by omega) (by decide)).use ?_
 intro w1 g1
 go_wp2_with fail
 go_ret
 exact⟨rfl,g1⟩
theorem VN(x:PmC)(w:World)(hx:di w (slP x) x.1.2)(h1:x.1.1.length≤1000000)(h3:x.1.2.length≤1000000)(h4:∀v∈x.1.2,v.length≤1000000) :
  dA 22 (#[aa3 x]++#[]) w (.bool (ed x.1)):=by
 obtain⟨⟨n,vs⟩,sa,sn,sc⟩:=x
 have HS:=hid hx
 have HV:=hid h4
 obtain⟨a,c,e,hcap⟩:=hx.len
 simp only[slP,Value.slice.injEq]at e
 obtain⟨rfl,rfl,rfl⟩:=e
 dsimp only at h1 h3
 clear hx h4
 go_enter Tryz.func22,Tryz.ntmps22
 go_wp2_with fail
 refine(kM n [84,89,80,69] _ (by omega) (by simp)).use ?_
 intro w1 g1
 have G1:=hid (((G.refl w).alloc (.cells #[.string (S n),.slice sa vs.length sc] 41)).trans g1)
 have hz1:w1.cell? ⟨w.heap.size,1,none⟩=some (.slice sa vs.length sc):=by rw[g1.cell (by simp)];simp[go_sem]
 clear g1
 obtain⟨t,ht⟩:∃t,dC n [84,89,80,69]=t:=⟨_,rfl⟩
 rw[ht]
 cases t with
 |false=>
  have HR:=hid (show ed (n,vs)=false by unfold ed;rw[show dC n gJ=false from ht];rfl)
  go_wp2_with fail
  go_ret
  exact⟨cO (by rw[HR.out]),G1.out⟩
 |true=>
  have HR:=hid (show ed (n,vs)=vs.any fun v=>dC v mf by unfold ed;rw[show dC n gJ=true from ht];rfl)
  have hc:=vZ 23 #[] (enters_of Tryz.func23 (by kernel_rfl) rfl) (fun v=>dC v mf) _ vs w1 ((HS.out.grow G1.out).row) h3 (fun W gW v hv=>VM v W (HV.out v hv))
  have HC:=hid hc
  clear hc ht
  go_wp2_with fail
  refine HC.out.use ?_
  intro w2 g2
  have G2:=hid (G1.out.trans g2)
  clear g2
  go_wp2_with fail
  go_ret
  exact⟨cO (by rw[HR.out]),G2.out⟩
theorem QR(x:It)(pv lv:Value)(w:World)(h:dG w x pv lv)(hs:Sml x):dA 21 #[pv,.func (.func 22) #[] #[]] w (.bool (x.ps.any ed)):=by
 obtain⟨qs,hq1,hq2,hq3⟩:=h.p.row h.f
 have hpn:=iO hs
 have hpv:=mP hs
 have hpc:=jy hs
 have hql:qs.length≤1000000:=by
  have:qs.length=x.ps.length:=by rw[←hq1];simp
  omega
 have hcf:=MR 22 #[] (enters_of Tryz.func22 (by kernel_rfl) rfl) (fun y=>ed y.1) pv qs w hq3 hql (fun W gW y hy=>by
  have hm:y.1∈x.ps:=by rw[←hq1];exact List.mem_map.2 ⟨y,hy,rfl⟩
  have a1:=hpn y.1 hm
  obtain⟨a2,a3⟩:=hpv y.1 hm
  exact VN y W ((hq2 y hy).grow (KU gW)) (by omega) (by omega) (fun v hv=>by have:=a3 v hv;omega))
 have e:(qs.any fun y=>ed y.1)=x.ps.any ed:=by rw[←hq1,List.any_map];rfl
 rw[e]at hcf
 exact hcf
theorem VO(l:List UInt8)(x:It)(X:Nat)(pv lv:Value)(w:World)(h1:l.length≤1000000)(h2:x.n.length≤1000000)(hX:w.heap[X]?=some (.cells (x.cells pv lv).toArray 38 (0,0))):dA 24 (#[OM l]++#[.pointer (some ⟨X,0,none⟩)]) w (.bool (dC l x.n)):=by
 obtain⟨_,q1,_⟩:=aP hX
 clear hX
 go_enter Tryz.func24,Tryz.ntmps24
 go_wp2_with fail
 refine(kM l x.n _ (by omega) (by omega)).use ?_
 intro w1 g1
 go_wp2_with fail
 go_ret
 exact⟨rfl,g1⟩
theorem VP(x y:It)(X:Nat)(pa la pb lb:Value)(w:World)(hx:dG w x pa la)(hy:dG w y pb lb)(hs:Sml x)(hs2:Sml y)(hX:w.heap[X]?=some (.cells (x.cells pa la).toArray 38 (0,0))):dP 26 (#[y.val pb lb]++#[.pointer (some ⟨X,0,none⟩)]) w (fun r _=>aca (y=x) r):=by
 have SI:=hid (fun W (g:G w W)=>NF x y pa la pb lb W (hx.grow g) (hy.grow g) hs hs2)
 obtain⟨a1,c1,rfl⟩:=hx.pv
 obtain⟨a2,c2,rfl⟩:=hx.lv
 obtain⟨a3,c3,rfl⟩:=hy.pv
 obtain⟨a4,c4,rfl⟩:=hy.lv
 have HX:=hid hX
 clear hx hy hs hs2 hX
 go_enter Tryz.func26,Tryz.ntmps26
 go_upto_region 1 with fail
 generalize hw1:w.alloc _=w1
 have HB1:=hid (show w1.heap[w.heap.size]?=some (.cells (y.cells (.slice a3 y.ps.length c3) (.slice a4 y.v.ps.length c4)).toArray 38 (0,0)) by rw[←hw1];exact heap_alloc_new w _)
 have G1:=hid (show G w w1 by rw[←hw1];exact(G.refl w).alloc _)
 clear hw1
 obtain⟨p0,p1,p2,p3,p4,p5,p6,p7,p8,p9,p10,p11,p12,p13,p14⟩:=aP HB1.out
 obtain⟨q0,q1,q2,q3,q4,q5,q6,q7,q8,q9,q10,q11,q12,q13,q14⟩:=aP (aB HX.out G1.out)
 go_wp2_with fail
 refine(SI.out w1 G1.out).use ?_
 rintro r w2 ⟨t,rfl,ht⟩ g2
 have HT:=hid ht
 clear ht p0 p1 p2 p3 p4 p5 p6 p7 p8 p9 p10 p11 p12 p13 p14 q0 q1 q2 q3 q4 q5 q6 q7 q8 q9 q10 q11 q12 q13 q14
 go_wp2_with fail
 go_ret
 exact⟨_,rfl,⟨_,rfl,fun e=>HT.out e.symm⟩,G1.out.trans g2⟩
def vW:List (List UInt8):=[[65,68,82],[76,65,66,69,76],[65,71,69,78,84],[67,76,65,83,83],[77,65,73,76,69,82],[78,65,77,69],[83,79,82,84,45,83,84,82,73,78,71]]
theorem Zx{n:List UInt8}(h:(vW.any fun s=>dC s n)=false):dC n xn=false∧sH (bU n)=false:=by
 have hc:∀a b:List UInt8,dC a b=dC b a:=fun a b=>by unfold dC;rw[Bool.eq_iff_iff,beq_iff_eq,beq_iff_eq];exact⟨Eq.symm,Eq.symm⟩
 rw[List.any_eq_false]at h
 have hf:∀s∈vW,dC n s=false:=fun s hs=>by have:=h s hs;rw[hc n s];simpa using this
 have hu:∀s∈vW,(bU n==s)=false:=fun s hs=>by
  have e:=hf s hs
  have es:bU s=s:=(show ∀s∈vW,bU s=s by decide) s hs
  unfold dC at e
  rwa [es]at e
 refine⟨hf _ (by decide),?_⟩
 unfold sH
 rw[hu ML (by decide),hu MM (by decide),hu FZ (by decide),hu U0 (by decide),hu U1 (by decide),hu dN (by decide)]
 rfl
theorem Bh(ver:Int)(iv:Value)(xs:List It)(w:World)(h:dX w iv xs)(hf:iv=.slice none 0 0∨∃a n c,iv=.slice (some a) n c)(hl:xs.length≤1048576)(hL:∀y∈xs,D7 y≤1048576)(hR:qm w)(hE:gQ w) :
  dA 4 #[gY ver iv] w (.bool true):=by
 have TU:=hid (fun W (g:G w W)=>I4 W (hR.grow g) (hR.grow g).hm (hE.grow g))
 have RU:=hid (fun W (g:G w W)=>WG W (hR.grow g))
 have HL:=hid (fun W (g:G w W)=>O3 ver iv xs W (h.grow g) hl hL (hR.grow g) (hE.grow g))
 have HI:=hid h
 have HR:=hid hR
 have HE:=hid hE
 obtain⟨hb,hhb⟩:∃hb,Ii ver xs=hb:=⟨_,rfl⟩
 rw[hhb]at HL
 have HHB:=hid hhb
 obtain⟨ia,ic,rfl,_⟩:=h.len
 clear h hf hl hL hR hE hhb
 unfold gY at HL
 unfold gY
 go_enter Tryz.func4,Tryz.ntmps4
 go_wp2_with fail
 generalize hw1:w.alloc _=w1
 have HB1:=hid (show w1.heap[w.heap.size]?=some (.cells #[.int .i64 ver,.slice ia xs.length ic] 24 (0,0)) by rw[←hw1];exact heap_alloc_new w _)
 have G1:=hid (show G w w1 by rw[←hw1];exact(G.refl w).alloc _)
 clear hw1
 refine(TU.out w1 G1.out).use ?_
 intro w2 g2
 have G2:=hid (G1.out.trans g2)
 have HB2:=hid (aB HB1.out g2)
 clear g2 TU
 go_wp2_with fail
 refine(RU.out w2 G2.out).use ?_
 intro w3a g3a
 have G3a:=hid (G2.out.trans g3a)
 have HB3a:=hid (aB HB2.out g3a)
 clear g3a RU
 obtain⟨c0,c1⟩:=jJ HB3a.out
 go_wp2_with fail
 refine(HL.out w3a G3a.out).use ?_
 intro w3 g3
 have G3:=hid (G3a.out.trans g3)
 have HB3:=hid (aB HB3a.out g3)
 clear g3 HL c0 c1
 cases hb with
 |false=>
  go_wp2_with fail
  go_ret
  exact⟨rfl,G3.out⟩
 |true=>
 obtain⟨hbig,hri⟩:Gm xs=false∧jq ver xs=true:=by
  have:=HHB.out
  unfold Ii at this
  simpa using this
 obtain⟨h40,hsm⟩:=Ih hbig
 have UPC:=hid (YM ver (.slice ia xs.length ic) xs w3 (HI.out.grow G3.out) (by omega) hsm (HR.out.grow G3.out) (HR.out.grow G3.out).hm (HE.out.grow G3.out))
 have HSM:=hid hsm
 unfold gY at UPC
 clear hsm hbig hri
 obtain⟨c0,c1⟩:=jJ HB3.out
 go_wp2_with fail
 refine UPC.out.use ?_
 intro r w5 hr g5
 have G5:=hid (G3.out.trans g5)
 have HB5:=hid (aB HB3.out g5)
 clear g5 UPC c0 c1
 rcases hr with⟨rfl,ys,u,hup,rfl,hiy,hfr⟩|⟨_,t,e,rfl,_⟩
 case inr=>
  unfold gY
  go_wp2_with fail
  go_ret
  exact⟨rfl,G5.out.alloc _⟩
 obtain⟨h3,h4,hle,hys⟩:=Qj hup
 obtain⟨ya,yc,rfl,_⟩:=hiy.len
 have HUP:=hid hup
 have HYS:=hid hys
 unfold gY
 go_upto_region 6 with fail
 generalize hw6:w5.alloc _=w6
 have G56:=hid (show G w5 w6 by rw[←hw6];exact(G.refl w5).alloc _)
 have HD6:=hid (show w6.heap[w5.heap.size]?=some (.cells #[.int .i64 4,.slice ya ys.length yc] 24 (0,0)) by rw[←hw6];exact heap_alloc_new w5 _)
 have HY6:=hid (hiy.grow G56.out)
 have HI6:=hid (HI.out.grow (G5.out.trans G56.out))
 have G6:=hid (G5.out.trans G56.out)
 clear hw6 hup hys hiy hfr h3 h4
 obtain⟨c0,c1⟩:=jJ (aB HB5.out G56.out)
 go_wp2_with fail
 clear c0 c1
 go_loopw [32] (fun i wr=>∃k:Nat,k≤xs.length∧i=.int .i64 k∧G w6 wr) (fun i _=>xs.length-(intOf i).toNat)
 case atStart=>exact⟨0,Nat.zero_le _,rfl,G.refl _⟩
 case round=>
  obtain⟨k,hk,rfl,gr⟩:=hrel
  have GR:=hid gr
  clear gr
  by_cases hlt:k<xs.length
  ·obtain⟨b,off,cap2,e,hb,hit⟩:=pq (HI6.out.grow GR.out) (by rintro rfl;simp at hlt)
   cases e
   have hx:=List.getElem?_eq_getElem hlt
   obtain⟨x,hxe⟩:∃x,xs[k]=x:=⟨_,rfl⟩
   rw[hxe]at hx
   obtain⟨pv,lv,hat⟩:=hit k x hx
   have HOK:=hid hat.ok
   obtain⟨pa,pc,rfl⟩:=hat.ok.pv
   obtain⟨la,lc,rfl⟩:=hat.ok.lv
   obtain⟨k0,k1,k2,k3,k4,k5,k6,k7,k8,k9,k10,k11,k12,k13,k14⟩:=hat.e
   have HXM:=hid (List.mem_of_getElem? hx)
   have hsx:=HSM.out x HXM.out
   have HSX:=hid hsx
   have hxn:x.n.length≤1000000:=by have:=hsx.bounds.2.1;omega
   have OF3:=fun W (g:G w W)=>Eh x.n 3 W (.inl rfl) hxn (HR.out.grow g)
   have OF4:=fun W (g:G w W)=>Eh x.n 4 W (.inr rfl) hxn (HR.out.grow g)
   obtain⟨a0,a1,a2,a3,ha⟩:∃a0 a1 a2 a3,iM (fM 3) (bU x.n)=(a0,a1,a2,a3):=⟨_,_,_,_,rfl⟩
   obtain⟨b0,b1,b2,b3,hbr⟩:∃a0 a1 a2 a3,iM (fM 4) (bU x.n)=(a0,a1,a2,a3):=⟨_,_,_,_,rfl⟩
   rw[ha]at OF3
   rw[hbr]at OF4
   have HO3:=hid OF3
   have HO4:=hid OF4
   have HA:=hid ha
   have HBR:=hid hbr
   have hkl:(k:Int)<(xs.length:Int):=by omega
   clear hit hat hx hxe hsx OF3 OF4 ha hbr
   go_wp2_with fail
   generalize hwx:World.alloc wr _=wx
   have HX:=hid (show wx.heap[wr.heap.size]?=some (.cells (x.cells (.slice pa x.ps.length pc) (.slice la x.v.ps.length lc)).toArray 38 (0,0)) by rw[←hwx];exact heap_alloc_new wr _)
   have GX:=hid (show G w6 wx by rw[←hwx];exact GR.out.alloc _)
   have GRX:=hid (show G wr wx by rw[←hwx];exact(G.refl wr).alloc _)
   clear hwx k0 k1 k2 k3 k4 k5 k6 k7 k8 k9 k10 k11 k12 k13 k14
   refine(HO3.out wx (G6.out.trans GX.out)).use ?_
   intro wa ga
   obtain⟨_,q1,_⟩:=aP (aB HX.out (ga.alloc (.cells #[.int .i64 a0,.int .i64 a1,.int .i64 a2,.int .i64 a3] 47)))
   go_wp2_with fail
   generalize hwb:World.alloc wa _=wb
   have HRA:=hid (show wb.heap[wa.heap.size]?=some (.cells #[.int .i64 a0,.int .i64 a1,.int .i64 a2,.int .i64 a3] 47 (0,0)) by rw[←hwb];exact heap_alloc_new wa _)
   have GXB:=hid (show G wx wb by rw[←hwb];exact ga.alloc _)
   clear hwb ga q1
   refine(HO4.out wb (G6.out.trans (GX.out.trans GXB.out))).use ?_
   intro wc gc
   have GXC:=hid (GXB.out.trans (gc.alloc (.cells #[.int .i64 b0,.int .i64 b1,.int .i64 b2,.int .i64 b3] 47)))
   obtain⟨_,_,q2,_⟩:=aP (aB HX.out GXC.out)
   go_wp2_with fail
   generalize hwd:World.alloc wc _=wd
   rw[hwd]at GXC
   have HRB:=hid (show wd.heap[wc.heap.size]?=some (.cells #[.int .i64 b0,.int .i64 b1,.int .i64 b2,.int .i64 b3] 47 (0,0)) by rw[←hwd];exact heap_alloc_new wc _)
   have HRA2:=hid (show wd.heap[wa.heap.size]?=some (.cells #[.int .i64 a0,.int .i64 a1,.int .i64 a2,.int .i64 a3] 47 (0,0)) by rw[←hwd];exact aB HRA.out (gc.alloc _))
   clear hwd gc q2 HRA
   refine(QR x _ _ wd (HOK.out.grow (GRX.out.trans GXC.out)) HSX.out).use ?_
   intro we ge
   have GXE:=hid (GXC.out.trans ge)
   have HRB3:=hid (aB HRB.out ge)
   have HRA3:=hid (aB HRA2.out ge)
   clear ge HRB HRA2
   go_wp2_with fail
   generalize hwf:World.alloc we _=wf
   have GEF:=hid (show G we wf by rw[←hwf];exact(G.refl we).alloc _)
   have HFS:=hid (show di wf (.slice (some ⟨we.heap.size,0,none⟩) 7 7) vW by rw[←hwf];exact zU we _ vW (by decide))
   clear hwf
   have HXF:=hid (aB HX.out (GXE.out.trans GEF.out))
   have CS:=hid (vZ 24 #[.pointer (some ⟨wr.heap.size,0,none⟩)] (enters_of Tryz.func24 (by kernel_rfl) rfl) (fun s=>dC s x.n) _ vW wf HFS.out.row (by decide) (fun W gW v hv=>VO v x wr.heap.size _ _ W ((show ∀s∈vW,s.length≤1000000 by decide) v hv) hxn (aB HXF.out (KU gW))))
   obtain⟨bf,hbf⟩:∃bf,(vW.any fun s=>dC s x.n)=bf:=⟨_,rfl⟩
   rw[hbf]at CS
   have HBF:=hid hbf
   clear hbf
   refine CS.out.use ?_
   intro wg gg
   have GEG:=hid (GEF.out.trans gg)
   have GXG:=hid (GXE.out.trans GEG.out)
   obtain⟨ra0,_⟩:=J8 (aB HRA3.out GEG.out)
   obtain⟨rb0,_⟩:=J8 (aB HRB3.out GEG.out)
   obtain⟨d0,d1⟩:=jJ (aB HD6.out (GX.out.trans GXG.out))
   obtain⟨bp,hbp⟩:∃bp,x.ps.any ed=bp:=⟨_,rfl⟩
   rw[hbp]
   have HBP:=hid hbp
   clear gg hbp CS
   cases htt:(a0==b0)with
   |false=>
    go_wp2_with fail
    go_roundw
    case measure=>simp[intOf];omega
    case rel=>exact⟨k+1,by omega,by go_num,GX.out.trans GXG.out⟩
   |true=>
   cases bp with
   |true=>
    go_wp2_with fail
    go_roundw
    case measure=>simp[intOf];omega
    case rel=>exact⟨k+1,by omega,by go_num,GX.out.trans GXG.out⟩
   |false=>
   cases bf with
   |true=>
    go_wp2_with fail
    go_roundw
    case measure=>simp[intOf];omega
    case rel=>exact⟨k+1,by omega,by go_num,GX.out.trans GXG.out⟩
   |false=>
    obtain⟨f1,f2⟩:=Zx HBF.out
    have hmem:x∈ys:=Yu HUP.out HXM.out (by show(iM (fM 3) (bU x.n)).1=(iM (fM 4) (bU x.n)).1;rw[HA.out,HBR.out];simpa using htt) HBP.out f1 f2
    have CI:=hid (H8 26 #[.pointer (some ⟨wr.heap.size,0,none⟩)] (enters_of Tryz.func26 (by kernel_rfl) rfl) x (.slice ya ys.length yc) ys wg (HY6.out.grow (GX.out.trans GXG.out)) (by omega) (fun W gW y hy pv lv hok=>VP x y wr.heap.size _ _ pv lv W (HOK.out.grow (GRX.out.trans (GXG.out.trans gW))) hok HSX.out (HYS.out y hy) (aB HX.out (GXG.out.trans gW))) hmem)
    clear hmem f1 f2
    go_wp2_with fail
    refine CI.out.use ?_
    intro wh gh
    have GXH:=hid (GXG.out.trans gh)
    clear gh CI
    go_wp2_with fail
    go_roundw
    case measure=>simp[intOf];omega
    case rel=>exact⟨k+1,by omega,by go_num,GX.out.trans GXH.out⟩
  ·obtain rfl:k=xs.length:=by omega
   go_wp2_with fail
   go_ret
   exact⟨rfl,G6.out.trans GR.out⟩
end Go.Proofs.YtmffejnigppbpaaGreatDoor
