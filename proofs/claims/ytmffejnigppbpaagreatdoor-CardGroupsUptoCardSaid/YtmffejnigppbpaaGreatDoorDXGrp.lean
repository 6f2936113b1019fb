/-
 The walk of CardGroups at texts of any length.
-/
import Derived.Test.YtmffejnigppbpaaGreatDoorDXMA79
set_option linter.unusedVariables false
set_option linter.unusedSimpArgs false
set_option maxHeartbeats 16000000
set_option maxRecDepth 100000
namespace Go.Proofs.YtmffejnigppbpaaGreatDoor
open Go.RowKit
theorem aljB(ver:Int)(iv:Value)(xs:List It)(s:List UInt8)(w:World)(h:UA w iv xs)(hf:iv=.slice none 0 0∨∃a n c,iv=.slice (some a) n c)(hl:xs.length≤1048576)(hL:∀y∈xs,ajS y≤1048576)(zs:s.length≤140737488351232)(hR:aeV w)(hE:UO w) :
  Um 6 #[acH ver iv,.string (S s)] w (.bool true):=by
 have WR:=hid (fun W (g:G w W)=>ah2 W (hR.grow g) (hR.grow g).hm (hE.grow g))
 have HL:=hid (fun W (g:G w W)=>apZ ver iv xs W (h.grow g) hl hL (hR.grow g) (hE.grow g))
 have HI:=hid h
 have HR:=hid hR
 have HE:=hid hE
 have HF:=hid hf
 have IS:=hid (fun W=>ag8 s W (by omega))
 obtain⟨hb,hhb⟩:∃hb,amj ver xs=hb:=⟨_,rfl⟩
 rw[hhb]at HL
 have HHB:=hid hhb
 obtain⟨ns,hns⟩:∃ns,GH s=ns:=⟨_,rfl⟩
 rw[hns]at IS
 have HNS:=hid hns
 obtain⟨ia,ic,rfl,_⟩:=h.len
 clear h hf hl hL hR hE hhb hns
 unfold acH at HL
 unfold acH
 go_enter Tryz.func6,Tryz.ntmps6
 go_wp2_with fail
 generalize hw1:w.alloc _=w1
 have HB1:=hid (show w1.heap[w.heap.size]?=some (.cells #[.int .i64 ver,.slice ia xs.length ic] 24 (0,0)) by rw[←hw1];exact heap_alloc_new w _)
 have G1:=hid (show G w w1 by rw[←hw1];exact(G.refl w).alloc _)
 clear hw1
 refine(WR.out w1 G1.out).use ?_
 intro w2 g2
 have G2:=hid (G1.out.trans g2)
 have HB2:=hid (uU HB1.out g2)
 clear g2 WR
 go_wp2_with fail
 refine(aoF w2).use ?_
 intro w3 g3
 have G3:=hid (G2.out.trans g3)
 have HB3:=hid (uU HB2.out g3)
 clear g3
 obtain⟨c0,c1⟩:=acP HB3.out
 go_wp2_with fail
 refine(HL.out w3 G3.out).use ?_
 intro w4 g4
 have G4:=hid (G3.out.trans g4)
 have HB4:=hid (uU HB3.out g4)
 clear g4 HL c0 c1
 cases hb with
 |false=>
  go_wp2_with fail
  go_ret
  exact⟨rfl,G4.out⟩
 |true=>
 obtain⟨hbig,hri⟩:ajl xs=false∧acN ver xs=true:=by
  have:=HHB.out
  unfold amj at this
  simpa using this
 obtain⟨h40,_⟩:=ajF hbig
 have HSS:=hid (aq2 hbig)
 have HRI:=hid hri
 have h0:=auv hri
 have HVR:=hid (aed.1 hri).1
 clear hri hbig
 by_cases hbad:s≠[]∧ns=false
 ·obtain⟨hs0,rfl⟩:=hbad
  have b0:s.isEmpty=false:=by simpa using hs0
  go_wp2_with fail
  refine(IS.out _).use ?_
  go_wp2_with fail
  go_ret
  exact⟨rfl,G4.out⟩
 have hsn:s=[]∨GH s=true:=by
  rw[HNS.out]
  by_cases e:s=[]
  ·exact .inl e
  ·refine .inr ?_
   cases hns2:ns with
   |true=>rfl
   |false=>exact absurd ⟨e,hns2⟩ hbad
 have HSN:=hid hsn
 have hs40:s.length≤40:=by
  rcases hsn with rfl|h
  ·simp
  ·exact auw h
 have ways:s.isEmpty=true∨(s.isEmpty=false∧ns=true):=by
  by_cases e:s=[]
  ·exact .inl (by simp[e])
  ·refine .inr ⟨by simpa using e,?_⟩
   cases hns2:ns with
   |true=>rfl
   |false=>exact absurd ⟨e,hns2⟩ hbad
 clear hbad hsn
 rcases ways with b0|⟨b0,rfl⟩
 case' inr=>
  go_wp2_with fail
  refine(IS.out _).use ?_
 all_goals
  obtain⟨c0,c1⟩:=acP HB4.out
  go_upto_region 6 with fail
  generalize hw5:w4.alloc _=w5
  have G45:=hid (show G w4 w5 by rw[←hw5];exact(G.refl w4).alloc _)
  have HD5:=hid (show w5.heap[w4.heap.size]?=some (.cells #[.int .i64 ver,.slice ia xs.length ic] 24 (0,0)) by rw[←hw5];exact heap_alloc_new w4 _)
  have HC5:=hid (uU HB4.out G45.out)
  clear hw5 c0 c1
  obtain⟨cs,hlies,hrow⟩:=(HI.out.grow G4.out).lies
  have CL:=hid (akS (.slice ia xs.length ic) xs.length cs w4 hlies HF.out (by omega) w5 G45.out w5.heap.size (Nat.le_refl _))
  have HROW:=hid hrow
  have hsz45:w4.heap.size<w5.heap.size:=UI HD5.out
  clear hlies hrow
  obtain⟨c0,c1⟩:=acP HC5.out
  go_wp2_with fail
  refine CL.out.mono ?_
  rintro e w6 ⟨u,rfl,hown,g6⟩
  have G46:=hid (G45.out.trans g6)
  have HD6:=hid (uU HD5.out g6)
  have HC6:=hid (uU HC5.out g6)
  clear c0 c1 CL g6
  have hpos:0<xs.length:=List.length_pos_iff.2 h0
  rcases hown.2 with⟨_,hz⟩|⟨D,cap,cur,rfl,hD5,_⟩
  ·omega
  have HOWN:=hid hown
  clear hown
  obtain⟨d0,d1⟩:=acP HD6.out
  have fd:=fun i=>Lib.frozen_of_heap HD6.out i
  go_upto_region 7 with fail
  generalize hw7:World.setCell w6 _ _=w7
  have hle4:w.heap.size<w4.heap.size:=UI HB4.out
  have HD7:=hid (show w7.heap[w4.heap.size]?=some (.cells #[.int .i64 ver,.slice (some ⟨D,0,none⟩) xs.length cap] 24 (0,0)) by rw[←hw7];exact UJ HD6.out rfl)
  have HC7:=hid (show w7.heap[w.heap.size]?=some (.cells #[.int .i64 ver,.slice ia xs.length ic] 24 (0,0)) by rw[←hw7];exact((afi w6 w4.heap.size 1 _).block _ (UI HC6.out) (by intro e;have:=Option.some.inj e;omega)).trans HC6.out)
  have G47:=hid (show G w4 w7 by rw[←hw7];exact afK G46.out (Nat.le_refl _))
  have OWN7:=hid (show aeP w5.heap.size w7 (.slice (some ⟨D,0,none⟩) xs.length cap) xs.length cs by rw[←hw7];exact aj3 HOWN.out hsz45)
  have EX7:=hid (EX.start OWN7.out HROW.out rfl G47.out (by omega))
  have G7:=hid (G4.out.trans G47.out)
  clear hw7 d0 d1 fd HOWN OWN7
  obtain⟨d0,d1⟩:=acP HD7.out
  go_wp2_with fail
  clear d0 d1
  go_loopw [35] (fun i wr=>∃k:Nat,k≤xs.length∧i=.int .i64 k∧(∀j (h:j<xs.length),j<k→adY ver (gx s xs[j])=true)∧EX w7 D cap ((xs.take k).map (gx s)++xs.drop k) (fun _=>Wo D) wr) (fun i _=>xs.length-(intOf i).toNat)
  case atStart=>exact⟨0,Nat.zero_le _,rfl,fun j _ h=>by omega,by simpa using EX7.out⟩
  case round=>
   obtain⟨k,hk,rfl,hn,hex⟩:=hrel
   have HN:=hid hn
   have HEX:=hid hex
   have hmv:=hex.mv
   have HCR:=hid ((hmv.block _ (UI HC7.out) (by intro e;have:=Option.some.inj e;omega)).trans HC7.out)
   have HDR:=hid ((hmv.block _ (UI HD7.out) (by intro e;have:=Option.some.inj e;omega)).trans HD7.out)
   have GR:=hid (alz G7.out hmv (by omega))
   clear hn hex hmv
   by_cases hlt:k<xs.length
   ·have hx:=List.getElem?_eq_getElem hlt
    obtain⟨x,hxe⟩:∃x,xs[k]=x:=⟨_,rfl⟩
    rw[hxe]at hx
    have HX:=hid hx
    have HXE:=hid hxe
    have hxm:=List.mem_of_getElem? hx
    have hss:=HSS.out x hxm
    have HONE:=hid ((aed.1 HRI.out).2.2.1 x hxm)
    have c00:wr.cell? ⟨D,k*15,none⟩=some (.string (S x.g)):=by
     obtain⟨pv,lv,_,hc⟩:=HEX.out.at_ (apy HX.out)
     have:=hc 0 _ rfl
     simpa using this
    have fz:=fun i=>HEX.out.fz i
    obtain⟨e0,e1⟩:=acP HDR.out
    have hlt2:(k:Int)<(xs.length:Int):=by omega
    clear hx hxe hxm
    go_upto_region 11 with fail
    generalize hw10:World.setCell wr _ _=w10
    have EX10:=hid (show EX w7 D cap ((xs.take (k+1)).map (gx s)++xs.drop (k+1)) (fun _=>Wo D) w10 by
     rw[←hw10]
     have:=HEX.out.group (apy HX.out) s
     rw[aq1 HX.out]at this
     exact this)
    have hmv:=EX10.out.mv
    have HC10:=hid ((hmv.block _ (UI HC7.out) (by intro e;have:=Option.some.inj e;omega)).trans HC7.out)
    have HD10:=hid ((hmv.block _ (UI HD7.out) (by intro e;have:=Option.some.inj e;omega)).trans HD7.out)
    have G10:=hid (alz G7.out hmv (by omega))
    have hDl:=EX10.out.lt
    obtain⟨pv,lv,hok,hcell⟩:=EX10.out.at_ (asV HX.out)
    have hok2:adE w10 (gx s x) pv lv:=hok.sub (Wo.sub D w10)
    have hat:alo w10 D (k*15) (gx s x) pv lv:=⟨hcell,hok2⟩
    obtain⟨pa,pc,rfl⟩:=hok2.pv
    obtain⟨la,lc,rfl⟩:=hok2.lv
    have HAT10:=hid hat
    have hsml:Sml (gx s x):=⟨by show s.length+x.n.length+adm x.ps≤10000;omega,by show x.v.tx.length≤4900;omega,by show acY x.v.ps≤4900;omega⟩
    have LN:=hid (fun W (g:G w10 W)=>aok ver HVR.out (gx s x) _ _ W (HAT10.out.ok.grow g) hsml (HR.out.grow (G10.out.trans g)) (HR.out.grow (G10.out.trans g)).hm (HE.out.grow (G10.out.trans g)))
    clear hw10 hmv hok hcell hok2 hat c00 fz e0 e1
    refine wp_region_any (by kernel_rfl) ?_
    refine acJ (E:=#[false,false,false,false,false,false,false,false,false,false,false,false,false]) G 12 (aux w.heap.size w4.heap.size D xs.length cap k ver (gx s x) (.slice pa x.ps.length pc) (.slice la x.v.ps.length lc)) [some [],some [(0,45)],some [],some [(1,46),(2,47)],some [(3,48)],some [],some [(5,50)],some [(4,49),(6,51)],some [(7,52)],some [(8,44)],some [(8,44)],some [(9,53),(9,53)],none] [(0,45),(1,46),(2,47),(3,48),(4,49),(5,50),(6,51),(7,52),(8,44),(9,53),(10,54),(11,7)] _ (by kernel_rfl) (by decide) (by kernel_rfl) (by kernel_rfl) rfl G.refl (fun _ _ _=>G.trans) (w0:=w10) ((G.refl w10).drew) ?_ ?_ ?_
    ·intro k v W W' g h
     match k,h with
     |0,h=>exact h
     |1,h=>exact h
     |2,h=>exact h
     |3,h=>exact h
     |4,h=>exact h
     |5,h=>exact h
     |6,h=>exact h
     |7,h=>exact h
     |8,h=>exact h
     |9,h=>exact h
     |10,h=>exact h
     |11,h=>exact h
     |n+12,h=>trivial
    ·refine lW (fun vals W g d=>?_)<|lW (fun vals W g d=>?_)<|lW (fun vals W g d=>?_)<|lW (fun vals W g d=>?_)<|lW (fun vals W g d=>?_)<|lW (fun vals W g d=>?_)<|lW (fun vals W g d=>?_)<|lW (fun vals W g d=>?_)<|lW (fun vals W g d=>?_)<|lW (fun vals W g d=>?_)<|lW (fun vals W g d=>?_)<|lW (fun vals W g d=>?_)<|UB adJ
     ·refine nX rfl rfl rfl fun K hK=>?_
      simp only[gFr]at hK⊢
      go_simp
      exact hK _ _ (G.refl _) rfl
     ·obtain⟨d0,_⟩:=d
      change vals 0=_ at d0
      refine nX rfl rfl rfl fun K hK=>?_
      simp only[gFr,d0]at hK⊢
      obtain⟨c0,c1⟩:=acP (uU HD10.out g)
      go_simp
      exact hK _ _ (G.refl _) rfl
     ·refine nX rfl rfl rfl fun K hK=>?_
      simp only[gFr]at hK⊢
      go_simp
      exact hK _ _ (G.refl _) rfl
     ·obtain⟨d1,d2,_⟩:=d
      change vals 1=_ at d1
      change vals 2=_ at d2
      refine nX rfl rfl rfl fun K hK=>?_
      simp only[gFr,d1,d2]at hK⊢
      have hmm:=hlt2
      go_simp
      exact hK _ _ (G.refl _) rfl
     ·obtain⟨d3,_⟩:=d
      change vals 3=_ at d3
      refine nX rfl rfl rfl fun K hK=>?_
      simp only[gFr,d3]at hK⊢
      obtain⟨k0,k1,k2,k3,k4,k5,k6,k7,k8,k9,k10,k11,k12,k13,k14⟩:=(HAT10.out.grow hDl g).e
      go_simp
      exact hK _ _ (G.refl _) rfl
     ·refine nX rfl rfl rfl fun K hK=>?_
      simp only[gFr]at hK⊢
      go_simp
      exact hK _ _ (G.refl _) rfl
     ·obtain⟨d5,_⟩:=d
      change vals 5=_ at d5
      refine nX rfl rfl rfl fun K hK=>?_
      simp only[gFr,d5]at hK⊢
      obtain⟨c0,c1⟩:=acP (uU HC10.out g)
      go_simp
      exact hK _ _ (G.refl _) rfl
     ·obtain⟨d4,d6,_⟩:=d
      change vals 4=_ at d4
      change vals 6=_ at d6
      refine nX rfl rfl rfl fun K hK=>?_
      simp only[gFr,d4,d6]at hK⊢
      go_simp
      refine(LN.out W g).use ?_
      intro r W' hr hg
      exact hK _ _ hg hr
     ·obtain⟨d7,_⟩:=d
      refine nX rfl rfl rfl fun K hK=>?_
      simp only[gFr]at hK⊢
      go_simp
      exact hK _ _ (G.refl _) d7
     ·obtain⟨d8,_⟩:=d
      refine nX rfl rfl rfl fun K hK=>?_
      obtain⟨t,e,e8⟩:=aiy.two d8
      simp only[gFr]at hK⊢
      simp only[e8]at hK⊢
      go_simp
      exact hK _ _ (G.refl _) ⟨e,by rw[e8]at d8;exact d8⟩
     ·obtain⟨d8,_⟩:=d
      refine nX rfl rfl rfl fun K hK=>?_
      obtain⟨t,e,e8⟩:=aiy.two d8
      simp only[gFr]at hK⊢
      simp only[e8]at hK⊢
      go_simp
      exact hK _ _ (G.refl _) ⟨t,by rw[e8]at d8;exact d8⟩
     ·obtain⟨d9,_,_⟩:=d
      refine nX rfl rfl rfl fun K hK=>?_
      simp only[gFr]at hK⊢
      go_simp
      exact hK _ _ (G.refl _) d9
    ·intro vals W g d
     simp only[acS,ac1]at d
     obtain⟨d0,d1,d2,d3,d4,d5,d6,d7,d8,d9,d10,d11,_⟩:=d
     change vals 0=_ at d0
     change vals 1=_ at d1
     change vals 2=_ at d2
     change vals 3=_ at d3
     change vals 4=_ at d4
     change vals 5=_ at d5
     change vals 6=_ at d6
     obtain⟨t,h10⟩:=d10
     have GW:=hid (G10.out.trans g)
     have EXW:=hid (EX10.out.grow (fun _ _ _ h=>Wo.g h) g)
     clear d7 d8 d9 d11 g
     rcases h10 with⟨hone,e10⟩|⟨_,c,e10,hc0,hoc⟩
     ·have e11:=(by simpa using e10:t=_∧vals 10=.nilIface).2
      have HN2:=hid (show ∀j (h:j<xs.length),j<k+1→adY ver (gx s xs[j])=true from fun j h hj=>by
       rcases Nat.lt_or_ge j k with h1|h1
       ·exact HN.out j h h1
       ·obtain rfl:j=k:=by omega
        rw[HXE.out];exact hone)
      refine⟨?_⟩
      show wpList _ _ _ [_] _ _
      simp only[gFr,d0,d1,d2,d3,d4,d5,d6]
      clear d0 d1 d2 d3 d4 d5 d6
      simp only[e11]
      clear e10 e11 hone
      go_wp2_with fail
      refine(avF W).use ?_
      intro wb gb
      go_wp2_with fail
      go_roundw
      case measure=>simp[intOf];omega
      case rel=>exact⟨k+1,by omega,by go_num,HN2.out,EXW.out.grow (fun _ _ _ h=>Wo.g h) gb⟩
     ·have e11:=(by simpa using e10:t=_∧vals 10=eno c).2
      have hc4:=aq3 HONE.out HSN.out hoc hc0
      subst hc4
      refine⟨?_⟩
      show wpList _ _ _ [_] _ _
      simp only[gFr,d0,d1,d2,d3,d4,d5,d6]
      clear d0 d1 d2 d3 d4 d5 d6
      simp only[e11]
      clear e10 e11 hoc hc0
      go_wp2_with fail
      refine(agX 4 W (HE.out.grow GW.out)).use ?_
      intro wb gb
      go_wp2_with fail
      go_ret
      exact⟨rfl,GW.out.trans gb⟩
   ·obtain rfl:k=xs.length:=by omega
    have hit:UA wr (.slice (some ⟨D,0,none⟩) xs.length cap) (xs.map (gx s)):=by
     have:=HEX.out.items (fun _=>Wo.sub D wr)
     simpa using this
    have hrt:acN ver (xs.map (gx s))=true:=aoj (by rw[List.map_map];rfl) (fun y hy=>by
     obtain⟨x,hx,rfl⟩:=List.mem_map.1 hy
     obtain⟨j,hj,rfl⟩:=List.mem_iff_getElem.1 hx
     exact HN.out j hj hj) HRI.out
    have RT:=hid (aem ver _ (xs.map (gx s)) wr hit (by simp;omega) (fun y hy=>by
     obtain⟨x,hx,rfl⟩:=List.mem_map.1 hy
     have:=HSS.out x hx
     exact⟨by show s.length+x.n.length+adm x.ps≤10000;omega,by show x.v.tx.length≤4900;omega,by show acY x.v.ps≤4900;omega⟩) (HR.out.grow GR.out) (HR.out.grow GR.out).hm (HE.out.grow GR.out))
    unfold acH at RT
    have HRT:=hid hrt
    clear hit hrt
    obtain⟨e0,e1⟩:=acP HDR.out
    go_wp2_with fail
    refine RT.out.use ?_
    intro r wb hr gb
    rcases hr with⟨_,rfl⟩|⟨hno,_⟩
    ·go_wp2_with fail
     go_ret
     exact⟨rfl,GR.out.trans gb⟩
    ·rw[HRT.out]at hno;cases hno
end Go.Proofs.YtmffejnigppbpaaGreatDoor
