/-
 CONTRACT of card.Print. (written by gen_cardprint.py)
-/
import Derived.Test.YtmffejnigppbpaaGreatDoorDXMA68
import Derived.Test.YtmffejnigppbpaaGreatDoorDXMA73
import Derived.Test.YtmffejnigppbpaaGreatDoorDXCardRight
import Derived.Test.YtmffejnigppbpaaGreatDoorDXMA78
import Derived.Test.YtmffejnigppbpaaGreatDoorDXMA71
import Derived.Test.YtmffejnigppbpaaGreatDoorDXMA65
set_option linter.unusedVariables false
set_option linter.unusedSimpArgs false
set_option maxHeartbeats 16000000
set_option maxRecDepth 100000
namespace Go.Proofs.YtmffejnigppbpaaGreatDoor
open Go.RowKit
def aop(ver:Int)(n:Nat)(xs:List It)(r:Value)(w:World):Prop:=
 (acN ver xs=true∧r=(if 20000<(ad3 ver n xs).length then .tuple #[.string (S []),eno 4] else .tuple #[.string (S (ad3 ver n xs)),.nilIface])) ∨
 (acN ver xs=false∧∃e c k,r=.tuple #[.string (S []),e]∧ad8 w e (some (c,k))∧c≠0)
theorem apI{w0 w:World}{b:Nat}{l:List UInt8}(h:IsB w0 w b l):adV 85 #[.pointer (some ⟨b,0,none⟩)] w (.int .i64 (l.length:Int)):=by
 obtain⟨p,hB,v,hbk,hown,hne⟩:∃p,Lib.BuilderAt 124 5 w0.heap.size b p (Lib.byteCells l) w:=by
  rcases h with h|h
  ·exact⟨_,h⟩
  ·exact⟨_,h⟩
 rw[Lib.byteCells_length]at hown
 obtain⟨a,c,rfl⟩:=aqi hown
 obtain⟨c0,c1⟩:=acP hbk
 clear hB hown hne hbk
 go_enter Tryz.func85,Tryz.ntmps85
 go_wp2_with fail
 go_ret
 exact⟨rfl,rfl⟩
theorem ayb{w0 w:World}{b g:Nat}{l:List UInt8}{cs:Array Value}{fr:Nat×Nat}(h:IsB w0 w b l)(hg:w.heap[g]?=some (.cells cs 9 fr)):g≠b∧ad2 w b≠some g:=by
 obtain⟨p,hB,v,hbk,hown,hne⟩:∃p,Lib.BuilderAt 124 5 w0.heap.size b p (Lib.byteCells l) w:=by
  rcases h with h|h
  ·exact⟨_,h⟩
  ·exact⟨_,h⟩
 refine⟨?_,?_⟩
 ·rintro rfl
  rw[hg]at hbk
  simp at hbk
 ·rw[aej hbk]
  rcases ai6 hown hg (by decide)with e|e
  ·rw[e];simp
  ·exact e
theorem akH.row{w0 w w':World}{b g:Nat}{l:List UInt8}{cs:Array Value}{fr:Nat×Nat}(k:akH w w' b)(h:IsB w0 w b l)(hg:w.heap[g]?=some (.cells cs 9 fr)):w'.heap[g]?=some (.cells cs 9 fr):=by
 obtain⟨h1,h2⟩:=ayb h hg
 rw[k g (UI hg) h1 h2];exact hg
theorem apJ{w w':World}{base:Nat}{e:TypeId}{k n:Nat}{v:Value}{xs:List Value}(h:w.ownsRow base e k v n xs)(g:G w w'):w'.ownsRow base e k v n xs:=by
 refine⟨h.1,?_⟩
 rcases h.2 with h|⟨q,cap,cur,hv,hb,hq,r⟩
 ·exact .inl h
 ·exact .inr ⟨q,cap,cur,hv,hb,uU hq g,r⟩
theorem awu{w w':World}{n:Nat}(g:G w w')(h1:w.heap.size≤n)(h2:n≤w'.heap.size):G w (apt w' n):=
 ⟨g.below.os,g.below.tape,g.below.output,by rw[agI h2];exact h1,fun k hk=>by rw[←(auu h2).below.block k (by rw[agI h2];omega)];exact g.below.block k hk⟩
theorem aoq(n:Nat)(ss:List (List UInt8))(s:List UInt8):aes n (ss++[s])=aes n ss++ac6 s n n:=by
 unfold aes;simp
def auM(x:It)(pv:Value)(ver:Int)(l:List UInt8)(cb:Nat)(k:Nat)(v:Value)(W:World):Prop:=
 match k with
 |0=>v=.agg #[.string (S x.g),.string (S x.n),pv,.string (S x.v.text)]
 |1=>v=.pointer (some ⟨cb,0,none⟩)
 |2=>v=.int .i64 ver
 |3=>v=.bool (ver==4)
 |4=>v=.tuple #[.string (S l),.nilIface]
 |5=>v=.tuple #[.string (S l),.nilIface]
 |6=>v=.string (S l)
 |7=>v=.nilIface
 |8=>v=.string (S l)
 |_=>True
theorem aiz(ver:Int)(iv:Value)(xs:List It)(n:Nat)(w:World)(h:UA w iv xs)(hl:xs.length≤1000)(hs:∀x∈xs,Sml x)(h10:10≤n)(h75:n≤75)(hR:aeV w)(hM:aer w)(hE:UO w):Uz 45 #[acH ver iv,.int .i64 (n:Int)] w (aop ver n xs):=by
 have RT:=hid (fun W (g:G w W)=>aem ver iv xs W (h.grow g) hl hs (hR.grow g) (hM.grow g) (hE.grow g))
 have HIT:=hid h
 have HS:=hid hs
 have HRM:=hid hR
 have HM:=hid hM
 have HE:=hid hE
 obtain⟨ia,ic,rfl,hcap⟩:=h.len
 have n10:¬((n:Int)<10):=by omega
 have n75:¬((75:Int)<n):=by omega
 clear h hcap hs hR hM hE
 unfold acH at RT
 unfold acH
 go_enter Tryz.func45,Tryz.ntmps45
 go_wp2_with fail
 generalize hw1:w.alloc _=w1
 have HB:=hid (show w1.heap[w.heap.size]?=some (.cells #[.int .i64 ver,.slice ia xs.length ic] 24 (0,0)) by rw[←hw1];exact heap_alloc_new w _)
 have G1:=hid (show G w w1 by rw[←hw1];exact(G.refl w).alloc _)
 clear hw1
 refine(RT.out w1 G1.out).use ?_
 intro r w2 hr g2
 have HB2:=hid (uU HB.out g2)
 have G2:=hid (G1.out.trans g2)
 clear g2 RT n10 n75
 rcases hr with⟨hok,rfl⟩|⟨hno,c,k,he,hc,hfb⟩
 case inr=>
  have HNO:=hid hno
  have HC:=hid hc
  have HER:=hid he
  obtain⟨t,e,rfl⟩:=ad8.iface he
  clear hno he hc hfb
  go_wp2_with fail
  refine bodyPost_ret (v:=.tuple #[.string ⟨#[]⟩,.iface t e]) ?_ rfl ⟨_,rfl,.inr ⟨HNO.out,_,_,_,rfl,HER.out,HC.out⟩,G2.out⟩
  simp only[results,Tryz.f45]
  go_simp
 have HOK:=hid hok
 have HV:=hid (adn.1 hok).1
 have HO:=hid (adn.1 hok).2.2.1
 clear hok
 have ITO:∃d:UInt8,(∀W,G w W→Um 82 #[.int .i64 ver] W (.string (S [d])))∧afC ver=[86,69,82,83,73,79,78,58,d,46,48]:=by
  rcases HV.out with rfl|rfl
  ·exact⟨51,fun W g=>by have:=alM 3 W (by decide) (by decide) (HRM.out.grow g).p10;rwa [show Lib.itoa 3=[51] by decide +kernel]at this,rfl⟩
  ·exact⟨52,fun W g=>by have:=alM 4 W (by decide) (by decide) (HRM.out.grow g).p10;rwa [show Lib.itoa 4=[52] by decide +kernel]at this,rfl⟩
 obtain⟨d,ito,hvt⟩:=ITO
 have ITO:=hid ito
 have HVT:=hid hvt
 clear ito hvt
 obtain⟨c0,c1⟩:=acP HB2.out
 go_wp2_with fail
 refine(ITO.out w2 G2.out).use ?_
 intro w3 g3
 have HB3:=hid (uU HB2.out g3)
 have G3:=hid (G2.out.trans g3)
 clear g3 c0 c1 ITO
 obtain⟨c0,c1⟩:=acP (uU HB3.out ((G.refl w3).alloc (.cells #[.string ⟨#[66,69,71,73,78,58,86,67,65,82,68]⟩,.string (S [86,69,82,83,73,79,78,58,d,46,48])] 9)))
 go_wp2_with fail
 generalize hw4:w3.alloc _=w4
 have HR4:=hid (show w4.heap[w3.heap.size]?=some (.cells #[.string (S ada),.string (S (afC ver))] 9 (0,0)) by rw[←hw4,HVT.out];exact heap_alloc_new w3 _)
 have G34:=hid (show G w3 w4 by rw[←hw4];exact(G.refl w3).alloc _)
 clear hw4 c0 c1
 have HOW0:=hid (show w4.ownsRow w3.heap.size 9 1 (.slice (some ⟨w3.heap.size,0,none⟩) 2 2) 2 ([ada,afC ver].map fun s=>.string (S s))from aym HR4.out (Nat.le_refl _) (by decide) rfl)
 have HB4:=hid (uU HB3.out G34.out)
 obtain⟨i0,hi,hz0,hz1,hz2⟩:=info_parts ajT
 go_loopw [40,7] (fun i rv wr=>∃k:Nat,k≤xs.length∧i=.int .i64 k∧wr.ownsRow w3.heap.size 9 1 rv (k+2) ((ada::afC ver::(xs.take k).map (aey ver)).map fun s=>.string (S s))∧G w3 wr) (fun i _ _=>xs.length-(intOf i).toNat)
 case atStart=>exact⟨0,Nat.zero_le _,rfl,HOW0.out,G34.out⟩
 case round=>
  obtain⟨k,hk,rfl,hown,gr⟩:=hrel
  obtain⟨ra,rc,rfl⟩:=aqi hown
  have HOW:=hid hown
  have K3:=hid gr
  have GR:=hid (G3.out.trans gr)
  have HBR:=hid (uU HB3.out gr)
  clear hown gr
  by_cases hlt2:k<xs.length
  ·obtain⟨b,off,cap2,e,hb,hit⟩:=af5 (HIT.out.grow GR.out) (by rintro rfl;simp at hlt2)
   cases e
   have hx:=List.getElem?_eq_getElem hlt2
   obtain⟨x,hxe⟩:∃x,xs[k]=x:=⟨_,rfl⟩
   rw[hxe]at hx
   obtain⟨pv,lv,hat⟩:=hit k x hx
   obtain⟨pa,pc,rfl⟩:=hat.ok.pv
   obtain⟨la,lc,rfl⟩:=hat.ok.lv
   obtain⟨k0,k1,k2,k3,k4,k5,k6,k7,k8,k9,k10,k11,k12,k13,k14⟩:=hat.e
   have HX:=hid hx
   have hkl:(k:Int)<(xs.length:Int):=by omega
   have h1:=HO.out x (List.mem_of_getElem? hx)
   obtain⟨h2,_,_,_,ho,_,_⟩:=ajq.1 h1
   have hre:=(ag2 h2 ho).1
   have hsx:=HS.out x (List.mem_of_getElem? hx)
   have hbb:=hsx.bounds
   obtain⟨l,hl⟩:∃l,l=aey ver x:=⟨_,rfl⟩
   have hl2:aeC (ver==4) (lnX x x.v.text)=l:=by rw[hl,(ag2 h2 ho).2]
   have LP0:∀W,G wr W→Um 72 #[.agg #[.string (S x.g),.string (S x.n),.slice pa x.ps.length pc,.string (S x.v.text)],.bool (ver==4)] W (.tuple #[.string (S l),.nilIface]):=fun W g=>by
    refine Calls.mono (agF x.g x.n x.v.text (.slice pa x.ps.length pc) x.ps (ver==4) W (hat.ok.p.grow g) hbb.1 hbb.2.1 hbb.2.2.2.2.2 hbb.2.2.1) ?_
    rintro e w' ⟨r,rfl,hr,hg⟩
    have hr2:adu (ver==4) (lnX x x.v.text) r w':=hr
    unfold adu at hr2
    rw[hre]at hr2
    simp only at hr2
    subst hr2
    rw[hl2]
    exact⟨rfl,hg⟩
   have LPW:=hid LP0
   have PR:=hid (fun W (g:G wr W)=>alY x _ _ ver W (hat.ok.grow g) hsx (HM.out.grow (GR.out.trans g)) (HE.out.grow (GR.out.trans g)) ho)
   have HL:=hid hl
   obtain⟨c0,c1⟩:=acP (uU HBR.out ((G.refl wr).alloc (.cells (x.cells (.slice pa x.ps.length pc) (.slice la x.v.ps.length lc)).toArray 38)))
   simp only[It.cells]at c0 c1
   have PRR:=hid (PR.out (wr.alloc (.cells (x.cells (.slice pa x.ps.length pc) (.slice la x.v.ps.length lc)).toArray 38)) ((G.refl wr).alloc _))
   have GAL:=hid ((G.refl wr).alloc (.cells (x.cells (.slice pa x.ps.length pc) (.slice la x.v.ps.length lc)).toArray 38))
   clear hit hat hx hxe h1 h2 ho hre hsx hbb LP0 hl2 hl PR
   go_wp2_with fail
   refine PRR.out.use ?_
   intro wb gb
   clear k0 k1 k2 k3 k4 k5 k6 k7 k8 k9 k10 k11 k12 k13 k14 c0 c1 PRR
   go_wp2_with fail
   generalize hw9:wb.alloc _=w9
   have HP4:=hid (show w9.heap[wb.heap.size]?=some (.cells #[.string (S x.g),.string (S x.n),.slice pa x.ps.length pc,.string (S x.v.text)] 109 (0,0)) by rw[←hw9];exact heap_alloc_new wb _)
   have K9:=hid (show G wr w9 by rw[←hw9];exact GAL.out.trans (gb.alloc _))
   have HB9:=hid (uU HBR.out K9.out)
   have LP:=hid (fun W (g:G w9 W)=>LPW.out W (K9.out.trans g))
   clear hw9 gb GAL LPW
   refine wp_region_any (by kernel_rfl) ?_
   refine acJ (E:=#[false,false,false,false,false,false,false,false,false,false]) G 9 (auM x (.slice pa x.ps.length pc) ver l w.heap.size) [some [],some [],some [(1,53)],some [(2,54)],some [(0,52),(3,55),(3,55)],some [(4,56)],some [(5,51)],some [(5,51)],some [(6,57),(6,57)],none] [(0,52),(1,53),(2,54),(3,55),(4,56),(5,51),(6,57),(7,58),(8,12)] _ (by kernel_rfl) (by decide) (by kernel_rfl) (by kernel_rfl) rfl G.refl (fun _ _ _=>G.trans) (w0:=w9) ((G.refl w9).drew) ?_ ?_ ?_
   ·intro k v W W' g h
    match k,h with
    |0,h=>exact h
    |1,h=>exact h
    |2,h=>exact h
    |3,h=>exact h
    |4,h=>exact h
    |5,h=>exact h
    |6,h=>exact h
    |7,h=>exact h
    |8,h=>exact h
    |n+9,h=>trivial
   ·refine lW (fun vals W g d=>?_)<|lW (fun vals W g d=>?_)<|lW (fun vals W g d=>?_)<|lW (fun vals W g d=>?_)<|lW (fun vals W g d=>?_)<|lW (fun vals W g d=>?_)<|lW (fun vals W g d=>?_)<|lW (fun vals W g d=>?_)<|lW (fun vals W g d=>?_)<|UB adJ
    ·refine nX rfl rfl rfl fun K hK=>?_
     simp only[gFr]at hK⊢
     obtain⟨k0,k1,k2,k3⟩:=ahy (uU HP4.out g)
     go_simp
     exact hK _ _ (G.refl _) rfl
    ·refine nX rfl rfl rfl fun K hK=>?_
     simp only[gFr]at hK⊢
     go_simp
     exact hK _ _ (G.refl _) rfl
    ·obtain⟨d1,_⟩:=d
     change vals 1=_ at d1
     refine nX rfl rfl rfl fun K hK=>?_
     simp only[gFr,d1]at hK⊢
     obtain⟨c0,c1⟩:=acP (uU HB9.out g)
     go_simp
     exact hK _ _ (G.refl _) rfl
    ·obtain⟨d2,_⟩:=d
     change vals 2=_ at d2
     refine nX rfl rfl rfl fun K hK=>?_
     simp only[gFr,d2]at hK⊢
     go_simp
     refine(af6 ver W).use ?_
     intro W' hg
     exact hK _ _ hg rfl
    ·obtain⟨d0,d3,_,_⟩:=d
     change vals 0=_ at d0
     change vals 3=_ at d3
     refine nX rfl rfl rfl fun K hK=>?_
     simp only[gFr,d0,d3]at hK⊢
     go_simp
     refine(LP.out W g).use ?_
     intro W' hg
     exact hK _ _ hg rfl
    ·obtain⟨d4,_⟩:=d
     change vals 4=_ at d4
     refine nX rfl rfl rfl fun K hK=>?_
     simp only[gFr,d4]at hK⊢
     go_simp
     exact hK _ _ (G.refl _) rfl
    ·obtain⟨d5,_⟩:=d
     change vals 5=_ at d5
     refine nX rfl rfl rfl fun K hK=>?_
     simp only[gFr,d5]at hK⊢
     go_simp
     exact hK _ _ (G.refl _) rfl
    ·obtain⟨d5,_⟩:=d
     change vals 5=_ at d5
     refine nX rfl rfl rfl fun K hK=>?_
     simp only[gFr,d5]at hK⊢
     go_simp
     exact hK _ _ (G.refl _) rfl
    ·obtain⟨d6,_,_⟩:=d
     change vals 6=_ at d6
     refine nX rfl rfl rfl fun K hK=>?_
     simp only[gFr,d6]at hK⊢
     go_simp
     exact hK _ _ (G.refl _) rfl
   ·intro vals W g d
    simp only[acS,ac1]at d
    obtain⟨d0,d1,d2,d3,d4,d5,d6,d7,d8,_⟩:=d
    change vals 0=_ at d0
    change vals 1=_ at d1
    change vals 2=_ at d2
    change vals 3=_ at d3
    change vals 4=_ at d4
    change vals 5=_ at d5
    change vals 6=_ at d6
    change vals 7=_ at d7
    change vals 8=_ at d8
    have HG:=hid g
    refine⟨?_⟩
    show wpList _ _ _ [_] _ _
    simp only[gFr,d0,d1,d2,d3,d4,d5,d6,d7,d8]
    clear d0 d1 d2 d3 d4 d5 d6 d7 d8
    have HOA:=hid (apJ HOW.out ((K9.out.trans HG.out).alloc (.cells #[.string (S l)] 9)))
    have hsz:=HG.out.size
    have hs3:=K3.out.size
    have hs9:=K9.out.size
    clear g
    go_wp2_with (at_builtin;refine wpList_append_lies _ rfl (.tmp 59) (.tmp 61) 39 rfl w3.heap.size 9 i0 _ 1 16 Tryz.underlying39 hi hz0 hz1 hz2 rfl (by decide) _ _ _ rfl HOA.out ⟨W.heap.size,0,none⟩ 1 1 [.string (S l)] rfl rfl (aiL _ _ _) (aiM _ rfl) (by omega) ?c3 ?c4 ?c5 _ rfl ?_)
    case c3=>unfold maxLen;omega
    case c4=>omega
    case c5=>simp;omega
    intro g1 cap1 w11 hown hgrow hat hlt
    have K11:=hid (Below.grown (K3.out.trans ((K9.out.trans HG.out).alloc (.cells #[.string (S l)] 9))) hgrow (by have:=(K3.out.trans ((K9.out.trans HG.out).alloc (.cells #[.string (S l)] 9))).size;exact this) (fun j hj=>(HOA.out.lt j hj).1))
    have HN:=hid (show w11.ownsRow w3.heap.size 9 1 (.slice (some ⟨g1,0,none⟩) (k+2+1) cap1) (k+1+2) ((ada::afC ver::(xs.take (k+1)).map (aey ver)).map fun s=>.string (S s)) by
     have e:((ada::afC ver::(xs.take (k+1)).map (aey ver)).map fun s=>Value.string (S s))=((ada::afC ver::(xs.take k).map (aey ver)).map fun s=>.string (S s))++[.string (S l)]:=by
      rw[List.take_add_one,HX.out,HL.out];simp
     rw[e,show k+1+2=k+2+1 by omega]
     simpa using hown)
    clear hown hgrow hat hlt
    go_wp2_with fail
    go_roundw
    case measure=>simp[intOf];omega
    case rel=>exact⟨k+1,by omega,by go_num,HN.out,K11.out⟩
  ·obtain rfl:k=xs.length:=by omega
   obtain⟨wb,rfl⟩:∃wb,wb=wr:=⟨_,rfl⟩
   have HLN:=hid (show wb.ownsRow w3.heap.size 9 1 (.slice ra (xs.length+2) rc) (xs.length+2) ((ada::afC ver::xs.map (aey ver)).map fun s=>.string (S s)) by have:=HOW.out;rwa [List.take_of_length_le (Nat.le_refl _)]at this)
   clear HOW
   have HOB:=hid (apJ HLN.out (((G.refl wb).alloc (.cells #[.pointer none,.slice none 0 0] 124)).alloc (.cells #[.string ⟨#[69,78,68,58,86,67,65,82,68]⟩] 9)))
   have hs3:=K3.out.size
   go_wp2_with (at_builtin;go_loud (refine wpList_append_lies _ rfl (.tmp 64) (.tmp 65) 39 rfl w3.heap.size 9 i0 _ 1 16 Tryz.underlying39 hi hz0 hz1 hz2 rfl (by decide) _ _ _ rfl HOB.out ⟨wb.heap.size+1,0,none⟩ 1 1 [.string ⟨#[69,78,68,58,86,67,65,82,68]⟩] rfl rfl (by intro j u hj;have:=aiL (wb.alloc (.cells #[.pointer none,.slice none 0 0] 124)) _ 9 j u hj;simpa using this) (aiM _ rfl) (by omega) ?c3 ?c4 ?c5 _ rfl ?_))
   case c3=>unfold maxLen;omega
   case c4=>omega
   case c5=>simp;omega
   intro g1 cap1 w15 hown hgrow hat hlt
   have K15:=hid (Below.grown (K3.out.trans (((G.refl wb).alloc (.cells #[.pointer none,.slice none 0 0] 124)).alloc (.cells #[.string ⟨#[69,78,68,58,86,67,65,82,68]⟩] 9))) hgrow (by have:=(K3.out.trans (((G.refl wb).alloc (.cells #[.pointer none,.slice none 0 0] 124)).alloc (.cells #[.string ⟨#[69,78,68,58,86,67,65,82,68]⟩] 9))).size;exact this) (fun j hj=>(HOB.out.lt j hj).1))
   have hbk:w15.heap[wb.heap.size]?=some (.cells #[.pointer none,.slice none 0 0] 124 (0,0)):=by
    rw[hgrow.block wb.heap.size (by simp;omega) (fun e=>by have:=(HLN.out.lt _ e.symm).2;omega),Lib.alloc_old _ _ _ (by simp)]
    exact heap_alloc_new wb _
   have hbl:wb.heap.size≤w15.heap.size:=by have:=UI hbk;omega
   obtain⟨cur,hcur,hcs⟩:∃cur:Array Value,w15.heap[g1]?=some (.cells cur 9 (0,0))∧∀(j:Nat) (s:List UInt8),(UF ver xs)[j]?=some s→cur[j]?=some (.string (S s)):=by
    rcases hown.2 with⟨e,h0⟩|⟨q,cap,cur,hv,hb,hq,h1,h2,h3,h4⟩
    ·omega
    ·cases hv
     refine⟨cur,hq,fun j s hj=>?_⟩
     have e:(Value.string (S ada)::Value.string (S (afC ver))::(xs.map ((fun s=>Value.string (S s)) ∘ aey ver)++[Value.string ⟨#[69,78,68,58,86,67,65,82,68]⟩]))=(UF ver xs).map fun s=>.string (S s):=by
      unfold UF;simp;rfl
     rw[e]at h4
     have h5:(cur.toList.take ((xs.length+2+1)*1))[j]?=some (.string (S s)):=by rw[h4,List.getElem?_map,hj];rfl
     rw[List.getElem?_take]at h5
     split at h5
     ·simpa using h5
     ·cases h5
   have HCUR:=hid hcur
   have HCS:=hid hcs
   have HIB:=hid (show IsB (apt w15 wb.heap.size) w15 wb.heap.size [] from Or.inl ⟨by rw[agI hbl];exact Nat.le_refl _,.slice none 0 0,hbk,World.ownsRow_nil _ _ _ _,by simp[Value.ownBlock]⟩)
   have HG0:=hid (auu hbl)
   have HGW:=hid (show G w (apt w15 wb.heap.size)from awu (G3.out.trans K15.out) (by have:=(G3.out.trans K3.out).size;exact this) hbl)
   have HLL:=hid (show(UF ver xs).length=xs.length+3 by simp[UF])
   have HLG:=hid (afd HO.out)
   clear hown hgrow hat hlt hbk hcur hcs HOB HLN
   go_wp2_with fail
   go_loopw [68] (fun i wr=>∃j:Nat,j≤xs.length+3∧i=.int .i64 j∧IsB (apt w15 wb.heap.size) wr wb.heap.size (aes n ((UF ver xs).take j))∧wr.heap[g1]?=some (.cells cur 9 (0,0))∧G (apt w15 wb.heap.size) wr∧(aes n ((UF ver xs).take j)).length≤j*6002) (fun i _=>xs.length+3-(intOf i).toNat)
   case atStart=>exact⟨0,Nat.zero_le _,rfl,HIB.out,HCUR.out,HG0.out,by simp[aes]⟩
   case round=>
    obtain⟨j,hj,rfl,hib,hrow,hg,hlen⟩:=hrel
    have HB1:=hid hib
    have HR1:=hid hrow
    have HG1:=hid hg
    clear hib hrow hg
    by_cases hlt:j<xs.length+3
    ·have hjl:j<(UF ver xs).length:=by rw[HLL.out];exact hlt
     obtain⟨s,hs⟩:∃s,(UF ver xs)[j]=s:=⟨_,rfl⟩
     have hsj:(UF ver xs)[j]?=some s:=by rw[List.getElem?_eq_getElem hjl,hs]
     obtain⟨hgood,hblank⟩:=HLG.out s (by rw[←hs];exact List.getElem_mem hjl)
     have FY:=hid (fun W=>au6 s n W h10 h75 hgood)
     obtain⟨_,_,hfl,_⟩:=anP hgood hblank n h10
     have hsl:=hgood.2.2
     have c0:wr.cell? ⟨g1,j,none⟩=some (.string (S s)):=by
      rw[cell_of_row wr g1 _ _ _ _ HR1.out];exact HCS.out j s hsj
     have hji:(j:Int)<(xs.length:Int)+3:=by omega
     have HSN:=hid (show aes n ((UF ver xs).take (j+1))=aes n ((UF ver xs).take j)++ac6 s n n by
      rw[List.take_add_one,hsj];exact aoq n _ s)
     obtain⟨f,hf⟩:∃f,ac6 s n n=f:=⟨_,rfl⟩
     rw[hf]at FY hfl HSN
     clear hgood hblank hs hsj hf
     go_wp2_with fail
     refine(FY.out _).use ?_
     intro wz gz
     have HB2:=hid (IsB.grow HB1.out gz)
     have HR2:=hid (uU HR1.out gz)
     have HG2:=hid (HG1.out.trans gz)
     clear gz c0
     go_wp2_with fail
     refine(Rx HB2.out HG2.out f (by omega)).mono ?_
     rintro e wy ⟨rfl,hb3,hg3,hk3⟩
     have HB3:=hid hb3
     have HG3:=hid hg3
     have HR3:=hid (hk3.row HB2.out HR2.out)
     clear hb3 hg3 hk3
     go_wp2_with fail
     go_roundw
     case measure=>simp[intOf];omega
     case rel=>exact⟨j+1,by omega,by go_num,by rw[HSN.out];exact HB3.out,HR3.out,HG3.out,by rw[HSN.out,List.length_append];omega⟩
    ·obtain rfl:j=xs.length+3:=by omega
     have HBF:=hid (show IsB (apt w15 wb.heap.size) wr wb.heap.size (ad3 ver n xs) by have:=HB1.out;rwa [List.take_of_length_le (by rw[HLL.out];exact Nat.le_refl _)]at this)
     obtain⟨t,ht⟩:∃t,ad3 ver n xs=t:=⟨_,rfl⟩
     have HT:=hid ht
     rw[ht]at HBF
     clear ht
     by_cases hbig:20000<t.length
     ·have hb2:(20000:Int)<(t.length:Int):=by omega
      have HPR:=hid (show aop ver n xs (.tuple #[.string (S []),eno 4]) wr from .inl ⟨HOK.out,by rw[HT.out,if_pos hbig]⟩)
      clear hbig
      go_wp2_with fail
      refine(apI HBF.out).use ?_
      go_wp2_with fail
      refine bodyPost_ret (v:=.tuple #[.string ⟨#[]⟩,eno 4]) ?_ rfl ⟨_,rfl,HPR.out,HGW.out.trans HG1.out⟩
      simp only[results,Tryz.f45]
      go_simp
     ·have hb2:¬(20000:Int)<(t.length:Int):=by omega
      have HPR:=hid (show ∀W,aop ver n xs (.tuple #[.string (S t),.nilIface]) W from fun W=>.inl ⟨HOK.out,by rw[HT.out,if_neg hbig]⟩)
      clear hbig
      go_wp2_with fail
      refine(apI HBF.out).use ?_
      go_wp2_with fail
      refine(ag1 HBF.out HG1.out).mono ?_
      rintro e wy ⟨rfl,hg3,_⟩
      have HG3:=hid hg3
      clear hg3
      go_wp2_with fail
      refine bodyPost_ret (v:=.tuple #[.string (S t),.nilIface]) ?_ rfl ⟨_,rfl,HPR.out wy,HGW.out.trans HG3.out⟩
      simp only[results,Tryz.f45]
      go_simp
end Go.Proofs.YtmffejnigppbpaaGreatDoor
