/-
  Texts merged into one: LineRight, LineRight2.
-/
import Derived.Test.YtmffejnigppbpaaGreatDoorDXMLineP
import Derived.Test.YtmffejnigppbpaaGreatDoorDXMVal
import Derived.Test.YtmffejnigppbpaaGreatDoorDXMRepl
import Derived.Deep.DeepCutAuto
import Derived.Deep.CutBlock
set_option linter.unusedVariables false
set_option linter.unusedSimpArgs false
set_option maxHeartbeats 1000000
set_option maxRecDepth 100000
namespace Go.Proofs.YtmffejnigppbpaaGreatDoor
open Go.RowKit
theorem akU(c:UInt8)(w:World):adV 121 #[.int .u8 (c.toNat:Int)] w (.bool (agP c)):=by
 have hc:=c.toNat_lt
 go_enter Tryz.func121,Tryz.ntmps121
 go_wp2_with fail
 all_goals go_ret
 all_goals exact⟨zF (by unfold agP af7;rw[Bool.eq_iff_iff];simp;omega),rfl⟩
theorem anW(s:List UInt8)(w:World)(hs:s.length≤1000000):adV 75 #[.string (S s)] w (.bool (Af s false)):=by
 have hbad:=fun W=>alF s W (by omega)
 have HB:=hid hbad
 obtain⟨o,ho⟩:∃o,UL s=o:=⟨_,rfl⟩
 rw[ho]at HB
 have HO:=hid ho
 clear hbad ho
 go_enter Tryz.func75,Tryz.ntmps75
 go_wp2_with fail
 go_loop [6] (fun i=>∃k:Nat,k≤s.length∧i=.int .i64 k∧(s.take k).all (af7 false)=true) (fun i=>s.length-(intOf i).toNat)
 case atStart=>exact⟨0,Nat.zero_le _,rfl,rfl⟩
 case round=>
  obtain⟨k,hk,rfl,hr⟩:=hrel
  have HR:=hid hr;clear hr
  by_cases hlt:k<s.length
  case neg=>
   have HA:=hid (alB HR.out (by omega))
   cases o with
   |none=>
    go_wp2_with fail
    refine(HB.out _).use ?_
    simp only[anx]
    go_wp2_with fail
    go_ret
    exact⟨zF (akn HA.out HO.out).symm,rfl⟩
   |some p=>
    go_wp2_with fail
    refine(HB.out _).use ?_
    simp only[anx]
    go_wp2_with fail
    go_ret
    exact⟨zF (akm HO.out).symm,rfl⟩
  obtain⟨c,hc⟩:∃c,s[k]=c:=⟨_,rfl⟩
  have HC:=hid hc
  have hx:=fun W=>akU c W
  cases hct:agP c with
  |true=>
   rw[hct]at hx
   have HX:=hid hx
   have HF:Hid (s.all (af7 false)=false):=hid (arZ hlt (by rw[hc];unfold agP at hct;simpa using hct))
   clear hx hct
   go_wp2_with fail
   refine(HX.out _).use ?_
   go_wp2_with fail
   go_ret
   exact⟨zF (al4 HF.out).symm,rfl⟩
  |false=>
   rw[hct]at hx
   have HX:=hid hx
   have HF:Hid ((s.take (k+1)).all (af7 false)=true):=hid (aj6 HR.out hlt (by rw[hc];unfold agP at hct;simpa using hct))
   clear hx hct
   go_wp2_with fail
   refine(HX.out _).use ?_
   go_wp2_with fail
   go_round
   case rel=>exact⟨k+1,by omega,by go_num,HF.out⟩
   case measure=>simp[intOf];omega
theorem aw8(a:List UInt8)(c:UInt8):(0≤Lib.indexByte a c↔a.contains c=true):=by
 induction a with
 |nil=>simp[Lib.indexByte]
 |cons b l ih=>
  have hge:=Lib.indexByte_ge l c
  unfold Lib.indexByte
  by_cases h:b=c
  ·subst h;simp
  ·have h1:(b==c)=false:=by simpa using h
   have h2:((b::l).contains c)=l.contains c:=by
    have:¬c=b:=fun e=>h e.symm
    simp[this]
   rw[h1,h2,←ih]
   simp only[Bool.false_eq_true,if_false]
   split
   ·rename_i h3;have:=eq_of_beq h3;omega
   ·rename_i h3;have:Lib.indexByte l c ≠ -1:=fun e=>h3 (by rw[e];rfl);omega
theorem ayZ{v:List UInt8}:decide (Lib.indexByte v 34<0)=!(v.contains 34):=by
 have h1:=aw8 v 34
 cases h:v.contains 34 with
 |true=>
  have:=h1.2 h
  simp;omega
 |false=>
  have:¬0≤Lib.indexByte v 34:=fun h0=>by rw[h1.1 h0]at h;cases h
  simp;omega
theorem ank(s:List UInt8)(cf:Bool)(w:World)(hs:s.length≤10000):Um 39 #[.string (S s),.bool cf] w (.bool (aeD cf s)):=by
 have hl:(aky cf s).length≤20000:=by
  cases cf with
  |false=>show s.length≤_;omega
  |true=>have:=(aoQ s).2;show(aoP s).length≤_;omega
 obtain⟨t,ht⟩:∃t,aky cf s=t:=⟨_,rfl⟩
 have hcl:=fun W=>anW t W (by rw[←ht];omega)
 have hd:=ayZ (v:=t)
 have HE:Hid (aeD cf s=(Af t false && !(t.contains 34))):=hid (by unfold aeD;rw[ht])
 obtain⟨b,hb⟩:∃b,Af t false=b:=⟨_,rfl⟩
 rw[hb]at hcl HE
 have HCL:=hid hcl
 have HT:=hid ht
 rw[ht]at hl
 clear hcl hb ht
 have key:∀(x:Bool),(decide (Lib.indexByte t 34<0)=x)→(b&&x)=aeD cf s:=fun x hx=>by rw[HE.out,←hx,hd]
 have KEY:=hid key
 clear key hd HE
 cases cf with
 |false=>
  obtain rfl:s=t:=HT.out
  cases b with
  |false=>
   go_enter Tryz.func39,Tryz.ntmps39
   go_wp2_with fail
   refine(HCL.out _).use ?_
   go_wp2_with fail
   go_ret
   exact⟨zF (KEY.out _ rfl),G.refl _⟩
  |true=>
   go_enter Tryz.func39,Tryz.ntmps39
   go_wp2_with fail
   refine(HCL.out _).use ?_
   go_wp2_with fail
   refine(aeW s 34 _).use ?_
   go_wp2_with fail
   go_ret
   exact⟨zF (KEY.out _ rfl),G.refl _⟩
 |true=>
  have henc:=fun W=>amc s W (by omega)
  rw[show UK afj s=t from HT.out]at henc
  have HENC:=hid henc
  clear henc
  cases b with
  |false=>
   go_enter Tryz.func39,Tryz.ntmps39
   go_wp2_with fail
   refine(HENC.out _).use ?_
   intro w1 g1
   go_wp2_with fail
   refine(HCL.out _).use ?_
   go_wp2_with fail
   go_ret
   exact⟨zF (KEY.out _ rfl),g1⟩
  |true=>
   go_enter Tryz.func39,Tryz.ntmps39
   go_wp2_with fail
   refine(HENC.out _).use ?_
   intro w1 g1
   go_wp2_with fail
   refine(HCL.out _).use ?_
   go_wp2_with fail
   refine(aeW t 34 _).use ?_
   go_wp2_with fail
   go_ret
   exact⟨zF (KEY.out _ rfl),g1⟩
def pmE(cf:Bool)(q:Pm):Int:=if GH q.1=false then 5 else if q.2=[] then 8 else if q.2.all (aeD cf)then 0 else 3
def acL(cf:Bool)(p:Ln):Option (Int×Option Nat):=
 if GH p.hd.name=false∨(p.hd.group≠[]∧GH p.hd.group=false)then some (5,none)
 else if 20<p.hd.params.length then some (4,none)
 else match p.hd.params.findIdx? (fun q=>pmE cf q != 0)with
  |some k=>some (pmE cf (p.hd.params.getD k ([],[])),some k)
  |none=>if Af p.value false then none else some (3,none)
def ad8(w:World)(v:Value):Option (Int×Option Nat)→Prop
 |none=>v=.nilIface
 |some (c,none)=>v=eno c
 |some (c,some k)=>UE w v c k
theorem ad8.grow{w w':World}{v:Value}{o:Option (Int×Option Nat)}(h:ad8 w v o)(g:G w w'):ad8 w' v o:=by
 match o,h with
 |none,h=>exact h
 |some (c,none),h=>exact h
 |some (c,some k),h=>exact UE.grow h g
theorem ap7{cf:Bool}{q:Pm}:pmE cf q=0↔pmR cf q=true:=by
 unfold pmE pmR
 cases h1:GH q.1 with
 |false=>simp
 |true=>
  cases h2:q.2 with
  |nil=>simp
  |cons a b=>
   simp only[if_neg (by simp:¬(true=false)),if_neg (by simp:¬(a::b=[]))]
   cases h3:(a::b).all (aeD cf)<;>simp_all
theorem ap8{cf:Bool}{p:Ln}:acL cf p=none↔agE cf p=true:=by
 have hp:p.hd.params.findIdx? (fun q=>pmE cf q != 0)=none↔p.hd.params.all (pmR cf)=true:=by
  rw[List.findIdx?_eq_none_iff,List.all_eq_true]
  exact⟨fun h q hq=>ap7.1 (by simpa using h q hq),fun h q hq=>by simpa using ap7.2 (h q hq)⟩
 unfold acL agE
 by_cases h1:GH p.hd.name=false∨(p.hd.group≠[]∧GH p.hd.group=false)
 ·rw[if_pos h1]
  simp only[reduceCtorEq,false_iff]
  rcases h1 with h|⟨h,h2⟩
  ·rw[h];simp
  ·rw[h2]
   have:p.hd.group.isEmpty=false:=by simpa using h
   rw[this];simp
 ·rw[if_neg h1]
  have h1a:GH p.hd.name=true:=by cases h:GH p.hd.name with|true=>rfl|false=>exact absurd (.inl h) h1
  have h1b:(p.hd.group.isEmpty||GH p.hd.group)=true:=by
   cases hg:p.hd.group with
   |nil=>rfl
   |cons a b=>
    cases h:GH (a::b)with
    |true=>rfl
    |false=>exact absurd (.inr ⟨by rw[hg];simp,by rw[hg];exact h⟩) h1
  rw[h1a,h1b]
  by_cases h2:20<p.hd.params.length
  ·rw[if_pos h2]
   have:decide (p.hd.params.length≤20)=false:=by simp;omega
   rw[this];simp
  ·rw[if_neg h2]
   have:decide (p.hd.params.length≤20)=true:=by simp;omega
   rw[this]
   cases h3:p.hd.params.findIdx? (fun q=>pmE cf q != 0)with
   |some k=>
    have:p.hd.params.all (pmR cf)=false:=by
     cases h:p.hd.params.all (pmR cf)with
     |false=>rfl
     |true=>rw[hp.2 h]at h3;cases h3
    rw[this];simp
   |none=>
    rw[hp.1 h3]
    cases Af p.value false<;>simp
end Go.Proofs.YtmffejnigppbpaaGreatDoor

set_option maxHeartbeats 4000000
set_option maxRecDepth 100000
namespace Go.Proofs.YtmffejnigppbpaaGreatDoor
open Go.RowKit
def stE(cf:Bool)(nm:L8)(x:List L8)(j:Nat):Int:=if GH nm=false then 5 else if x=[] then 8 else if (x.take j).all (aeD cf)then 0 else 3
theorem aw9(cf:Bool)(nm:L8)(x:List L8):stE cf nm x x.length=pmE cf (nm,x):=by unfold stE pmE;rw[List.take_length]
theorem atA{cf:Bool}{nm:L8}{x:List L8}{j:Nat}(h:stE cf nm x j=0)(hj:j<x.length):stE cf nm x (j+1)=if aeD cf x[j] then 0 else 3:=by
 unfold stE at h⊢
 by_cases h1:GH nm=false
 ·rw[if_pos h1]at h;cases h
 ·rw[if_neg h1]at h⊢
  by_cases h2:x=[]
  ·rw[if_pos h2]at h;cases h
  ·rw[if_neg h2]at h⊢
   by_cases h3:(x.take j).all (aeD cf)=true
   ·rw[List.take_succ_eq_append_getElem hj,List.all_append,h3]
    simp
   ·rw[if_neg h3]at h;cases h
theorem atC{cf:Bool}{nm:L8}{x:List L8}{j:Nat}(h:stE cf nm x j≠0)(hj:j<x.length):stE cf nm x (j+1)=stE cf nm x j:=by
 unfold stE at h⊢
 by_cases h1:GH nm=false
 ·rw[if_pos h1,if_pos h1]
 ·rw[if_neg h1]at h⊢
  rw[if_neg h1]
  by_cases h2:x=[]
  ·rw[if_pos h2,if_pos h2]
  ·rw[if_neg h2]at h⊢
   rw[if_neg h2]
   by_cases h3:(x.take j).all (aeD cf)=true
   ·rw[if_pos h3]at h;exact absurd rfl h
   ·rw[if_neg h3,if_neg]
    intro h4
    rw[List.take_succ_eq_append_getElem hj,List.all_append,Bool.and_eq_true]at h4
    exact h3 h4.1
theorem atD(cf:Bool)(nm:L8)(x:List L8)(j:Nat):0≤stE cf nm x j∧stE cf nm x j≤8:=by
 unfold stE
 split
 ·omega
 ·split
  ·omega
  ·split<;>omega
theorem aiJ(g n v:L8)(pv:Value)(ps:List Pm)(cf:Bool)(w:World)(hP:UN w pv ps)(hg:g.length≤10000)(hn:n.length≤10000)(hv:v.length≤10000)(hps:∀p∈ps,p.1.length≤10000∧p.2.length≤10000∧∀u∈p.2,u.length≤10000) :
  Uz 110 #[.agg #[.string (S g),.string (S n),pv,.string (S v)],.bool cf] w fun x w'=>ad8 w' x (acL cf ⟨⟨g,n,ps⟩,v⟩):=by
 have H:=hid hP
 have HPS:=hid hps
 obtain⟨a,cap,rfl,_,_⟩:=hP
 clear hps
 have hin:=fun W=>ag8 n W (by omega)
 have hig:=fun W=>ag8 g W (by omega)
 cases hn1:GH n with
 |false=>
  have HE:Hid (acL cf ⟨⟨g,n,ps⟩,v⟩=some (5,none)):=hid (by unfold acL;rw[if_pos (.inl hn1)])
  rw[hn1]at hin
  have HIN:=hid hin
  clear hin hig hn1
  go_enter Tryz.func110,Tryz.ntmps110
  go_wp2_with fail
  refine(HIN.out _).use ?_
  go_wp2_with fail
  go_ret
  exact⟨_,rfl,by rw[HE.out];rfl,(by repeat (first|exact G.refl _|assumption|apply G.drew|apply G.drewN|apply G.alloc|refine G.trans ?_ (by assumption)))⟩
 |true=>
  rw[hn1]at hin
  have HIN:=hid hin
  have HN1:=hid hn1
  clear hin hn1
  by_cases hgb:g≠[]∧GH g=false
  ·have HE:Hid (acL cf ⟨⟨g,n,ps⟩,v⟩=some (5,none)):=hid (by unfold acL;rw[if_pos (.inr hgb)])
   rw[hgb.2]at hig
   have HIG:=hid hig
   have hg2:(g==[])=false:=beq_eq_false_iff_ne.2 hgb.1
   have hg3:g.isEmpty=false:=by simpa using hgb.1
   clear hig hgb
   go_enter Tryz.func110,Tryz.ntmps110
   go_wp2_with fail
   refine(HIN.out _).use ?_
   go_wp2_with fail
   refine(HIG.out _).use ?_
   go_wp2_with fail
   go_ret
   exact⟨_,rfl,by rw[HE.out];rfl,(by repeat (first|exact G.refl _|assumption|apply G.drew|apply G.drewN|apply G.alloc|refine G.trans ?_ (by assumption)))⟩
  ·have HGB:=hid hgb
   clear hgb
   have HIG:=hid hig
   clear hig
   go_enter Tryz.func110,Tryz.ntmps110
   go_upto_block 0 with fail
   generalize hw1:w.alloc _=w1
   obtain⟨B,hB⟩:∃B,B=w.heap.size:=⟨_,rfl⟩
   rw[←hB]
   have c0:w1.cell? ⟨B,0,none⟩=some (.string (S g)):=by rw[←hw1,hB,World.cell?_alloc_new];rfl
   have c1:w1.cell? ⟨B,1,none⟩=some (.string (S n)):=by rw[←hw1,hB,World.cell?_alloc_new];rfl
   have c2:w1.cell? ⟨B,2,none⟩=some (.slice a ps.length cap):=by rw[←hw1,hB,World.cell?_alloc_new];rfl
   have c3:w1.cell? ⟨B,3,none⟩=some (.string (S v)):=by rw[←hw1,hB,World.cell?_alloc_new];rfl
   have hBlt:B<w1.heap.size:=by rw[←hw1,hB];simp
   have G1:Hid (G w w1):=hid (by rw[←hw1];exact(G.refl w).alloc _)
   have HC3:=hid c3
   clear hw1 hB
   have hgg:g=[]∨(g==[])=false∧g.isEmpty=false∧GH g=true:=by
    by_cases h0:g=[]
    ·exact .inl h0
    ·refine .inr ⟨beq_eq_false_iff_ne.2 h0,by simpa using h0,?_⟩
     cases h:GH g with
     |true=>rfl
     |false=>exact absurd ⟨h0,h⟩ HGB.out
   by_cases h20:20<ps.length
   ·have h20i:(20:Int)<ps.length:=by omega
    have HE:Hid (acL cf ⟨⟨g,n,ps⟩,v⟩=some (4,none)):=hid (by unfold acL;rw[if_neg (by rintro(h|h);(· rw[HN1.out]at h;cases h);exact HGB.out h),if_pos h20])
    clear h20
    rcases hgg with rfl|⟨hg2,hg3,hg4⟩
    ·go_wp2_with fail
     refine(HIN.out _).use ?_
     go_wp2_with fail
     go_ret
     exact⟨_,rfl,by rw[HE.out];rfl,G1.out⟩
    ·have HIG2:Hid (∀W,adV 34 #[.string (S g)] W (.bool true)):=hid (fun W=>by have:=HIG.out W;rwa [hg4]at this)
     clear hg4
     go_wp2_with fail
     refine(HIN.out _).use ?_
     go_wp2_with fail
     refine(HIG2.out _).use ?_
     go_wp2_with fail
     go_ret
     exact⟨_,rfl,by rw[HE.out];rfl,G1.out⟩
   ·have h20i:(ps.length:Int)≤20:=by omega
    have h20j:¬(20:Int)<ps.length:=by omega
    have H20:=hid h20
    clear h20
    go_cut [2] (fun p wx=>p=.pointer (some ⟨B,0,none⟩)∧wx=w1)
    case first=>
     rcases hgg with rfl|⟨hg2,hg3,hg4⟩
     ·go_wp2_with fail
      refine(HIN.out _).use ?_
      go_wp2_with fail
      go_meet
      exact⟨rfl,rfl⟩
     ·have HIG2:Hid (∀W,adV 34 #[.string (S g)] W (.bool true)):=hid (fun W=>by have:=HIG.out W;rwa [hg4]at this)
      clear hg4
      go_wp2_with fail
      refine(HIN.out _).use ?_
      go_wp2_with fail
      refine(HIG2.out _).use ?_
      go_wp2_with fail
      go_meet
      exact⟨rfl,rfl⟩
    case rest=>
     obtain⟨rfl,rfl⟩:=hcut
     clear hgg HIG HIN
     have HIW:Hid (UN wc (.slice a ps.length cap) ps):=hid (H.out.grow G1.out)
     go_wp2_with fail
     go_loopw [36] (fun i wr=>∃k:Nat,k≤ps.length∧i=.int .i64 k∧(∀j (h:j<ps.length),j<k→pmE cf ps[j]=0)∧G wc wr) (fun i _=>ps.length-(intOf i).toNat)
     case atStart=>exact⟨0,Nat.zero_le _,rfl,fun j _ h=>by omega,G.refl _⟩
     case round=>
      obtain⟨k,hk,rfl,hz,gr⟩:=hrel
      have HZ:=hid hz
      have GR:=hid gr
      have d3:=(gr.cell (p:=⟨B,3,none⟩) hBlt).trans c3
      clear hz gr
      by_cases hlt:k<ps.length
      ·obtain⟨a2,cap2,e1,_,hc⟩:=HIW.out.grow GR.out
       obtain⟨b,off,e2,hbl,hcc⟩:=hc (by rintro rfl;simp at hlt)
       clear hc
       simp only[Value.slice.injEq,true_and]at e1
       obtain⟨rfl,rfl⟩:=e1
       subst e2
       obtain⟨sv,f1,f2,f3⟩:=hcc k _ (List.getElem?_eq_getElem hlt)
       have hpl:=HPS.out _ (List.getElem_mem hlt)
       obtain⟨q,hqe⟩:∃q,ps[k]=q:=⟨_,rfl⟩
       have HQE:=hid hqe
       rw[hqe]at f1 f3 hpl
       obtain⟨nm,x⟩:=q
       obtain⟨xa,xc,rfl,_⟩:=f3.len
       have I1:=hid f3
       obtain⟨hnl,hxn,hxl⟩:=hpl
       have HXL:=hid hxl
       simp only at f1 hnl hxn
       clear hcc f3 hqe hxl d3
       go_upto_block 3 with fail
       generalize hwa:World.alloc wr _=wa
       obtain⟨Q,hQ⟩:∃Q,Q=wr.heap.size:=⟨_,rfl⟩
       rw[←hQ]
       have GA:Hid (G wc wa):=hid (by rw[←hwa];exact GR.out.alloc _)
       have I2:Hid (Ux wa (.slice xa x.length xc) x):=hid (I1.out.grow (by rw[←hwa];exact(G.refl _).alloc _))
       have q0:wa.cell? ⟨Q,0,none⟩=some (.string (S nm)):=by rw[←hwa,hQ,World.cell?_alloc_new];rfl
       have q1:wa.cell? ⟨Q,1,none⟩=some (.slice xa x.length xc):=by rw[←hwa,hQ,World.cell?_alloc_new];rfl
       clear hwa hQ f1 f2
       go_cut [6,7] (fun p e wx=>p=.pointer (some ⟨Q,0,none⟩)∧e=.int .i64 (stE cf nm x 0)∧wx=wa)
       case first=>
        have hin:=fun W=>ag8 nm W (by omega)
        cases hnm:GH nm with
        |false=>
         rw[hnm]at hin
         have HIN:=hid hin
         have HSE:Hid (stE cf nm x 0=5):=hid (by unfold stE;rw[if_pos hnm])
         clear hin hnm
         go_wp2_with fail
         refine(HIN.out _).use ?_
         go_wp2_with fail
         go_meet
         exact⟨rfl,by rw[HSE.out],rfl⟩
        |true=>
         rw[hnm]at hin
         have HIN:=hid hin
         by_cases hx:x=[]
         ·subst hx
          have HSE:Hid (stE cf nm [] 0=8):=hid (by unfold stE;rw[if_neg (by rw[hnm];simp),if_pos rfl])
          clear hin hnm
          go_wp2_with fail
          refine(HIN.out _).use ?_
          go_wp2_with fail
          go_meet
          exact⟨rfl,by rw[HSE.out],rfl⟩
         ·have HSE:Hid (stE cf nm x 0=0):=hid (by unfold stE;rw[if_neg (by rw[hnm];simp),if_neg hx];rfl)
          have hx0:0<x.length:=List.length_pos_iff.2 hx
          have hx1:((x.length:Int)==0)=false:=beq_eq_false_iff_ne.2 (by omega)
          have hx2:(x==[])=false:=beq_eq_false_iff_ne.2 hx
          clear hin hnm hx
          go_wp2_with fail
          refine(HIN.out _).use ?_
          go_wp2_with fail
          go_meet
          exact⟨rfl,by rw[HSE.out],rfl⟩
       case rest=>
        obtain⟨rfl,rfl,rfl⟩:=hcut
        go_wp2_with fail
        go_loopw [7,54] (fun e i wq=>∃j:Nat,j≤x.length∧i=.int .i64 j∧e=.int .i64 (stE cf nm x j)∧G wc wq) (fun _ i _=>x.length-(intOf i).toNat)
        case atStart=>exact⟨0,Nat.zero_le _,rfl,rfl,G.refl _⟩
        case round=>
         obtain⟨j,hj,rfl,rfl,gq⟩:=hrel
         have GQ:=hid gq
         clear gq
         by_cases hjt:j<x.length
         ·obtain⟨b2,o2,c2',e2,_,hb2',hc2⟩:=(I2.out.grow GQ.out).at_ (by rintro rfl;simp at hjt)
          simp only[Value.slice.injEq,true_and]at e2
          obtain⟨rfl,rfl⟩:=e2
          have d2:=hc2 j _ (List.getElem?_eq_getElem hjt)
          have hul:=HXL.out _ (List.getElem_mem hjt)
          have hn0:=fun h=>atA (cf:=cf) (nm:=nm) (x:=x) (j:=j) h hjt
          have hn1:=fun h=>atC (cf:=cf) (nm:=nm) (x:=x) (j:=j) h hjt
          obtain⟨u,hu⟩:∃u,x[j]=u:=⟨_,rfl⟩
          rw[hu]at d2 hul hn0
          obtain⟨z,hz⟩:∃z,stE cf nm x j=z:=⟨_,rfl⟩
          rw[hz]at hn0 hn1⊢
          clear hc2 hu
          by_cases hz0:z=0
          ·subst hz0
           have hn0:=hn0 rfl
           have hho:=fun W=>ank u cf W hul
           cases hhv:aeD cf u with
           |true=>
            rw[hhv]at hho hn0
            have HN0:=hid hn0
            have HHO:=hid hho
            clear hho hhv hn0 hn1 hz hul
            go_wp2_with fail
            refine(HHO.out _).use ?_
            intro w2 g2
            have G2:=hid (GQ.out.trans g2)
            clear g2
            go_wp2_with fail
            go_roundw
            case rel=>exact⟨j+1,by omega,by go_num,by rw[HN0.out];rfl,G2.out⟩
            case measure=>simp[intOf];omega
           |false=>
            rw[hhv]at hho hn0
            have HN0:=hid hn0
            have HHO:=hid hho
            clear hho hhv hn0 hn1 hz hul
            go_wp2_with fail
            refine(HHO.out _).use ?_
            intro w2 g2
            have G2:=hid (GQ.out.trans g2)
            clear g2
            go_wp2_with fail
            go_roundw
            case rel=>exact⟨j+1,by omega,by go_num,by rw[HN0.out];rfl,G2.out⟩
            case measure=>simp[intOf];omega
          ·have hzb:(z==0)=false:=beq_eq_false_iff_ne.2 hz0
           have HN1:=hid (hn1 hz0)
           clear hn0 hn1 hz hul hz0
           go_wp2_with fail
           go_roundw
           case rel=>exact⟨j+1,by omega,by go_num,by rw[HN1.out],GQ.out⟩
           case measure=>simp[intOf];omega
         ·obtain rfl:j=x.length:=by omega
          have hse:=aw9 cf nm x
          obtain⟨z,hz⟩:∃z,stE cf nm x x.length=z:=⟨_,rfl⟩
          have hzr:=atD cf nm x x.length
          rw[hz]at hse hzr⊢
          have HSE:Hid (pmE cf ps[k]=z):=hid (by rw[HQE.out];exact hse.symm)
          clear hse hz
          by_cases hz0:z=0
          ·subst hz0
           have HZ2:Hid (∀j (h:j<ps.length),j<k+1→pmE cf ps[j]=0):=hid (fun j h hj=>by
            by_cases hjk:j=k
            ·subst hjk;exact HSE.out
            ·exact HZ.out j h (by omega))
           go_wp2_with fail
           go_roundw
           case rel=>exact⟨k+1,by omega,by go_num,HZ2.out,GA.out.trans GQ.out⟩
           case measure=>simp[intOf];omega
          ·have hzb:(z==0)=false:=beq_eq_false_iff_ne.2 hz0
           have HE:Hid (acL cf ⟨⟨g,n,ps⟩,v⟩=some (z,some k)):=hid (by
            have hf:ps.findIdx? (fun q=>pmE cf q != 0)=some k:=by
             rw[List.findIdx?_eq_some_iff_getElem]
             exact⟨hlt,by rw[HSE.out];simpa using hz0,fun j hj=>by rw[HZ.out j (by omega) hj];simp⟩
            unfold acL
            rw[if_neg (by rintro(h|h);(· rw[HN1.out]at h;cases h);exact HGB.out h),if_neg H20.out]
            simp only[hf]
            rw[show ps.getD k ([],[])=ps[k] from by simp[hlt],HSE.out])
           clear hzr hz0
           go_wp2_with fail
           go_ret
           exact⟨_,rfl,by rw[HE.out];exact UE.new _ _ _ _,(G1.out.trans (GA.out.trans GQ.out)).alloc _⟩
      ·obtain rfl:k=ps.length:=by omega
       have hcl:=fun W=>anW v W (by omega)
       have HE:Hid (acL cf ⟨⟨g,n,ps⟩,v⟩=if Af v false then none else some (3,none)):=hid (by
        have hf:ps.findIdx? (fun q=>pmE cf q != 0)=none:=by
         rw[List.findIdx?_eq_none_iff]
         intro q hq
         obtain⟨j,hj,rfl⟩:=List.mem_iff_getElem.1 hq
         simpa using HZ.out j hj hj
        unfold acL
        rw[if_neg (by rintro(h|h);(· rw[HN1.out]at h;cases h);exact HGB.out h),if_neg H20.out]
        simp only[hf])
       cases hvh:Af v false with
       |true=>
        rw[hvh]at hcl HE
        have HCL:=hid hcl
        clear hcl hvh
        go_wp2_with fail
        refine(HCL.out _).use ?_
        go_wp2_with fail
        go_ret
        exact⟨_,rfl,by rw[HE.out];rfl,G1.out.trans GR.out⟩
       |false=>
        rw[hvh]at hcl HE
        have HCL:=hid hcl
        clear hcl hvh
        go_wp2_with fail
        refine(HCL.out _).use ?_
        go_wp2_with fail
        go_ret
        exact⟨_,rfl,by rw[HE.out];rfl,G1.out.trans GR.out⟩
end Go.Proofs.YtmffejnigppbpaaGreatDoor
