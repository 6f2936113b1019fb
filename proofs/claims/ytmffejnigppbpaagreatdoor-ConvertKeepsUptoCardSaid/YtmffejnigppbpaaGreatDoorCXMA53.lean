/-
  Texts merged into one: UpAny, UpSizes, Held, Joined.
-/
import Derived.Test.YtmffejnigppbpaaGreatDoorCXConvLabels2
import Derived.Test.YtmffejnigppbpaaGreatDoorCXMA61
import Derived.Test.YtmffejnigppbpaaGreatDoorCXMA71
import Derived.Test.YtmffejnigppbpaaGreatDoorCXMA67
import Derived.Test.YtmffejnigppbpaaGreatDoorCXMA73
import Derived.Test.YtmffejnigppbpaaGreatDoorCXMA51
import Derived.Test.YtmffejnigppbpaaGreatDoorCXMA72
import Derived.JoinedCond
set_option linter.unusedVariables false
set_option linter.unusedSimpArgs false
namespace Go.Proofs.YtmffejnigppbpaaGreatDoor
open Go.RowKit
theorem YN(L:List Nat)(x:It)(pv lv:Value)(w:World)(hX:∀X∈L,X<w.heap.size)(h:dG (Wl L w) x pv lv)(hs:Sml x)(hs2:Sml ⟨x.g,x.n,bG x.ps,x.v⟩)(hne:∀p∈bG x.ps,p.2≠[]):dP 51 #[x.val pv lv] w (fun r w'=>ItB (Wl L w') r (jX x)):=by
 by_cases hb:DI (bU x.n)=true
 ·exact UU L x pv lv w hX h hs hs2 hne hb
 by_cases ho:sH (bU x.n)=true
 ·exact ZC L x pv lv w hX h hs hs2 hne ho
 by_cases hg:bU x.n=QZ
 ·exact Zw L x pv lv w hX h hs hs2 hne hg
 by_cases ht:bU x.n=nTZ
 ·exact aaY L x pv lv w hX h hs hs2 hne ht
 by_cases hu:bU x.n=Q5
 ·exact Zz L x pv lv w hX h hs hs2 hne hu
 refine Ko L x pv lv w hX h hs hs2 hne ?_
 unfold vX
 rw[Bool.not_eq_true]at hb ho
 rw[hb,ho]
 simp[hg,ht,hu]
theorem YO{x:It}(h:Sml x):O7 x:=⟨h.bounds.2.1,iO h,by have:=jy h;omega,fun _=>jy h⟩
theorem I5(xs:List It):(dS xs).length≤xs.length:=by
 have key:∀(xs ys:List It),(xs.foldl ja ys).length≤ys.length+xs.length:=by
  intro xs
  induction xs with
  |nil=>intro ys;simp
  |cons x xs ih=>
   intro ys
   rw[List.foldl_cons]
   have h1:=ih (ja ys x)
   have h2:(ja ys x).length≤ys.length+1:=by
    unfold ja
    split
    ·split
     ·split
      ·split
       ·rw[List.length_set];omega
       ·simp
      ·simp
     ·simp
    ·simp
   simp only[List.length_cons]
   omega
 have:=key xs []
 unfold dS
 simpa using this
theorem abM(ver:Int)(iv:Value)(xs:List It)(w:World)(h:dX w iv xs)(hl:xs.length≤1000)(hs:∀x∈xs,Sml x)(hR:qm w)(hM:nJ w)(hE:gQ w)(hs1:∀x∈dS xs,Sml x)(hs2:∀x∈dS xs,Sml ⟨x.g,x.n,bG x.ps,x.v⟩)(hne:∀x∈dS xs,∀p∈bG x.ps,p.2≠[])(hs3:∀x∈dS xs,Sml (jX x).1):dP 14 #[gY ver iv] w (fun r w'=>UpR ver xs r w'):=
 XV ver iv xs w h hl hs hR hM hE (fun L W g hX=>QS L iv xs W (fun X hx=>(hX X hx).2) (h.grow (Wl.of g (fun X hx=>(hX X hx).1))) hl (fun x hx=>YO (hs x hx)))
  (fun x hx L W pv lv hX ho=>YN L x pv lv W hX ho (hs1 x hx) (hs2 x hx) (hne x hx)) (Nat.le_trans (I5 xs) hl) hs3
end Go.Proofs.YtmffejnigppbpaaGreatDoor

namespace Go.Proofs.YtmffejnigppbpaaGreatDoor
open Go.RowKit
theorem aag(cf:Bool)(v:L8):v.length≤(Il cf v).length:=by
 unfold Il
 cases cf with
 |false=>exact Nat.le_refl _
 |true=>exact(F5 v).1
theorem Vk(cf:Bool)(v:L8):v.length≤(zu cf v).length:=by
 have:=aag cf v
 unfold zu
 split
 ·simp only[List.length_cons,List.length_append,List.length_nil];omega
 ·exact this
theorem Qk(cf:Bool):∀vs:List L8,vs.length+(vs.map List.length).sum≤(vs.flatMap fun u=>44::zu cf u).length
 |[]=>Nat.le_refl _
 |v::vs=>by
  have h1:=Qk cf vs
  have h2:=Vk cf v
  simp only[List.flatMap_cons,List.length_append,List.length_cons,List.map_cons,List.sum_cons]
  omega
theorem abO(cf:Bool)(p:Pm):1+gG p≤(pmW cf p).length:=by
 unfold pmW gG
 cases h:p.2 with
 |nil=>simp[pM];omega
 |cons v vs=>
  have h1:=Qk cf vs
  have h2:=Vk cf v
  simp only[pM,List.length_append,List.length_cons,List.map_cons,List.sum_cons]
  omega
theorem Vm(cf:Bool):∀ps:List Pm,fK ps≤(ps.flatMap (pmW cf)).length
 |[]=>Nat.le_refl _
 |p::ps=>by
  have h1:=Vm cf ps
  have h2:=abO cf p
  rw[oN]
  simp only[List.flatMap_cons,List.length_append]
  omega
theorem WU(cf:Bool)(p:Ln):p.hd.group.length+p.hd.name.length+fK p.hd.params+p.value.length+1≤(pO cf p).length:=by
 have h1:=Vm cf p.hd.params
 unfold pO Yd
 simp only[List.length_append,List.length_cons]
 split
 ·rename_i h
  rw[h];simp only[List.length_nil];omega
 ·simp only[List.length_append,List.length_cons,List.length_nil];omega
structure Sz(x:It):Prop where
 h:x.g.length+x.n.length+fK x.ps≤1500
 t:x.v.tx.length≤1501
 p:iL x.v.ps≤3005
theorem Ql{v:Int}{x:It}(h:qM v x=true):Sz x∧∀p∈x.ps,p.2≠[]:=by
 obtain⟨h1,_,_,_,ho,_,hl⟩:=Un.1 h
 have hw:=WU (v==4) (lnX x x.v.text)
 have hs:=TP (Qx x.v ho).1
 simp only[lnX]at hw hl
 have ht:=hs.tx
 have hp:=hs.ps
 refine⟨⟨by omega,by omega,by omega⟩,fun p hp=>?_⟩
 unfold J3 at h1
 simp only[Bool.and_eq_true,List.all_eq_true]at h1
 have:=h1.2 p hp
 unfold pmR at this
 simp only[Bool.and_eq_true,Bool.not_eq_true',List.isEmpty_eq_false_iff]at this
 exact this.1.2
structure Sz2(x:It):Prop where
 h:x.g.length+x.n.length+fK x.ps≤3100
 t:x.v.tx.length≤1501
 p:iL x.v.ps≤3005
 e:∀p∈x.ps,p.2≠[]
theorem rZ(a b:List Pm):fK (a++b)=fK a+fK b:=by
 unfold fK;simp only[List.length_append,List.map_append,List.sum_append];omega
def En(y:It):Prop:=(Sz y∨(gZ y.ps dN).isNone=false)∧Sz2 y
theorem TD{ps:List Pm}{n v:List UInt8}{vs:List (List UInt8)}(hn:dC n n=true):(gZ (ps++[(n,vs)]) n).isNone=false:=by
 unfold gZ
 rw[Option.isNone_eq_false_iff,List.findIdx?_isSome,List.any_eq_true]
 exact⟨(n,vs),by simp,hn⟩
theorem TE{out:List It}{x:It}(ho:∀y∈out,En y)(hx:Sz x)(he:∀p∈x.ps,p.2≠[]):∀y∈ja out x,En y:=by
 have hx2:En x:=⟨.inl hx,by have:=hx.h;exact⟨by omega,hx.t,hx.p,he⟩⟩
 have happ:∀y∈out++[x],En y:=fun y hy=>by
  rcases List.mem_append.1 hy with h|h
  ·exact ho y h
  ·rw[List.mem_singleton.1 h];exact hx2
 unfold ja
 split
 ·split
  ·split
   ·rename_i k hk y hy
    split
    ·rename_i hnone
     intro z hz
     rcases List.mem_or_eq_of_mem_set hz with h|h
     ·exact ho z h
     ·subst h
      obtain⟨h1,h2⟩:=ho y (List.mem_of_getElem? hy)
      rcases h1 with h1|h1
      ·have a:=h1.h
       have b:=h1.t
       have t:=hx.t
       refine⟨.inr (TD (v:=[]) (by decide +kernel)),⟨?_,h1.t,h1.p,fun p hp=>?_⟩⟩
       ·dsimp only
        rw[rZ]
        have e:fK [(dN,[x.v.tx])]=1+(5+1+x.v.tx.length):=by
         unfold fK gG;simp[dN]
        omega
       ·rcases List.mem_append.1 hp with hp|hp
        ·exact h2.e p hp
        ·rw[List.mem_singleton.1 hp];simp
      ·rw[hnone]at h1;cases h1
    ·exact happ
   ·exact happ
  ·exact happ
 ·exact happ
theorem TF{xs:List It}(h:∀x∈xs,Sz x∧∀p∈x.ps,p.2≠[]):∀y∈dS xs,Sz2 y:=by
 have key:∀(xs out:List It),(∀x∈xs,Sz x∧∀p∈x.ps,p.2≠[])→(∀y∈out,En y)→∀y∈xs.foldl ja out,En y:=by
  intro xs
  induction xs with
  |nil=>intro out _ ho;exact ho
  |cons x xs ih=>
   intro out hx ho
   rw[List.foldl_cons]
   obtain⟨a,b⟩:=hx x List.mem_cons_self
   exact ih _ (fun y hy=>hx y (List.mem_cons_of_mem _ hy)) (TE ho a b)
 intro y hy
 exact(key xs [] h (by simp) y hy).2
theorem Dc(f:Pm→Bool):∀ps:List Pm,fK (ps.filter f)≤fK ps
 |[]=>Nat.le_refl _
 |p::ps=>by
  have:=Dc f ps
  rw[List.filter_cons]
  split
  ·rw[oN,oN];omega
  ·rw[oN];omega
theorem JU(ps:List Pm)(n:List UInt8):fK (aO ps n)≤fK ps:=Dc _ ps
theorem I8(f:List UInt8→Bool):∀vs:List (List UInt8),(vs.filter f).length+((vs.filter f).map List.length).sum≤vs.length+(vs.map List.length).sum
 |[]=>Nat.le_refl _
 |v::vs=>by
  have:=I8 f vs
  rw[List.filter_cons]
  split
  ·simp only[List.length_cons,List.map_cons,List.sum_cons];omega
  ·simp only[List.length_cons,List.map_cons,List.sum_cons];omega
theorem TG(p:Pm):fK (dU p)≤1+gG p:=by
 unfold dU
 split
 ·split
  ·unfold fK;simp
  ·rw[oN]
   have:=I8 (fun v=>!dC v mf) p.2
   have e:fK []=0:=rfl
   rw[e]
   unfold gG qN
   dsimp only
   omega
 ·rw[oN]
  have e:fK []=0:=rfl
  rw[e];omega
theorem EZ:∀ps:List Pm,fK (ps.flatMap dU)≤fK ps
 |[]=>Nat.le_refl _
 |p::ps=>by
  have h1:=EZ ps
  have h2:=TG p
  rw[List.flatMap_cons,rZ,oN];omega
theorem zX(ps:List Pm):fK (bG ps)≤fK ps+7:=by
 have h:=EZ ps
 unfold bG
 split
 ·rw[rZ]
  have e:fK [(oV,[[49]])]=7:=by decide
  rw[e];omega
 ·omega
theorem aah{p q:Pm}(h:p.2≠[])(hq:q∈dU p):q.2≠[]:=by
 unfold dU at hq
 split at hq
 ·split at hq
  ·cases hq
  ·rename_i hk
   rw[List.mem_singleton.1 hq];exact hk
 ·rw[List.mem_singleton.1 hq];exact h
theorem TI{ps:List Pm}(h:∀p∈ps,p.2≠[]):∀p∈bG ps,p.2≠[]:=by
 have h1:∀p∈ps.flatMap dU,p.2≠[]:=fun p hp=>by
  obtain⟨q,hq,hp⟩:=List.mem_flatMap.1 hp
  exact aah (h q hq) hp
 unfold bG
 split
 ·intro p hp
  rcases List.mem_append.1 hp with hp|hp
  ·exact h1 p hp
  ·rw[List.mem_singleton.1 hp];simp
 ·exact h1
theorem aai{ps:List Pm}{p:Pm}(h:p∈ps):gG p≤fK ps:=by
 have:gG p≤(ps.map gG).sum:=kJ (List.mem_map_of_mem h)
 unfold fK;omega
theorem aaj(ps:List Pm)(i:Nat):(xH ps i).length≤fK ps:=by
 unfold xH
 rw[List.getD_eq_getElem?_getD,List.getD_eq_getElem?_getD]
 cases hp:ps[i]? with
 |none=>simp
 |some p=>
  simp only[Option.getD_some]
  cases hv:p.2[0]? with
  |none=>simp
  |some v=>
   simp only[Option.getD_some]
   have h1:=aai (List.mem_of_getElem? hp)
   have h2:v.length≤(p.2.map List.length).sum:=kJ (List.mem_map_of_mem (List.mem_of_getElem? hv))
   unfold gG at h1
   omega
theorem YP(n:List UInt8)(ps:List Pm):(lS n ps).length≤24+fK ps:=by
 unfold lS
 split
 ·have:MK.length=24:=rfl
  omega
 ·rename_i i _
  have hk:(EH n).length≤12:=by unfold EH;split<;>(try split)<;>decide
  have:=aaj ps i
  rw[List.length_append,zQ];omega
theorem YQ(k:Int):(mD k).length≤16:=by
 unfold mD
 repeat' split
 all_goals decide
theorem aak{x:It}(h:Sz2 x):Sml (jX x).1:=by
 obtain⟨h1,h2,h3,h4⟩:=h
 have hp:=zX x.ps
 have hu:(bU x.n).length=x.n.length:=uQ _
 have hesc:=CY x.v.tx
 have wk:∀n ps,fK (aO ps n)≤fK ps:=fun n ps=>JU ps n
 have e0:iL []=0:=rfl
 unfold jX
 dsimp only
 split
 ·unfold vY
  dsimp only
  split
  ·split
   ·have:=wk bP (bG x.ps)
    exact⟨by dsimp only;omega,by dsimp only;omega,by dsimp only;omega⟩
   ·exact⟨by dsimp only;omega,by dsimp only;omega,by dsimp only;omega⟩
  ·split
   ·split
    ·exact⟨by dsimp only;omega,by dsimp only;omega,by dsimp only;omega⟩
    ·split
     ·exact⟨by dsimp only;omega,by dsimp only;omega,by dsimp only;omega⟩
     ·rename_i hm bs hbs
      have a:=wk l7 (bG x.ps)
      have b:=wk gJ (aO (bG x.ps) l7)
      have c:=wk bP (aO (aO (bG x.ps) l7) gJ)
      have hm:=YP (bU x.n) (bG x.ps)
      have hb:(rP bs).length≤1504:=by rw[L6 x.v.tx bs (by omega) hbs];omega
      refine⟨by dsimp only;omega,?_,by simp only[tV];omega⟩
      simp only[tV]
      split
      ·unfold E5 YR
       simp only[List.length_append,List.length_cons,List.length_nil]
       omega
      ·simp
   ·exact⟨by dsimp only;omega,by dsimp only;omega,by dsimp only;omega⟩
 ·split
  ·unfold nC
   have:=wk bP (bG x.ps)
   refine⟨?_,?_,by simp only[tV];omega⟩
   ·simp only[List.length_cons];omega
   ·simp only[tV]
    split
    ·omega
    ·omega
  ·split
   ·unfold rq
    dsimp only
    split
    ·split
     ·rename_i a b he
      have:=wk bP (bG x.ps)
      have e2:iL [[a],[b]]=a.length+b.length+4:=by simp[iL,jF];omega
      rw[he,e2]at h3
      refine⟨by dsimp only;omega,?_,by simp only[tV];omega⟩
      simp only[tV,zq,List.length_append,List.length_cons,List.length_nil]
      omega
     ·exact⟨by dsimp only;omega,by dsimp only;omega,by dsimp only;omega⟩
    ·exact⟨by dsimp only;omega,by dsimp only;omega,by dsimp only;omega⟩
   ·have hk:Sml (xI ⟨x.g,x.n,bG x.ps,x.v⟩):=by
     have:=wk bP (bG x.ps)
     have hkn:=YQ x.v.ty
     refine⟨?_,by simp only[xI];omega,by simp only[xI];omega⟩
     simp only[xI]
     rw[rZ]
     have e:fK [(bP,[mD x.v.ty])]=1+(5+1+(mD x.v.ty).length):=by
      unfold fK gG;simp[bP]
     omega
    split
    ·exact hk
    ·split
     ·split
      ·have:=wk bP (bG x.ps)
       exact⟨by dsimp only;omega,by dsimp only;omega,by dsimp only;omega⟩
      ·exact hk
     ·exact⟨by dsimp only;omega,by dsimp only;omega,by dsimp only;omega⟩
theorem Qm{v:Int}{xs:List It}(h:∀x∈xs,qM v x=true):(∀x∈dS xs,Sml x)∧(∀x∈dS xs,Sml ⟨x.g,x.n,bG x.ps,x.v⟩)∧(∀x∈dS xs,∀p∈bG x.ps,p.2≠[])∧(∀x∈dS xs,Sml (jX x).1):=by
 have hi:=TF (xs:=xs) fun x hx=>Ql (h x hx)
 refine⟨fun x hx=>?_,fun x hx=>?_,fun x hx=>TI (hi x hx).e,fun x hx=>aak (hi x hx)⟩
 ·obtain⟨a,b,c,_⟩:=hi x hx
  exact⟨by omega,by omega,by omega⟩
 ·obtain⟨a,b,c,_⟩:=hi x hx
  have hp:=zX x.ps
  exact⟨by dsimp only;omega,by dsimp only;omega,by dsimp only;omega⟩
end Go.Proofs.YtmffejnigppbpaaGreatDoor

set_option maxHeartbeats 4000000
set_option maxRecDepth 100000
namespace Go.Proofs.YtmffejnigppbpaaGreatDoor
open Go.RowKit
theorem Ih{xs:List It}(h:Gm xs=false):xs.length≤40∧∀x∈xs,Sml x:=by
 unfold Gm at h
 rw[Bool.or_eq_false_iff,decide_eq_false_iff_not,List.any_eq_false]at h
 refine⟨by omega,fun x hx=>?_⟩
 have hb:=h.2 x hx
 unfold FI aaT aaU at hb
 simp only[Bool.or_eq_true,decide_eq_true_eq,not_or]at hb
 obtain⟨h1,h2⟩:=hb
 exact⟨by omega,by omega,by omega⟩
def Ii(ver:Int)(xs:List It):Bool:=!Gm xs&&jq ver xs
theorem O3(ver:Int)(iv:Value)(xs:List It)(w:World)(h:dX w iv xs)(hl:xs.length≤1048576)(hL:∀y∈xs,D7 y≤1048576)(hR:qm w)(hE:gQ w):dA 13 #[gY ver iv] w (.bool (Ii ver xs)):=by
 have BG:=hid (fun W (g:G w W)=>Zp ver iv xs W (h.grow g) (fun y hy=>abC (hL y hy)) hl)
 have HI:=hid h
 have HR:=hid hR
 have HE:=hid hE
 obtain⟨bb,hbb⟩:∃bb,Gm xs=bb:=⟨_,rfl⟩
 have hh:Ii ver xs=(!bb&&jq ver xs):=by unfold Ii;rw[hbb]
 rw[hh]
 rw[hbb]at BG
 have HBB:=hid hbb
 obtain⟨ia,ic,rfl,_⟩:=h.len
 clear h hl hL hR hE hbb hh
 unfold gY at BG
 unfold gY
 go_enter Tryz.func13,Tryz.ntmps13
 go_wp2_with fail
 generalize hw1:w.alloc _=w1
 have HB1:=hid (show w1.heap[w.heap.size]?=some (.cells #[.int .i64 ver,.slice ia xs.length ic] 24 (0,0)) by rw[←hw1];exact heap_alloc_new w _)
 have G1:=hid (show G w w1 by rw[←hw1];exact(G.refl w).alloc _)
 clear hw1
 refine(BG.out w1 G1.out).use ?_
 intro w2 g2
 have G2:=hid (G1.out.trans g2)
 have HB2:=hid (aB HB1.out g2)
 clear g2 BG
 cases bb with
 |true=>
  go_wp2_with fail
  go_ret
  exact⟨rfl,G2.out⟩
 |false=>
  obtain⟨h40,hsm⟩:=Ih HBB.out
  have RT:=hid (qG ver (.slice ia xs.length ic) xs w2 (HI.out.grow G2.out) (by omega) hsm (HR.out.grow G2.out) (HR.out.grow G2.out).hm (HE.out.grow G2.out))
  unfold gY at RT
  obtain⟨c0,c1⟩:=jJ HB2.out
  go_wp2_with fail
  refine RT.out.use ?_
  intro r w3 hr g3
  rcases hr with⟨hok,rfl⟩|⟨hno,c,k,he,_⟩
  ·have HOK:=hid hok
   clear hok
   go_wp2_with fail
   go_ret
   exact⟨cO (by rw[HOK.out];rfl),G2.out.trans g3⟩
  ·have HNO:=hid hno
   obtain⟨t,e,rfl⟩:=lL.iface he
   clear hno he
   go_wp2_with fail
   go_ret
   exact⟨cO (by rw[HNO.out];rfl),G2.out.trans g3⟩
end Go.Proofs.YtmffejnigppbpaaGreatDoor

namespace Go.Proofs.YtmffejnigppbpaaGreatDoor
theorem jc{a b:Bool}(h:a=true)(k:b=true):(a&&b)=true:=by rw[h,k];rfl
def jf0(P:Program)(f:FuncId)(fn:Func)(s:ChangeSpec)(c:OpenClaim):Bool:=c.wf (OpenSpec.ofChange s)
def jf1(P:Program)(f:FuncId)(fn:Func)(s:ChangeSpec)(c:OpenClaim):Bool:=laidOutB P
def jf2(P:Program)(f:FuncId)(fn:Func)(s:ChangeSpec)(c:OpenClaim):Bool:=mapsRowed P
def jf3(P:Program)(f:FuncId)(fn:Func)(s:ChangeSpec)(c:OpenClaim):Bool:=fn.params.all (P.readableRec ·)
def jf4(P:Program)(f:FuncId)(fn:Func)(s:ChangeSpec)(c:OpenClaim):Bool:=namedTie P c.named s.vars
def jf5(P:Program)(f:FuncId)(fn:Func)(s:ChangeSpec)(c:OpenClaim):Bool:=(c.stops==[])
def jf6(P:Program)(f:FuncId)(fn:Func)(s:ChangeSpec)(c:OpenClaim):Bool:=(P.stops==[])
def jf7(P:Program)(f:FuncId)(fn:Func)(s:ChangeSpec)(c:OpenClaim):Bool:=(c.knobs==[])
def jf8(P:Program)(f:FuncId)(fn:Func)(s:ChangeSpec)(c:OpenClaim):Bool:=(P.stopKnobs==[])
def jf9(P:Program)(f:FuncId)(fn:Func)(s:ChangeSpec)(c:OpenClaim):Bool:=(c.inPlace==P.inPlace f)
def aa6(P:Program)(f:FuncId)(fn:Func)(s:ChangeSpec)(c:OpenClaim):Bool:=(c.unfollowed==P.unfollowed f)
def aa7(P:Program)(f:FuncId)(fn:Func)(s:ChangeSpec)(c:OpenClaim):Bool:=(c.recurses==P.recurses f)
def aa8(P:Program)(f:FuncId)(fn:Func)(s:ChangeSpec)(c:OpenClaim):Bool:=(c.named==P.varsNamed f)
def aa9(P:Program)(f:FuncId)(fn:Func)(s:ChangeSpec)(c:OpenClaim):Bool:=(c.maps==(fn.params.toList++s.plain.varTypes P).any (P.mapsRec ·))
def aba(P:Program)(f:FuncId)(fn:Func)(s:ChangeSpec)(c:OpenClaim):Bool:=(c.ifaces==(fn.params.toList++s.plain.varTypes P).any (P.ifacesRec ·))
def abb(P:Program)(f:FuncId)(fn:Func)(s:ChangeSpec)(c:OpenClaim):Bool:=(c.mapsOut==P.mapsAmong fn.resultTypes.toList)
def abd(P:Program)(f:FuncId)(fn:Func)(s:ChangeSpec)(c:OpenClaim):Bool:=(c.loops==(fn.params.toList++s.plain.varTypes P).any (P.loopsFrom ·))
def abe(P:Program)(f:FuncId)(fn:Func)(s:ChangeSpec)(c:OpenClaim):Bool:=(c.wideKeys==(fn.params.toList++s.plain.varTypes P++fn.resultTypes.toList).any (P.wideKeysFrom ·))
def abf(P:Program)(f:FuncId)(fn:Func)(s:ChangeSpec)(c:OpenClaim):Bool:=s.vars.all (P.varReadable ·)
def abg(P:Program)(f:FuncId)(fn:Func)(s:ChangeSpec)(c:OpenClaim):Bool:=fn.resultTypes.all (fun t=>P.readableRec t&&decide (t<P.types.size))
def abh(P:Program)(f:FuncId)(fn:Func)(s:ChangeSpec)(c:OpenClaim):Bool:=(c.ifacesOut==fn.resultTypes.toList.any (P.ifacesRec ·))
def abj(P:Program)(f:FuncId)(fn:Func)(s:ChangeSpec)(c:OpenClaim):Bool:=(c.loopsOut==fn.resultTypes.toList.any (P.loopsFrom ·))
def abk(P:Program)(f:FuncId)(fn:Func)(s:ChangeSpec)(c:OpenClaim):Bool:=(c.plainKeys==P.plainKeys)
def abl(P:Program)(f:FuncId)(fn:Func)(s:ChangeSpec)(c:OpenClaim):Bool:=c.shortTexts.isNone
def abm(P:Program)(f:FuncId)(fn:Func)(s:ChangeSpec)(c:OpenClaim):Bool:=P.stopsHeard
def abn(P:Program)(f:FuncId)(fn:Func)(s:ChangeSpec)(c:OpenClaim):Bool:=P.mayEnter
def abo(P:Program)(f:FuncId)(fn:Func)(s:ChangeSpec)(c:OpenClaim):Bool:=(c.lifted==P.liftsFinal)
def abp(P:Program)(f:FuncId)(fn:Func)(s:ChangeSpec)(c:OpenClaim):Bool:=(P.make==some c.make)
def abq(P:Program)(f:FuncId)(fn:Func)(s:ChangeSpec)(c:OpenClaim):Bool:=(c.kinds==(if c.domain.isEmpty then[] else fn.params.toList.map fun t=>match P.underlying t with|some (.int k)=>some k|_=>none))
def abr(P:Program)(f:FuncId)(fn:Func)(s:ChangeSpec)(c:OpenClaim):Bool:=(c.pinned==c.pinnedBy)
def abt(P:Program)(f:FuncId)(fn:Func)(s:ChangeSpec)(c:OpenClaim):Bool:=(c.veiled==(fn.params.toList++s.plain.varTypes P++fn.resultTypes.toList).any (P.veiledRec ·))
def abu(P:Program)(f:FuncId)(fn:Func)(s:ChangeSpec)(c:OpenClaim):Bool:=c.veiledFits P fn.params.toList (fn.params.toList++s.plain.varTypes P++fn.resultTypes.toList)
theorem Kw{P:Program}{f:FuncId}{fn:Func}{s:ChangeSpec}{c:OpenClaim}(h0:jf0 P f fn s c=true)(h1:jf1 P f fn s c=true)(h2:jf2 P f fn s c=true)(h3:jf3 P f fn s c=true)(h4:jf4 P f fn s c=true)(h5:jf5 P f fn s c=true)(h6:jf6 P f fn s c=true)(h7:jf7 P f fn s c=true)(h8:jf8 P f fn s c=true)(h9:jf9 P f fn s c=true)(h10:aa6 P f fn s c=true)(h11:aa7 P f fn s c=true)(h12:aa8 P f fn s c=true)(h13:aa9 P f fn s c=true)(h14:aba P f fn s c=true)(h15:abb P f fn s c=true)(h16:abd P f fn s c=true)(h17:abe P f fn s c=true)(h18:abf P f fn s c=true)(h19:abg P f fn s c=true)(h20:abh P f fn s c=true)(h21:abj P f fn s c=true)(h22:abk P f fn s c=true)(h23:abl P f fn s c=true)(h24:abm P f fn s c=true)(h25:abn P f fn s c=true)(h26:abo P f fn s c=true)(h27:abp P f fn s c=true)(h28:abq P f fn s c=true)(h29:abr P f fn s c=true)(h30:abt P f fn s c=true)(h31:abu P f fn s c=true):joinedFacts P f fn s c=true:=by
 exact jc (jc (jc (jc (jc (jc (jc (jc (jc (jc (jc (jc (jc (jc (jc (jc (jc (jc (jc (jc (jc (jc (jc (jc (jc (jc (jc (jc (jc (jc (jc h0 h1) h2) h3) h4) h5) h6) h7) h8) h9) h10) h11) h12) h13) h14) h15) h16) h17) h18) h19) h20) h21) h22) h23) h24) h25) h26) h27) h28) h29) h30) h31
end Go.Proofs.YtmffejnigppbpaaGreatDoor
