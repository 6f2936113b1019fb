/-
  Texts merged into one: UpAll, PrefsPlain, FnItem, SameTwo.
-/
import Derived.Test.YtmffejnigppbpaaGreatDoorCXMA53
import Derived.Test.YtmffejnigppbpaaGreatDoorCXMA73
import Derived.Test.YtmffejnigppbpaaGreatDoorCXMFn
import Derived.Test.YtmffejnigppbpaaGreatDoorCXMA69
import Derived.Test.YtmffejnigppbpaaGreatDoorCXMA59
import Derived.Test.YtmffejnigppbpaaGreatDoorCXValRight
import Derived.Test.YtmffejnigppbpaaGreatDoorCXMA50
import Derived.Test.YtmffejnigppbpaaGreatDoorCXMA56
import Derived.Test.YtmffejnigppbpaaGreatDoorCXMA70
set_option linter.unusedVariables false
set_option linter.unusedSimpArgs false
set_option maxHeartbeats 4000000
set_option maxRecDepth 100000
namespace Go.Proofs.YtmffejnigppbpaaGreatDoor
open Go.RowKit
theorem Qi(ver:Int)(iv:Value)(xs:List It)(w:World)(h:dX w iv xs)(hl:xs.length≤1000)(hs:∀x∈xs,Sml x)(hR:qm w)(hM:nJ w)(hE:gQ w)(hno:ver=3→jq 3 xs=false):dP 14 #[gY ver iv] w (fun r w'=>UpR ver xs r w'):=by
 have RT:=hid (fun W (g:G w W)=>qG ver iv xs W (h.grow g) hl hs (hR.grow g) (hM.grow g) (hE.grow g))
 have HNR:=hid hno
 obtain⟨ia,ic,rfl,_⟩:=h.len
 unfold gY at RT
 clear h hs hR hM hE hno
 unfold gY
 go_enter Tryz.func14,Tryz.ntmps14
 go_wp2_with fail
 generalize hw0:(w.alloc _).alloc _=w0
 have HB0:=hid (show w0.heap[w.heap.size]?=some (.cells #[.int .i64 ver,.slice ia xs.length ic] 24 (0,0)) by rw[←hw0,Lib.alloc_old _ _ _ (by simp)];exact heap_alloc_new w _)
 have HX0:=hid (show w0.heap[w.heap.size+1]?=some (.cells #[.int .i64 0,.slice none 0 0] 24 (0,0)) by rw[←hw0];exact pz _ _ _)
 have G0:=hid (show G w w0 by rw[←hw0];exact((G.refl w).alloc _).alloc _)
 clear hw0
 refine(RT.out w0 G0.out).use ?_
 intro r w1 hr g1
 have HB1:=hid (aB HB0.out g1)
 have HX1:=hid (aB HX0.out g1)
 have G1:=hid (G0.out.trans g1)
 clear g1
 obtain⟨x0,x1⟩:=jJ HX1.out
 have fx:=fun i=>Lib.frozen_of_heap HX1.out i
 rcases hr with⟨hok,rfl⟩|⟨hno,c,k,he,hc,hfb,_⟩
 case inr=>
  have HNO:=hid hno
  have HE:=hid he
  have HC:=hid hc
  have HFB:=hid hfb
  obtain⟨t,e,rfl⟩:=lL.iface he
  clear hno he hc hfb
  go_wp2_with fail
  refine tZ rfl rfl rfl rfl (I7 HX1.out) ⟨_,rfl,?_,jU (jU G1.out (by omega)) (by omega)⟩
  refine .inr ⟨fun ⟨e3,ys,hy⟩=>?_,_,_,rfl,c,k,lL.put HE.out HX1.out _ _,HC.out,fun h=>absurd h (by rw[HNO.out];decide),fun h=>absurd h (by rw[HNO.out];decide),fun _=>HFB.out⟩
  subst e3
  unfold upX at hy
  rw[if_neg (by rw[HNO.out];decide)]at hy
  cases hy
 have HOK:=hid hok
 have hv:ver≠3:=by
  rintro rfl
  rw[HNR.out rfl]at hok;cases hok
 have bv:(ver != 3)=true:=by simpa using hv
 have HV:=hid hv
 obtain⟨c0,c1⟩:=jJ HB1.out
 clear hv hok
 go_wp2_with fail
 exact tZ rfl rfl rfl rfl (I7 HX1.out) ⟨_,rfl,.inr ⟨fun ⟨e3,_⟩=>HV.out e3,_,_,rfl,6,none,rfl,by decide,fun _ _=>rfl,fun _ e3=>absurd e3 HV.out,fun h=>absurd HOK.out (by rw[h];decide)⟩,jU (jU G1.out (by omega)) (by omega)⟩
theorem YM(ver:Int)(iv:Value)(xs:List It)(w:World)(h:dX w iv xs)(hl:xs.length≤1000)(hs:∀x∈xs,Sml x)(hR:qm w)(hM:nJ w)(hE:gQ w):dP 14 #[gY ver iv] w (fun r w'=>UpR ver xs r w'):=by
 cases hr:jq 3 xs with
 |false=>exact Qi ver iv xs w h hl hs hR hM hE (fun _=>hr)
 |true=>
  by_cases hv:ver=3
  ·obtain⟨h1,h2,h3,h4⟩:=Qm (nK.1 hr).2.2.1
   exact abM ver iv xs w h hl hs hR hM hE h1 h2 h3 h4
  ·exact Qi ver iv xs w h hl hs hR hM hE (fun e=>absurd e hv)
theorem Qj{xs ys:List It}(h:upX xs=some ys):jq 3 xs=true∧jq 4 ys=true∧ys.length≤xs.length∧∀y∈ys,Sml y:=by
 have h3:jq 3 xs=true:=by
  unfold upX at h
  split at h
  ·assumption
  ·cases h
 have hy:ys=(dS xs).map fun x=>(jX x).1:=by
  unfold upX at h
  repeat' split at h
  all_goals first|(cases h;done)|(cases h;rfl)
 have h4:jq 4 ys=true:=by
  unfold upX at h
  repeat' split at h
  all_goals first|(cases h;done)|(cases h;assumption)
 have hs:=(Qm (nK.1 h3).2.2.1).2.2.2
 refine⟨h3,h4,by rw[hy,List.length_map];exact I5 xs,fun y hm=>?_⟩
 rw[hy]at hm
 obtain⟨x,hx,rfl⟩:=List.mem_map.1 hm
 exact hs x hx
end Go.Proofs.YtmffejnigppbpaaGreatDoor

namespace Go.Proofs.YtmffejnigppbpaaGreatDoor
open Go.RowKit
theorem PU{a b c:List UInt8}(h:dC a b=true):dC a c=dC b c:=by
 unfold dC at h⊢
 rw[eq_of_beq h]
def mM(p:Pm):Bool:=dC p.1 oV
def fl(x:It):Bool×Bool:=(x.ps.any ed,x.ps.any mM)
theorem PV{f:Pm→Bool}{n:List UInt8}(h:∀p,f p=true→dC p.1 n=false)(ps:List Pm):(aO ps n).any f=ps.any f:=by
 unfold aO
 rw[List.any_filter]
 congr 1
 funext p
 cases hf:f p with
 |false=>simp
 |true=>rw[h p hf];rfl
theorem Yo{p:Pm}(h:mM p=true){n:List UInt8}(hn:dC oV n=false):dC p.1 n=false:=by
 unfold mM at h
 rw[PU h];exact hn
theorem abD{f g:Pm→Bool}{ps:List Pm}(h:ps.any g=false):(ps.filter f).any g=false:=by
 rw[List.any_filter,List.any_eq_false]
 intro p hp
 rw[List.any_eq_false]at h
 have:=h p hp
 simp[this]
theorem Wv(p:Pm):(dU p).any ed=false:=by
 unfold dU
 split
 ·split
  ·rfl
  ·simp only[List.any_cons,List.any_nil,Bool.or_false]
   unfold ed
   dsimp only
   rw[Bool.and_eq_false_iff]
   right
   rw[List.any_eq_false]
   intro v hv
   unfold qN at hv
   have:=(List.mem_filter.1 hv).2
   simpa using this
 ·rename_i h
  simp only[List.any_cons,List.any_nil,Bool.or_false]
  unfold ed
  rw[Bool.not_eq_true]at h
  rw[h];rfl
theorem Tf(ps:List Pm):(ps.flatMap dU).any ed=false:=by
 rw[List.any_flatMap,List.any_eq_false]
 intro p _
 rw[Wv];decide
theorem ZZ(p:Pm):(dU p).any mM=mM p:=by
 unfold dU
 split
 ·rename_i h
  have hn:mM p=false:=by
   unfold mM
   rw[PU h];decide +kernel
  split
  ·rw[hn];rfl
  ·simp only[List.any_cons,List.any_nil,Bool.or_false]
   rw[hn]
   exact hn
 ·simp
theorem Yp(ps:List Pm):(ps.flatMap dU).any mM=ps.any mM:=by
 rw[List.any_flatMap]
 congr 1
 funext p
 exact ZZ p
theorem Yq(ps:List Pm):(gZ ps oV).isNone=!(ps.any mM):=by
 unfold gZ
 have h:(ps.findIdx? fun p=>dC p.1 oV).isSome=ps.any mM:=List.findIdx?_isSome
 rw[←h]
 cases (ps.findIdx? fun p=>dC p.1 oV)<;>rfl
theorem JM(ps:List Pm):(bG ps).any ed=false∧(bG ps).any mM=(ps.any mM||ps.any ed):=by
 have h1:=Tf ps
 have h2:=Yp ps
 have h3:=Yq (ps.flatMap dU)
 rw[h2]at h3
 unfold bG
 rw[h3]
 split
 ·rename_i h
  rw[List.any_append,List.any_append,h1,h2]
  constructor
  ·decide +kernel
  ·have e:[(oV,[[49]])].any mM=true:=by decide +kernel
   rw[e]
   rw[Bool.and_eq_true]at h
   simp[h.1]
 ·rename_i h
  rw[h1,h2]
  refine⟨rfl,?_⟩
  rw[Bool.not_eq_true,Bool.and_eq_false_iff]at h
  cases ha:ps.any ed<;>cases hb:ps.any mM<;>simp_all
theorem oG(ps:List Pm)(n:List UInt8)(hn:dC oV n=false):(ps.any ed=false→(aO ps n).any ed=false)∧(aO ps n).any mM=ps.any mM:=
 ⟨fun h=>abD h,PV (fun p hp=>Yo hp hn) ps⟩
theorem Ti(x:It)(h:x.ps.any ed=false):fl (xI x)=(false,x.ps.any mM):=by
 have w1:=oG x.ps bP (by decide +kernel)
 unfold fl xI
 dsimp only
 rw[List.any_append,List.any_append,w1.1 h,w1.2]
 have e1:[(bP,[mD x.v.ty])].any ed=false:=by
  have:ed (bP,[mD x.v.ty])=false:=by
   unfold ed
   have:dC bP gJ=false:=by decide +kernel
   dsimp only
   rw[this];rfl
  simp[this]
 have e2:[(bP,[mD x.v.ty])].any mM=false:=by
  have:mM (bP,[mD x.v.ty])=false:=by
   unfold mM
   show dC bP oV=false
   decide +kernel
  simp[this]
 rw[e1,e2];simp
theorem Wx(x:It):fl (jX x).1=(false,x.ps.any mM||x.ps.any ed):=by
 obtain⟨p1,p2⟩:=JM x.ps
 have hbase:∀n v,fl ⟨x.g,n,bG x.ps,v⟩=(false,x.ps.any mM||x.ps.any ed):=fun n v=>by
  unfold fl;dsimp only;rw[p1,p2]
 have w1:=oG (bG x.ps) bP (by decide +kernel)
 have hval:∀n v,fl ⟨x.g,n,aO (bG x.ps) bP,v⟩=(false,x.ps.any mM||x.ps.any ed):=fun n v=>by
  unfold fl;dsimp only;rw[w1.1 p1,w1.2,p2]
 have hall:∀n v,fl ⟨x.g,n,aO (aO (aO (bG x.ps) l7) gJ) bP,v⟩=(false,x.ps.any mM||x.ps.any ed):=fun n v=>by
  have a:=oG (bG x.ps) l7 (by decide +kernel)
  have b:=oG (aO (bG x.ps) l7) gJ (by decide +kernel)
  have c:=oG (aO (aO (bG x.ps) l7) gJ) bP (by decide +kernel)
  unfold fl;dsimp only;rw[c.1 (b.1 (a.1 p1)),c.2,b.2,a.2,p2]
 have hkind:fl (xI ⟨x.g,x.n,bG x.ps,x.v⟩)=(false,x.ps.any mM||x.ps.any ed):=by
  rw[Ti _ p1];dsimp only;rw[p2]
 unfold jX
 dsimp only
 split
 ·unfold vY
  dsimp only
  split
  ·split
   ·exact hval _ _
   ·exact hbase _ _
  ·split
   ·split
    ·exact hbase _ _
    ·split
     ·exact hbase _ _
     ·exact hall _ _
   ·exact hbase _ _
 ·split
  ·exact hval _ _
  ·split
   ·unfold rq
    dsimp only
    split
    ·split
     ·exact hval _ _
     ·exact hbase _ _
    ·exact hbase _ _
   ·split
    ·exact hkind
    ·split
     ·split
      ·exact hval _ _
      ·exact hkind
     ·exact hbase _ _
theorem Ns(out:List It)(x:It)(zs:List (Bool×Bool))(h:(out.map fl).Sublist zs):((ja out x).map fl).Sublist (zs++[fl x]):=by
 have happ:((out++[x]).map fl).Sublist (zs++[fl x]):=by
  rw[List.map_append]
  exact List.Sublist.append h (List.Sublist.refl _)
 unfold ja
 split
 ·split
  ·split
   ·rename_i k hk _ y hy
    split
    ·have e:(out.set k ⟨y.g,y.n,y.ps++[(dN,[x.v.tx])],y.v⟩).map fl=out.map fl:=by
      have hf:fl ⟨y.g,y.n,y.ps++[(dN,[x.v.tx])],y.v⟩=fl y:=by
       have e1:[(dN,[x.v.tx])].any ed=false:=by
        have:ed (dN,[x.v.tx])=false:=by
         unfold ed
         have:dC dN gJ=false:=by decide +kernel
         dsimp only
         rw[this];rfl
        simp[this]
       have e2:[(dN,[x.v.tx])].any mM=false:=by
        have:mM (dN,[x.v.tx])=false:=by
         unfold mM
         show dC dN oV=false
         decide +kernel
        simp[this]
       unfold fl
       dsimp only
       rw[List.any_append,List.any_append,e1,e2];simp
      apply List.ext_getElem?
      intro i
      rw[List.getElem?_map,List.getElem?_map,List.getElem?_set]
      split
      ·rename_i hki
       subst hki
       rw[hy]
       split
       ·simp[hf]
       ·rename_i hlt
        exact absurd (List.getElem?_eq_some_iff.1 hy).1 hlt
      ·rfl
     rw[e]
     exact h.trans (List.sublist_append_left _ _)
    ·exact happ
   ·exact happ
  ·exact happ
 ·exact happ
theorem Nu(xs:List It):((dS xs).map fl).Sublist (xs.map fl):=by
 have key:∀(xs out:List It) (zs:List (Bool×Bool)),(out.map fl).Sublist zs→((xs.foldl ja out).map fl).Sublist (zs++xs.map fl):=by
  intro xs
  induction xs with
  |nil=>intro out zs h;simpa using h
  |cons x xs ih=>
   intro out zs h
   rw[List.foldl_cons]
   have:=ih _ _ (Ns out x zs h)
   simpa using this
 have:=key xs [] [] (List.Sublist.refl _)
 unfold dS
 simpa using this
def JO(xs:List It):Nat:=xs.countP fun x=>x.ps.any ed
def BQ(xs:List It):Nat:=xs.countP fun x=>x.ps.any mM
theorem IE(xs:List It):JO xs=(xs.map fl).countP (·.1):=by unfold JO;rw[List.countP_map];rfl
theorem PW(xs:List It):BQ xs=(xs.map fl).countP (·.2):=by unfold BQ;rw[List.countP_map];rfl
theorem Yr(l:List (Bool×Bool)):l.countP (fun p=>p.2||p.1)≤l.countP (·.1)+l.countP (·.2)∧l.countP (·.1)≤l.countP (fun p=>p.2||p.1):=by
 induction l with
 |nil=>exact⟨Nat.le_refl _,Nat.le_refl _⟩
 |cons p l ih=>
  obtain⟨a,b⟩:=p
  obtain⟨i1,i2⟩:=ih
  cases a<;>cases b<;>simp<;>omega
theorem Yt{xs ys:List It}(h:upX xs=some ys):JO ys=0∧BQ ys≤JO xs+BQ xs∧(JO xs≤BQ ys∨ys.length<xs.length):=by
 have hy:ys=(dS xs).map fun x=>(jX x).1:=by
  unfold upX at h
  repeat' split at h
  all_goals first|(cases h;done)|(cases h;rfl)
 have hm:ys.map fl=((dS xs).map fl).map fun p=>(false,p.2||p.1):=by
  rw[hy,List.map_map,List.map_map]
  apply List.map_congr_left
  intro x _
  exact Wx x
 have hs:=Nu xs
 have hlen:ys.length=(dS xs).length:=by rw[hy,List.length_map]
 have e1:JO ys=0:=by
  rw[IE,hm,List.countP_map,List.countP_eq_zero]
  intro p _
  show ¬(false=true)
  decide
 have e2:BQ ys=((dS xs).map fl).countP (fun p=>p.2||p.1):=by
  rw[PW,hm,List.countP_map];rfl
 have hle:=hs.countP_le (p:=fun p=>p.2||p.1)
 obtain⟨c1,c2⟩:=Yr (xs.map fl)
 refine⟨e1,?_,?_⟩
 ·rw[e2,IE,PW];omega
 ·rcases Nat.lt_or_ge ys.length xs.length with hlt|hge
  ·exact .inr hlt
  ·left
   have heq:(dS xs).map fl=xs.map fl:=hs.eq_of_length_le (by simp;omega)
   rw[e2,heq,IE];exact c2
theorem PX{out:List It}{x y:It}(h:x∈out)(ha:dC x.n xn=false):x∈ja out y:=by
 have happ:x∈out++[y]:=List.mem_append_left _ h
 unfold ja
 split
 ·split
  ·split
   ·rename_i k hk _ z hz
    split
    ·obtain⟨j,hj,rfl⟩:=List.getElem_of_mem h
     have hjk:j≠k:=by
      rintro rfl
      have:=List.find?_some hk
      rw[hz]at this
      have e:z=out[j]:=by rw[List.getElem?_eq_getElem hj]at hz;cases hz;rfl
      subst e
      have this:dC out[j].n xn=true:=this
      rw[ha]at this;cases this
     have:(out.set k ⟨z.g,z.n,z.ps++[(dN,[y.v.tx])],z.v⟩)[j]?=some out[j]:=by
      rw[List.getElem?_set_ne (Ne.symm hjk),List.getElem?_eq_getElem hj]
     exact List.mem_of_getElem? this
    ·exact happ
   ·exact happ
  ·exact happ
 ·exact happ
theorem PZ{out:List It}{x:It}(hl:dC x.n dN=false):x∈ja out x:=by
 unfold ja
 rw[if_neg (by rw[hl];simp)]
 simp
theorem Tj{xs:List It}{x:It}(hx:x∈xs)(hl:dC x.n dN=false)(ha:dC x.n xn=false):x∈dS xs:=by
 have stay:∀(ys out:List It),x∈out→x∈ys.foldl ja out:=by
  intro ys
  induction ys with
  |nil=>intro out h;exact h
  |cons y ys ih=>intro out h;exact ih _ (PX h ha)
 have key:∀(ys out:List It),x∈ys→x∈ys.foldl ja out:=by
  intro ys
  induction ys with
  |nil=>intro out h;cases h
  |cons y ys ih=>
   intro out h
   rcases List.mem_cons.1 h with rfl|h
   ·exact stay ys _ (PZ hl)
   ·exact ih _ h
 exact key xs [] hx
theorem Nv{ps:List Pm}(he:∀p∈ps,p.2≠[])(hp:ps.any ed=false):bG ps=ps:=by
 have hs:ps.flatMap dU=ps:=by
  have:∀(l:List Pm),(∀p∈l,p.2≠[]∧ed p=false)→l.flatMap dU=l:=by
   intro l
   induction l with
   |nil=>intro _;rfl
   |cons p l ih=>
    intro h
    rw[List.flatMap_cons,ih fun q hq=>h q (List.mem_cons_of_mem _ hq)]
    obtain⟨h1,h2⟩:=h p List.mem_cons_self
    have:dU p=[p]:=by
     unfold dU
     split
     ·rename_i ht
      have hk:qN p.2=p.2:=by
       unfold qN
       rw[List.filter_eq_self]
       intro v hv
       unfold ed at h2
       rw[ht,Bool.true_and,List.any_eq_false]at h2
       simpa using h2 v hv
      rw[hk,if_neg h1]
     ·rfl
    rw[this];rfl
  refine this ps fun p hq=>⟨he p hq,?_⟩
  rw[List.any_eq_false]at hp
  simpa using hp p hq
 unfold bG
 rw[hs,hp]
 simp
theorem Yu{xs ys:List It}{x:It}(h:upX xs=some ys)(hx:x∈xs)(ht:(jE 3 x.n).1=(jE 4 x.n).1)(hp:x.ps.any ed=false)(ha:dC x.n xn=false)(ho:sH (bU x.n)=false):x∈ys:=by
 have h3:jq 3 xs=true:=by
  unfold upX at h
  split at h
  ·assumption
  ·cases h
 have hy:ys=(dS xs).map fun x=>(jX x).1:=by
  unfold upX at h
  repeat' split at h
  all_goals first|(cases h;done)|(cases h;rfl)
 have hl:dC x.n dN=false:=by
  cases hq:dC x.n dN with
  |false=>rfl
  |true=>
   unfold dC at hq
   have e:=eq_of_beq hq
   rw[e]at ho
   exact absurd ho (by decide +kernel)
 have hm:=Tj hx hl ha
 have he:=(Ql ((nK.1 h3).2.2.1 x hx)).2
 have hk:=Nv he hp
 have hone:(jX x).1=x:=by
  have hn:vX (bU x.n)=true:=by
   unfold jE at ht
   unfold vX
   obtain⟨u,hu⟩:∃u,u=bU x.n:=⟨_,rfl⟩
   rw[←hu]at ht ho⊢
   rw[ho]
   have hb:DI u=false:=by
    cases hb:DI u with
    |false=>rfl
    |true=>
     unfold DI at hb
     simp only[Bool.or_eq_true,beq_iff_eq]at hb
     rcases hb with((rfl|rfl)|rfl)|rfl
     all_goals exact absurd ht (by decide +kernel)
   rw[hb]
   have h1:u≠QZ:=by rintro rfl;exact absurd ht (by decide +kernel)
   have h2:u≠nTZ:=by rintro rfl;exact absurd ht (by decide +kernel)
   have h3:u≠Q5:=by rintro rfl;exact absurd ht (by decide +kernel)
   simp[h1,h2,h3]
  rw[Hf hn,hk]
 rw[hy]
 exact List.mem_map.2 ⟨x,hm,hone⟩
end Go.Proofs.YtmffejnigppbpaaGreatDoor

set_option maxHeartbeats 4000000
set_option maxRecDepth 100000
namespace Go.Proofs.YtmffejnigppbpaaGreatDoor
open Go.RowKit
def aca(p:Prop)(r:Value):Prop:=∃t,r=.bool t∧(p→t=true)
def acb(g:Nat)(lb:Array Value)(x0:It)(xs:List It)(w:World):Prop:=∀W,G w W→∀x∈xs,∀pv lv,dG W x pv lv→dP g (#[x.val pv lv]++lb) W (fun r _=>aca (x=x0) r)
theorem OJ(g:Nat)(lb:Array Value)(eg:∀args w,(callFunc g args).run Tryz.prog w=.ok (.enter g args) w)(x0:It)(v:Value)(xs:List It)(w:World)(h:dX w v xs)(hl:xs.length≤1000)(hP:acb g lb x0 xs w)(hx0:x0∈xs) :
  dP 61 #[v,.func (.func g) #[] lb] w (fun r _=>∃k:Nat,r=.int .i64 k):=by
 have H:=hid h
 have HP:=hid hP
 have HX0:=hid hx0
 obtain⟨a,cap,rfl,_⟩:=h.len
 clear h hP hx0
 go_enter Tryz.func61,Tryz.ntmps61
 go_wp2_with fail
 go_loopw [8] (fun i wr=>∃k:Nat,k≤xs.length∧i=.int .i64 k∧(∀j (h:j<xs.length),j<k→xs[j]≠x0)∧G w wr) (fun i _=>xs.length-(intOf i).toNat)
 case atStart=>exact⟨0,Nat.zero_le _,rfl,fun j _ h=>by omega,G.refl _⟩
 case round=>
  obtain⟨k,hk,rfl,hn,gr⟩:=hrel
  have HN:=hid hn
  have GR:=hid gr
  clear hn gr
  by_cases hlt:k<xs.length
  ·obtain⟨b,off,cap2,e,hb,hit⟩:=pq (H.out.grow GR.out) (by rintro rfl;simp at hlt)
   cases e
   have hx:=List.getElem?_eq_getElem hlt
   obtain⟨x,hxe⟩:∃x,xs[k]=x:=⟨_,rfl⟩
   rw[hxe]at hx
   obtain⟨pv,lv,hat⟩:=hit k x hx
   have CL:=HP.out wr GR.out x (List.mem_of_getElem? hx) pv lv hat.ok
   obtain⟨pa,pc,rfl⟩:=hat.ok.pv
   obtain⟨la,lc,rfl⟩:=hat.ok.lv
   obtain⟨k0,k1,k2,k3,k4,k5,k6,k7,k8,k9,k10,k11,k12,k13,k14⟩:=hat.e
   have CQ:=hid CL
   have HXE:=hid hxe
   have hkl:(k:Int)<(xs.length:Int):=by omega
   clear hit hat hx hxe CL
   go_wp2_with (go_at_fn g;refine CQ.out.use ?_)
   intro r w2 hyes g2
   obtain⟨t,rfl,ht⟩:=hyes
   have G2:Hid (G w w2):=hid (GR.out.trans g2)
   have HT:=hid ht
   clear g2 ht k0 k1 k2 k3 k4 k5 k6 k7 k8 k9 k10 k11 k12 k13 k14
   cases t with
   |true=>
    go_wp2_with fail
    go_ret
    exact⟨_,rfl,⟨k,rfl⟩,G2.out⟩
   |false=>
    have HF:Hid (∀j (h:j<xs.length),j<k+1→xs[j]≠x0):=hid (fun j h hj=>by
     rcases Nat.lt_or_ge j k with h1|h1
     ·exact HN.out j h h1
     ·obtain rfl:j=k:=by omega
      rw[HXE.out];intro e;have:=HT.out e;cases this)
    go_wp2_with fail
    go_roundw
    case rel=>exact⟨k+1,by omega,by go_num,HF.out,G2.out⟩
    case measure=>simp[intOf];omega
  ·obtain rfl:k=xs.length:=by omega
   obtain⟨j,hj,e⟩:=List.mem_iff_getElem.1 HX0.out
   exact absurd e (HN.out j hj hj)
theorem H8(g:Nat)(lb:Array Value)(eg:∀args w,(callFunc g args).run Tryz.prog w=.ok (.enter g args) w)(x0:It)(v:Value)(xs:List It)(w:World)(h:dX w v xs)(hl:xs.length≤1000)(hP:acb g lb x0 xs w)(hx0:x0∈xs) :
  dA 25 #[v,.func (.func g) #[] lb] w (.bool true):=by
 have HIX:=hid (OJ g lb eg x0 v xs w h hl hP hx0)
 obtain⟨a,cap,rfl,_⟩:=h.len
 clear h hP hx0
 go_enter Tryz.func25,Tryz.ntmps25
 go_wp2_with fail
 refine HIX.out.use ?_
 rintro r w1 ⟨k,rfl⟩ g1
 go_wp2_with fail
 go_ret
 exact⟨rfl,g1⟩
end Go.Proofs.YtmffejnigppbpaaGreatDoor

set_option maxHeartbeats 4000000
set_option maxRecDepth 100000
namespace Go.Proofs.YtmffejnigppbpaaGreatDoor
open Go.RowKit
theorem EY{ps:List Pm}{n:Nat}(h:fK ps≤n)(hn:n≤1000000):CB ps∧ps.length≤1000000:=by
 refine⟨fun p hp=>?_,by unfold fK at h;omega⟩
 have h1:gG p≤(ps.map gG).sum:=kJ (List.mem_map_of_mem hp)
 have h2:gG p=p.1.length+p.2.length+(p.2.map List.length).sum:=rfl
 unfold fK at h
 constructor<;>omega
theorem JR(x y:Vl)(a b:Option Addr)(ca cb:Nat)(w:World)(ha:fA w (.slice a x.ps.length ca) x.ps)(hb:fA w (.slice b y.ps.length cb) y.ps)(hs:iL x.ps≤1000000)(hs2:iL y.ps≤1000000):dP 63 #[x.v (.slice a x.ps.length ca),y.v (.slice b y.ps.length cb)] w (fun r _=>∃t,r=.bool t∧(x=y→t=true)):=by
 obtain⟨ty,tx,ps,⟨y1,m,d,h,nn,s,zd,zn⟩,n⟩:=x
 obtain⟨ty',tx',ps',⟨y1',m',d',h',nn',s',zd',zn'⟩,n'⟩:=y
 simp only at ha hb hs hs2
 have SL:=hid (fun W (g:G w W)=>JH (ha.grow g) (hb.grow g) hs hs2)
 clear ha hb hs hs2
 obtain⟨bl,hbl⟩:∃bl,decide (ps=ps')=bl:=⟨_,rfl⟩
 rw[hbl]at SL
 have HBL:=hid hbl
 clear hbl
 simp only[Vl.v]
 cases h1:(ty==ty')with
 |false=>
  go_enter Tryz.func63,Tryz.ntmps63
  go_wp2_with fail
  go_ret
  exact⟨_,rfl,⟨_,rfl,fun e=>by injection e with e1;rw[e1]at h1;simp at h1⟩,(by repeat (first|exact G.refl _|assumption|apply G.drew|apply G.drewN|apply G.alloc|refine G.trans ?_ (by assumption)))⟩
 |true=>
 cases h2:(tx==tx')with
 |false=>
  go_enter Tryz.func63,Tryz.ntmps63
  go_wp2_with fail
  go_ret
  exact⟨_,rfl,⟨_,rfl,fun e=>by injection e with e1 e2;rw[e2]at h2;simp at h2⟩,(by repeat (first|exact G.refl _|assumption|apply G.drew|apply G.drewN|apply G.alloc|refine G.trans ?_ (by assumption)))⟩
 |true=>
  go_enter Tryz.func63,Tryz.ntmps63
  go_wp2_with fail
  refine(SL.out _ (((G.refl w).alloc _).alloc _)).use ?_
  intro w3 g3
  have ra:=hid (YC g3)
  have rb:=hid (YD g3)
  have G3:Hid (G w w3):=hid ((((G.refl w).alloc _).alloc _).trans g3)
  clear g3
  cases bl with
  |false=>
   go_wp2_with fail
   go_ret
   exact⟨_,rfl,⟨_,rfl,fun e=>by injection e with e1 e2 e3;have:=HBL.out;rw[e3]at this;simp at this⟩,G3.out⟩
  |true=>
   obtain⟨d0,d1,d2,d3,d4,d5,d6,d7,d8,d9,d10,d11⟩:=nZ ra.out
   obtain⟨e0,e1,e2,e3,e4,e5,e6,e7,e8,e9,e10,e11⟩:=nZ rb.out
   go_wp2_with fail
   all_goals
    go_ret
    exact⟨_,rfl,⟨_,rfl,fun e=>by
     injection e with q1 q2 q3 q4 q5
     injection q4 with r1 r2 r3 r4 r5 r6 r7 r8
     first|exact absurd r1 (by assumption)|exact absurd r2 (by assumption)|exact absurd r3 (by assumption)|exact absurd r4 (by assumption)|exact absurd r5 (by assumption)|exact absurd r6 (by assumption)|exact absurd r7 (by assumption)|exact absurd r8 (by assumption)|(subst q5;simp)⟩,by repeat (first|exact G3.out|apply G.drew)⟩
theorem NF(x y:It)(pa la pb lb:Value)(w:World)(ha:dG w x pa la)(hb:dG w y pb lb)(hs:Sml x)(hs2:Sml y):dP 27 #[x.val pa la,y.val pb lb] w (fun r _=>∃t,r=.bool t∧(x=y→t=true)):=by
 obtain⟨hsm,hps⟩:=EY hs.bounds.2.2.1 (by omega)
 obtain⟨hsm2,hps2⟩:=EY hs2.bounds.2.2.1 (by omega)
 have SP:=hid (fun W (g:G w W)=>IQ (ha.p.grow g) (hb.p.grow g) hps hps2 hsm hsm2)
 have LA:=hid ha.l
 have LB:=hid hb.l
 have HS:=hid (show iL x.v.ps≤1000000 by have:=hs.bounds.2.2.2.2.1;omega)
 have HS2:=hid (show iL y.v.ps≤1000000 by have:=hs2.bounds.2.2.2.2.1;omega)
 obtain⟨a1,c1,rfl⟩:=ha.pv
 obtain⟨a2,c2,rfl⟩:=ha.lv
 obtain⟨a3,c3,rfl⟩:=hb.pv
 obtain⟨a4,c4,rfl⟩:=hb.lv
 have SV:=hid (fun W (g:G w W)=>JR x.v y.v a2 a4 c2 c4 W (LA.out.grow g) (LB.out.grow g) HS.out HS2.out)
 simp only[Vl.v]at SV
 obtain⟨bp,hbp⟩:∃bp,decide (x.ps=y.ps)=bp:=⟨_,rfl⟩
 rw[hbp]at SP
 have HBP:=hid hbp
 clear ha hb hs hs2 hsm hps hsm2 hps2 LA LB HS HS2 hbp
 cases h1:(x.g==y.g)with
 |false=>
  go_enter Tryz.func27,Tryz.ntmps27
  go_wp2_with fail
  go_ret
  exact⟨_,rfl,⟨_,rfl,fun e=>by rw[e]at h1;simp at h1⟩,(by repeat (first|exact G.refl _|assumption|apply G.drew|apply G.drewN|apply G.alloc|refine G.trans ?_ (by assumption)))⟩
 |true=>
 cases h2:(x.n==y.n)with
 |false=>
  go_enter Tryz.func27,Tryz.ntmps27
  go_wp2_with fail
  go_ret
  exact⟨_,rfl,⟨_,rfl,fun e=>by rw[e]at h2;simp at h2⟩,(by repeat (first|exact G.refl _|assumption|apply G.drew|apply G.drewN|apply G.alloc|refine G.trans ?_ (by assumption)))⟩
 |true=>
  go_enter Tryz.func27,Tryz.ntmps27
  go_wp2_with fail
  generalize hw0:(w.alloc _).alloc _=w0
  have HB0:=hid (show w0.heap[w.heap.size]?=some (.cells (x.cells (.slice a1 x.ps.length c1) (.slice a2 x.v.ps.length c2)).toArray 38 (0,0)) by rw[←hw0,Lib.alloc_old _ _ _ (by simp)];exact heap_alloc_new w _)
  have HX0:=hid (show w0.heap[w.heap.size+1]?=some (.cells (y.cells (.slice a3 y.ps.length c3) (.slice a4 y.v.ps.length c4)).toArray 38 (0,0)) by rw[←hw0];exact pz _ _ _)
  have G0:=hid (show G w w0 by rw[←hw0];exact((G.refl w).alloc _).alloc _)
  clear hw0
  obtain⟨p0,p1,p2,p3,p4,p5,p6,p7,p8,p9,p10,p11,p12,p13,p14⟩:=aP HB0.out
  obtain⟨q0,q1,q2,q3,q4,q5,q6,q7,q8,q9,q10,q11,q12,q13,q14⟩:=aP HX0.out
  go_wp2_with fail
  refine(SP.out w0 G0.out).use ?_
  intro w1 g1
  clear p0 p1 p2 p3 p4 p5 p6 p7 p8 p9 p10 p11 p12 p13 p14 q0 q1 q2 q3 q4 q5 q6 q7 q8 q9 q10 q11 q12 q13 q14
  have HB1:=hid (aB HB0.out g1)
  have HX1:=hid (aB HX0.out g1)
  have G1:=hid (G0.out.trans g1)
  clear g1
  cases bp with
  |false=>
   go_wp2_with fail
   go_ret
   exact⟨_,rfl,⟨_,rfl,fun e=>by have:=HBP.out;rw[e]at this;simp at this⟩,G1.out⟩
  |true=>
   obtain⟨p0,p1,p2,p3,p4,p5,p6,p7,p8,p9,p10,p11,p12,p13,p14⟩:=aP HB1.out
   obtain⟨q0,q1,q2,q3,q4,q5,q6,q7,q8,q9,q10,q11,q12,q13,q14⟩:=aP HX1.out
   go_wp2_with fail
   refine(SV.out w1 G1.out).use ?_
   rintro r w2 ⟨t,rfl,ht⟩ g2
   clear p0 p1 p2 p3 p4 p5 p6 p7 p8 p9 p10 p11 p12 p13 p14 q0 q1 q2 q3 q4 q5 q6 q7 q8 q9 q10 q11 q12 q13 q14
   have HT:=hid ht
   clear ht
   go_wp2_with fail
   go_ret
   exact⟨_,rfl,⟨_,rfl,fun e=>HT.out (by rw[e])⟩,G1.out.trans g2⟩
end Go.Proofs.YtmffejnigppbpaaGreatDoor
