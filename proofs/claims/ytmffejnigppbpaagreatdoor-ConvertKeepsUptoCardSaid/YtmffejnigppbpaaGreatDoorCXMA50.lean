/-
  Texts merged into one: SumTo, Wide, Parts, EqStrs, SameProp.
-/
import Derived.Test.YtmffejnigppbpaaGreatDoorCXMA59
import Derived.Test.YtmffejnigppbpaaGreatDoorCXMA63
import Derived.Test.YtmffejnigppbpaaGreatDoorCXMA52
import Derived.IntWalk
import Derived.Test.YtmffejnigppbpaaGreatDoorCXMA49
import Derived.Test.YtmffejnigppbpaaGreatDoorCXShelf
set_option linter.unusedVariables false
set_option linter.unusedSimpArgs false
namespace Go.Proofs.YtmffejnigppbpaaGreatDoor
def nN{α:Type}(f:α→Nat)(l:List α)(k:Nat):Nat:=((l.take k).map f).sum
theorem wU{α:Type}(f:α→Nat)(l:List α):nN f l 0=0:=by simp[nN]
theorem wV{α:Type}(f:α→Nat)(l:List α)(k:Nat)(h:k<l.length):nN f l (k+1)=nN f l k+f l[k]:=by
 unfold nN
 rw[List.take_succ_eq_append_getElem h,List.map_append,List.sum_append]
 simp
theorem y9{α:Type}(f:α→Nat)(l:List α)(k:Nat)(h:l.length≤k):nN f l k=(l.map f).sum:=by
 unfold nN;rw[List.take_of_length_le h]
theorem qV{α:Type}(f:α→Nat)(l:List α)(k:Nat):nN f l k≤(l.map f).sum:=by
 unfold nN
 conv=>rhs;rw[←List.take_append_drop k l,List.map_append,List.sum_append]
 omega
end Go.Proofs.YtmffejnigppbpaaGreatDoor

set_option maxHeartbeats 4000000
set_option maxRecDepth 100000
namespace Go.Proofs.YtmffejnigppbpaaGreatDoor
open Go.RowKit
def gG(p:Pm):Nat:=p.1.length+p.2.length+(p.2.map List.length).sum
def fK(ps:List Pm):Nat:=ps.length+(ps.map gG).sum
theorem Zi(g n v:List UInt8)(pv:Value)(ps:List Pm)(w:World)(hP:eu w pv ps)(hb:fK ps≤2000000)(hg:g.length≤2000000)(hn:n.length≤2000000)(hv:v.length≤2000000) :
  dA 77 #[.agg #[.string (S g),.string (S n),pv,.string (S v)]] w (.bool (decide (2500<fK ps+g.length+n.length+v.length))):=by
 have H:=hid hP
 obtain⟨a,cap,rfl,_,_⟩:=hP
 have htot:ps.length+(ps.map gG).sum≤2000000:=hb
 have HW:Hid (fK ps=ps.length+(ps.map gG).sum):=hid rfl
 clear hb
 obtain⟨B0,hB0⟩:∃B0,B0=ps.length+g.length+n.length+v.length:=⟨_,rfl⟩
 have hb0:B0≤8000000:=by omega
 have HB0:=hid hB0
 go_enter Tryz.func77,Tryz.ntmps77
 go_wp2_with fail
 go_loopw [3,26] (fun m i wr=>∃k:Nat,k≤ps.length∧i=.int .i64 k∧m=.int .i64 ((B0+nN gG ps k:Nat):Int)∧G w wr) (fun _ i _=>ps.length-(intOf i).toNat)
 case atStart=>exact⟨0,Nat.zero_le _,rfl,by rw[wU,hB0];go_num,(by repeat (first|exact G.refl _|assumption|apply G.drew|apply G.drewN|apply G.alloc|refine G.trans ?_ (by assumption)))⟩
 case round=>
  obtain⟨k,hk,rfl,rfl,gr⟩:=hrel
  have GR:=hid gr
  have hst:=qV gG ps k
  clear gr hB0
  by_cases hlt:k<ps.length
  ·obtain⟨a2,cap2,e1,_,hc⟩:=H.out.grow GR.out
   obtain⟨b,off,e2,hbl,hcc⟩:=hc (by rintro rfl;simp at hlt)
   clear hc
   simp only[Value.slice.injEq,true_and]at e1
   obtain⟨rfl,rfl⟩:=e1
   subst e2
   obtain⟨sv,c1,c2,c3⟩:=hcc k _ (List.getElem?_eq_getElem hlt)
   have hsn:=wV gG ps k hlt
   have hst2:=qV gG ps (k+1)
   obtain⟨p,hpe⟩:∃p,ps[k]=p:=⟨_,rfl⟩
   rw[hpe]at c1 c3 hsn
   obtain⟨nm,x⟩:=p
   obtain⟨xa,xc,rfl,_⟩:=c3.len
   have I1:=hid c3
   simp only[gG]at hsn c1
   obtain⟨B,hB⟩:∃B,B0+nN gG ps k=B:=⟨_,rfl⟩
   have hB2:B+nm.length+x.length+(x.map List.length).sum≤12000000:=by omega
   have HSN:Hid (B0+nN gG ps (k+1)=B+nm.length+x.length+(x.map List.length).sum):=hid (by omega)
   rw[hB]
   clear hcc c3 hpe hsn hst2 hB hst
   go_wp2_with fail
   generalize hwa:World.alloc wr _=wa
   have GA:Hid (G w wa):=hid (by rw[←hwa];exact GR.out.alloc _)
   have I2:Hid (di wa (.slice xa x.length xc) x):=hid (I1.out.grow (by rw[←hwa];exact(G.refl _).alloc _))
   clear hwa c1 c2
   go_loop [3,42] (fun m i=>∃j:Nat,j≤x.length∧i=.int .i64 j∧m=.int .i64 ((B+nm.length+x.length+nN List.length x j:Nat):Int)) (fun _ i=>x.length-(intOf i).toNat)
   case atStart=>exact⟨0,Nat.zero_le _,rfl,by rw[wU];go_num⟩
   case round=>
    obtain⟨j,hj,rfl,rfl⟩:=hrel
    have hst:=qV List.length x j
    by_cases hjt:j<x.length
    ·obtain⟨b2,o2,c2,e2,_,hb2',hc2⟩:=I2.out.at_ (by rintro rfl;simp at hjt)
     simp only[Value.slice.injEq,true_and]at e2
     obtain⟨rfl,rfl⟩:=e2
     have d2:=hc2 j _ (List.getElem?_eq_getElem hjt)
     have hsn:=wV List.length x j hjt
     have hst2:=qV List.length x (j+1)
     obtain⟨s,hs⟩:∃s,x[j]=s:=⟨_,rfl⟩
     rw[hs]at d2 hsn
     have hs2:B+nm.length+x.length+nN List.length x j+s.length≤12000000:=by omega
     have HSJ:=hid hsn
     clear hc2 hs hsn hst2
     go_wp2_with fail
     go_round
     case rel=>exact⟨j+1,by omega,by go_num,by rw[HSJ.out];go_num⟩
     case measure=>simp[intOf];omega
    ·obtain rfl:j=x.length:=by omega
     have HE:Hid (nN List.length x x.length=(x.map List.length).sum):=hid (y9 _ _ _ (Nat.le_refl _))
     rw[HE.out]
     go_wp2_with fail
     go_roundw
     case rel=>exact⟨k+1,by omega,by go_num,by rw[HSN.out],GA.out⟩
     case measure=>simp[intOf];omega
  ·obtain rfl:k=ps.length:=by omega
   have HE:Hid (nN gG ps ps.length=(ps.map gG).sum):=hid (y9 _ _ _ (Nat.le_refl _))
   rw[HE.out]
   go_wp2_with fail
   go_ret
   exact⟨cO (by rw[HW.out,HB0.out,Bool.eq_iff_iff];simp;omega),GR.out⟩
end Go.Proofs.YtmffejnigppbpaaGreatDoor

namespace Go.Proofs.YtmffejnigppbpaaGreatDoor
open Go.RowKit
structure PK(w0 w:World)(v:Value)(done:List (List (List UInt8)×Value))(last:List (List UInt8))(fv:Value):Prop where
 row:w.ownsRow w0.heap.size 39 1 v (done.length+1) (done.map (·.2)++[fv])
 own:w.ownsRow w0.heap.size 9 1 fv last.length (last.map fun l=>.string (S l))
 old:∀d∈done,w.ownsRow w0.heap.size 9 1 d.2 d.1.length (d.1.map fun l=>.string (S l))∧(d.2.ownBlock=none∨d.2.ownBlock≠fv.ownBlock)
theorem PK.new(w:World)(t:List UInt8):PK w ((w.alloc (.cells #[.string (S t)] 9)).alloc (.cells #[.slice (some ⟨w.heap.size,0,none⟩) 1 1] 39)) (.slice (some ⟨w.heap.size+1,0,none⟩) 1 1) [] [t] (.slice (some ⟨w.heap.size,0,none⟩) 1 1):=by
 refine⟨⟨rfl,.inr ⟨w.heap.size+1,1,#[.slice (some ⟨w.heap.size,0,none⟩) 1 1],rfl,by omega,?_,Nat.le_refl _,by unfold maxLen;omega,rfl,rfl⟩⟩,⟨rfl,.inr ⟨w.heap.size,1,#[.string (S t)],rfl,Nat.le_refl _,?_,Nat.le_refl _,by unfold maxLen;omega,rfl,rfl⟩⟩,by simp⟩
 ·have:=heap_alloc_new (w.alloc (.cells #[.string (S t)] 9)) (.cells #[.slice (some ⟨w.heap.size,0,none⟩) 1 1] 39)
  simpa using this
 ·rw[Lib.alloc_old _ _ _ (by simp)]
  exact heap_alloc_new w _
def vN(w:World)(base:Nat)(v:Value)(ls:List (List (List UInt8))):Prop:=∃vs:List Value,vs.length=ls.length∧(∀(i:Nat) (l:List (List UInt8)) (u:Value),ls[i]?=some l→vs[i]?=some u→w.ownsRow base 9 1 u l.length (l.map fun x=>.string (S x)))∧w.ownsRow base 39 1 v ls.length vs
theorem vN.kept{w w':World}{base:Nat}{v:Value}{ls:List (List (List UInt8))}{k:Nat}(h:vN w base v ls)(g:w.grownBy w' (some k))(hk:k<base):vN w' base v ls:=by
 obtain⟨vs,h1,h2,h3⟩:=h
 exact⟨vs,h1,fun i l u hl hu=>(h2 i l u hl hu).kept g (l9 (h2 i l u hl hu) hk),h3.kept g (l9 h3 hk)⟩
theorem vN.put{w:World}{base:Nat}{v:Value}{ls:List (List (List UInt8))}{k i:Nat}{x:Value}(h:vN w base v ls)(hk:k<base):vN (w.setCell ⟨k,i,none⟩ x) base v ls:=h.kept (AC w k i x) hk
theorem vN.grow{w w':World}{base:Nat}{v:Value}{ls:List (List (List UInt8))}(h:vN w base v ls)(g:G w w'):vN w' base v ls:=by
 have e:∀v:Value,v.ownBlock=none∨v.ownBlock≠none:=fun v=>by cases v.ownBlock with|none=>exact .inl rfl|some _=>exact .inr (by simp)
 obtain⟨vs,h1,h2,h3⟩:=h
 exact⟨vs,h1,fun i l u hl hu=>(h2 i l u hl hu).kept (rM none g) (e _),h3.kept (rM none g) (e _)⟩
theorem vN.one{w:World}{base:Nat}{u:Value}{l:List (List UInt8)}(h:w.ownsRow base 9 1 u l.length (l.map fun x=>.string (S x)))(hb:base≤w.heap.size):vN (w.alloc (.cells #[u] 39)) base (.slice (some ⟨w.heap.size,0,none⟩) 1 1) [l]:=by
 refine⟨[u],rfl,fun i l' u' hl hu=>?_,rfl,.inr ⟨w.heap.size,1,#[u],rfl,hb,heap_alloc_new w _,Nat.le_refl _,by unfold maxLen;omega,rfl,rfl⟩⟩
 match i,hl,hu with
 |0,hl,hu=>cases hl;cases hu;exact pW h fun k _ hk=>Lib.alloc_old w _ k hk
def Np(n:Nat)(r:jD)(v:Value)(w':World):Prop:=
 match r with
 |.good ts cs=>∃tv base,n≤base∧v=.tuple #[tv,.nilIface]∧vN w' base tv (iR [ts.headD []] cs ts.tail)
 |.bad c p=>∃e,v=.tuple #[.slice none 0 0,e]∧ji w' e c p
theorem Np.good{n base:Nat}{r:jD}{t:List UInt8}{ts:List (List UInt8)}{cs:List UInt8}{tv:Value}{w':World}(h:r=.good (t::ts) cs)(hb:n≤base)(h1:vN w' base tv (iR [t] cs ts)):Np n r (.tuple #[tv,.nilIface]) w':=by subst h;exact⟨_,base,hb,rfl,h1⟩
theorem Np.bad{n:Nat}{r:jD}{c:Int}{p:Nat}{e:Value}{w':World}(h:r=.bad c p)(he:ji w' e c p):Np n r (.tuple #[.slice none 0 0,e]) w':=by subst h;exact⟨e,rfl,he⟩
def Yk(r:jD)(v:Value)(w':World):Prop:=
 match r with
 |.good ts cs=>∃tv,v=.tuple #[tv,.nilIface]∧fA w' tv (iR [ts.headD []] cs ts.tail)
 |.bad c p=>∃e,v=.tuple #[.slice none 0 0,e]∧ji w' e c p
theorem Yk.good{r:jD}{t:List UInt8}{ts:List (List UInt8)}{cs:List UInt8}{tv:Value}{w':World}(h:r=.good (t::ts) cs)(h1:fA w' tv (iR [t] cs ts)):Yk r (.tuple #[tv,.nilIface]) w':=by subst h;exact⟨_,rfl,h1⟩
theorem Nq(cur:List (List UInt8))(c:UInt8)(cs:List UInt8)(t:List UInt8)(ts:List (List UInt8)):iR cur (c::cs) (t::ts)=if c=59 then cur::iR [t] cs ts else iR (cur++[t]) cs ts:=rfl
theorem yQ.at_{w:World}{v:Value}{l:List UInt8}(h:yQ w v l)(h0:l≠[]):∃b off cap,v=.slice (some ⟨b,off,none⟩) l.length cap∧b<w.heap.size∧∀(i:Nat) (c:UInt8),l[i]?=some c→w.cell? ⟨b,off+i,none⟩=some (.int .u8 (c.toNat:Int)):=by
 obtain⟨h1,h2,h3⟩:=h
 rcases h3 with⟨h3,_⟩|⟨b,off,cap,e,hb,hn,hc⟩
 ·exact absurd (List.eq_nil_of_length_eq_zero h3) h0
 ·refine⟨b,off,cap,e,hb,fun i c hl=>?_⟩
  have hi:i<l.length:=by
   rcases Nat.lt_or_ge i l.length with h|h
   ·exact h
   ·rw[List.getElem?_eq_none h]at hl;cases hl
  rw[hc i (by simpa using hi)]
  rw[List.getElem?_eq_getElem hi]at hl
  injection hl with hl
  simp[hl]
end Go.Proofs.YtmffejnigppbpaaGreatDoor

namespace Go.Proofs.YtmffejnigppbpaaGreatDoor
open Go.RowKit
theorem VY{a b:List (List UInt8)}(h:a.map S=b.map S):a=b:=by
 induction a generalizing b with
 |nil=>cases b with|nil=>rfl|cons _ _=>simp at h
 |cons x a ih=>
  cases b with
  |nil=>simp at h
  |cons y b=>
   simp only[List.map_cons,List.cons.injEq]at h
   rw[Xr.1 h.1,ih h.2]
theorem X5{va vb:Value}{xs ys:List (List UInt8)}{w:World}(ha:di w va xs)(hb:di w vb ys)(lx:xs.length≤1000000)(ly:ys.length≤1000000) :
  Calls Tryz.prog 104 #[va,vb] w fun e w'=>e=.returned (.bool (decide (xs=ys)))∧∃q,w'=w.drewN q:=by
 obtain⟨aa,ca,hva,_⟩:=ha.len
 obtain⟨ab,cb,hvb,_⟩:=hb.len
 by_cases hn:xs.length=ys.length
 ·by_cases h0:xs=[]
  ·subst h0
   have:ys=[]:=List.eq_nil_of_length_eq_zero (by rw[←hn];rfl)
   subst this
   subst hva;subst hvb
   refine(Tryz.slices_Equal_string_empty aa ab ca 0 cb w (by omega)).mono ?_
   rintro e w' ⟨rfl,rfl⟩
   exact⟨by simp,0,rfl⟩
  ·have h1:ys≠[]:=by rintro rfl;exact h0 (List.eq_nil_of_length_eq_zero (by rw[hn];rfl))
   obtain⟨b1,o1,c1,rfl,_,_,hc1⟩:=ha.at_ h0
   obtain⟨b2,o2,c2,rfl,_,_,hc2⟩:=hb.at_ h1
   have key:∀(l:List (List UInt8)) (b o:Nat),(∀(i:Nat) (x:List UInt8),l[i]?=some x→w.cell? ⟨b,o+i,none⟩=some (.string (S x)))→∀j,j<(l.map S).length→w.cell? ⟨b,o+j,none⟩=some (.string ((l.map S).getD j ByteArray.empty)):=by
    intro l b o h j hj
    have hj':j<l.length:=by simpa using hj
    rw[h j l[j] (List.getElem?_eq_getElem hj')]
    simp[List.getD,List.getElem?_eq_getElem hj']
   refine(Tryz.slices_Equal_string b1 o1 xs.length c1 b2 o2 ys.length c2 (xs.map S) (ys.map S) w (by simp) (by simp) (by omega) (by omega) (key xs b1 o1 hc1) (key ys b2 o2 hc2)).mono ?_
   rintro e w' ⟨rfl,hq⟩
   refine⟨cO ?_,hq⟩
   rw[List.take_of_length_le (by simp),List.take_of_length_le (by simp)]
   exact decide_eq_decide.2 ⟨VY,fun h=>by rw[h]⟩
 ·subst hva;subst hvb
  refine(Tryz.slices_Equal_string_lens aa ab xs.length ca ys.length cb w hn).mono ?_
  rintro e w' ⟨rfl,rfl⟩
  exact⟨cO (decide_eq_false (fun e=>hn (by rw[e]))).symm,0,rfl⟩
theorem G.ofDrewN{w w':World}(h:∃q,w'=w.drewN q):G w w':=by
 obtain⟨q,rfl⟩:=h;exact(G.refl w).drewN q
theorem Hz{va vb:Value}{xs ys:List (List UInt8)}{w:World}(ha:di w va xs)(hb:di w vb ys)(lx:xs.length≤1000000)(ly:ys.length≤1000000):dA 104 #[va,vb] w (.bool (decide (xs=ys))):=
 (X5 ha hb lx ly).mono fun e w' ⟨h1,h2⟩=>⟨h1,G.ofDrewN h2⟩
theorem di.lit(w:World)(ls:List (List UInt8))(n:Nat)(hn:n=ls.length)(h:ls≠[]):di (w.alloc (.cells ((ls.map S).map Value.string).toArray 9)) (.slice (some ⟨w.heap.size,0,none⟩) n n) ls:=by
 subst hn;exact zU w _ ls h
end Go.Proofs.YtmffejnigppbpaaGreatDoor

set_option maxHeartbeats 2000000
set_option maxRecDepth 100000
namespace Go.Proofs.YtmffejnigppbpaaGreatDoor
open Go.RowKit
theorem Tv(n m:List UInt8)(va vb:Value)(xs ys:List (List UInt8))(w:World)(ha:di w va xs)(hb:di w vb ys)(lx:xs.length≤1000000)(ly:ys.length≤1000000)(ln:n.length≤1000000)(lm:m.length≤1000000) :
  dA 103 #[.agg #[.string (S n),va],.agg #[.string (S m),vb]] w (.bool (decide ((n,xs)=(m,ys)))):=by
 have HA:=hid ha
 have HB:=hid hb
 obtain⟨aa,ca,rfl,_⟩:=ha.len
 obtain⟨ab,cb,rfl,_⟩:=hb.len
 clear ha hb
 by_cases hnm:n=m
 ·subst hnm
  have hd:decide ((n,xs)=(n,ys))=decide (xs=ys):=by simp
  rw[hd]
  clear hd
  go_enter Tryz.func103,Tryz.ntmps103
  go_wp2_with fail
  refine(Hz (HA.out.grow (by repeat (first|exact G.refl _|assumption|apply G.drew|apply G.drewN|apply G.alloc|refine G.trans ?_ (by assumption)))) (HB.out.grow (by repeat (first|exact G.refl _|assumption|apply G.drew|apply G.drewN|apply G.alloc|refine G.trans ?_ (by assumption)))) lx ly).use ?_
  intro w1 g1
  go_wp2_with fail
  go_ret
  exact⟨rfl,G.trans (by repeat (first|exact G.refl _|assumption|apply G.drew|apply G.drewN|apply G.alloc|refine G.trans ?_ (by assumption))) g1⟩
 ·have hd:decide ((n,xs)=(m,ys))=false:=decide_eq_false fun e=>hnm (congrArg Prod.fst e)
  have hz:(n==m)=false:=beq_eq_false_iff_ne.2 hnm
  rw[hd]
  clear hd hnm
  go_enter Tryz.func103,Tryz.ntmps103
  go_wp2_with fail
  go_ret
  exact⟨rfl,(by repeat (first|exact G.refl _|assumption|apply G.drew|apply G.drewN|apply G.alloc|refine G.trans ?_ (by assumption)))⟩
def CB(ps:List Pm):Prop:=∀p∈ps,p.1.length≤1000000∧p.2.length≤1000000
theorem NE{va vb:Value}{xs ys:List Pm}{w:World}(ha:eu w va xs)(hb:eu w vb ys)(lx:xs.length≤1000000)(ly:ys.length≤1000000)(sx:CB xs)(sy:CB ys) :
  dA 102 #[va,vb,.func (.func 103) #[] #[]] w (.bool (decide (xs=ys))):=by
 have HA:=hid ha
 have HB:=hid hb
 obtain⟨aa,ca,rfl,_,_⟩:=ha
 obtain⟨ab,cb,rfl,_,_⟩:=hb
 have SX:=hid sx
 have SY:=hid sy
 clear sx sy
 by_cases hn:xs.length=ys.length
 ·have hb1:((xs.length:Int) != (ys.length:Int))=false:=by rw[hn];simp
  have HN:=hid hn
  clear hn
  go_enter Tryz.func102,Tryz.ntmps102
  go_wp2_with fail
  go_loopw [17] (fun i wr=>∃k:Nat,k≤xs.length∧i=.int .i64 k∧G w wr∧∀j,j<k→xs[j]?=ys[j]?) (fun i _=>xs.length-(intOf i).toNat)
  case atStart=>exact⟨0,Nat.zero_le _,rfl,G.refl _,by omega⟩
  case round=>
   obtain⟨k,hk,rfl,g,hall⟩:=hrel
   have HG:=hid g
   have HALL:=hid hall
   clear g hall
   by_cases hlt:k<xs.length
   ·have hlt2:k<ys.length:=by rw[←HN.out];exact hlt
    obtain⟨a1,c1,e1,_,hc1⟩:=HA.out
    obtain⟨b1,o1,e1',hb1',hcc1⟩:=hc1 (by rintro rfl;simp at hlt)
    obtain⟨a2,c2,e2,_,hc2⟩:=HB.out
    obtain⟨b2,o2,e2',hb2',hcc2⟩:=hc2 (by rintro rfl;simp at hlt2)
    simp only[Value.slice.injEq,true_and]at e1 e2
    obtain⟨rfl,rfl⟩:=e1
    obtain⟨rfl,rfl⟩:=e2
    subst e1';subst e2'
    obtain⟨s1,d1,f1,i1⟩:=hcc1 k _ (List.getElem?_eq_getElem hlt)
    obtain⟨s2,d2,f2,i2⟩:=hcc2 k _ (List.getElem?_eq_getElem hlt2)
    obtain⟨x,hx⟩:∃x,xs[k]=x:=⟨_,rfl⟩
    obtain⟨y,hy⟩:∃y,ys[k]=y:=⟨_,rfl⟩
    have zx:=SX.out _ (List.getElem_mem hlt)
    have zy:=SY.out _ (List.getElem_mem hlt2)
    rw[hx]at i1 zx d1
    rw[hy]at i2 zy d2
    have I1:=hid i1
    have I2:=hid i2
    obtain⟨ax,cx,rfl,_⟩:=i1.len
    obtain⟨ay,cy,rfl,_⟩:=i2.len
    rw[←HG.out.cell (p:=⟨b1,o1+k*2,none⟩) hb1']at d1
    rw[←HG.out.cell (p:=⟨b2,o2+k*2,none⟩) hb2']at d2
    rw[←HG.out.cell (p:=⟨b1,o1+k*2+1,none⟩) hb1']at f1
    rw[←HG.out.cell (p:=⟨b2,o2+k*2+1,none⟩) hb2']at f2
    have bl1:b1<wr.heap.size:=Nat.lt_of_lt_of_le hb1' HG.out.size
    have bl2:b2<wr.heap.size:=Nat.lt_of_lt_of_le hb2' HG.out.size
    have HX:=hid hx
    have HY:=hid hy
    have ZX:=hid zx
    have ZY:=hid zy
    obtain⟨n,x⟩:=x
    obtain⟨m,y⟩:=y
    clear hx hy i1 i2 hc1 hc2 hcc1 hcc2 zx zy
    simp only at d1 d2
    obtain⟨r,hr⟩:∃r,decide ((n,x)=(m,y))=r:=⟨_,rfl⟩
    have SP:=hid (fun W (g:G wr W)=>show dA 103 #[.agg #[.string (S n),.slice ax x.length cx],.agg #[.string (S m),.slice ay y.length cy]] W (.bool r) by rw[←hr];exact Tv n m _ _ x y W (I1.out.grow (G.trans HG.out g)) (I2.out.grow (G.trans HG.out g)) ZX.out.2 ZY.out.2 ZX.out.1 ZY.out.1)
    have HRR:=hid hr
    clear hr
    go_wp2_with (go_at_call 103;refine(SP.out _ (by repeat (first|exact G.refl _|assumption|apply G.drew|apply G.drewN|apply G.alloc|refine G.trans ?_ (by assumption)))).use ?_)
    intro w1 g1
    have G1:=hid (HG.out.trans (G.trans (by repeat (first|exact G.refl _|assumption|apply G.drew|apply G.drewN|apply G.alloc|refine G.trans ?_ (by assumption))) g1))
    clear g1
    cases r with
    |true=>
     go_wp2_with fail
     go_roundw
     case rel=>
      refine⟨k+1,by omega,by go_num,G1.out,fun j hj=>?_⟩
      rcases Nat.lt_or_ge j k with h|h
      ·exact HALL.out j h
      ·obtain rfl:j=k:=by omega
       rw[List.getElem?_eq_getElem hlt,List.getElem?_eq_getElem hlt2,HX.out,HY.out,of_decide_eq_true HRR.out]
     case measure=>simp[intOf];omega
    |false=>
     have HR:Hid (decide (xs=ys)=false):=hid (decide_eq_false (by
      intro e
      apply of_decide_eq_false HRR.out
      rw[←HX.out,←HY.out]
      simp only[e]))
     go_wp2_with fail
     go_ret
     exact⟨cO HR.out.symm,G1.out⟩
   ·have HR:Hid (decide (xs=ys)=true):=hid (decide_eq_true (by
     apply List.ext_getElem?
     intro j
     rcases Nat.lt_or_ge j k with h|h
     ·exact HALL.out j h
     ·rw[List.getElem?_eq_none (by omega),List.getElem?_eq_none (by have:=HN.out;omega)]))
    go_wp2_with fail
    go_ret
    exact⟨cO HR.out.symm,HG.out⟩
 ·have hb1:((xs.length:Int) != (ys.length:Int))=true:=by simp;omega
  have HR:Hid (decide (xs=ys)=false):=hid (decide_eq_false fun e=>hn (by rw[e]))
  clear hn
  go_enter Tryz.func102,Tryz.ntmps102
  go_wp2_with fail
  go_ret
  exact⟨cO HR.out.symm,G.refl _⟩
theorem IQ{va vb:Value}{xs ys:List Pm}{w:World}(ha:eu w va xs)(hb:eu w vb ys)(lx:xs.length≤1000000)(ly:ys.length≤1000000)(sx:CB xs)(sy:CB ys) :
  dA 62 #[va,vb] w (.bool (decide (xs=ys))):=by
 have EQ:=hid (fun W (g:G w W)=>NE (ha.grow g) (hb.grow g) lx ly sx sy)
 obtain⟨aa,ca,rfl,_,_⟩:=ha
 obtain⟨ab,cb,rfl,_,_⟩:=hb
 go_enter Tryz.func62,Tryz.ntmps62
 go_wp2_with fail
 refine(EQ.out _ (by repeat (first|exact G.refl _|assumption|apply G.drew|apply G.drewN|apply G.alloc|refine G.trans ?_ (by assumption)))).use ?_
 intro w1 g1
 go_wp2_with fail
 go_ret
 exact⟨rfl,g1⟩
end Go.Proofs.YtmffejnigppbpaaGreatDoor
