/-
  Texts merged into one: OpenItem, ConvMedia, ConvBig.
-/
import Derived.Test.YtmffejnigppbpaaGreatDoorCXMA56
import Derived.Test.YtmffejnigppbpaaGreatDoorCXMA60
import Derived.Test.YtmffejnigppbpaaGreatDoorCXMA51
import Derived.Test.YtmffejnigppbpaaGreatDoorCXMA71
import Derived.Carry
import Derived.Test.YtmffejnigppbpaaGreatDoorCXMA73
import Derived.Test.YtmffejnigppbpaaGreatDoorCXPrefers
import Derived.Test.YtmffejnigppbpaaGreatDoorCXMA62
set_option linter.unusedVariables false
set_option linter.unusedSimpArgs false
set_option maxHeartbeats 1000000
set_option maxRecDepth 100000
namespace Go.Proofs.YtmffejnigppbpaaGreatDoor
open Go.RowKit Go.ChangeShapes Go.WideShapes
theorem SH{n:Int}(h:(Lit.int .i64 n).wf=true) : -9223372036854775808≤n∧n≤9223372036854775807:=by
 simpa[Lit.wf,IntKind.min,IntKind.max,IntKind.signed,IntKind.bits]using h
instance:Inhabited It:=⟨⟨[],[],[],⟨0,[],[],St0,0⟩⟩⟩
theorem ZT{l:List Nat}{a:Nat}(h:a∈l):a≤l.sum:=by
 induction l with
 |nil=>cases h
 |cons b l ih=>
  rw[List.sum_cons]
  rcases List.mem_cons.1 h with rfl|h
  ·omega
  ·have:=ih h;omega
def D7(x:It):Nat:=x.g.length+x.n.length+fK x.ps+x.v.tx.length+iL x.v.ps
theorem abC{x:It}(h:D7 x≤1048576):Lim x:=by unfold D7 at h;exact⟨by omega,by omega,by omega,by omega,by omega⟩
section
variable {H:Type} {enc:TypeId×Value→H} {w:World}
theorem ZU{fuel:Nat}{cs:List Value}{x:DataW H×List MemPlace}(h:DataW.trod enc Tryz.prog w 0 (fun _=>true) true fuel 36 cs=some x) :
  ∃(y:Vl) (lv:Value),cs=y.cells lv∧fA w lv y.ps∧y.tx.length+iL y.ps≤Rows.uptoBulk x.1∧(-9223372036854775808≤y.st.y∧y.st.y≤9223372036854775807)∧(-9223372036854775808≤y.ty∧y.ty≤9223372036854775807):=by
 obtain⟨xs,n,_,hx,hl,hlen,hfs⟩:=DataW.trod_struct Tryz.underlying36 h
 have h12:cs.length=12:=hl.trans (by kernel_rfl)
 have hxl:xs.length=5:=hlen
 match cs,h12 with
 |[c0,c1,c2,c3,c4,c5,c6,c7,c8,c9,c10,c11],_=>
 match xs,hxl with
 |[x0,x1,x2,x3,x4],_=>
 have k0:=hfs 0 _ rfl
 have k1:=hfs 1 _ rfl
 have k2:=hfs 2 _ rfl
 have k3:=hfs 3 _ rfl
 have k4:=hfs 4 _ rfl
 obtain⟨a0,e0,f0,w0⟩:=DataW.trod_int Tryz.underlying3 k0
 obtain⟨l,e1,z1⟩:=vM Tryz.underlying9 k1
 obtain⟨pv,ls,e2,hL,z2⟩:=SN Tryz.underlying32 Tryz.underlying39 Tryz.underlying9 (by kernel_rfl) (by kernel_rfl) k2
 obtain⟨ys,n',_,hy,hl',hlen',hgs⟩:=DataW.trod_struct Tryz.underlying34 k3
 obtain⟨a4,e4,f4,w4⟩:=DataW.trod_int Tryz.underlying3 k4
 have hyl:ys.length=8:=hlen'
 match ys,hyl with
 |[y0,y1,y2,y3,y4,y5,y6,y7],_=>
 have q0:=hgs 0 _ rfl
 have q1:=hgs 1 _ rfl
 have q2:=hgs 2 _ rfl
 have q3:=hgs 3 _ rfl
 have q4:=hgs 4 _ rfl
 have q5:=hgs 5 _ rfl
 have q6:=hgs 6 _ rfl
 have q7:=hgs 7 _ rfl
 obtain⟨b0',m0,_,v0⟩:=DataW.trod_int Tryz.underlying3 q0
 obtain⟨b1,m1,_,_⟩:=DataW.trod_int Tryz.underlying3 q1
 obtain⟨b2,m2,_,_⟩:=DataW.trod_int Tryz.underlying3 q2
 obtain⟨b3,m3,_,_⟩:=DataW.trod_int Tryz.underlying3 q3
 obtain⟨b4,m4,_,_⟩:=DataW.trod_int Tryz.underlying3 q4
 obtain⟨b5,m5,_,_⟩:=DataW.trod_int Tryz.underlying3 q5
 obtain⟨b6,m6,_⟩:=DataW.trod_bool Tryz.underlying4 q6
 obtain⟨b7,m7,_,_⟩:=DataW.trod_int Tryz.underlying3 q7
 have g0:c0=.int .i64 a0:=(List.cons.inj e0).1
 have g1:c1=.string (S l):=(List.cons.inj e1).1
 have g2:c2=pv:=(List.cons.inj e2).1
 have g3:c3=.int .i64 b0':=(List.cons.inj m0).1
 have g4:c4=.int .i64 b1:=(List.cons.inj m1).1
 have g5:c5=.int .i64 b2:=(List.cons.inj m2).1
 have g6:c6=.int .i64 b3:=(List.cons.inj m3).1
 have g7:c7=.int .i64 b4:=(List.cons.inj m4).1
 have g8:c8=.int .i64 b5:=(List.cons.inj m5).1
 have g9:c9=.bool b6:=(List.cons.inj m6).1
 have g10:c10=.int .i64 b7:=(List.cons.inj m7).1
 have g11:c11=.int .i64 a4:=(List.cons.inj e4).1
 subst g0 g1 g2 g3 g4 g5 g6 g7 g8 g9 g10 g11
 have hd:x.1=.agg [x0.1,x1.1,x2.1,x3.1,x4.1]:=(Prod.mk.injEq _ _ _ _▸hx).1
 refine⟨⟨a0,l,ls,⟨b0',b1,b2,b3,b4,b5,b6,b7⟩,a4⟩,_,rfl,hL,?_,SH v0,SH w0⟩
 rw[hd]
 simp only[Rows.uptoBulk,Rows.uptoBulkAll]
 omega
theorem KT{fuel:Nat}{cs:List Value}{x:DataW H×List MemPlace}(h:DataW.trod enc Tryz.prog w 0 (fun _=>true) true fuel 38 cs=some x) :
  ∃(y:It) (pv lv:Value),cs=y.cells pv lv∧dG w y pv lv∧D7 y+1≤Rows.uptoBulk x.1:=by
 obtain⟨xs,n,_,hx,hl,hlen,hfs⟩:=DataW.trod_struct Tryz.underlying38 h
 have hxl:xs.length=4:=hlen
 have h2:cs.length=15:=hl.trans (by kernel_rfl)
 match cs,h2 with
 |[c0,c1,c2,c3,c4,c5,c6,c7,c8,c9,c10,c11,c12,c13,c14],_=>
 match xs,hxl with
 |[x0,x1,x2,x3],_=>
 have k0:=hfs 0 _ rfl
 have k1:=hfs 1 _ rfl
 have k2:=hfs 2 _ rfl
 have k3:=hfs 3 _ rfl
 obtain⟨l0,e0,z0⟩:=vM Tryz.underlying9 k0
 obtain⟨l1,e1,z1⟩:=vM Tryz.underlying9 k1
 obtain⟨v2,ps,e2,hP,z2⟩:=PD k2
 obtain⟨v2',e2',hf⟩:=D8 k2
 obtain⟨y,lv,e3,hL,z3,hy,ht⟩:=ZU k3
 have g0:c0=.string (S l0):=(List.cons.inj e0).1
 have g1:c1=.string (S l1):=(List.cons.inj e1).1
 have g2:c2=v2:=(List.cons.inj e2).1
 have g2':c2=v2':=(List.cons.inj e2').1
 have g3:[c3,c4,c5,c6,c7,c8,c9,c10,c11,c12,c13,c14]=y.cells lv:=e3
 subst g0 g1 g2
 subst g2'
 refine⟨⟨l0,l1,ps,y⟩,_,lv,?_,⟨hP,hL,hf,hy,ht⟩,?_⟩
 ·show _::_::_::[c3,c4,c5,c6,c7,c8,c9,c10,c11,c12,c13,c14]=_
  rw[g3];rfl
 ·have hd:x.1=.agg [x0.1,x1.1,x2.1,x3.1]:=(Prod.mk.injEq _ _ _ _▸hx).1
  rw[hd]
  unfold D7
  simp only[Rows.uptoBulk,Rows.uptoBulkAll]
  omega
theorem SK{fuel:Nat}{cs:List Value}{x:DataW H×List MemPlace}(h:DataW.trod enc Tryz.prog w 0 (fun _=>true) true fuel 22 cs=some x) :
  ∃v xs,cs=[v]∧dX w v xs∧(v=.slice none 0 0∨∃a n c,v=.slice (some a) n c)∧xs.length+1≤Rows.uptoBulk x.1∧∀y∈xs,D7 y≤Rows.uptoBulk x.1:=by
 obtain⟨v,n,m,CS,D,rfl,hrow,hcap,hel,hb⟩:=vK (k:=15) Tryz.underlying22 (by kernel_rfl) (by omega) (fun m cs y hy u hu=>by
  obtain⟨p,pv,lv,rfl,hs,_⟩:=KT hy
  exact hs.one u hu) h
 obtain⟨L,hL⟩:=Deep.choose_lt (α:=It) (p:=fun i p=>∃pv lv,CS i=p.cells pv lv∧dG w p pv lv∧D7 p+1≤Rows.uptoBulk (D i)) (fun i hi=>by
  obtain⟨_,Pl,hp⟩:=hel i hi
  exact KT hp)
 obtain⟨hlen,hone,hr⟩:=hrow
 have hll:((List.range n).map L).length=n:=by simp
 have h4:=wH (fun i=>D7 (L i)+1) (fun i=>Rows.uptoBulk (D i)) n fun i hi=>by obtain⟨_,_,_,_,h⟩:=hL i hi;omega
 have h5:((List.range n).map fun i=>D7 (L i)+1).sum=n+((List.range n).map fun i=>D7 (L i)).sum:=by
  clear h4 hll hr hone hlen hb hel h hL
  induction n with
  |zero=>rfl
  |succ n ih=>rw[List.range_succ,List.map_append,List.map_append,List.sum_append,List.sum_append,ih];simp;omega
 refine⟨v,(List.range n).map L,rfl,?_,?_,by rw[hll];omega,fun y hy=>?_⟩
 ·rcases hr with⟨rfl,hv⟩|⟨b,off,cap,rfl,hbl,hn,hc⟩
  ·rcases hv with rfl|⟨a,c,rfl⟩
   ·exact DV _ _ _
   ·exact DV _ _ _
  ·refine⟨_,_,by rw[hll],by rw[hll];exact hcap,fun _=>⟨b,off,rfl,hbl,fun i p hp=>?_⟩⟩
   obtain⟨hi,rfl⟩:=uV L n i p hp
   obtain⟨pv,lv,e1,e2,_⟩:=hL i hi
   refine⟨pv,lv,fun j u hu=>?_,e2⟩
   rw[←e1]at hu
   have hj:j<15:=by
    have:=(List.getElem?_eq_some_iff.1 hu).1
    rw[(hel i hi).1]at this;exact this
   have h1:=Nc CS n (fun i hi=>(hel i hi).1) i hi j hj
   have h3:i*15+j<((List.range n).flatMap CS).length:=by rw[hlen];omega
   have h2:=hc (i*15+j) h3
   rw[Nat.add_assoc,h2,←List.getElem?_eq_getElem h3,h1]
   exact hu
 ·rcases hr with⟨_,hv|⟨a,c,hv⟩⟩|⟨b,off,cap,hv,_⟩
  ·exact .inl hv
  ·exact .inr ⟨_,_,_,hv⟩
  ·exact .inr ⟨_,_,_,hv⟩
 ·obtain⟨i,hi,rfl⟩:=List.mem_map.1 hy
  have:=List.mem_range.1 hi
  obtain⟨_,_,_,_,h6⟩:=hL i this
  have h7:Rows.uptoBulk (D i)≤((List.range n).map fun i=>Rows.uptoBulk (D i)).sum:=ZT (List.mem_map.2 ⟨i,hi,rfl⟩)
  omega
end
theorem Iz{H:Type}{enc:TypeId×Value→H}{W:World}{r:Reach}{b0:Nat}{v:Value}{d:DataW H}{ps:List MemPlace}(hval:Value.okWide Tryz.prog W r b0 24 v)(hd:DataW.Trod enc Tryz.prog W 0 (fun _=>true) true 24 v d ps) :
  ∃(ver:Int) (iv:Value) (xs:List It),v=gY ver iv∧dX W iv xs∧(iv=.slice none 0 0∨∃a n c,iv=.slice (some a) n c)∧xs.length≤Rows.uptoBulk d∧(∀y∈xs,D7 y≤Rows.uptoBulk d)∧(-9223372036854775808≤ver∧ver≤9223372036854775807):=by
 obtain⟨cs,rfl,hcs⟩:=okWide_struct Tryz.underlying24 hval
 obtain⟨fuel,hf⟩:=hd
 obtain⟨xs,n,_,hx,hl,hlen,hfs⟩:=DataW.trod_struct Tryz.underlying24 hf
 have h2:cs.size=2:=hcs.trans (by kernel_rfl)
 have hxl:xs.length=2:=hlen
 obtain⟨cs⟩:=cs
 simp only[List.size_toArray]at h2
 match cs,h2 with
 |[c0,c1],_=>
 match xs,hxl with
 |[x0,x1],_=>
 have k0:=hfs 0 _ rfl
 have k1:=hfs 1 _ rfl
 obtain⟨a0,e0,f0,w0⟩:=DataW.trod_int Tryz.underlying3 k0
 obtain⟨iv,ys,e1,hI,hform,hn,hm⟩:=SK k1
 have g0:c0=.int .i64 a0:=(List.cons.inj e0).1
 have g1:c1=iv:=(List.cons.inj e1).1
 subst g0 g1
 have hd:d=.agg [x0.1,x1.1]:=(Prod.mk.injEq _ _ _ _▸hx).1
 have hbd:Rows.uptoBulk x1.1≤Rows.uptoBulk d:=by rw[hd];simp only[Rows.uptoBulk,Rows.uptoBulkAll];omega
 exact⟨a0,_,ys,rfl,hI,hform,by omega,fun y hy=>Nat.le_trans (hm y hy) hbd,SH w0⟩
end Go.Proofs.YtmffejnigppbpaaGreatDoor

set_option maxHeartbeats 2000000
set_option maxRecDepth 100000
namespace Go.Proofs.YtmffejnigppbpaaGreatDoor
open Go.RowKit
def EF(n:List UInt8):List UInt8:=if n=xE∨n=EG then[105,109,97,103,101,47] else if n=xG then[97,117,100,105,111,47] else[]
def kE1:Array MapEntry:=#[{ key:=.string ⟨#[80,72,79,84,79]⟩,val:=.string ⟨#[105,109,97,103,101,47]⟩,born:=0 }]
def kE2:Array MapEntry:=#[{ key:=.string ⟨#[80,72,79,84,79]⟩,val:=.string ⟨#[105,109,97,103,101,47]⟩,born:=0 },{ key:=.string ⟨#[76,79,71,79]⟩,val:=.string ⟨#[105,109,97,103,101,47]⟩,born:=1 }]
def kE3:Array MapEntry:=#[{ key:=.string ⟨#[80,72,79,84,79]⟩,val:=.string ⟨#[105,109,97,103,101,47]⟩,born:=0 },{ key:=.string ⟨#[76,79,71,79]⟩,val:=.string ⟨#[105,109,97,103,101,47]⟩,born:=1 },{ key:=.string ⟨#[83,79,85,78,68]⟩,val:=.string ⟨#[97,117,100,105,111,47]⟩,born:=2 }]
theorem QT(X:World):(Instr.mapUpdate 250 (.map (some X.heap.size)) (.string ⟨#[80,72,79,84,79]⟩) (.string ⟨#[105,109,97,103,101,47]⟩)).run Tryz.prog (X.alloc (.map #[] 0))=.ok () (X.alloc (.map kE1 1)):=
 BK X _ _ _ _ Tryz.underlying250 Tryz.underlying9 #[] 0 (.string ⟨#[80,72,79,84,79]⟩) _ trivial (by kernel_rfl)
theorem QU(X:World):(Instr.mapUpdate 250 (.map (some X.heap.size)) (.string ⟨#[76,79,71,79]⟩) (.string ⟨#[105,109,97,103,101,47]⟩)).run Tryz.prog (X.alloc (.map kE1 1))=.ok () (X.alloc (.map kE2 2)):=
 BK X _ _ _ _ Tryz.underlying250 Tryz.underlying9 kE1 1 (.string ⟨#[76,79,71,79]⟩) _ trivial (by kernel_rfl)
theorem QW(X:World):(Instr.mapUpdate 250 (.map (some X.heap.size)) (.string ⟨#[83,79,85,78,68]⟩) (.string ⟨#[97,117,100,105,111,47]⟩)).run Tryz.prog (X.alloc (.map kE2 2))=.ok () (X.alloc (.map kE3 3)):=
 BK X _ _ _ _ Tryz.underlying250 Tryz.underlying9 kE2 2 (.string ⟨#[83,79,85,78,68]⟩) _ trivial (by kernel_rfl)
theorem QX(X:World)(n:List UInt8):(Instr.lookup 250 (.map (some X.heap.size)) (.string (S n)) false).run Tryz.prog (X.alloc (.map kE3 3))=.ok (.string (S (EF n))) (X.alloc (.map kE3 3)):=by
 have hb:(X.alloc (.map kE3 3)).heap[X.heap.size]?=some (.map kE3 3):=heap_alloc_new X _
 by_cases h1:n=xE
 ·subst h1
  exact x9 (k:=.string (S xE)) (X.alloc _) _ _ _ _ Tryz.underlying250 Tryz.underlying9 X.heap.size kE3 3 hb trivial 0 (.string ⟨#[105,109,97,103,101,47]⟩) false (by kernel_rfl)
 by_cases h2:n=EG
 ·subst h2
  exact x9 (k:=.string (S EG)) (X.alloc _) _ _ _ _ Tryz.underlying250 Tryz.underlying9 X.heap.size kE3 3 hb trivial 1 (.string ⟨#[105,109,97,103,101,47]⟩) false (by kernel_rfl)
 by_cases h3:n=xG
 ·subst h3
  exact x9 (k:=.string (S xG)) (X.alloc _) _ _ _ _ Tryz.underlying250 Tryz.underlying9 X.heap.size kE3 3 hb trivial 2 (.string ⟨#[97,117,100,105,111,47]⟩) false (by kernel_rfl)
 ·have e:EF n=[]:=by unfold EF;rw[if_neg (by rintro(h|h);exact h1 h;exact h2 h),if_neg h3]
  rw[e]
  have hz:∀W,(zeroValue 9).run Tryz.prog W=.ok (.string (S [])) W:=fun W=>by kernel_rfl
  have hc:∀e,(Instr.checkKey e 10000 9 (.string (S n))).run Tryz.prog (X.alloc (.map kE3 3))=.ok () (X.alloc (.map kE3 3)):=fun e=>MapKept.run_checkKey (d:=.string) (k:=.string (S n)) Tryz.underlying9 trivial e 9999
  have hn:Instr.findNow .string (.string (S n)) kE3.toList 0=some none:=by
   rcases MapKept.findNow_spec (d:=.string) (k:=.string (S n)) trivial kE3.toList 0 (fun e he=>by
    simp[kE3]at he
    rcases he with rfl|rfl|rfl<;>trivial)with⟨h,_⟩|⟨j,e,_,hj,hk⟩
   ·exact h
   ·have he:=List.mem_of_getElem? hj
    simp[kE3]at he
    have inj:∀ {a b:List UInt8},Value.string (S a)=.string (S b)→a=b:=fun h=>by injection h with h;exact Xr.1 h
    rcases he with rfl|rfl|rfl
    ·exact absurd (inj (a:=xE) hk).symm h1
    ·exact absurd (inj (a:=EG) hk).symm h2
    ·exact absurd (inj (a:=xG) hk).symm h3
  simp[Instr.lookup,run_underlying Tryz.underlying250,MapKept.run_getObj_map hb,hc,MapKept.run_findKey Tryz.underlying9 hn,Result.andThen,hz]
theorem QY(n:List UInt8)(l:Value)(ps:List Pm)(w:World)(h:eu w l ps)(hl:ps.length≤10000)(hp:∀p∈ps,p.1.length≤1000000∧∀u∈p.2,u.length≤100000)(hne:∀i,gZ ps gJ=some i→(ps.getD i ([],[])).2≠[]):dA 141 #[.string (S n),l] w (.string (S (lS n ps))):=by
 have HPS:=hid h
 have HP:=hid hp
 have FD:=hid (qQ l ps gJ w h (by omega) (fun p hq=>(hp p hq).1) (by simp[gJ]))
 obtain⟨la,lc,rfl⟩:∃a c,l=.slice a ps.length c:=by
  obtain⟨a,c,e,_⟩:=h
  exact⟨a,c,e⟩
 clear h hp
 cases hf:gZ ps gJ with
 |none=>
  have HR:=hid (show lS n ps=MK by unfold lS;rw[hf])
  rw[hf]at FD
  unfold gJ at FD
  clear hf hne
  go_enter Tryz.func141,Tryz.ntmps141
  go_wp2_with fail
  refine FD.out.use ?_
  intro w2 g2
  simp only[kF]
  go_wp2_with fail
  go_ret
  exact⟨by rw[HR.out];rfl,g2⟩
 |some i=>
  have hi:=yZ hf
  have hvs:=hne i hf
  have hgd:ps.getD i ([],[])=ps[i]:=by simp[List.getD_eq_getElem?_getD,List.getElem?_eq_getElem hi]
  have HR:=hid (show lS n ps=EH n++uP (xH ps i) by unfold lS;rw[hf])
  rw[hgd]at hvs
  have HVAL:=hid (show xH ps i=(ps[i]).2.getD 0 [] by unfold xH;rw[hgd])
  rw[hf]at FD
  unfold gJ at FD
  obtain⟨hpn,hpv⟩:=HP.out _ (List.getElem_mem hi)
  obtain⟨p,hpe⟩:∃p,ps[i]=p:=⟨_,rfl⟩
  have HX:=hid (show ps[i]?=some p by rw[List.getElem?_eq_getElem hi,hpe])
  rw[hpe]at hvs hpn hpv HVAL
  obtain⟨pn,pvs⟩:=p
  simp only at hvs hpn hpv HVAL
  cases pvs with
  |nil=>exact absurd rfl hvs
  |cons v0 vr=>
   have hv0:=hpv v0 List.mem_cons_self
   have HV0:=hid (show xH ps i=v0 from HVAL.out)
   obtain⟨kb,hkb⟩:∃kb,kb=EF n:=⟨_,rfl⟩
   have hkbl:kb.length≤12:=by rw[hkb];unfold EF;split;(· decide);split<;>decide
   have lk:=fun X=>QX X n
   have p1:=QT
   have p2:=QU
   have p3:=QW
   rw[←hkb]at lk
   have HKB:=hid hkb
   have hmm:=@run_makeMap Tryz.prog
   clear hkb hpe hf hne hgd hpv hvs
   go_enter Tryz.func141,Tryz.ntmps141
   go_wp2_with fail
   refine FD.out.use ?_
   intro w2 g2
   simp only[kF]
   have hi0:¬(i:Int)<0:=by omega
   obtain⟨w3,hw3⟩:∃w3,w2.alloc (.map kE3 3)=w3:=⟨_,rfl⟩
   have G3:=hid (show G w w3 by rw[←hw3];exact g2.alloc _)
   have lk3:=lk w2
   rw[hw3]at lk3
   obtain⟨a2,cap2,e1,_,hc⟩:=HPS.out.grow G3.out
   obtain⟨b,off,e2,hb,hcc⟩:=hc (by intro e;rw[e]at hi;simp at hi)
   clear hc
   simp only[Value.slice.injEq,true_and]at e1
   obtain⟨rfl,rfl⟩:=e1
   subst e2
   obtain⟨sv,c1,c2,c3⟩:=hcc i _ HX.out
   obtain⟨b2,o2,cc2,hsv,_,hb2,hc2⟩:=c3.at_ (by simp)
   have d0:=hc2 0 _ rfl
   rw[Nat.add_zero]at d0
   subst hsv
   simp only[List.length_cons]at c2
   have hkl:(i:Int)<(ps.length:Int):=by omega
   clear hcc c3 hc2
   have LW:=hid (fun W=>KG v0 W (by omega))
   by_cases hk0:kb=[]
   ·have hk1:(kb==[])=true:=by rw[hk0];rfl
    have HM:=hid (show lS n ps=[97,112,112,108,105,99,97,116,105,111,110,47]++uP v0 by
     rw[HR.out,HV0.out]
     have:=HKB.out
     rw[hk0]at this
     unfold EF at this
     unfold EH
     split at this
     ·cases this
     ·rename_i hh
      rw[if_neg hh]
      split at this
      ·cases this
      ·rename_i hh2;rw[if_neg hh2])
    clear hk0
    go_wp2_with fail
    refine(LW.out _).use ?_
    intro w4 g4
    go_wp2_with fail
    go_ret
    exact⟨by rw[HM.out];simp,G3.out.trans g4⟩
   ·have hk1:(kb==[])=false:=by simpa using hk0
    have HM:=hid (show lS n ps=kb++uP v0 by
     rw[HR.out,HV0.out,HKB.out]
     have:=HKB.out
     congr 1
     unfold EF EH
     split
     ·rfl
     ·rename_i hh
      split
      ·rfl
      ·rename_i hh2
       exfalso;apply hk0;rw[this];unfold EF;rw[if_neg hh,if_neg hh2])
    clear hk0
    go_wp2_with fail
    refine(LW.out _).use ?_
    intro w4 g4
    go_wp2_with fail
    go_ret
    exact⟨by rw[HM.out];rfl,G3.out.trans g4⟩
end Go.Proofs.YtmffejnigppbpaaGreatDoor

set_option maxHeartbeats 16000000
set_option maxRecDepth 100000
namespace Go.Proofs.YtmffejnigppbpaaGreatDoor
open Go.RowKit
def ItB(w:World)(r:Value)(y:It×Bool):Prop:=∃pv lv,r=.tuple #[y.1.val pv lv,.bool y.2]∧dG w y.1 pv lv
theorem ItB.of{w:World}{y z:It×Bool}{pv lv:Value}(h:z=y)(ho:dG w y.1 pv lv):ItB w (.tuple #[y.1.val pv lv,.bool y.2]) z:=by subst h;exact⟨_,_,rfl,ho⟩
theorem dG.ps{w:World}{x:It}{pv lv u:Value}{qs:List Pm}(h:dG w x pv lv)(hu:PmR w u qs):dG w ⟨x.g,x.n,qs,x.v⟩ u lv:=⟨hu.p,h.l,hu.f,h.y,h.t⟩
theorem qY{W:World}{b:Nat}{x:It}{pv lv u:Value}{t:TypeId}{qs:List Pm}(h:W.heap[b]?=some (.cells (x.cells pv lv).toArray t (0,0))):(W.setCell ⟨b,2,none⟩ u).heap[b]?=some (.cells ((It.cells ⟨x.g,x.n,qs,x.v⟩ u lv)).toArray t (0,0)):=by
 simp[World.setCell,Array.getElem?_modify,h,It.cells]
theorem iO{x:It}(h:Sml x):∀p∈x.ps,p.1.length≤1000000:=fun p hp=>by
 have h1:gG p≤(x.ps.map gG).sum:=kJ (List.mem_map_of_mem hp)
 have h2:gG p=p.1.length+p.2.length+(p.2.map List.length).sum:=rfl
 have h0:=h.h
 unfold fK at h0
 omega
theorem mP{x:It}(h:Sml x):∀p∈x.ps,p.2.length≤100000∧∀u∈p.2,u.length≤100000:=fun p hp=>by
 have h1:gG p≤(x.ps.map gG).sum:=kJ (List.mem_map_of_mem hp)
 have h2:gG p=p.1.length+p.2.length+(p.2.map List.length).sum:=rfl
 have h0:=h.h
 unfold fK at h0
 refine⟨by omega,fun u hu=>?_⟩
 have:u.length≤(p.2.map List.length).sum:=kJ (List.mem_map_of_mem hu)
 omega
theorem jy{x:It}(h:Sml x):x.ps.length≤10000:=by
 have h0:=h.h
 unfold fK at h0
 omega
theorem OA(l:List UInt8)(w:World)(hl:l.length≤1000000):dP 139 #[.string (S l)] w (fun r _=>(∃bs,l.length%4=0∧qi l=.ok bs∧bs.length≤l.length∧r=.tuple #[.string (S bs),.nilIface])∨((l.length%4≠0∨∃q,qi l=.error q)∧∃t u,r=.tuple #[.string (S []),.iface t u])):=by
 refine dP.mono (Jz l w (by omega)) ?_
 intro r w' _ h
 unfold jB at h
 by_cases h4:l.length%4=0
 ·rw[if_neg (by omega)]at h
  cases hd:qi l with
  |ok bs=>
   rw[hd]at h
   refine .inl ⟨bs,h4,rfl,?_,h⟩
   have:=congrArg List.length (L6 l bs h4 hd)
   rw[xq]at this
   omega
  |error q=>
   rw[hd]at h
   obtain⟨e,h1,b,h2,_⟩:=h
   exact .inr ⟨.inr ⟨q,rfl⟩,_,_,by rw[h1,h2]⟩
 ·rw[if_pos h4]at h
  obtain⟨e,h1,b,h2,_⟩:=h
  exact .inr ⟨.inl h4,_,_,by rw[h1,h2]⟩
theorem QP{nn:List UInt8}{x:It}(h:Sml x):(lS nn x.ps).length≤200000:=by
 unfold lS
 split
 ·simp[MK]
 ·rename_i i hi
  have h1:=yZ hi
  have h2:(xH x.ps i).length≤100000:=by
   unfold xH
   simp only[List.getD_eq_getElem?_getD,List.getElem?_eq_getElem h1,Option.getD_some]
   cases hv:(x.ps[i]).2[0]? with
   |none=>simp
   |some v=>exact(mP h _ (List.getElem_mem h1)).2 v (List.mem_of_getElem? hv)
  have h3:(EH nn).length≤12:=by unfold EH;split;(· decide);split<;>decide
  rw[List.length_append,zQ]
  omega
theorem lq{fn:Func}{Q:Ending→World→Prop}{a:Act}{WF:World}{X s t:Nat}{y:It}{pv lv:Value}{bv:Bool}(hres:fn.results=#[.cell s 38,.tmp t])(hp:a.tmps.getD s undef=.pointer (some ⟨X,0,none⟩))(hb:a.tmps.getD t undef=.bool bv)(hd:a.defers=[])(hrow:WF.heap[X]?=some (.cells (y.cells pv lv).toArray 38 (0,0)))(hQ:Q (.returned (.tuple #[y.val pv lv,.bool bv])) WF):bodyPost Tryz.prog fn Q .ret a WF:=by
 obtain⟨e0,e1,e2,e3,e4,e5,e6,e7,e8,e9,e10,e11,e12,e13,e14⟩:=aP hrow
 refine bodyPost_ret (v:=.tuple #[It.val y pv lv,.bool bv]) ?_ hd hQ
 have hp2:a.tmps[s]?.getD undef=.pointer (some ⟨X,0,none⟩):=by simpa using hp
 have hb2:a.tmps[t]?.getD undef=.bool bv:=by simpa using hb
 simp only[results,hres]
 go_simp
theorem XE(L:List Nat)(nn:List UInt8)(x:It)(pv lv:Value)(w:World)(hX:∀X∈L,X<w.heap.size)(h:dG (Wl L w) x pv lv)(hs:Sml x)(hne:∀p∈x.ps,p.2≠[])(hfn:gZ x.ps l7=none):dP 91 #[.string (S nn),x.val pv lv] w (fun r w'=>ItB (Wl L w') r (vY nn x)):=by
 have HIT:=hid h
 have HS:=hid hs
 have HNE:=hid hne
 have hpc:=jy hs
 obtain⟨pa,pc,rfl⟩:=h.un.pv
 obtain⟨la,lc,rfl⟩:=h.un.lv
 have hXL:∀W:World,w.heap.size+1<W.heap.size→∀X∈w.heap.size::(w.heap.size+1)::L,X<W.heap.size:=fun W h1 X hx=>by
  rcases List.mem_cons.1 hx with rfl|hx
  ·omega
  rcases List.mem_cons.1 hx with rfl|hx
  ·exact h1
  ·have:=hX X hx;omega
 have HXL:=hid hXL
 clear h hs hne hXL hX
 have FD0:=fun W (g:G w W)=>qQ (.slice pa x.ps.length pc) x.ps l7 W (HIT.out.un.p.grow g) (by omega) (iO HS.out) (by simp[l7])
 have FD:=hid FD0
 unfold l7 at FD
 clear FD0
 obtain⟨f,hf⟩:∃f,f=gZ x.ps l7:=⟨_,rfl⟩
 rw[show gZ x.ps [69,78,67,79,68,73,78,71]=f from hf.symm]at FD
 have HF:=hid hf.symm
 clear hf
 go_enter Tryz.func91,Tryz.ntmps91
 go_wp2_with fail
 generalize hw0:(w.alloc _).alloc _=w0
 have HB0:=hid (show w0.heap[w.heap.size]?=some (.cells (x.cells (.slice pa x.ps.length pc) (.slice la x.v.ps.length lc)).toArray 38 (0,0)) by rw[←hw0,Lib.alloc_old _ _ _ (by simp)];exact heap_alloc_new w _)
 have HX0:=hid (show w0.heap[w.heap.size+1]?=some (.cells (zIt.cells (.slice none 0 0) (.slice none 0 0)).toArray 38 (0,0)) by rw[←hw0];exact pz _ _ _)
 have G0:=hid (show G w w0 by rw[←hw0];exact((G.refl w).alloc _).alloc _)
 clear hw0
 refine(FD.out w0 G0.out).use ?_
 intro w1 g1
 have HB:=hid (aB HB0.out g1)
 have HBX:=hid (aB HX0.out g1)
 have G1:=hid (G0.out.trans g1)
 have IT1:=hid (show dG (Wl (w.heap.size::(w.heap.size+1)::L) w1) x (.slice pa x.ps.length pc) (.slice la x.v.ps.length lc)from HIT.out.grow (Wl.g (L:=L) (show G w (Wo (w.heap.size+1) (Wo w.heap.size w1))from Wo.of (Wo.of G1.out (Nat.le_refl _)) (by omega))))
 have hsz1:w.heap.size+1<w1.heap.size:=dn HBX.out
 clear g1
 ·have hfz:f=none:=HF.out.symm.trans hfn
  subst hfz
  simp only[kF]
  by_cases h4:x.v.ty=4
  ·have b4:(x.v.ty==4)=true:=by simpa using h4
   have HR:=hid (show vY nn x=(⟨x.g,x.n,aO x.ps bP,x.v⟩,true) by unfold vY;rw[HF.out];simp only;rw[if_pos h4])
   have WO:=hid (mg (w.heap.size::(w.heap.size+1)::L) (.slice pa x.ps.length pc) bP x.ps w1 (HXL.out w1 hsz1) IT1.out.pm hpc (iO HS.out) (by simp[bP]))
   unfold bP at WO
   clear h4
   obtain⟨q0,q1,q2,q3,q4,q5,q6,q7,q8,q9,q10,q11,q12,q13,q14⟩:=aP HB.out
   obtain⟨c0,c1,c2,c3,c4,c5,c6,c7,c8,c9,c10,c11,c12,c13,c14⟩:=aP HBX.out
   have fz:=fun i=>Lib.frozen_of_heap HBX.out i
   go_wp2_with fail
   refine WO.out.use ?_
   intro u w2 hu g2
   obtain⟨ua,um,uc,rfl⟩:=hu.sl
   have HU:=hid hu
   have hb2:=aB HB.out g2
   have f2:=Lib.frozen_of_heap hb2 2
   obtain⟨_,_,r2,_⟩:=aP hb2
   obtain⟨w3,hw3⟩:∃w3,w2.setCell ⟨w.heap.size,2,none⟩ (.slice ua um uc)=w3:=⟨_,rfl⟩
   have HB3:=hid (show w3.heap[w.heap.size]?=some (.cells ((It.cells ⟨x.g,x.n,aO x.ps bP,x.v⟩ (.slice ua um uc) (.slice la x.v.ps.length lc))).toArray 38 (0,0)) by rw[←hw3];exact qY hb2)
   have HBX3:=hid (show w3.heap[w.heap.size+1]?=some (.cells (zIt.cells (.slice none 0 0) (.slice none 0 0)).toArray 38 (0,0)) by rw[←hw3,Below.heap_setCell _ _ _ _ (by simp only;omega)];exact aB HBX.out g2)
   have G3:=hid (show G w w3 by rw[←hw3];exact jU (G1.out.trans g2) (Nat.le_refl _))
   have IT3:=hid (show dG (Wl (w.heap.size::(w.heap.size+1)::L) w3) ⟨x.g,x.n,aO x.ps bP,x.v⟩ (.slice ua um uc) (.slice la x.v.ps.length lc) by rw[←hw3,Wl.setm (by simp)];exact(IT1.out.wo g2).ps HU.out)
   clear q0 q1 q2 q3 q4 q5 q6 q7 q8 q9 q10 q11 q12 q13 q14 c0 c1 c2 c3 c4 c5 c6 c7 c8 c9 c10 c11 c12 c13 c14 fz hu
   obtain⟨q0,q1,q2,q3,q4,q5,q6,q7,q8,q9,q10,q11,q12,q13,q14⟩:=aP HB3.out
   obtain⟨c0,c1,c2,c3,c4,c5,c6,c7,c8,c9,c10,c11,c12,c13,c14⟩:=aP HBX3.out
   have fz:=fun i=>Lib.frozen_of_heap HBX3.out i
   go_wp2_with fail
   generalize hWF:World.setCell (World.setCell (World.setCell (World.setCell (World.setCell (World.setCell (World.setCell (World.setCell (World.setCell (World.setCell (World.setCell (World.setCell (World.setCell (World.setCell (World.setCell w3 _ _) _ _) _ _) _ _) _ _) _ _) _ _) _ _) _ _) _ _) _ _) _ _) _ _) _ _) _ _=WF
   have hrow:WF.heap[w.heap.size+1]?=some (.cells ((It.cells ⟨x.g,x.n,aO x.ps bP,x.v⟩ (.slice ua um uc) (.slice la x.v.ps.length lc))).toArray 38 (0,0)):=by
    rw[←hWF]
    exact je HBX3.out rfl _ _ _ _ _ _ _ _ _ _ _ _ _ _ _
   have hgf:G w WF:=by rw[←hWF];exact lY (by omega) G3.out _ _ _ _ _ _ _ _ _ _ _ _ _ _ _
   have hok:dG (Wl L WF) ⟨x.g,x.n,aO x.ps bP,x.v⟩ (.slice ua um uc) (.slice la x.v.ps.length lc):=dG.sub (by rw[←hWF,jL (by simp)];exact IT3.out) ((Wl.tail w.heap.size _ WF).trans (Wl.tail (w.heap.size+1) L WF))
   exact lq rfl rfl rfl rfl hrow ⟨_,rfl,ItB.of HR.out hok,hgf⟩
  ·have b4:(x.v.ty==4)=false:=by simpa using h4
   have HR:=hid (show vY nn x=(x,false) by unfold vY;rw[HF.out];simp only;rw[if_neg h4])
   obtain⟨q0,q1,q2,q3,q4,q5,q6,q7,q8,q9,q10,q11,q12,q13,q14⟩:=aP HB.out
   obtain⟨c0,c1,c2,c3,c4,c5,c6,c7,c8,c9,c10,c11,c12,c13,c14⟩:=aP HBX.out
   have fz:=fun i=>Lib.frozen_of_heap HBX.out i
   go_wp2_with fail
   generalize hWF:World.setCell (World.setCell (World.setCell (World.setCell (World.setCell (World.setCell (World.setCell (World.setCell (World.setCell (World.setCell (World.setCell (World.setCell (World.setCell (World.setCell (World.setCell w1 _ _) _ _) _ _) _ _) _ _) _ _) _ _) _ _) _ _) _ _) _ _) _ _) _ _) _ _) _ _=WF
   have hrow:WF.heap[w.heap.size+1]?=some (.cells ((It.cells x (.slice pa x.ps.length pc) (.slice la x.v.ps.length lc))).toArray 38 (0,0)):=by
    rw[←hWF]
    exact je HBX.out rfl _ _ _ _ _ _ _ _ _ _ _ _ _ _ _
   have hgf:G w WF:=by rw[←hWF];exact lY (by omega) G1.out _ _ _ _ _ _ _ _ _ _ _ _ _ _ _
   have hok:dG (Wl L WF) x (.slice pa x.ps.length pc) (.slice la x.v.ps.length lc):=dG.sub (by rw[←hWF,jL (by simp)];exact IT1.out) ((Wl.tail w.heap.size _ WF).trans (Wl.tail (w.heap.size+1) L WF))
   exact lq rfl rfl rfl rfl hrow ⟨_,rfl,ItB.of HR.out hok,hgf⟩
theorem Zv(L:List Nat)(nn:List UInt8)(x:It)(pv lv:Value)(w:World)(hX:∀X∈L,X<w.heap.size)(h:dG (Wl L w) x pv lv)(hs:Sml x)(hne:∀p∈x.ps,p.2≠[])(i:Nat)(hfn:gZ x.ps l7=some i)(hbad0:¬(dC (xH x.ps i) [98]=true∧x.v.ty=8)):dP 91 #[.string (S nn),x.val pv lv] w (fun r w'=>ItB (Wl L w') r (vY nn x)):=by
 have HIT:=hid h
 have HS:=hid hs
 have HNE:=hid hne
 have hpc:=jy hs
 obtain⟨pa,pc,rfl⟩:=h.un.pv
 obtain⟨la,lc,rfl⟩:=h.un.lv
 have hXL:∀W:World,w.heap.size+1<W.heap.size→∀X∈w.heap.size::(w.heap.size+1)::L,X<W.heap.size:=fun W h1 X hx=>by
  rcases List.mem_cons.1 hx with rfl|hx
  ·omega
  rcases List.mem_cons.1 hx with rfl|hx
  ·exact h1
  ·have:=hX X hx;omega
 have HXL:=hid hXL
 clear h hs hne hXL hX
 have FD0:=fun W (g:G w W)=>qQ (.slice pa x.ps.length pc) x.ps l7 W (HIT.out.un.p.grow g) (by omega) (iO HS.out) (by simp[l7])
 have FD:=hid FD0
 unfold l7 at FD
 clear FD0
 obtain⟨f,hf⟩:∃f,f=gZ x.ps l7:=⟨_,rfl⟩
 rw[show gZ x.ps [69,78,67,79,68,73,78,71]=f from hf.symm]at FD
 have HF:=hid hf.symm
 clear hf
 go_enter Tryz.func91,Tryz.ntmps91
 go_wp2_with fail
 generalize hw0:(w.alloc _).alloc _=w0
 have HB0:=hid (show w0.heap[w.heap.size]?=some (.cells (x.cells (.slice pa x.ps.length pc) (.slice la x.v.ps.length lc)).toArray 38 (0,0)) by rw[←hw0,Lib.alloc_old _ _ _ (by simp)];exact heap_alloc_new w _)
 have HX0:=hid (show w0.heap[w.heap.size+1]?=some (.cells (zIt.cells (.slice none 0 0) (.slice none 0 0)).toArray 38 (0,0)) by rw[←hw0];exact pz _ _ _)
 have G0:=hid (show G w w0 by rw[←hw0];exact((G.refl w).alloc _).alloc _)
 clear hw0
 refine(FD.out w0 G0.out).use ?_
 intro w1 g1
 have HB:=hid (aB HB0.out g1)
 have HBX:=hid (aB HX0.out g1)
 have G1:=hid (G0.out.trans g1)
 have IT1:=hid (show dG (Wl (w.heap.size::(w.heap.size+1)::L) w1) x (.slice pa x.ps.length pc) (.slice la x.v.ps.length lc)from HIT.out.grow (Wl.g (L:=L) (show G w (Wo (w.heap.size+1) (Wo w.heap.size w1))from Wo.of (Wo.of G1.out (Nat.le_refl _)) (by omega))))
 have hsz1:w.heap.size+1<w1.heap.size:=dn HBX.out
 clear g1
 ·have hfz:f=some i:=HF.out.symm.trans hfn
  subst hfz
  simp only[kF]
  have hi:=yZ HF.out
  have hvs:=HNE.out _ (List.getElem_mem hi)
  obtain⟨p,hpe⟩:∃p,x.ps[i]=p:=⟨_,rfl⟩
  have HXP:=hid (show x.ps[i]?=some p by rw[List.getElem?_eq_getElem hi,hpe])
  rw[hpe]at hvs
  obtain⟨v0,vr,hvr⟩:=List.exists_cons_of_ne_nil hvs
  have hv0l:v0.length≤100000:=(mP HS.out p (List.mem_of_getElem? HXP.out)).2 v0 (by rw[hvr];exact List.mem_cons_self)
  have HV0:=hid (show xH x.ps i=v0 by unfold xH;simp only[List.getD_eq_getElem?_getD,HXP.out,Option.getD_some,hvr];rfl)
  obtain⟨a2,cap2,e1,_,hc⟩:=IT1.out.un.p
  obtain⟨b,off,e2,hb,hcc⟩:=hc (by intro e;rw[e]at hi;simp at hi)
  clear hc
  simp only[Value.slice.injEq,true_and]at e1
  obtain⟨rfl,rfl⟩:=e1
  subst e2
  obtain⟨sv,c1',c2',c3'⟩:=hcc i _ HXP.out
  rw[hvr]at c3'
  obtain⟨b2,o2,cc2,hsv,_,hb2,hc2⟩:=c3'.at_ (by simp)
  have d0:=hc2 0 _ rfl
  rw[Nat.add_zero]at d0
  subst hsv
  simp only[List.length_cons]at c2'
  have hkl:(i:Int)<(x.ps.length:Int):=by omega
  have hi0:¬(i:Int)<0:=by omega
  clear hcc c3' hc2 hpe hvs
  have SM:=hid (fun W=>kM v0 [98] W (by omega) (by simp))
  obtain⟨sm,hsm⟩:∃sm,sm=dC v0 [98]:=⟨_,rfl⟩
  rw[←hsm]at SM
  have HSM:=hid hsm
  clear hsm
  have ways:((sm=false∨x.v.ty≠8)∧((sm=false∧(x.v.ty==4)=true)∨(sm=false∧(x.v.ty==4)=false)∨(sm=true∧(x.v.ty==4)=true∧(x.v.ty != 8)=true)∨(sm=true∧(x.v.ty==4)=false∧(x.v.ty != 8)=true)))∨(sm=true∧x.v.ty=8):=by
   by_cases h8:x.v.ty=8
   ·cases sm with
    |true=>exact .inr ⟨rfl,h8⟩
    |false=>exact .inl ⟨.inl rfl,.inr (.inl ⟨rfl,by rw[h8];rfl⟩)⟩
   ·have e8:(x.v.ty != 8)=true:=by simpa using h8
    cases h4:(x.v.ty==4)<;>cases sm<;>simp_all
  rcases ways with⟨hbad,hw⟩|⟨hsm1,h8⟩
  ·have HR:=hid (show vY nn x=(x,false) by
    unfold vY
    rw[HF.out]
    simp only
    rw[if_neg (by
     rw[HV0.out,←HSM.out]
     rintro⟨e1,e2⟩
     rcases hbad with h|h
     ·rw[h]at e1;cases e1
     ·exact h e2)])
   clear hbad
   rcases hw with⟨rfl,b4⟩|⟨rfl,b4⟩|⟨rfl,b4,b8⟩|⟨rfl,b4,b8⟩
   all_goals
    obtain⟨q0,q1,q2,q3,q4,q5,q6,q7,q8,q9,q10,q11,q12,q13,q14⟩:=aP HB.out
    obtain⟨c0,c1,c2,c3,c4,c5,c6,c7,c8,c9,c10,c11,c12,c13,c14⟩:=aP HBX.out
    have fz:=fun i=>Lib.frozen_of_heap HBX.out i
    go_wp2_with fail
    refine(SM.out w1).use ?_
    intro w2 g2
    have HB2:=hid (aB HB.out g2)
    have HBX2:=hid (aB HBX.out g2)
    have G2:=hid (G1.out.trans g2)
    have IT2:=hid (IT1.out.wo g2)
    clear q0 q1 q2 q3 q4 q5 q6 q7 q8 q9 q10 q11 q12 q13 q14 c0 c1 c2 c3 c4 c5 c6 c7 c8 c9 c10 c11 c12 c13 c14 fz
    obtain⟨q0,q1,q2,q3,q4,q5,q6,q7,q8,q9,q10,q11,q12,q13,q14⟩:=aP HB2.out
    obtain⟨c0,c1,c2,c3,c4,c5,c6,c7,c8,c9,c10,c11,c12,c13,c14⟩:=aP HBX2.out
    have fz:=fun i=>Lib.frozen_of_heap HBX2.out i
    go_wp2_with fail
    generalize hWF:World.setCell (World.setCell (World.setCell (World.setCell (World.setCell (World.setCell (World.setCell (World.setCell (World.setCell (World.setCell (World.setCell (World.setCell (World.setCell (World.setCell (World.setCell w2 _ _) _ _) _ _) _ _) _ _) _ _) _ _) _ _) _ _) _ _) _ _) _ _) _ _) _ _) _ _=WF
    have hrow:WF.heap[w.heap.size+1]?=some (.cells ((It.cells x (.slice (some ⟨b,off,none⟩) x.ps.length pc) (.slice la x.v.ps.length lc))).toArray 38 (0,0)):=by
     rw[←hWF]
     exact je HBX2.out rfl _ _ _ _ _ _ _ _ _ _ _ _ _ _ _
    have hgf:G w WF:=by rw[←hWF];exact lY (by omega) G2.out _ _ _ _ _ _ _ _ _ _ _ _ _ _ _
    have hok:dG (Wl L WF) x (.slice (some ⟨b,off,none⟩) x.ps.length pc) (.slice la x.v.ps.length lc):=dG.sub (by rw[←hWF,jL (by simp)];exact IT2.out) ((Wl.tail w.heap.size _ WF).trans (Wl.tail (w.heap.size+1) L WF))
    exact lq rfl rfl rfl rfl hrow ⟨_,rfl,ItB.of HR.out hok,hgf⟩
  ·exact absurd ⟨by rw[HV0.out,←HSM.out];exact hsm1,h8⟩ hbad0
end Go.Proofs.YtmffejnigppbpaaGreatDoor
