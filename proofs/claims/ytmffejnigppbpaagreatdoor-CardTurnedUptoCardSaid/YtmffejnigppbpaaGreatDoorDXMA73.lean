/-
  Texts merged into one: Big, OpenItem, CardLine, With.
-/
import Derived.Test.YtmffejnigppbpaaGreatDoorDXMA75
import Derived.Test.YtmffejnigppbpaaGreatDoorDXMA64
import Derived.Test.YtmffejnigppbpaaGreatDoorDXMA78
import Derived.Test.YtmffejnigppbpaaGreatDoorDXMA60
import Derived.Test.YtmffejnigppbpaaGreatDoorDXMA63
import Derived.Test.YtmffejnigppbpaaGreatDoorDXCardOne
import Derived.Test.YtmffejnigppbpaaGreatDoorDXMA67
import Derived.Test.YtmffejnigppbpaaGreatDoorDXMVeil
import Derived.Deep.AppendLies
set_option linter.unusedVariables false
set_option linter.unusedSimpArgs false
set_option maxHeartbeats 4000000
set_option maxRecDepth 100000
namespace Go.Proofs.YtmffejnigppbpaaGreatDoor
open Go.RowKit
def awm(x:It):Bool:=decide (2500<adm x.ps+x.g.length+x.n.length+0)
def awn(x:It):Bool:=decide (1500<x.v.tx.length∨1500<acY x.v.ps)
def akg(x:It):Bool:=awm x||awn x
def ajl(xs:List It):Bool:=decide (40<xs.length)||xs.any akg
structure Lim(x:It):Prop where
 g:x.g.length≤1048576
 n:x.n.length≤1048576
 p:adm x.ps≤1048576
 t:x.v.tx.length≤1048576
 l:acY x.v.ps≤1048576
theorem asi(ver:Int)(iv:Value)(xs:List It)(w:World)(h:UA w iv xs)(hL:∀x∈xs,Lim x)(hl:xs.length≤1048576) :
  Um 40 #[acH ver iv] w (.bool (ajl xs)):=by
 obtain⟨w1,hw1⟩:∃w1,w.alloc (.cells #[.int .i64 ver,iv] 24)=w1:=⟨_,rfl⟩
 have hC:ahc w1 w.heap.size ver iv xs:=by rw[←hw1];exact ahc.new h
 have HG1:=hid (show G w w1 by rw[←hw1];exact(G.refl w).alloc _)
 have HIT:=hid hC.it
 have HN:=hid hL
 have hc1:=hC.c1
 have hlt:=hC.lt
 obtain⟨ia,ic,rfl,hcap⟩:=h.len
 have hll:=hl
 by_cases h40:40<xs.length
 ·have HB:=hid (show ajl xs=true by unfold ajl;simp[h40])
  rw[HB.out]
  clear hC h hcap hL
  unfold acH
  go_enter Tryz.func40,Tryz.ntmps40
  go_wp2_with fail
  go_ret
  exact⟨rfl,HG1.out⟩
 have HBB:=hid (show ajl xs=xs.any akg by unfold ajl;simp[h40])
 rw[HBB.out]
 clear hC h hcap hL
 unfold acH
 go_enter Tryz.func40,Tryz.ntmps40
 go_wp2_with fail
 go_loopw [12] (fun i wr=>∃k:Nat,k≤xs.length∧i=.int .i64 k∧(xs.take k).any akg=false∧G w1 wr) (fun i _=>xs.length-(intOf i).toNat)
 case atStart=>exact⟨0,Nat.zero_le _,rfl,rfl,G.refl _⟩
 case round=>
  obtain⟨k,hk,rfl,hno,hg⟩:=hrel
  have HG:=hid hg
  have HNO:=hid hno
  clear hno hg
  by_cases hlt2:k<xs.length
  ·obtain⟨b,off,cap,e,hb,hit⟩:=(HIT.out.grow HG.out).at_ (by rintro rfl;simp at hlt2)
   cases e
   have hx:=List.getElem?_eq_getElem hlt2
   obtain⟨x,hxe⟩:∃x,xs[k]=x:=⟨_,rfl⟩
   rw[hxe]at hx
   obtain⟨pv,lv,hat⟩:=hit k x hx
   obtain⟨pa,pc,rfl⟩:=hat.ok.pv
   obtain⟨la,lc,rfl⟩:=hat.ok.lv
   obtain⟨k0,k1,k2,k3,k4,k5,k6,k7,k8,k9,k10,k11,k12,k13,k14⟩:=hat.e
   have HX:=hid hx
   have HOK:=hid hat.ok
   have hkl:(k:Int)<(xs.length:Int):=by omega
   have HXB:=hid (HN.out x (List.mem_of_getElem? hx))
   clear hit hat hx hxe
   go_wp2_with fail
   have hwd:=awe x.g x.n [] (.slice pa x.ps.length pc) x.ps (wr.alloc (.cells #[.string (S x.g),.string (S x.n),.slice pa x.ps.length pc,.int .i64 x.v.ty,.string (S x.v.tx),.slice la x.v.ps.length lc,.int .i64 x.v.st.y,.int .i64 x.v.st.m,.int .i64 x.v.st.d,.int .i64 x.v.st.h,.int .i64 x.v.st.n,.int .i64 x.v.st.s,.bool x.v.st.zd,.int .i64 x.v.st.zn,.int .i64 x.v.n] 38)) (HOK.out.p.grow ((G.refl _).alloc _)) (by have:=HXB.out.p;omega) (by have:=HXB.out.g;omega) (by have:=HXB.out.n;omega) (by simp)
   have hsn:(xs.take (k+1)).any akg=akg x:=by
    rw[List.take_add_one,HX.out,List.any_append,HNO.out];simp
   have HSN:=hid hsn
   obtain⟨t1,ht1⟩:∃t,awm x=t:=⟨_,rfl⟩
   have ht1':decide (2500<adm x.ps+x.g.length+x.n.length+([]:List UInt8).length)=t1:=ht1
   rw[ht1']at hwd
   refine hwd.use ?_
   clear hwd hsn ht1'
   intro w2 g2
   have HT1:=hid ht1
   have HANY:Hid (akg x=true→xs.any akg=true):=hid fun h=>List.any_eq_true.2 ⟨x,List.mem_of_getElem? HX.out,h⟩
   have hbox:∀(j:Nat) (u:Value),(x.cells (.slice pa x.ps.length pc) (.slice la x.v.ps.length lc))[j]?=some u→w2.cell? ⟨wr.heap.size,j,none⟩=some u:=fun j u hu=>by
    rw[g2.cell (by simp)]
    simpa[It.cells]using hu
   have q3:=hbox 3 _ rfl
   have q4:=hbox 4 _ rfl
   have q5:=hbox 5 _ rfl
   have q6:=hbox 6 _ rfl
   have q7:=hbox 7 _ rfl
   have q8:=hbox 8 _ rfl
   have q9:=hbox 9 _ rfl
   have q10:=hbox 10 _ rfl
   have q11:=hbox 11 _ rfl
   have q12:=hbox 12 _ rfl
   have q13:=hbox 13 _ rfl
   have q14:=hbox 14 _ rfl
   have GA:=hid ((G.refl wr).alloc (.cells #[.string (S x.g),.string (S x.n),.slice pa x.ps.length pc,.int .i64 x.v.ty,.string (S x.v.tx),.slice la x.v.ps.length lc,.int .i64 x.v.st.y,.int .i64 x.v.st.m,.int .i64 x.v.st.d,.int .i64 x.v.st.h,.int .i64 x.v.st.n,.int .i64 x.v.st.s,.bool x.v.st.zd,.int .i64 x.v.st.zn,.int .i64 x.v.n] 38) |>.trans g2)
   have TH:=hid (at7 x.v la lc w2 (HOK.out.l.grow GA.out) HXB.out.t (by have:=HXB.out.l;omega))
   clear hbox g2 ht1 k0 k1 k2 k3 k4 k5 k6 k7 k8 k9 k10 k11 k12 k13 k14
   cases t1 with
   |true=>
    go_wp2_with fail
    go_ret
    exact⟨zF (HANY.out (by unfold akg;rw[HT1.out];rfl)).symm,HG1.out.trans (HG.out.trans GA.out)⟩
   |false=>
    go_wp2_with fail
    obtain⟨t2,ht2⟩:∃t,awn x=t:=⟨_,rfl⟩
    have hth:=TH.out
    rw[show decide (1500<x.v.tx.length∨1500<acY x.v.ps)=t2 from ht2]at hth
    refine hth.use ?_
    have HT2:=hid ht2
    clear hth ht2 TH q3 q4 q5 q6 q7 q8 q9 q10 q11 q12 q13 q14
    intro w3 g3
    have GB:=hid (GA.out.trans g3)
    clear g3
    cases t2 with
    |true=>
     go_wp2_with fail
     go_ret
     exact⟨zF (HANY.out (by unfold akg;rw[HT2.out];simp)).symm,HG1.out.trans (HG.out.trans GB.out)⟩
    |false=>
     go_wp2_with fail
     go_roundw
     case measure=>simp[intOf];omega
     case rel=>exact⟨k+1,by omega,by go_num,by rw[HSN.out];unfold akg;rw[HT1.out,HT2.out];rfl,HG.out.trans GB.out⟩
  ·obtain rfl:k=xs.length:=by omega
   have HE:=hid (show xs.any akg=false by have:=HNO.out;rw[List.take_of_length_le (Nat.le_refl _)]at this;exact this)
   go_wp2_with fail
   go_ret
   exact⟨zF HE.out.symm,HG1.out.trans HG.out⟩
end Go.Proofs.YtmffejnigppbpaaGreatDoor

set_option maxHeartbeats 1000000
set_option maxRecDepth 100000
namespace Go.Proofs.YtmffejnigppbpaaGreatDoor
open Go.RowKit Go.ChangeShapes Go.WideShapes
theorem arK{n:Int}(h:(Lit.int .i64 n).wf=true) : -9223372036854775808≤n∧n≤9223372036854775807:=by
 simpa[Lit.wf,IntKind.min,IntKind.max,IntKind.signed,IntKind.bits]using h
instance:Inhabited It:=⟨⟨[],[],[],⟨0,[],[],St0,0⟩⟩⟩
theorem axd{l:List Nat}{a:Nat}(h:a∈l):a≤l.sum:=by
 induction l with
 |nil=>cases h
 |cons b l ih=>
  rw[List.sum_cons]
  rcases List.mem_cons.1 h with rfl|h
  ·omega
  ·have:=ih h;omega
def ajS(x:It):Nat:=x.g.length+x.n.length+adm x.ps+x.v.tx.length+acY x.v.ps
theorem avv{x:It}(h:ajS x≤1048576):Lim x:=by unfold ajS at h;exact⟨by omega,by omega,by omega,by omega,by omega⟩
section
variable {H:Type} {enc:TypeId×Value→H} {w:World}
theorem axe{fuel:Nat}{cs:List Value}{x:DataW H×List MemPlace}(h:DataW.trod enc Tryz.prog w 0 (fun _=>true) true fuel 36 cs=some x) :
  ∃(y:Vl) (lv:Value),cs=y.cells lv∧Uw w lv y.ps∧y.tx.length+acY y.ps≤Rows.uptoBulk x.1∧(-9223372036854775808≤y.st.y∧y.st.y≤9223372036854775807)∧(-9223372036854775808≤y.ty∧y.ty≤9223372036854775807):=by
 obtain⟨xs,n,_,hx,hl,hlen,hfs⟩:=DataW.trod_struct Tryz.underlying36 h
 have h12:cs.length=12:=hl.trans (by kernel_rfl)
 have hxl:xs.length=5:=hlen
 match cs,h12 with
 |[c0,c1,c2,c3,c4,c5,c6,c7,c8,c9,c10,c11],_=>
 match xs,hxl with
 |[x0,x1,x2,x3,x4],_=>
 have k0:=hfs 0 _ rfl
 have k1:=hfs 1 _ rfl
 have k2:=hfs 2 _ rfl
 have k3:=hfs 3 _ rfl
 have k4:=hfs 4 _ rfl
 obtain⟨a0,e0,f0,w0⟩:=DataW.trod_int Tryz.underlying3 k0
 obtain⟨l,e1,z1⟩:=agT Tryz.underlying9 k1
 obtain⟨pv,ls,e2,hL,z2⟩:=arM Tryz.underlying32 Tryz.underlying39 Tryz.underlying9 (by kernel_rfl) (by kernel_rfl) k2
 obtain⟨ys,n',_,hy,hl',hlen',hgs⟩:=DataW.trod_struct Tryz.underlying34 k3
 obtain⟨a4,e4,f4,w4⟩:=DataW.trod_int Tryz.underlying3 k4
 have hyl:ys.length=8:=hlen'
 match ys,hyl with
 |[y0,y1,y2,y3,y4,y5,y6,y7],_=>
 have q0:=hgs 0 _ rfl
 have q1:=hgs 1 _ rfl
 have q2:=hgs 2 _ rfl
 have q3:=hgs 3 _ rfl
 have q4:=hgs 4 _ rfl
 have q5:=hgs 5 _ rfl
 have q6:=hgs 6 _ rfl
 have q7:=hgs 7 _ rfl
 obtain⟨b0',m0,_,v0⟩:=DataW.trod_int Tryz.underlying3 q0
 obtain⟨b1,m1,_,_⟩:=DataW.trod_int Tryz.underlying3 q1
 obtain⟨b2,m2,_,_⟩:=DataW.trod_int Tryz.underlying3 q2
 obtain⟨b3,m3,_,_⟩:=DataW.trod_int Tryz.underlying3 q3
 obtain⟨b4,m4,_,_⟩:=DataW.trod_int Tryz.underlying3 q4
 obtain⟨b5,m5,_,_⟩:=DataW.trod_int Tryz.underlying3 q5
 obtain⟨b6,m6,_⟩:=DataW.trod_bool Tryz.underlying4 q6
 obtain⟨b7,m7,_,_⟩:=DataW.trod_int Tryz.underlying3 q7
 have g0:c0=.int .i64 a0:=(List.cons.inj e0).1
 have g1:c1=.string (S l):=(List.cons.inj e1).1
 have g2:c2=pv:=(List.cons.inj e2).1
 have g3:c3=.int .i64 b0':=(List.cons.inj m0).1
 have g4:c4=.int .i64 b1:=(List.cons.inj m1).1
 have g5:c5=.int .i64 b2:=(List.cons.inj m2).1
 have g6:c6=.int .i64 b3:=(List.cons.inj m3).1
 have g7:c7=.int .i64 b4:=(List.cons.inj m4).1
 have g8:c8=.int .i64 b5:=(List.cons.inj m5).1
 have g9:c9=.bool b6:=(List.cons.inj m6).1
 have g10:c10=.int .i64 b7:=(List.cons.inj m7).1
 have g11:c11=.int .i64 a4:=(List.cons.inj e4).1
 subst g0 g1 g2 g3 g4 g5 g6 g7 g8 g9 g10 g11
 have hd:x.1=.agg [x0.1,x1.1,x2.1,x3.1,x4.1]:=(Prod.mk.injEq _ _ _ _▸hx).1
 refine⟨⟨a0,l,ls,⟨b0',b1,b2,b3,b4,b5,b6,b7⟩,a4⟩,_,rfl,hL,?_,arK v0,arK w0⟩
 rw[hd]
 simp only[Rows.uptoBulk,Rows.uptoBulkAll]
 omega
theorem an0{fuel:Nat}{cs:List Value}{x:DataW H×List MemPlace}(h:DataW.trod enc Tryz.prog w 0 (fun _=>true) true fuel 38 cs=some x) :
  ∃(y:It) (pv lv:Value),cs=y.cells pv lv∧adE w y pv lv∧ajS y+1≤Rows.uptoBulk x.1:=by
 obtain⟨xs,n,_,hx,hl,hlen,hfs⟩:=DataW.trod_struct Tryz.underlying38 h
 have hxl:xs.length=4:=hlen
 have h2:cs.length=15:=hl.trans (by kernel_rfl)
 match cs,h2 with
 |[c0,c1,c2,c3,c4,c5,c6,c7,c8,c9,c10,c11,c12,c13,c14],_=>
 match xs,hxl with
 |[x0,x1,x2,x3],_=>
 have k0:=hfs 0 _ rfl
 have k1:=hfs 1 _ rfl
 have k2:=hfs 2 _ rfl
 have k3:=hfs 3 _ rfl
 obtain⟨l0,e0,z0⟩:=agT Tryz.underlying9 k0
 obtain⟨l1,e1,z1⟩:=agT Tryz.underlying9 k1
 obtain⟨v2,ps,e2,hP,z2⟩:=aqh k2
 obtain⟨v2',e2',hf⟩:=akA k2
 obtain⟨y,lv,e3,hL,z3,hy,ht⟩:=axe k3
 have g0:c0=.string (S l0):=(List.cons.inj e0).1
 have g1:c1=.string (S l1):=(List.cons.inj e1).1
 have g2:c2=v2:=(List.cons.inj e2).1
 have g2':c2=v2':=(List.cons.inj e2').1
 have g3:[c3,c4,c5,c6,c7,c8,c9,c10,c11,c12,c13,c14]=y.cells lv:=e3
 subst g0 g1 g2
 subst g2'
 refine⟨⟨l0,l1,ps,y⟩,_,lv,?_,⟨hP,hL,hf,hy,ht⟩,?_⟩
 ·show _::_::_::[c3,c4,c5,c6,c7,c8,c9,c10,c11,c12,c13,c14]=_
  rw[g3];rfl
 ·have hd:x.1=.agg [x0.1,x1.1,x2.1,x3.1]:=(Prod.mk.injEq _ _ _ _▸hx).1
  rw[hd]
  unfold ajS
  simp only[Rows.uptoBulk,Rows.uptoBulkAll]
  omega
theorem arL{fuel:Nat}{cs:List Value}{x:DataW H×List MemPlace}(h:DataW.trod enc Tryz.prog w 0 (fun _=>true) true fuel 22 cs=some x) :
  ∃v xs,cs=[v]∧UA w v xs∧(v=.slice none 0 0∨∃a n c,v=.slice (some a) n c)∧xs.length+1≤Rows.uptoBulk x.1∧∀y∈xs,ajS y≤Rows.uptoBulk x.1:=by
 obtain⟨v,n,m,CS,D,rfl,hrow,hcap,hel,hb⟩:=agS (k:=15) Tryz.underlying22 (by kernel_rfl) (by omega) (fun m cs y hy u hu=>by
  obtain⟨p,pv,lv,rfl,hs,_⟩:=an0 hy
  exact hs.one u hu) h
 obtain⟨L,hL⟩:=Deep.choose_lt (α:=It) (p:=fun i p=>∃pv lv,CS i=p.cells pv lv∧adE w p pv lv∧ajS p+1≤Rows.uptoBulk (D i)) (fun i hi=>by
  obtain⟨_,Pl,hp⟩:=hel i hi
  exact an0 hp)
 obtain⟨hlen,hone,hr⟩:=hrow
 have hll:((List.range n).map L).length=n:=by simp
 have h4:=aha (fun i=>ajS (L i)+1) (fun i=>Rows.uptoBulk (D i)) n fun i hi=>by obtain⟨_,_,_,_,h⟩:=hL i hi;omega
 have h5:((List.range n).map fun i=>ajS (L i)+1).sum=n+((List.range n).map fun i=>ajS (L i)).sum:=by
  clear h4 hll hr hone hlen hb hel h hL
  induction n with
  |zero=>rfl
  |succ n ih=>rw[List.range_succ,List.map_append,List.map_append,List.sum_append,List.sum_append,ih];simp;omega
 refine⟨v,(List.range n).map L,rfl,?_,?_,by rw[hll];omega,fun y hy=>?_⟩
 ·rcases hr with⟨rfl,hv⟩|⟨b,off,cap,rfl,hbl,hn,hc⟩
  ·rcases hv with rfl|⟨a,c,rfl⟩
   ·exact aku _ _ _
   ·exact aku _ _ _
  ·refine⟨_,_,by rw[hll],by rw[hll];exact hcap,fun _=>⟨b,off,rfl,hbl,fun i p hp=>?_⟩⟩
   obtain⟨hi,rfl⟩:=agG L n i p hp
   obtain⟨pv,lv,e1,e2,_⟩:=hL i hi
   refine⟨pv,lv,fun j u hu=>?_,e2⟩
   rw[←e1]at hu
   have hj:j<15:=by
    have:=(List.getElem?_eq_some_iff.1 hu).1
    rw[(hel i hi).1]at this;exact this
   have h1:=aoI CS n (fun i hi=>(hel i hi).1) i hi j hj
   have h3:i*15+j<((List.range n).flatMap CS).length:=by rw[hlen];omega
   have h2:=hc (i*15+j) h3
   rw[Nat.add_assoc,h2,←List.getElem?_eq_getElem h3,h1]
   exact hu
 ·rcases hr with⟨_,hv|⟨a,c,hv⟩⟩|⟨b,off,cap,hv,_⟩
  ·exact .inl hv
  ·exact .inr ⟨_,_,_,hv⟩
  ·exact .inr ⟨_,_,_,hv⟩
 ·obtain⟨i,hi,rfl⟩:=List.mem_map.1 hy
  have:=List.mem_range.1 hi
  obtain⟨_,_,_,_,h6⟩:=hL i this
  have h7:Rows.uptoBulk (D i)≤((List.range n).map fun i=>Rows.uptoBulk (D i)).sum:=axd (List.mem_map.2 ⟨i,hi,rfl⟩)
  omega
end
theorem ai3{H:Type}{enc:TypeId×Value→H}{W:World}{r:Reach}{b0:Nat}{v:Value}{d:DataW H}{ps:List MemPlace}(hval:Value.okWide Tryz.prog W r b0 24 v)(hd:DataW.Trod enc Tryz.prog W 0 (fun _=>true) true 24 v d ps) :
  ∃(ver:Int) (iv:Value) (xs:List It),v=acH ver iv∧UA W iv xs∧(iv=.slice none 0 0∨∃a n c,iv=.slice (some a) n c)∧xs.length≤Rows.uptoBulk d∧(∀y∈xs,ajS y≤Rows.uptoBulk d)∧(-9223372036854775808≤ver∧ver≤9223372036854775807):=by
 obtain⟨cs,rfl,hcs⟩:=okWide_struct Tryz.underlying24 hval
 obtain⟨fuel,hf⟩:=hd
 obtain⟨xs,n,_,hx,hl,hlen,hfs⟩:=DataW.trod_struct Tryz.underlying24 hf
 have h2:cs.size=2:=hcs.trans (by kernel_rfl)
 have hxl:xs.length=2:=hlen
 obtain⟨cs⟩:=cs
 simp only[List.size_toArray]at h2
 match cs,h2 with
 |[c0,c1],_=>
 match xs,hxl with
 |[x0,x1],_=>
 have k0:=hfs 0 _ rfl
 have k1:=hfs 1 _ rfl
 obtain⟨a0,e0,f0,w0⟩:=DataW.trod_int Tryz.underlying3 k0
 obtain⟨iv,ys,e1,hI,hform,hn,hm⟩:=arL k1
 have g0:c0=.int .i64 a0:=(List.cons.inj e0).1
 have g1:c1=iv:=(List.cons.inj e1).1
 subst g0 g1
 have hd:d=.agg [x0.1,x1.1]:=(Prod.mk.injEq _ _ _ _▸hx).1
 have hbd:Rows.uptoBulk x1.1≤Rows.uptoBulk d:=by rw[hd];simp only[Rows.uptoBulk,Rows.uptoBulkAll];omega
 exact⟨a0,_,ys,rfl,hI,hform,by omega,fun y hy=>Nat.le_trans (hm y hy) hbd,arK w0⟩
end Go.Proofs.YtmffejnigppbpaaGreatDoor

set_option maxHeartbeats 8000000
set_option maxRecDepth 100000
namespace Go.Proofs.YtmffejnigppbpaaGreatDoor
open Go.RowKit
def awp(x:It)(pv:Value)(ver:Int)(l:List UInt8)(k:Nat)(v:Value)(W:World):Prop:=
 match k with
 |0=>v=.agg #[.string (S x.g),.string (S x.n),pv,.string (S x.v.text)]
 |1=>v=.int .i64 ver
 |2=>v=.bool (ver==4)
 |3=>v=.tuple #[.string (S l),.nilIface]
 |4=>v=.string (S l)
 |5=>v=.nilIface
 |_=>True
theorem auF(ver:Int)(hv:ver=3∨ver=4)(x:It)(pv lv:Value)(w:World)(h:adE w x pv lv)(hs:Sml x)(hR:aeV w)(hM:aer w)(hE:UO w)(h1:adY ver x=true):Um 36 #[x.val pv lv,.int .i64 ver] w (.tuple #[.string (S (aeC (ver==4) (lnX x x.v.text))),.nilIface]):=by
 have hb:=hs.bounds
 obtain⟨h2,_,_,_,ho,_,_⟩:=ajq.1 h1
 have hre:=(ag2 h2 ho).1
 have LP0:∀W,G w W→Um 72 #[.agg #[.string (S x.g),.string (S x.n),pv,.string (S x.v.text)],.bool (ver==4)] W (.tuple #[.string (S (aeC (ver==4) (lnX x x.v.text))),.nilIface]):=fun W g=>by
  refine Calls.mono (agF x.g x.n x.v.text pv x.ps (ver==4) W (h.p.grow g) hb.1 hb.2.1 hb.2.2.2.2.2 hb.2.2.1) ?_
  rintro e w' ⟨r,rfl,hr,hg⟩
  have hr2:adu (ver==4) (lnX x x.v.text) r w':=hr
  unfold adu at hr2
  rw[hre]at hr2
  simp only at hr2
  subst hr2
  exact⟨rfl,hg⟩
 have ON:=hid (fun W (g:G w W)=>aon ver hv x pv lv W (h.grow g) hs (hR.grow g) (hM.grow g) (hE.grow g))
 have PR:=hid (fun W (g:G w W)=>alY x pv lv ver W (h.grow g) hs (hM.grow g) (hE.grow g) ho)
 obtain⟨l,hl⟩:∃l,l=aeC (ver==4) (lnX x x.v.text):=⟨_,rfl⟩
 rw[←hl]at LP0⊢
 obtain⟨pa,pc,rfl⟩:=h.pv
 obtain⟨la,lc,rfl⟩:=h.lv
 have LPW:=hid LP0
 have H1:=hid h1
 clear LP0 h hb hs hR hM hE h1 h2 ho hre hl
 have ways:(ver != 3)=false∨((ver != 3)=true∧(ver != 4)=false):=by rcases hv with rfl|rfl<;>simp
 clear hv
 rcases ways with b3|⟨b3,b4⟩
 all_goals
  go_enter Tryz.func36,Tryz.ntmps36
  go_wp2_with fail
  generalize hw1:w.alloc _=w1
  have HB:=hid (show w1.heap[w.heap.size]?=some (.cells (x.cells (.slice pa x.ps.length pc) (.slice la x.v.ps.length lc)).toArray 38 (0,0)) by rw[←hw1];exact heap_alloc_new w _)
  have G1:=hid (show G w w1 by rw[←hw1];exact(G.refl w).alloc _)
  clear hw1
  refine(ON.out w1 G1.out).use ?_
  rintro r w2 ⟨c,rfl,hoc⟩ g2
  obtain rfl:c=0:=hoc.ok.2 H1.out
  have G2:=hid (G1.out.trans g2)
  have HB2:=hid (uU HB.out g2)
  clear hoc g2
  obtain⟨q0,q1,q2,q3,q4,q5,q6,q7,q8,q9,q10,q11,q12,q13,q14⟩:=UM HB2.out
  go_wp2_with fail
  refine(PR.out w2 G2.out).use ?_
  intro wb gb
  clear q0 q1 q2 q3 q4 q5 q6 q7 q8 q9 q10 q11 q12 q13 q14
  go_wp2_with fail
  generalize hw9:wb.alloc _=w9
  have HP4:=hid (show w9.heap[wb.heap.size]?=some (.cells #[.string (S x.g),.string (S x.n),.slice pa x.ps.length pc,.string (S x.v.text)] 109 (0,0)) by rw[←hw9];exact heap_alloc_new wb _)
  have G9:=hid (show G w w9 by rw[←hw9];exact G2.out.trans (gb.alloc _))
  have LP:=hid (fun W (g:G w9 W)=>LPW.out W (G9.out.trans g))
  clear hw9 gb
  refine wp_region_any (by kernel_rfl) ?_
  refine acJ (E:=#[false,false,false,false,false,false,false,false]) G 6 (awp x (.slice pa x.ps.length pc) ver l) [some [],some [],some [(1,33)],some [(0,32),(2,34),(2,34)],some [(3,35)],some [(3,35)],none,none] [(0,32),(1,33),(2,34),(3,35),(4,36),(5,37)] _ (by kernel_rfl) (by decide) (by kernel_rfl) (by kernel_rfl) rfl G.refl (fun _ _ _=>G.trans) (w0:=w9) ((G.refl w9).drew) ?_ ?_ ?_
  ·intro k v W W' g h
   match k,h with
   |0,h=>exact h
   |1,h=>exact h
   |2,h=>exact h
   |3,h=>exact h
   |4,h=>exact h
   |5,h=>exact h
   |n+6,h=>trivial
  ·refine lW (fun vals W g d=>?_)<|lW (fun vals W g d=>?_)<|lW (fun vals W g d=>?_)<|lW (fun vals W g d=>?_)<|lW (fun vals W g d=>?_)<|lW (fun vals W g d=>?_)<|UB<|UB adJ
   ·refine nX rfl rfl rfl fun K hK=>?_
    simp only[gFr]at hK⊢
    obtain⟨k0,k1,k2,k3⟩:=ahy (uU HP4.out g)
    go_simp
    exact hK _ _ (G.refl _) rfl
   ·refine nX rfl rfl rfl fun K hK=>?_
    simp only[gFr]at hK⊢
    go_simp
    exact hK _ _ (G.refl _) rfl
   ·obtain⟨d1,_⟩:=d
    change vals 1=_ at d1
    refine nX rfl rfl rfl fun K hK=>?_
    simp only[gFr,d1]at hK⊢
    go_simp
    refine(af6 ver W).use ?_
    intro W' hg
    exact hK _ _ hg rfl
   ·obtain⟨d0,d2,_,_⟩:=d
    change vals 0=_ at d0
    change vals 2=_ at d2
    refine nX rfl rfl rfl fun K hK=>?_
    simp only[gFr,d0,d2]at hK⊢
    go_simp
    refine(LP.out W g).use ?_
    intro W' hg
    exact hK _ _ hg rfl
   ·obtain⟨d3,_⟩:=d
    change vals 3=_ at d3
    refine nX rfl rfl rfl fun K hK=>?_
    simp only[gFr,d3]at hK⊢
    go_simp
    exact hK _ _ (G.refl _) rfl
   ·obtain⟨d3,_⟩:=d
    change vals 3=_ at d3
    refine nX rfl rfl rfl fun K hK=>?_
    simp only[gFr,d3]at hK⊢
    go_simp
    exact hK _ _ (G.refl _) rfl
  ·intro vals W g d
   simp only[acS,ac1]at d
   obtain⟨d0,d1,d2,d3,d4,d5,_⟩:=d
   change vals 0=_ at d0
   change vals 1=_ at d1
   change vals 2=_ at d2
   change vals 3=_ at d3
   change vals 4=_ at d4
   change vals 5=_ at d5
   have GW:=hid (G9.out.trans g)
   refine⟨?_⟩
   show wpList _ _ _ [_,_] _ _
   simp only[gFr,d0,d1,d2,d3,d4,d5]
   clear d0 d1 d2 d3 d4 d5
   go_wp2_with fail
   refine bodyPost_ret (v:=.tuple #[.string (S l),.nilIface]) ?_ rfl ⟨rfl,GW.out⟩
   simp only[results,Tryz.f36]
   go_simp
end Go.Proofs.YtmffejnigppbpaaGreatDoor

set_option maxHeartbeats 4000000
set_option maxRecDepth 100000
namespace Go.Proofs.YtmffejnigppbpaaGreatDoor
open Go.RowKit
theorem aul{w:World}{C Z:Nat}(hne:C≠Z){a0 a1 z0 z1:Value}{t t':TypeId}(hC:w.heap[C]?=some (.cells #[a0,a1] t (0,0)))(hZ:w.heap[Z]?=some (.cells #[z0,z1] t' (0,0)))(V:Value) :
  w.cell? ⟨C,1,none⟩=some a1∧w.frozen? ⟨C,1,none⟩=false∧(w.setCell ⟨C,1,none⟩ V).cell? ⟨C,0,none⟩=some a0∧(w.setCell ⟨C,1,none⟩ V).cell? ⟨C,1,none⟩=some V∧(w.setCell ⟨C,1,none⟩ V).cell? ⟨Z,0,none⟩=some z0∧(w.setCell ⟨C,1,none⟩ V).frozen? ⟨Z,0,none⟩=false∧((w.setCell ⟨C,1,none⟩ V).setCell ⟨Z,0,none⟩ a0).cell? ⟨Z,1,none⟩=some z1∧((w.setCell ⟨C,1,none⟩ V).setCell ⟨Z,0,none⟩ a0).frozen? ⟨Z,1,none⟩=false∧(((w.setCell ⟨C,1,none⟩ V).setCell ⟨Z,0,none⟩ a0).setCell ⟨Z,1,none⟩ V).cell? ⟨Z,0,none⟩=some a0∧(((w.setCell ⟨C,1,none⟩ V).setCell ⟨Z,0,none⟩ a0).setCell ⟨Z,1,none⟩ V).cell? ⟨Z,1,none⟩=some V:=by
 have c0:w.cell? ⟨C,0,none⟩=some a0:=(cell_of_row w C 0 _ _ _ hC).trans rfl
 have c1:w.cell? ⟨C,1,none⟩=some a1:=(cell_of_row w C 1 _ _ _ hC).trans rfl
 have d0:w.cell? ⟨Z,0,none⟩=some z0:=(cell_of_row w Z 0 _ _ _ hZ).trans rfl
 have d1:w.cell? ⟨Z,1,none⟩=some z1:=(cell_of_row w Z 1 _ _ _ hZ).trans rfl
 have far:∀(w:World) (i j:Nat) (v:Value),(w.setCell ⟨C,i,none⟩ v).cell? ⟨Z,j,none⟩=w.cell? ⟨Z,j,none⟩:=fun w i j v=>World.cell?_setCell_other _ _ _ _ (by intro e;injection e with e;exact hne e)
 have near:∀(w:World) (b i j:Nat) (v:Value),i≠j→(w.setCell ⟨b,i,none⟩ v).cell? ⟨b,j,none⟩=w.cell? ⟨b,j,none⟩:=fun w b i j v h=>World.cell?_setCell_other _ _ _ _ (by intro e;injection e with _ e;exact h e)
 have same:∀(w:World) (b i:Nat) (u v:Value),w.cell? ⟨b,i,none⟩=some u→(w.setCell ⟨b,i,none⟩ v).cell? ⟨b,i,none⟩=some v:=fun w b i u v h=>World.cell?_setCell_same _ _ _ h
 have e0:=(far w 1 0 V).trans d0
 have e1:=(far w 1 1 V).trans d1
 have g1:=(near (w.setCell ⟨C,1,none⟩ V) Z 0 1 a0 (by decide)).trans e1
 refine⟨c1,Lib.frozen_of_heap hC 1,(near _ _ _ _ _ (by decide)).trans c0,same _ _ _ _ _ c1,e0,by rw[World.frozen?_setCell];exact Lib.frozen_of_heap hZ 0,g1,by rw[World.frozen?_setCell,World.frozen?_setCell];exact Lib.frozen_of_heap hZ 1,?_,same _ _ _ _ _ g1⟩
 rw[near _ _ _ _ _ (by decide)]
 exact same _ _ _ _ _ e0
def axH(C:Nat)(iv xv:Value)(x:It)(pv lv:Value)(n m:Nat)(cs:List Value)(k:Nat)(v:Value)(W:World):Prop:=
 match k with
 |0=>v=.pointer (some ⟨C,1,none⟩)
 |1=>v=iv
 |2=>aeP n W v m cs
 |3=>v=xv
 |4=>∃b,v=.slice (some ⟨b,0,none⟩) 1 1∧W.heap[b]?=some (.cells (x.cells pv lv).toArray 38 (0,0))
 |_=>True
theorem awf(ver:Int)(iv:Value)(k:Nat)(cs:List Value)(x:It)(pv lv:Value)(w:World)(h:aiv w iv k cs)(hf:iv=.slice none 0 0∨∃a n c,iv=.slice (some a) n c)(hx:adE w x pv lv)(hl:k≤1000) :
  Uz 31 #[acH ver iv,x.val pv lv] w (fun v w'=>∃u,v=acH ver u∧aeP (w.heap.size+1) w' u (k+1) (cs++x.cells pv lv)):=by
 have hcl:=akS iv k cs w h hf (by omega)
 have HCL:=hid hcl
 have HX:=hid hx
 obtain⟨pa,pc,rfl⟩:=hx.pv
 obtain⟨la,lc,rfl⟩:=hx.lv
 obtain⟨ia,ic,rfl⟩:=h.form
 obtain⟨i0,hi,hz0,hz1,hz2⟩:=info_parts amk
 clear hcl hx h hf
 unfold acH
 go_enter Tryz.func31,Tryz.ntmps31
 go_wp2_with fail
 generalize hw5:((World.alloc (World.alloc (World.alloc _ _) _) _))=w5
 have GW5:Hid (G w w5):=hid (by rw[←hw5];exact(((G.refl w).alloc _).alloc _).alloc _)
 have HBX:=hid (show w5.heap[w.heap.size]?=some (.cells #[.int .i64 ver,.slice ia k ic] 24 (0,0)) by rw[←hw5,Lib.alloc_old _ _ _ (by simp;omega),Lib.alloc_old _ _ _ (by simp)];exact heap_alloc_new w _)
 have HIX:=hid (show w5.heap[w.heap.size+1]?=some (.cells (x.cells (.slice pa x.ps.length pc) (.slice la x.v.ps.length lc)).toArray 38 (0,0)) by rw[←hw5,Lib.alloc_old _ _ _ (by simp)];have:=heap_alloc_new (w.alloc (.cells #[.int .i64 ver,.slice ia k ic] 24)) (.cells (x.cells (.slice pa x.ps.length pc) (.slice la x.v.ps.length lc)).toArray 38);simpa[It.cells]using this)
 have HZX:=hid (show w5.heap[w.heap.size+1+1]?=some (.cells #[.int .i64 0,.slice none 0 0] 24 (0,0)) by
  rw[←hw5]
  have:=heap_alloc_new ((w.alloc (.cells #[.int .i64 ver,.slice ia k ic] 24)).alloc (.cells (x.cells (.slice pa x.ps.length pc) (.slice la x.v.ps.length lc)).toArray 38)) (.cells #[.int .i64 0,.slice none 0 0] 24)
  simpa[It.cells]using this)
 clear hw5
 refine wp_region_any (by kernel_rfl) ?_
 refine ajE (E:=#[false,false,false,false,false,false,false,false]) G 5 (axH w.heap.size (.slice ia k ic) (x.val (.slice pa x.ps.length pc) (.slice la x.v.ps.length lc)) x (.slice pa x.ps.length pc) (.slice la x.v.ps.length lc) w5.heap.size k cs) [some [],some [(0,5)],some [(1,6)],some [],some [(3,8)],none,none,none] [(0,5),(1,6),(2,7),(3,8),(4,9)] _ (by kernel_rfl) (by decide) (by kernel_rfl) (by kernel_rfl) rfl G.refl (fun _ _ _=>G.trans) (w0:=w5) ((G.refl w5).drew) ?_ ?_ ?_
 ·intro i v W W' g h
  match i,h with
  |0,h=>exact h
  |1,h=>exact h
  |2,h=>exact aeP.grow h g
  |3,h=>exact h
  |4,⟨b,e,h⟩=>exact⟨b,e,(g.below.block b (Array.getElem?_eq_some_iff.1 h).1).trans h⟩
  |n+5,h=>trivial
 ·refine⟨fun vals W g d=>?_,⟨fun vals W g d=>?_,⟨fun vals W g d=>?_,⟨fun vals W g d=>?_,⟨fun vals W g d=>?_,trivial⟩⟩⟩⟩⟩
  ·refine nX rfl rfl rfl fun K hK=>?_
   simp only[gFr]at hK⊢
   go_simp
   exact hK _ _ (G.refl _) rfl
  ·refine nX rfl rfl rfl fun K hK=>?_
   obtain⟨d0,_⟩:=d
   change vals 0=_ at d0
   simp only[gFr,d0]at hK⊢
   have c1:W.cell? ⟨w.heap.size,1,none⟩=some (.slice ia k ic):=by rw[g.cell (World.block_lt_of_cell? _ _ (by rw[cell_of_row w5 w.heap.size 1 _ _ _ HBX.out];rfl)),cell_of_row w5 w.heap.size 1 _ _ _ HBX.out];rfl
   go_simp
   exact hK _ _ (G.refl _) rfl
  ·refine nX rfl rfl rfl fun K hK=>?_
   obtain⟨d1,_⟩:=d
   change vals 1=_ at d1
   simp only[gFr,d1]at hK⊢
   go_simp
   refine(HCL.out W (GW5.out.trans g) w5.heap.size g.size).mono ?_
   rintro e W' ⟨u,rfl,ho,hg⟩
   exact hK u W' hg ho
  ·refine nX rfl rfl rfl fun K hK=>?_
   simp only[gFr]at hK⊢
   obtain⟨k0,k1,k2,k3,k4,k5,k6,k7,k8,k9,k10,k11,k12,k13,k14⟩:=(alo.e (alo.grow ⟨fun j u hu=>by rw[Nat.zero_add,cell_of_row w5 (w.heap.size+1) j _ _ _ HIX.out];simpa using hu,HX.out.grow GW5.out⟩ (Array.getElem?_eq_some_iff.1 HIX.out).1 g):_)
   go_simp
   exact hK _ _ (G.refl _) rfl
  ·refine nX rfl rfl rfl fun K hK=>?_
   obtain⟨d3,_⟩:=d
   change vals 3=_ at d3
   simp only[gFr,d3]at hK⊢
   go_simp
   exact hK _ _ ((G.refl _).alloc _) ⟨W.heap.size,rfl,heap_alloc_new W _⟩
 ·intro vals W g d
  obtain⟨d0,d1,d2,d3,⟨b,d4,d5⟩,_⟩:=d
  change vals 0=_ at d0
  change vals 1=_ at d1
  change aeP w5.heap.size W (vals 2) k cs at d2
  change vals 3=_ at d3
  have GW:=hid (GW5.out.trans g)
  have BC:=hid ((g.below.block _ (Array.getElem?_eq_some_iff.1 HBX.out).1).trans HBX.out)
  have BZ:=hid ((g.below.block _ (Array.getElem?_eq_some_iff.1 HZX.out).1).trans HZX.out)
  have hCZ:w.heap.size+1+1<w5.heap.size:=(Array.getElem?_eq_some_iff.1 HZX.out).1
  have hgz:=g.size
  have GG:=hid g
  have R2:=hid d2
  show wpList _ _ _ [_,_,_] _ _
  simp only[gFr,d0,d1,d3,d4]
  clear d2 d0 d1 d3 d4
  go_wp2_with (at_builtin;(refine wpList_append_own _ rfl _ _ 22 rfl w5.heap.size 38 i0 _ 15 176 Tryz.underlying22 hi hz0 hz1 hz2 rfl (by decide) _ _ _ rfl R2.out ⟨b,0,none⟩ 1 1 (x.cells (.slice pa x.ps.length pc) (.slice la x.v.ps.length lc)) rfl rfl (fun j u hu=>by rw[ajI,Nat.zero_add,cell_of_row W b j _ _ _ d5];simpa using hu) HX.out.one (by unfold maxLen;omega) (by omega) hgz ?_;intro v' w1 hown' hgrow hnil;obtain⟨⟨b',cap',rfl⟩,hB⟩:=aeP.snoc R2.out GG.out.below hgz hgrow hown';have hO:=hown';clear hown' hgrow hnil;have B1C:=hid ((hB.block _ (Array.getElem?_eq_some_iff.1 HBX.out).1).trans HBX.out);have B1Z:=hid ((hB.block _ (Array.getElem?_eq_some_iff.1 HZX.out).1).trans HZX.out);have HO:=hid hO;have HB:=hid hB;clear hO hB d5 hCZ;clear BC BZ GG R2 HIX;obtain⟨c1,f1,t0,t1,z0,y0,z1,y1,r0,r1⟩:=aul (show w.heap.size≠w.heap.size+1+1 by omega) B1C.out B1Z.out (.slice (some ⟨b',0,none⟩) (k+1) cap')))
  have hW:G w (((w1.setCell ⟨w.heap.size,1,none⟩ (.slice (some ⟨b',0,none⟩) (k+1) cap')).setCell ⟨w.heap.size+1+1,0,none⟩ (.int .i64 ver)).setCell ⟨w.heap.size+1+1,1,none⟩ (.slice (some ⟨b',0,none⟩) (k+1) cap')):=by
   refine Below.setCell (Below.setCell (Below.setCell (GW5.out.below.trans (HB.out.mono GW5.out.size)) ?_ _) ?_ _) ?_ _<;>simp only<;>omega
  have hZ:w.heap.size+1+1<w5.heap.size:=(Array.getElem?_eq_some_iff.1 HZX.out).1
  refine bodyPost_ret (v:=acH ver (.slice (some ⟨b',0,none⟩) (k+1) cap')) ?_ rfl ⟨_,rfl,⟨_,rfl,afV (aeP.same HO.out fun b hb _=>?_) (by omega)⟩,hW⟩
  ·unfold acH
   simp only[results,Tryz.f31]
   go_simp
  ·rw[Below.heap_setCell _ _ _ _ (by simp only;omega),Below.heap_setCell _ _ _ _ (by simp only;omega),Below.heap_setCell _ _ _ _ (by simp only;omega)]
end Go.Proofs.YtmffejnigppbpaaGreatDoor
