/-
  Texts merged into one: Open, OpenLists, OpenParams, CardSmall, ConvRow.
-/
import Derived.Test.YtmffejnigppbpaaGreatDoorCXMA49
import Derived.Deep.Slices
import Derived.Carry
import Derived.Test.YtmffejnigppbpaaGreatDoorCXMA59
import Derived.Test.YtmffejnigppbpaaGreatDoorCXMA50
import Derived.ChangeArms
import Derived.ChangeSame
import Derived.WideShapes
import Derived.Test.YtmffejnigppbpaaGreatDoorCXMA71
import Derived.Test.YtmffejnigppbpaaGreatDoorCXMA60
import Derived.Test.YtmffejnigppbpaaGreatDoorCXMA67
set_option linter.unusedVariables false
set_option linter.unusedSimpArgs false
namespace Go.Proofs.YtmffejnigppbpaaGreatDoor
open Go.RowKit Go.ChangeShapes Go.WideShapes
theorem yg{α:Type}{k:Nat}(CS:Nat→List α):∀n,(∀i,i<n→(CS i).length=k)→((List.range n).flatMap CS).length=n*k:=by
 intro n
 induction n with
 |zero=>intro _;simp
 |succ n ih=>
  intro h
  rw[List.range_succ,List.flatMap_append,List.length_append,ih fun i hi=>h i (by omega)]
  simp[h n (by omega),Nat.succ_mul]
theorem Nc{α:Type}{k:Nat}(CS:Nat→List α):∀n,(∀i,i<n→(CS i).length=k)→∀i,i<n→∀j,j<k→((List.range n).flatMap CS)[i*k+j]?=(CS i)[j]?:=by
 intro n
 induction n with
 |zero=>intro _ i hi;omega
 |succ n ih=>
  intro h i hi j hj
  have hl:=yg CS n fun i hi=>h i (by omega)
  rw[List.range_succ,List.flatMap_append]
  rcases Nat.lt_or_ge i n with hlt|hge
  ·have:i*k+j<n*k:=by
    have:(i+1)*k≤n*k:=Nat.mul_le_mul_right k hlt
    rw[Nat.succ_mul]at this;omega
   rw[List.getElem?_append_left (by omega)]
   exact ih (fun i hi=>h i (by omega)) i hlt j hj
  ·obtain rfl:i=n:=by omega
   rw[List.getElem?_append_right (by omega),hl]
   simp
theorem SE{w:World}{p:Addr}{v:Value}(h:w.cell? p=some v):p.block<w.heap.size:=World.block_lt_of_cell? w p h
theorem Nk{w:World}{p:Addr}{v:Value}(h:w.cell? p=some v):p=⟨p.block,p.off,none⟩:=by
 obtain⟨b,o,s⟩:=p
 cases s with
 |none=>rfl
 |some s=>
  unfold World.cell? at h
  split at h
  ·simp at h
  ·cases h
theorem ZR(b o j:Nat):(⟨b,o,none⟩:Addr).add j=⟨b,o+j,none⟩:=by unfold Addr.add;split<;>simp_all
section
variable {H:Type} {enc:TypeId×Value→H} {w:World}
theorem JL(D:Nat→DataW H)(n:Nat):Rows.uptoBulkAll ((List.range n).map D)=((List.range n).map fun i=>Rows.uptoBulk (D i)).sum:=by
 have key:∀l:List (DataW H),Rows.uptoBulkAll l=(l.map Rows.uptoBulk).sum:=by
  intro l
  induction l with
  |nil=>simp[Rows.uptoBulkAll]
  |cons a l ih=>simp[Rows.uptoBulkAll,ih]
 rw[key,List.map_map];rfl
theorem vK{t e:TypeId}{k fuel:Nat}{cs:List Value}{x:DataW H×List MemPlace}(ht:Tryz.prog.underlying t=some (.slice e))(hk:Tryz.prog.cellsOf e=k)(hk0:0<k)(hone:∀(m:Nat) (cs:List Value) (y:DataW H×List MemPlace),DataW.trod enc Tryz.prog w 0 (fun _=>true) true m e cs=some y→∀u∈cs,u.oneCell'=true)(h:DataW.trod enc Tryz.prog w 0 (fun _=>true) true fuel t cs=some x) :
  ∃(v:Value) (n m:Nat) (CS:Nat→List Value) (D:Nat→DataW H),cs=[v]∧mi k w v n ((List.range n).flatMap CS)∧O4 v
   ∧ (∀i,i<n→(CS i).length=k∧∃Pl,DataW.trod enc Tryz.prog w 0 (fun _=>true) true m e (CS i)=some (D i,Pl))
   ∧ 1+((List.range n).map fun i=>Rows.uptoBulk (D i)).sum≤Rows.uptoBulk x.1:=by
 rcases Deep.open_slice ht h with⟨rfl,rfl⟩|⟨a,len,cap,m,n,D,Pl,rfl,_,hl,hm,hmm,rfl,hx⟩
 ·exact⟨_,0,0,fun _=>[],fun _=>.nil,rfl,⟨by simp,by simp,.inl ⟨rfl,.inl rfl⟩⟩,Nat.le_refl _,by omega,by simp[Rows.uptoBulk]⟩
 ·have hmc:m=cap:=by simpa using hmm
  subst hmc
  rw[hk]at hx
  obtain⟨CS,hCS⟩:=Deep.choose_lt (α:=List Value) (p:=fun i c=>w.cells? 0 (a.add (i*k)) k=some c∧DataW.trod enc Tryz.prog w 0 (fun _=>true) true n e c=some (D i,Pl i)) hx
  have hlen:∀i,i<len→(CS i).length=k:=fun i hi=>(World.cells?_some (hCS i (by omega)).1).2.1
  have hcell:∀i,i<len→∀j,j<k→w.cell? (a.add (i*k+j))=(CS i)[j]?:=fun i hi j hj=>by
   have:=(World.cells?_some (hCS i (by omega)).1).2.2 j hj
   rwa [Deep.add_add]at this
  have hbulk:1+((List.range len).map fun i=>Rows.uptoBulk (D i)).sum≤Rows.uptoBulk (DataW.slice ((List.range len).map D) ((List.range (m-len)).map fun j=>D (len+j))):=by
   simp only[Rows.uptoBulk,JL];omega
  refine⟨_,len,n,CS,D,rfl,⟨yg CS len hlen,?_,?_⟩,hl,fun i hi=>⟨hlen i hi,Pl i,(hCS i (by omega)).2⟩,hbulk⟩
  ·intro u hu
   obtain⟨i,hi,hu⟩:=List.mem_flatMap.1 hu
   exact hone n (CS i) _ (hCS i (by have:=List.mem_range.1 hi;omega)).2 u hu
  ·rcases Nat.eq_zero_or_pos len with h0|h0
   ·subst h0;exact .inl ⟨rfl,.inr ⟨_,_,rfl⟩⟩
   ·right
    have h1:=hcell 0 h0 0 hk0
    rw[List.getElem?_eq_getElem (by rw[hlen 0 h0];exact hk0)]at h1
    have e0:a.add (0*k+0)=a:=by simp[Addr.add]
    rw[e0]at h1
    have hs:=Nk h1
    refine⟨a.block,a.off,m,by rw[←hs],SE h1,h0,fun q hq=>?_⟩
    have hql:q<len*k:=by rw[yg CS len hlen]at hq;exact hq
    have hi:q/k<len:=Nat.div_lt_of_lt_mul (by rw[Nat.mul_comm];exact hql)
    have hj:q%k<k:=Nat.mod_lt _ hk0
    have e:q/k*k+q%k=q:=by rw[Nat.mul_comm];exact Nat.div_add_mod q k
    have c1:=hcell _ hi _ hj
    have c2:=Nc CS len hlen _ hi _ hj
    rw[e]at c1 c2
    rw[List.getElem?_eq_getElem hq]at c2
    rw[←c2]at c1
    rw[←c1,hs,ZR]
theorem vM{t:TypeId}{fuel:Nat}{cs:List Value}{x:DataW H×List MemPlace}(ht:Tryz.prog.underlying t=some .string)(h:DataW.trod enc Tryz.prog w 0 (fun _=>true) true fuel t cs=some x):∃l,cs=[.string (S l)]∧l.length+1=Rows.uptoBulk x.1:=by
 obtain⟨s,rfl,rfl,_⟩:=DataW.trod_string ht h
 obtain⟨l,rfl⟩:=acA s
 exact⟨l,rfl,by simp[Rows.uptoBulk]⟩
theorem uV{α:Type}(L:Nat→α)(n i:Nat)(x:α)(h:((List.range n).map L)[i]?=some x):i<n∧L i=x:=by
 rw[List.getElem?_map]at h
 rcases Nat.lt_or_ge i n with hi|hi
 ·rw[List.getElem?_range hi]at h
  exact⟨hi,by simpa using h⟩
 ·rw[List.getElem?_eq_none (by simpa using hi)]at h;cases h
theorem Pq(CS:Nat→List Value)(V:Nat→Value)(n:Nat)(h:∀i,i<n→CS i=[V i]):(List.range n).flatMap CS=(List.range n).map V:=by
 induction n with
 |zero=>rfl
 |succ n ih=>rw[List.range_succ,List.flatMap_append,List.map_append,ih fun i hi=>h i (by omega)];simp[h n (by omega)]
theorem wH(f g:Nat→Nat)(n:Nat)(h:∀i,i<n→f i≤g i):((List.range n).map f).sum≤((List.range n).map g).sum:=by
 induction n with
 |zero=>simp
 |succ n ih=>
  rw[List.range_succ,List.map_append,List.map_append,List.sum_append,List.sum_append]
  have:=ih fun i hi=>h i (by omega)
  have:=h n (by omega)
  simp;omega
def BO(ls:List (List UInt8)):Nat:=(ls.map fun l=>l.length+1).sum
theorem D6{t e:TypeId}{fuel:Nat}{cs:List Value}{x:DataW H×List MemPlace}(ht:Tryz.prog.underlying t=some (.slice e))(he:Tryz.prog.underlying e=some .string)(hk:Tryz.prog.cellsOf e=1)(h:DataW.trod enc Tryz.prog w 0 (fun _=>true) true fuel t cs=some x):∃v ls,cs=[v]∧di w v ls∧BO ls+1≤Rows.uptoBulk x.1:=by
 obtain⟨v,n,m,CS,D,rfl,hrow,hcap,hel,hb⟩:=vK ht hk (by omega) (fun m cs y hy u hu=>by
  obtain⟨l,rfl,_⟩:=vM he hy
  rw[List.mem_singleton.1 hu];rfl) h
 obtain⟨L,hL⟩:=Deep.choose_lt (α:=List UInt8) (p:=fun i l=>CS i=[.string (S l)]∧l.length+1=Rows.uptoBulk (D i)) (fun i hi=>by
  obtain⟨_,Pl,hp⟩:=hel i hi
  exact vM he hp)
 rw[Pq CS (fun i=>.string (S (L i))) n fun i hi=>(hL i hi).1]at hrow
 refine⟨v,(List.range n).map L,rfl,⟨?_,hcap⟩,?_⟩
 ·have e1:((List.range n).map L).length=n:=by simp
  have e2:(((List.range n).map L).map fun l=>Value.string (S l))=(List.range n).map fun i=>Value.string (S (L i)):=by rw[List.map_map];rfl
  rw[e1,e2];exact hrow
 ·have e3:BO ((List.range n).map L)=((List.range n).map fun i=>(L i).length+1).sum:=by unfold BO;rw[List.map_map];rfl
  have:=wH (fun i=>(L i).length+1) (fun i=>Rows.uptoBulk (D i)) n fun i hi=>Nat.le_of_eq (hL i hi).2
  rw[e3];omega
theorem Py{d:List (DataW H)}(hk:Rows.uptoSmall H d=true):Rows.uptoBulkAll d≤1048576:=of_decide_eq_true hk
end
end Go.Proofs.YtmffejnigppbpaaGreatDoor

namespace Go.Proofs.YtmffejnigppbpaaGreatDoor
open Go.RowKit Go.ChangeShapes Go.WideShapes
section
variable {H:Type} {enc:TypeId×Value→H} {w:World}
theorem SN{t e s:TypeId}{fuel:Nat}{cs:List Value}{x:DataW H×List MemPlace}(ht:Tryz.prog.underlying t=some (.slice e))(he:Tryz.prog.underlying e=some (.slice s))(hs:Tryz.prog.underlying s=some .string)(hk:Tryz.prog.cellsOf e=1)(hk1:Tryz.prog.cellsOf s=1)(h:DataW.trod enc Tryz.prog w 0 (fun _=>true) true fuel t cs=some x):∃v ls,cs=[v]∧fA w v ls∧iL ls+1≤Rows.uptoBulk x.1:=by
 obtain⟨v,n,m,CS,D,rfl,hrow,hcap,hel,hb⟩:=vK ht hk (by omega) (fun m cs y hy u hu=>by
  obtain⟨v,l,rfl,hl,_⟩:=D6 he hs hk1 hy
  obtain⟨a,c,e,_⟩:=hl.len
  rw[List.mem_singleton.1 hu,e];rfl) h
 obtain⟨V,hV⟩:=Deep.choose_lt (α:=Value) (p:=fun i v=>∃ls,CS i=[v]∧di w v ls∧BO ls+1≤Rows.uptoBulk (D i)) (fun i hi=>by
  obtain⟨_,Pl,hp⟩:=hel i hi
  exact D6 he hs hk1 hp)
 obtain⟨L,hL⟩:=Deep.choose_lt (α:=List (List UInt8)) (p:=fun i ls=>CS i=[V i]∧di w (V i) ls∧BO ls+1≤Rows.uptoBulk (D i)) hV
 rw[Pq CS V n fun i hi=>(hL i hi).1]at hrow
 refine⟨v,(List.range n).map L,rfl,⟨(List.range n).map V,by simpa using hrow,hcap,fun i l hl=>?_⟩,?_⟩
 ·obtain⟨hi,rfl⟩:=uV L n i l hl
  exact⟨V i,by simp[List.getElem?_range hi],(hL i hi).2.1⟩
 ·have e3:iL ((List.range n).map L)=((List.range n).map fun i=>BO (L i)+1).sum:=by unfold iL;rw[List.map_map];rfl
  have:=wH (fun i=>BO (L i)+1) (fun i=>Rows.uptoBulk (D i)) n fun i hi=>(hL i hi).2.2
  rw[e3];omega
end
end Go.Proofs.YtmffejnigppbpaaGreatDoor

set_option maxHeartbeats 400000
set_option maxRecDepth 100000
namespace Go.Proofs.YtmffejnigppbpaaGreatDoor
open Go.RowKit Go.ChangeShapes Go.WideShapes
theorem Pz(x:List (List UInt8)):BO x=x.length+(x.map List.length).sum:=by
 unfold BO
 induction x with
 |nil=>rfl
 |cons a x ih=>simp only[List.map_cons,List.sum_cons,List.length_cons,ih];omega
section
variable {H:Type} {enc:TypeId×Value→H} {w:World}
theorem Az{fuel:Nat}{cs:List Value}{x:DataW H×List MemPlace}(h:DataW.trod enc Tryz.prog w 0 (fun _=>true) true fuel 41 cs=some x) :
  ∃(p:Pm) (sv:Value),cs=[.string (S p.1),sv]∧di w sv p.2∧gG p+2≤Rows.uptoBulk x.1:=by
 obtain⟨xs,n,_,hx,hl,hlen,hfs⟩:=DataW.trod_struct Tryz.underlying41 h
 have hxl:xs.length=2:=hlen
 have h2:cs.length=2:=hl.trans (by kernel_rfl)
 match cs,h2 with
 |[c0,c1],_=>
 match xs,hxl with
 |[x0,x1],_=>
 have k0:=hfs 0 _ rfl
 have k1:=hfs 1 _ rfl
 obtain⟨l,e0,z0⟩:=vM Tryz.underlying9 k0
 obtain⟨sv,ls,e1,hL,z1⟩:=D6 Tryz.underlying39 Tryz.underlying9 (by kernel_rfl) k1
 have g0:c0=.string (S l):=(List.cons.inj e0).1
 have g1:c1=sv:=(List.cons.inj e1).1
 subst g0 g1
 refine⟨(l,ls),_,rfl,hL,?_⟩
 have hd:x.1=.agg [x0.1,x1.1]:=(Prod.mk.injEq _ _ _ _▸hx).1
 rw[hd]
 have:=Pz ls
 simp only[Rows.uptoBulk,Rows.uptoBulkAll,gG]
 omega
theorem D8{fuel:Nat}{cs:List Value}{x:DataW H×List MemPlace}(h:DataW.trod enc Tryz.prog w 0 (fun _=>true) true fuel 31 cs=some x) :
  ∃v,cs=[v]∧(v=.slice none 0 0∨∃a n c,v=.slice (some a) n c):=by
 obtain⟨v,n,m,CS,D,rfl,hrow,hcap,hel,hb⟩:=vK (k:=2) Tryz.underlying31 (by kernel_rfl) (by omega) (fun m cs y hy u hu=>by
  obtain⟨p,sv,rfl,hs,_⟩:=Az hy
  obtain⟨a,c,e,_⟩:=hs.len
  simp only[List.mem_cons,List.mem_nil_iff,or_false]at hu
  rcases hu with rfl|rfl
  ·rfl
  ·rw[e];rfl) h
 obtain⟨_,_,hr⟩:=hrow
 refine⟨v,rfl,?_⟩
 rcases hr with⟨_,hv|⟨a,c,hv⟩⟩|⟨b,off,cap,hv,_⟩
 ·exact .inl hv
 ·exact .inr ⟨_,_,_,hv⟩
 ·exact .inr ⟨_,_,_,hv⟩
theorem PD{fuel:Nat}{cs:List Value}{x:DataW H×List MemPlace}(h:DataW.trod enc Tryz.prog w 0 (fun _=>true) true fuel 31 cs=some x) :
  ∃v ps,cs=[v]∧eu w v ps∧fK ps+1≤Rows.uptoBulk x.1:=by
 obtain⟨v,n,m,CS,D,rfl,hrow,hcap,hel,hb⟩:=vK (k:=2) Tryz.underlying31 (by kernel_rfl) (by omega) (fun m cs y hy u hu=>by
  obtain⟨p,sv,rfl,hs,_⟩:=Az hy
  obtain⟨a,c,e,_⟩:=hs.len
  simp only[List.mem_cons,List.mem_nil_iff,or_false]at hu
  rcases hu with rfl|rfl
  ·rfl
  ·rw[e];rfl) h
 obtain⟨L,hL⟩:=Deep.choose_lt (α:=Pm) (p:=fun i p=>∃sv,CS i=[.string (S p.1),sv]∧di w sv p.2∧gG p+2≤Rows.uptoBulk (D i)) (fun i hi=>by
  obtain⟨_,Pl,hp⟩:=hel i hi
  exact Az hp)
 obtain⟨hlen,hone,hr⟩:=hrow
 have hll:((List.range n).map L).length=n:=by simp
 refine⟨v,(List.range n).map L,rfl,?_,?_⟩
 ·rcases hr with⟨rfl,hv⟩|⟨b,off,cap,rfl,hbl,hn,hc⟩
  ·rcases hv with rfl|⟨a,c,rfl⟩
   ·exact⟨_,_,rfl,by simp,fun h=>absurd rfl h⟩
   ·exact⟨_,_,rfl,by simp,fun h=>absurd rfl h⟩
  ·refine⟨_,_,by rw[hll],by rw[hll];exact hcap,fun _=>⟨b,off,rfl,hbl,fun i p hp=>?_⟩⟩
   obtain⟨hi,rfl⟩:=uV L n i p hp
   obtain⟨sv,e1,e2,_⟩:=hL i hi
   have hcell:∀j,j<2→w.cell? ⟨b,off+(i*2+j),none⟩=(CS i)[j]?:=fun j hj=>by
    have h1:=Nc CS n (fun i hi=>(hel i hi).1) i hi j hj
    have h3:i*2+j<((List.range n).flatMap CS).length:=by rw[hlen];omega
    have h2:=hc (i*2+j) h3
    rw[h2,←h1,List.getElem?_eq_getElem h3]
   have h0:=hcell 0 (by decide)
   have h1:=hcell 1 (by decide)
   rw[e1]at h0 h1
   exact⟨sv,by simpa using h0,by simpa[Nat.add_assoc]using h1,e2⟩
 ·have e3:fK ((List.range n).map L)=n+((List.range n).map fun i=>gG (L i)).sum:=by unfold fK;rw[List.map_map,hll];rfl
  have h4:=wH (fun i=>gG (L i)+1) (fun i=>Rows.uptoBulk (D i)) n fun i hi=>by obtain⟨sv,_,_,h⟩:=hL i hi;omega
  have h5:((List.range n).map fun i=>gG (L i)+1).sum=n+((List.range n).map fun i=>gG (L i)).sum:=by
   clear h4 e3 hll hr hone hlen hb hel h hL
   induction n with
   |zero=>rfl
   |succ n ih=>rw[List.range_succ,List.map_append,List.map_append,List.sum_append,List.sum_append,ih];simp;omega
  rw[e3];omega
end
end Go.Proofs.YtmffejnigppbpaaGreatDoor

set_option maxHeartbeats 2000000
set_option maxRecDepth 100000
namespace Go.Proofs.YtmffejnigppbpaaGreatDoor
open Go.RowKit
theorem aB{w w':World}{b:Nat}{o:Obj}(h:w.heap[b]?=some o)(g:G w w'):w'.heap[b]?=some o:=(g.below.block b (Array.getElem?_eq_some_iff.1 h).1).trans h
theorem aP{w:World}{b:Nat}{x:It}{pv lv:Value}{t:TypeId}(h:w.heap[b]?=some (.cells (x.cells pv lv).toArray t (0,0))):w.cell? ⟨b,0,none⟩=some (.string (S x.g))∧w.cell? ⟨b,1,none⟩=some (.string (S x.n))∧w.cell? ⟨b,2,none⟩=some pv∧w.cell? ⟨b,3,none⟩=some (.int .i64 x.v.ty)∧w.cell? ⟨b,4,none⟩=some (.string (S x.v.tx))∧w.cell? ⟨b,5,none⟩=some lv∧w.cell? ⟨b,6,none⟩=some (.int .i64 x.v.st.y)∧w.cell? ⟨b,7,none⟩=some (.int .i64 x.v.st.m)∧w.cell? ⟨b,8,none⟩=some (.int .i64 x.v.st.d)∧w.cell? ⟨b,9,none⟩=some (.int .i64 x.v.st.h)∧w.cell? ⟨b,10,none⟩=some (.int .i64 x.v.st.n)∧w.cell? ⟨b,11,none⟩=some (.int .i64 x.v.st.s)∧w.cell? ⟨b,12,none⟩=some (.bool x.v.st.zd)∧w.cell? ⟨b,13,none⟩=some (.int .i64 x.v.st.zn)∧w.cell? ⟨b,14,none⟩=some (.int .i64 x.v.n):=by
 refine⟨?_,?_,?_,?_,?_,?_,?_,?_,?_,?_,?_,?_,?_,?_,?_⟩<;>(rw[cell_of_row w b _ _ _ _ h];rfl)
theorem pz(w:World)(o p:Obj):((w.alloc o).alloc p).heap[w.heap.size+1]?=some p:=by have:=heap_alloc_new (w.alloc o) p;simpa using this
theorem ab9{W:World}{X:Nat}{a0 a1 a2 a3 b0 b1 b2 b3:Value}{T:TypeId}(h:W.heap[X]?=some (.cells #[a0,a1,a2,a3] T (0,0))) :
  ((((W.setCell ⟨X,0,none⟩ b0).setCell ⟨X,1,none⟩ b1).setCell ⟨X,2,none⟩ b2).setCell ⟨X,3,none⟩ b3).heap[X]?=some (.cells #[b0,b1,b2,b3] T (0,0)):=by
 simp[World.setCell,Array.getElem?_modify,h]
theorem jU{w W:World}{X i:Nat}{v:Value}(h:G w W)(hX:w.heap.size≤X):G w (W.setCell ⟨X,i,none⟩ v):=Below.setCell h (by simpa using hX) _
theorem J8{w:World}{b:Nat}{a0 a1 a2 a3:Value}{t:TypeId}(h:w.heap[b]?=some (.cells #[a0,a1,a2,a3] t (0,0))):w.cell? ⟨b,0,none⟩=some a0∧w.cell? ⟨b,1,none⟩=some a1∧w.cell? ⟨b,2,none⟩=some a2∧w.cell? ⟨b,3,none⟩=some a3:=by
 refine⟨?_,?_,?_,?_⟩<;>(rw[cell_of_row w b _ _ _ _ h];rfl)
theorem nD.grow{cf:Bool}{p:Ln}{v:Value}{w w':World}(h:nD cf p v w)(g:G w w'):nD cf p v w':=by
 unfold nD at h⊢
 cases he:gV cf p with
 |none=>rw[he]at h;exact h
 |some o=>
  rw[he]at h
  obtain⟨e,h1,h2,h3⟩:=h
  exact⟨e,h1,h2.grow g,h3⟩
theorem Ad(ver:Int)(w:World):dA 73 #[.int .i64 ver] w (.bool (ver==4)):=by
 go_enter Tryz.func73,Tryz.ntmps73
 go_wp2_with fail
 go_ret
 exact⟨rfl,G.refl _⟩
theorem QO(n:List UInt8)(w:World)(h:n.length≤1000000):dA 111 #[.string (S n)] w (.bool (uj n)):=by
 obtain⟨u,hu⟩:∃u,u=bU n:=⟨_,rfl⟩
 have hf:uj n=(u==QM||u==aaV||u==Gw):=by rw[hu];rfl
 have up:=kV n w (by omega)
 rw[←hu]at up
 have UP:=hid up
 rw[hf]
 clear hf hu up
 unfold QM aaV Gw
 go_enter Tryz.func111,Tryz.ntmps111
 cases h1:u==[66,69,71,73,78]with
 |true=>
  go_wp2_with fail
  refine UP.out.use ?_
  intro w1 g1
  go_wp2_with fail
  go_ret
  exact⟨cO (by simp[h1]),g1⟩
 |false=>
  cases h2:u==[69,78,68]with
  |true=>
   go_wp2_with fail
   refine UP.out.use ?_
   intro w1 g1
   go_wp2_with fail
   go_ret
   exact⟨cO (by simp[h1,h2]),g1⟩
  |false=>
   go_wp2_with fail
   refine UP.out.use ?_
   intro w1 g1
   go_wp2_with fail
   go_ret
   exact⟨cO (by simp[h1,h2]),g1⟩
theorem Oy(x:It)(pv lv:Value)(ver:Int)(w:World)(h:dG w x pv lv)(hs:Sml x)(hM:nJ w)(hE:gQ w)(ho:x.v.ok=true):dA 71 #[x.val pv lv,.int .i64 ver] w (.tuple #[.agg #[.string (S x.g),.string (S x.n),pv,.string (S x.v.text)],.nilIface]):=by
 have VW:∀W,G w W→dA 118 #[x.v.v lv] W (.tuple #[.string (S x.v.text),.nilIface]):=fun W g=>by
  refine Calls.mono (Ua x.v lv W (h.l.grow g) hs.bounds.2.2.2.1 hs.bounds.2.2.2.2.1 h.y (hM.grow g) (hE.grow g)) ?_
  rintro e w' ⟨r,rfl,hr,hg⟩
  unfold kC at hr
  rw[if_pos ho]at hr
  subst hr
  exact⟨rfl,hg⟩
 unfold Vl.v at VW
 have HVW:=hid VW
 obtain⟨pa,pc,rfl⟩:=h.pv
 obtain⟨la,lc,rfl⟩:=h.lv
 clear VW h hs hM hE ho
 go_enter Tryz.func71,Tryz.ntmps71
 go_wp2_with fail
 generalize hw1:(w.alloc _).alloc _=w1
 have G1:=hid (show G w w1 by rw[←hw1];exact((G.refl w).alloc _).alloc _)
 have HB:=hid (show w1.heap[w.heap.size]?=some (.cells (x.cells (.slice pa x.ps.length pc) (.slice la x.v.ps.length lc)).toArray 38 (0,0)) by rw[←hw1,Lib.alloc_old _ _ _ (by simp)];exact heap_alloc_new w _)
 have HP:=hid (show w1.heap[w.heap.size+1]?=some (.cells #[.string ⟨#[]⟩,.string ⟨#[]⟩,.slice none 0 0,.string ⟨#[]⟩] 109 (0,0)) by rw[←hw1];exact pz _ _ _)
 clear hw1
 obtain⟨q0,q1,q2,q3,q4,q5,q6,q7,q8,q9,q10,q11,q12,q13,q14⟩:=aP HB.out
 go_wp2_with fail
 refine(HVW.out _ G1.out).use ?_
 intro w2 g2
 have G2:=hid (G1.out.trans g2)
 have HP2:=hid (aB HP.out g2)
 have HB2:=hid (aB HB.out g2)
 clear q0 q1 q2 q3 q4 q5 q6 q7 q8 q9 q10 q11 q12 q13 q14 g2
 obtain⟨q0,q1,q2,_⟩:=aP HB2.out
 obtain⟨c0,c1,c2,c3⟩:=J8 HP2.out
 have f0:=Lib.frozen_of_heap HP2.out 0
 have f1:=Lib.frozen_of_heap HP2.out 1
 have f2:=Lib.frozen_of_heap HP2.out 2
 have f3:=Lib.frozen_of_heap HP2.out 3
 go_wp2_with fail
 have hfin:=ab9 (b0:=.string (S x.g)) (b1:=.string (S x.n)) (b2:=.slice pa x.ps.length pc) (b3:=.string (S x.v.text)) HP2.out
 obtain⟨e0,e1,e2,e3⟩:=J8 hfin
 refine bodyPost_ret (v:=.tuple #[.agg #[.string (S x.g),.string (S x.n),.slice pa x.ps.length pc,.string (S x.v.text)],.nilIface]) ?_ rfl ⟨rfl,?_⟩
 ·simp only[results,Tryz.f71]
  go_simp
 ·exact jU (jU (jU (jU G2.out (by omega)) (by omega)) (by omega)) (by omega)
end Go.Proofs.YtmffejnigppbpaaGreatDoor

set_option maxHeartbeats 2000000
set_option maxRecDepth 100000
namespace Go.Proofs.YtmffejnigppbpaaGreatDoor
open Go.RowKit
structure PmR(w:World)(u:Value)(ps:List Pm):Prop where
 p:eu w u ps
 f:Frm u
theorem PmR.grow{w w':World}{u:Value}{ps:List Pm}(h:PmR w u ps)(g:G w w'):PmR w' u ps:=⟨h.p.grow g,h.f⟩
theorem PmR.sub{w w':World}{u:Value}{ps:List Pm}(h:PmR w u ps)(g:Sub w w'):PmR w' u ps:=⟨h.p.sub g,h.f⟩
theorem PmR.wo{w w':World}{u:Value}{ps:List Pm}{L:List Nat}(h:PmR (Wl L w) u ps)(g:G w w'):PmR (Wl L w') u ps:=h.grow (Wl.g g)
theorem PmR.un{w:World}{u:Value}{ps:List Pm}{L:List Nat}(h:PmR (Wl L w) u ps):PmR w u ps:=h.sub (Wl.sub L w)
theorem PmR.into{w w':World}{u:Value}{ps:List Pm}{X:Nat}{L:List Nat}(h:PmR (Wl L w) u ps)(g:G w w')(hX:w.heap.size≤X):PmR (Wl (X::L) w') u ps:=h.grow (Wl.into g hX)
theorem yJ(L:List Nat)(l:Value)(nm:List UInt8)(sv:Value)(vs:List (List UInt8))(ps:List Pm)(w:World)(hX:∀X∈L,X<w.heap.size)(h:PmR (Wl L w) l ps)(hv:di (Wl L w) sv vs)(hl:ps.length≤10000):dP 89 #[l,.string (S nm),sv] w (fun u w'=>PmR (Wl L w') u (ps++[(nm,vs)])):=by
 obtain⟨xs,hxs,hst,hrow0⟩:=h.p.row h.f
 have hrow:=hrow0.sub (Wl.sub L w)
 clear hrow0
 subst hxs
 obtain⟨i0,hi,hz0,hz1,hz2⟩:=info_parts Ea
 have CL:=hid (OG l xs.length _ w hrow (by simp at hl;omega) w (G.refl w))
 have HST:=hid hst
 have HV:=hid hv
 have hxl:xs.length≤10000:=by simpa using hl
 obtain⟨la,lc,rfl⟩:∃a c,l=.slice a xs.length c:=by
  obtain⟨a,c,e,_⟩:=h.p
  exact⟨a,c,by simpa using e⟩
 obtain⟨sa,sc,rfl,_⟩:=hv.len
 clear h hrow hst hv hl
 go_enter Tryz.func89,Tryz.ntmps89
 go_wp2_with fail
 refine CL.out.mono ?_
 rintro e w2 ⟨u,rfl,hown,hg⟩
 have HOWN:=hid hown
 have HG:=hid hg
 obtain⟨ua,uc,rfl⟩:=ug hown
 have hsz:=hg.size
 clear hown hg
 go_wp2_with (at_builtin;refine wpList_append_own _ rfl _ _ 31 rfl w.heap.size 41 i0 _ 2 40 Tryz.underlying31 hi hz0 hz1 hz2 rfl (by decide) _ _ _ rfl (HOWN.out.alloc _) ⟨w2.heap.size,0,none⟩ 1 1 [.string (S nm),.slice sa vs.length sc] rfl rfl (fun j x hx=>by rw[mV,Nat.zero_add,cell_of_row _ _ j _ _ _ (heap_alloc_new w2 _)];simpa using hx) (by intro x hx;simp at hx;rcases hx with rfl|rfl<;>rfl) (by unfold maxLen;omega) (by omega) (by simp;omega) ?_;intro v' w3 hown' hgrow hnil)
 obtain⟨b',cap',rfl⟩:=Zk hown'
 go_wp2_with fail
 go_ret
 have g3:G w w3:=Below.grown (HG.out.alloc _) hgrow (by simp;omega) (fun j hj=>(HOWN.out.lt j hj).1)
 refine⟨_,rfl,⟨OH (w:=Wl L w) HST.out HV.out (Wl.g g3) (Wl.own hown' hX),.inr ⟨_,_,_,rfl⟩⟩,g3⟩
theorem Q9(x:PmC)(n:List UInt8)(nb:Nat)(W:World)(hc:W.cell? ⟨nb,0,none⟩=some (.string (S n)))(hx:x.1.1.length≤1000000)(hn:n.length≤1000000):dA 144 #[aa3 x,.pointer (some ⟨nb,0,none⟩)] W (.bool (dC x.1.1 n)):=by
 have hc2:(W.alloc (.cells #[.string (S x.1.1),.slice x.2.1 x.2.2.1 x.2.2.2] 41)).cell? ⟨nb,0,none⟩=some (.string (S n)):=by rw[((G.refl W).alloc _).cell (World.block_lt_of_cell? _ _ hc)];exact hc
 go_enter Tryz.func144,Tryz.ntmps144
 go_wp2_with fail
 refine(kM x.1.1 n _ (by omega) (by omega)).use ?_
 intro w2 g2
 go_wp2_with fail
 go_ret
 exact⟨rfl,((G.refl W).alloc _).trans g2⟩
theorem mg(L:List Nat)(l:Value)(n:List UInt8)(ps:List Pm)(w:World)(hX:∀X∈L,X<w.heap.size)(h:PmR (Wl L w) l ps)(hl:ps.length≤10000)(hp:∀p∈ps,p.1.length≤1000000)(hn:n.length≤1000000):dP 94 #[l,.string (S n)] w (fun u w'=>PmR (Wl L w') u (aO ps n)):=by
 obtain⟨xs,hxs,hst,hrow0⟩:=h.p.row h.f
 have hrow:=hrow0.sub (Wl.sub L w)
 clear hrow0
 subst hxs
 have CL:=hid (fun W (g:G w W)=>OG l xs.length _ w hrow (by simp at hl;omega) W g)
 have HST:=hid hst
 have hxl:xs.length≤10000:=by simpa using hl
 have HN:=hid (show ∀x∈xs,x.1.1.length≤1000000 from fun x hx=>hp x.1 (List.mem_map_of_mem hx))
 obtain⟨la,lc,rfl⟩:∃a c,l=.slice a xs.length c:=by
  obtain⟨a,c,e,_⟩:=h.p
  exact⟨a,c,by simpa using e⟩
 clear h hrow hst hl hp
 go_enter Tryz.func94,Tryz.ntmps94
 go_wp2_with fail
 refine(CL.out _ ((G.refl w).alloc _)).mono ?_
 rintro e w2 ⟨u,rfl,hown,hg⟩
 have hcell:w2.cell? ⟨w.heap.size,0,none⟩=some (.string (S n)):=by rw[hg.cell (by simp)];exact World.cell?_alloc_new w _ _ 0
 have hdel:=OL 144 #[.pointer (some ⟨w.heap.size,0,none⟩)] (enters_of Tryz.func144 (by kernel_rfl) rfl) (fun y=>dC y.1.1 n) (w.alloc (.cells #[.string (S n)] 9)).heap.size u xs w2 hown (by omega) (fun W gW y hy=>Q9 y n w.heap.size W (by
  have hne:u.ownBlock≠some w.heap.size:=fun e=>by have:=(hown.lt _ e).1;simp at this;omega
  rw[World.cell?_of_block (gW.block w.heap.size (Nat.lt_of_lt_of_le (by simp) hg.size) (fun e=>hne e.symm))];exact hcell) (HN.out y hy) hn)
 have HD:=hid hdel
 have HG:=hid (((G.refl w).alloc _).trans hg)
 have HOWN:=hid hown
 obtain⟨ua,uc,rfl⟩:=ug hown
 clear hdel hg hown hcell
 go_wp2_with fail
 refine HD.out.mono ?_
 rintro e w3 ⟨v,rfl,ho3,hgr,_⟩
 have H3:=hid ho3
 obtain⟨va,vc,rfl⟩:=ug ho3
 have g3:G w w3:=Below.grown HG.out hgr HG.out.size (fun j hj=>by have:=(HOWN.out.lt j hj).1;simp at this;omega)
 have hpr:PmR (Wl L w3) (.slice va (xs.filter fun x=>!dC x.1.1 n).length vc) (aO (xs.map (·.1)) n):=by
  refine⟨?_,N8 ho3⟩
  have e:aO (xs.map (·.1)) n=(xs.filter fun x=>!dC x.1.1 n).map (·.1):=by
   unfold aO
   rw[List.filter_map];rfl
  rw[e]
  exact EJ (w:=w3) (fun x hx=>(HST.out x (List.mem_filter.1 hx).1).grow (Wl.g g3)) (Wl.own ho3 (fun X hx=>by have:=hX X hx;simp;omega))
 have HPR:=hid hpr
 have G3:=hid g3
 clear ho3 hgr g3 hpr
 go_wp2_with fail
 go_ret
 exact⟨_,rfl,HPR.out,G3.out⟩
end Go.Proofs.YtmffejnigppbpaaGreatDoor
