/-
  Texts merged into one: PickCmp, PickAll, FoldBack, Trie, TrieAdd, GenAdds, GenRun, ParamsRow, UpBox, BuildMv, CardLawP, TellIs, DoorE, Edit, Hole, CardEdit, RulesCases.
-/
import Derived.Test.YtmffejnigppbpaaGreatDoorDXMA75
import Derived.Test.YtmffejnigppbpaaGreatDoorDXMRules
import Derived.Deep.LoopGhost
import Derived.Test.YtmffejnigppbpaaGreatDoorDXMA71
import Derived.Test.YtmffejnigppbpaaGreatDoorDXMA65
import Derived.Test.YtmffejnigppbpaaGreatDoorDXMA56
import Derived.Test.YtmffejnigppbpaaGreatDoorDXMA60
import Derived.Test.YtmffejnigppbpaaGreatDoorDXMA63
import Derived.OwnWalk
import Derived.Laws.Cover3
import Derived.LoopN
import Derived.Deep.RegionHeld3
import Derived.Deep.OwnRows
import Derived.StillTailTactics
import Derived.Test.YtmffejnigppbpaaGreatDoorDXMA77
import Derived.Deep.Slices
import Derived.Lib.SliceRun
import Derived.Laws.AppendOwn
import Derived.Test.YtmffejnigppbpaaGreatDoorDXCardRight
import Derived.Deep.AppendLies
import Derived.Test.YtmffejnigppbpaaGreatDoorDXMPieces
import Derived.Test.YtmffejnigppbpaaGreatDoorDXMA67
import Derived.Test.YtmffejnigppbpaaGreatDoorDXCardOne
import Derived.Test.YtmffejnigppbpaaGreatDoorDXMLineR
import Derived.Test.YtmffejnigppbpaaGreatDoorDXMTell
import Derived.Test.YtmffejnigppbpaaGreatDoorDXMA70
import Derived.Test.YtmffejnigppbpaaGreatDoorDXMA52
import Derived.Test.YtmffejnigppbpaaGreatDoorDXMA64
set_option linter.unusedVariables false
set_option linter.unusedSimpArgs false
namespace Go.Proofs.YtmffejnigppbpaaGreatDoor
open Go.RowKit
structure ahc(w:World)(C:Nat)(ver:Int)(iv:Value)(xs:List It):Prop where
 c0:w.cell? ⟨C,0,none⟩=some (.int .i64 ver)
 c1:w.cell? ⟨C,1,none⟩=some iv
 it:UA w iv xs
theorem ahc.lt{w:World}{C:Nat}{ver:Int}{iv:Value}{xs:List It}(h:ahc w C ver iv xs):C<w.heap.size:=World.block_lt_of_cell? _ _ h.c0
theorem ahc.grow{w w':World}{C:Nat}{ver:Int}{iv:Value}{xs:List It}(h:ahc w C ver iv xs)(g:G w w'):ahc w' C ver iv xs:=
 ⟨(g.cell h.lt).trans h.c0,(g.cell h.lt).trans h.c1,h.it.grow g⟩
theorem ahc.new{w:World}{ver:Int}{iv:Value}{xs:List It}{t:TypeId}(h:UA w iv xs):ahc (w.alloc (.cells #[.int .i64 ver,iv] t)) w.heap.size ver iv xs:=
 ⟨by simp,by simp,h.grow ((G.refl w).alloc _)⟩
end Go.Proofs.YtmffejnigppbpaaGreatDoor

namespace Go.Proofs.YtmffejnigppbpaaGreatDoor
open Go.RowKit Stab
theorem UA.at_{w:World}{v:Value}{xs:List It}(h:UA w v xs)(h0:xs≠[]):∃b off cap,v=.slice (some ⟨b,off,none⟩) xs.length cap∧b<w.heap.size∧∀(i:Nat) (x:It),xs[i]?=some x→∃pv lv,alo w b (off+i*15) x pv lv:=by
 obtain⟨a,c,e,h1,h2⟩:=h
 obtain⟨b,off,e2,hb,h3⟩:=h2 h0
 subst e2
 exact⟨b,off,c,e,hb,h3⟩
end Go.Proofs.YtmffejnigppbpaaGreatDoor

namespace Go.Proofs.YtmffejnigppbpaaGreatDoor
open Go.RowKit
theorem anP{s:List UInt8}(hs:ahC s)(hb:ae3 s=false)(width:Nat)(hw:10≤width) :
  ∃fs,Us (ac6 s width width) 0 []=.good [⟨s,0,fs⟩]∧(ac6 s width width).length≤4*s.length+2∧fs.length≤s.length:=by
 obtain⟨g1,g2,g3⟩:=hs
 obtain⟨p,ps,h1,h2,h3,h4,h5,h6,h7⟩:=akO width (by omega) s.length s width (Nat.le_refl _) g1 (by omega)
 have hl:=apS (x:=32) rfl rfl h2 (anR g2) g3 hb h6
 have hp:=anQ ps fun q hq=>(h4 q hq).2.1
 have hle:(p++ps.flatten).length=s.length:=by rw[h2]
 rw[List.length_append]at hle
 refine⟨_,by rw[h1];exact hl,?_,?_⟩
 ·rw[h1,ajA,h2];omega
 ·simp;omega
end Go.Proofs.YtmffejnigppbpaaGreatDoor

namespace Go.Proofs.YtmffejnigppbpaaGreatDoor
open Go.RowKit
def ay2(c:UInt8):Int:=if c=39 then 0 else if c=94 then 1 else if c=110 then 2 else 3
structure aqB(w:World)(B o T:Nat):Prop where
 v1:w.cell? ⟨B,o+1,none⟩=some (.int .i64 0)
 v4:w.cell? ⟨B,o+4,none⟩=some (.slice (some ⟨T,0,none⟩) 3 3)
structure aua(w:World)(B:Nat)(v:UInt8)(p:Int):Prop where
 v0:w.cell? ⟨B,0,none⟩=some (.string (S [v]))
 v1:w.cell? ⟨B,1,none⟩=some (.int .i64 p)
 v2:w.cell? ⟨B,2,none⟩=some (.string ⟨#[]⟩)
 v4:w.cell? ⟨B,4,none⟩=some (.slice none 0 0)
structure aqC(w:World)(R A B C D T U:Nat):Prop where
 root:aqB w R 0 T
 size:w.cell? ⟨R,5,none⟩=some (.int .i64 3)
 map:∀c:UInt8,w.cell? ⟨R,6+c.toNat,none⟩=some (.int .u8 (ay2 c))
 t0:w.cell? ⟨T,0,none⟩=some (.pointer none)
 t1:w.cell? ⟨T,1,none⟩=some (.pointer (some ⟨A,0,none⟩))
 t2:w.cell? ⟨T,2,none⟩=some (.pointer none)
 inner:aqB w A 0 U
 u0:w.cell? ⟨U,0,none⟩=some (.pointer (some ⟨D,0,none⟩))
 u1:w.cell? ⟨U,1,none⟩=some (.pointer (some ⟨B,0,none⟩))
 u2:w.cell? ⟨U,2,none⟩=some (.pointer (some ⟨C,0,none⟩))
 lb:aua w B 94 6
 lc:aua w C 10 4
 ld:aua w D 34 2
theorem aqB.grow{w w':World}{B o T:Nat}(h:aqB w B o T)(g:G w w'):aqB w' B o T:=⟨(g.cell (World.block_lt_of_cell? _ _ h.v1)).trans h.v1,(g.cell (World.block_lt_of_cell? _ _ h.v4)).trans h.v4⟩
theorem aua.grow{w w':World}{B:Nat}{v:UInt8}{p:Int}(h:aua w B v p)(g:G w w'):aua w' B v p:=⟨(g.cell (World.block_lt_of_cell? _ _ h.v0)).trans h.v0,(g.cell (World.block_lt_of_cell? _ _ h.v1)).trans h.v1,(g.cell (World.block_lt_of_cell? _ _ h.v2)).trans h.v2,(g.cell (World.block_lt_of_cell? _ _ h.v4)).trans h.v4⟩
theorem aqC.grow{w w':World}{R A B C D T U:Nat}(h:aqC w R A B C D T U)(g:G w w'):aqC w' R A B C D T U:=
 ⟨h.root.grow g,(g.cell (World.block_lt_of_cell? _ _ h.size)).trans h.size,fun c=>(g.cell (World.block_lt_of_cell? _ _ (h.map c))).trans (h.map c),(g.cell (World.block_lt_of_cell? _ _ h.t0)).trans h.t0,(g.cell (World.block_lt_of_cell? _ _ h.t1)).trans h.t1,(g.cell (World.block_lt_of_cell? _ _ h.t2)).trans h.t2,h.inner.grow g,(g.cell (World.block_lt_of_cell? _ _ h.u0)).trans h.u0,(g.cell (World.block_lt_of_cell? _ _ h.u1)).trans h.u1,(g.cell (World.block_lt_of_cell? _ _ h.u2)).trans h.u2,h.lb.grow g,h.lc.grow g,h.ld.grow g⟩
end Go.Proofs.YtmffejnigppbpaaGreatDoor

namespace Go.Proofs.YtmffejnigppbpaaGreatDoor
open Go.RowKit
structure alr(w:World)(B o:Nat)(val:List UInt8)(pr:Int)(pre:List UInt8)(nx tb:Value):Prop where
 c0:w.cell? ⟨B,o,none⟩=some (.string (S val))
 c1:w.cell? ⟨B,o+1,none⟩=some (.int .i64 pr)
 c2:w.cell? ⟨B,o+2,none⟩=some (.string (S pre))
 c3:w.cell? ⟨B,o+3,none⟩=some nx
 c4:w.cell? ⟨B,o+4,none⟩=some tb
 fz:∀j,w.frozen? ⟨B,j,none⟩=false
structure afP(bs:List Nat)(w w':World):Prop where
 size:w.heap.size≤w'.heap.size
 bl:∀b,b<w.heap.size→b∉bs→w'.heap[b]?=w.heap[b]?
 fz:∀b o,b<w.heap.size→w'.frozen? ⟨b,o,none⟩=w.frozen? ⟨b,o,none⟩
 os:w'.os=w.os
 tape:w'.tape=w.tape
 output:w'.output=w.output
theorem afP.cell{bs:List Nat}{w w':World}(h:afP bs w w')(b o:Nat)(hb:b<w.heap.size)(hn:b∉bs):w'.cell? ⟨b,o,none⟩=w.cell? ⟨b,o,none⟩:=World.cell?_of_block (w:=w) (h.bl b hb hn)
theorem afP.refl(bs:List Nat)(w:World):afP bs w w:=⟨Nat.le_refl _,fun _ _ _=>rfl,fun _ _ _=>rfl,rfl,rfl,rfl⟩
theorem afP.drew{bs:List Nat}{w w':World}(h:afP bs w w'):afP bs w w'.drew:=⟨h.size,h.bl,h.fz,h.os,h.tape,h.output⟩
theorem afP.trans{bs cs:List Nat}{a b c:World}(h:afP bs a b)(k:afP cs b c)(hs:∀x∈cs,x∈bs∨a.heap.size≤x):afP bs a c:=
 ⟨Nat.le_trans h.size k.size,fun x hx hn=>(k.bl x (Nat.lt_of_lt_of_le hx h.size) (fun hc=>by rcases hs x hc with h1|h1;exact hn h1;omega)).trans (h.bl x hx hn),
  fun x o hx=>(k.fz x o (Nat.lt_of_lt_of_le hx h.size)).trans (h.fz x o hx),k.os.trans h.os,k.tape.trans h.tape,k.output.trans h.output⟩
theorem afP.g{bs:List Nat}{w0 w w':World}(h:afP bs w w')(g:G w0 w)(hs:∀b∈bs,w0.heap.size≤b):G w0 w':=
 g.below.trans ⟨h.os,h.tape,h.output,h.size,fun k hk=>h.bl k (Nat.lt_of_lt_of_le hk g.size) (fun hc=>by have:=hs k hc;omega)⟩
theorem afP.alloc{bs:List Nat}{w w':World}(h:afP bs w w')(o:Obj):afP bs w (w'.alloc o):=
 ⟨by have:=h.size;simp;omega,fun c hc hn=>by rw[Below.heap_alloc _ _ _ (Nat.lt_of_lt_of_le hc h.size)];exact h.bl c hc hn,
  fun c j hc=>by
   have:=h.fz c j hc
   rw[←this]
   exact World.frozen?_of_block (Below.heap_alloc _ _ _ (Nat.lt_of_lt_of_le hc h.size)),h.os,h.tape,h.output⟩
theorem alr.away{w w':World}{bs:List Nat}{B o:Nat}{val:List UInt8}{pr:Int}{pre:List UInt8}{nx tb:Value}(h:alr w B o val pr pre nx tb)(a:afP bs w w')(hB:B∉bs):alr w' B o val pr pre nx tb:=by
 have hb:B<w.heap.size:=World.block_lt_of_cell? _ _ h.c0
 exact⟨(a.cell B _ hb hB).trans h.c0,(a.cell B _ hb hB).trans h.c1,(a.cell B _ hb hB).trans h.c2,(a.cell B _ hb hB).trans h.c3,(a.cell B _ hb hB).trans h.c4,fun j=>(a.fz B j hb).trans (h.fz j)⟩
theorem afP.mono{bs cs:List Nat}{w W:World}(h:afP bs w W)(hs:∀b∈bs,b∈cs∨w.heap.size≤b):afP cs w W:=
 ⟨h.size,fun b hb hn=>h.bl b hb (fun hc=>by rcases hs b hc with h1|h1;exact hn h1;omega),h.fz,h.os,h.tape,h.output⟩
end Go.Proofs.YtmffejnigppbpaaGreatDoor

namespace Go.Proofs.YtmffejnigppbpaaGreatDoor
open Go.RowKit
theorem afP.held{bs:List Nat}{w w':World}(a:afP bs w w'){b o:Nat}{v:Value}(h:w.cell? ⟨b,o,none⟩=some v)(hn:b∉bs):w'.cell? ⟨b,o,none⟩=some v:=
 (a.cell b o (World.block_lt_of_cell? _ _ h) hn).trans h
structure GC(w0 w:World)(R T:Nat):Prop where
 g:G w0 w
 rl:w0.heap.size≤R
 tl:w0.heap.size≤T
 rt:R≠T
 root:alr w R 0 [] 0 [] (.pointer none) (.slice (some ⟨T,0,none⟩) 3 3)
 c5:w.cell? ⟨R,5,none⟩=some (.int .i64 3)
 map:∀c:UInt8,w.cell? ⟨R,6+c.toNat,none⟩=some (.int .u8 (ay2 c))
 t0:w.cell? ⟨T,0,none⟩=some (.pointer none)
 t2:w.cell? ⟨T,2,none⟩=some (.pointer none)
theorem GC.away{bs:List Nat}{w0 w w':World}{R T:Nat}(h:GC w0 w R T)(a:afP bs w w')(hR:R∉bs)(hs:∀b∈bs,w0.heap.size≤b)(h0:w'.cell? ⟨T,0,none⟩=some (.pointer none))(h2:w'.cell? ⟨T,2,none⟩=some (.pointer none)):GC w0 w' R T:=
 ⟨a.g h.g hs,h.rl,h.tl,h.rt,h.root.away a hR,a.held h.c5 hR,fun c=>a.held (h.map c) hR,h0,h2⟩
structure G0(w0 w:World)(R T:Nat):Prop where
 gc:GC w0 w R T
 t1:w.cell? ⟨T,1,none⟩=some (.pointer none)
 tf:w.frozen? ⟨T,1,none⟩=false
structure G1(w0 w:World)(R T M B:Nat):Prop where
 gc:GC w0 w R T
 t1:w.cell? ⟨T,1,none⟩=some (.pointer (some ⟨M,0,none⟩))
 ml:w0.heap.size≤M
 bl:w0.heap.size≤B
 mr:M≠R
 mt:M≠T
 mb:M≠B
 nm:alr w M 0 [] 0 [94] (.pointer (some ⟨B,0,none⟩)) (.slice none 0 0)
 nb:alr w B 0 [94] 6 [] (.pointer none) (.slice none 0 0)
structure G2(w0 w:World)(R T M B C U:Nat):Prop where
 gc:GC w0 w R T
 t1:w.cell? ⟨T,1,none⟩=some (.pointer (some ⟨M,0,none⟩))
 ml:w0.heap.size≤M
 bl:w0.heap.size≤B
 cl:w0.heap.size≤C
 ul:w0.heap.size≤U
 ur:U≠R
 ut:U≠T
 um:U≠M
 ub:U≠B
 uc:U≠C
 nm:alr w M 0 [] 0 [] (.pointer none) (.slice (some ⟨U,0,none⟩) 3 3)
 nb:alr w B 0 [94] 6 [] (.pointer none) (.slice none 0 0)
 nc:alr w C 0 [10] 4 [] (.pointer none) (.slice none 0 0)
 u0:w.cell? ⟨U,0,none⟩=some (.pointer none)
 u1:w.cell? ⟨U,1,none⟩=some (.pointer (some ⟨B,0,none⟩))
 u2:w.cell? ⟨U,2,none⟩=some (.pointer (some ⟨C,0,none⟩))
 uf:w.frozen? ⟨U,0,none⟩=false
def Rel(w0 w:World)(R T:Nat):Nat→Prop
 |0=>G0 w0 w R T
 |1=>∃M B,G1 w0 w R T M B
 |2=>∃M B C U,G2 w0 w R T M B C U
 |_=>G w0 w∧∃A B C D U,aqC w R A B C D T U∧∀b∈[R,A,B,C,D,T,U],w0.heap.size≤b
theorem alr.lt{w:World}{B o:Nat}{val:List UInt8}{pr:Int}{pre:List UInt8}{nx tb:Value}(h:alr w B o val pr pre nx tb):B<w.heap.size:=World.block_lt_of_cell? _ _ h.c0
theorem Rel.g{w0 w:World}{R T k:Nat}(h:Rel w0 w R T k):G w0 w:=by
 match k,h with
 |0,h=>exact(show G0 w0 w R T from h).gc.g
 |1,⟨M,B,h⟩=>exact h.gc.g
 |2,⟨M,B,C,U,h⟩=>exact h.gc.g
 |k+3,⟨g,_⟩=>exact g
end Go.Proofs.YtmffejnigppbpaaGreatDoor

namespace Go.Proofs.YtmffejnigppbpaaGreatDoor
open Go.RowKit
structure avb(w0 w:World)(Bx:Nat)(l:List UInt8)(i last:Nat)(out:List UInt8):Prop where
 buf:Buf w0 w Bx out
 li:last≤i
 il:i≤l.length
 ol:out.length≤last
 eq:alm l=out++(l.take i).drop last++alm (l.drop i)
theorem avb.start{w0 w:World}{Bx:Nat}{l:List UInt8}(h:Buf w0 w Bx []):avb w0 w Bx l 0 0 []:=⟨h,Nat.le_refl _,Nat.zero_le _,Nat.zero_le _,by simp⟩
end Go.Proofs.YtmffejnigppbpaaGreatDoor

namespace Go.Proofs.YtmffejnigppbpaaGreatDoor
open Go.RowKit
def agx:List Pm→List Value→List Value
 |p::ps,v::vs=>.string (S p.1)::v::agx ps vs
 |_,_=>[]
theorem amz:∀(ps:List Pm) (vs:List Value) (i:Nat) (p:Pm) (v:Value),ps[i]?=some p→vs[i]?=some v→(agx ps vs)[i*2]?=some (.string (S p.1))∧(agx ps vs)[i*2+1]?=some v
 |[],_,i,p,v,h,_=>by simp at h
 |q::ps,[],i,p,v,_,h=>by simp at h
 |q::ps,u::vs,0,p,v,h,h'=>by simp at h h';subst h;subst h';simp[agx]
 |q::ps,u::vs,i+1,p,v,h,h'=>by
  have:=amz ps vs i p v (by simpa using h) (by simpa using h')
  have e1:(i+1)*2=i*2+1+1:=by omega
  rw[e1]
  simpa[agx]using this
theorem anq{w:World}{base:Nat}{u:Value}{ps:List Pm}{vs:List Value}{t:TypeId}(hl:vs.length=ps.length)(hs:∀(i:Nat) (p:Pm) (v:Value),ps[i]?=some p→vs[i]?=some v→Ux w v p.2)(hr:w.ownsRow base t 2 u ps.length (agx ps vs)):UN w u ps:=by
 rcases hr.2 with⟨rfl,h0⟩|⟨g,cap,cur,rfl,_,hg,hc,_⟩
 ·have:ps=[]:=List.length_eq_zero_iff.1 h0
  subst this
  exact⟨_,_,rfl,by simp,fun h=>absurd rfl h⟩
 ·refine⟨_,_,rfl,hc,fun h0=>⟨g,0,rfl,(Array.getElem?_eq_some_iff.1 hg).1,fun i p hp=>?_⟩⟩
  have hi:i<ps.length:=(List.getElem?_eq_some_iff.1 hp).1
  have hv:=List.getElem?_eq_getElem (show i<vs.length by omega)
  obtain⟨m1,m2⟩:=amz ps vs i p _ hp hv
  have ea:∀j,(⟨g,0,none⟩:Addr).add j=⟨g,0+j,none⟩:=fun j=>by unfold Addr.add;split<;>simp_all
  have c1:=hr.cells (g:=g) rfl _ _ m1
  have c2:=hr.cells (g:=g) rfl _ _ m2
  rw[ea]at c1 c2
  exact⟨_,c1,by rw[Nat.add_assoc];exact c2,hs i p _ hp hv⟩
end Go.Proofs.YtmffejnigppbpaaGreatDoor

namespace Go.Proofs.YtmffejnigppbpaaGreatDoor
open Go.RowKit
def aqD(v:Value):List Nat:=match v.ownBlock with|none=>[]|some b=>[b]
def woC(C:Option Nat)(w:World):World:=match C with|none=>w|some b=>Wo b w
theorem Sub.app{w w':World}{C:Option Nat}{g:Nat}(m:w.grownBy w' C)(hg:C=some g∨w.heap.size≤g):Sub (woC C w) (Wo g w'):=by
 have key:∀(p:Addr) (u:Value),p.block≠g→C≠some p.block→w.cell? p=some u→(Wo g w').cell? p=some u:=fun p u h1 h2 e=>by
  rw[World.cell?_of_block (Wo.other g w' _ h1),World.cell?_of_block (m.block p.block (World.block_lt_of_cell? _ _ e) (fun q=>h2 q.symm))]
  exact e
 cases C with
 |none=>
  show Sub w (Wo g w')
  refine⟨by rw[Wo.size];exact m.size,fun p u e=>key p u ?_ (by simp) e⟩
  have:p.block<w.heap.size:=World.block_lt_of_cell? w p e
  rcases hg with h|h
  ·cases h
  ·omega
 |some b=>
  show Sub (Wo b w) (Wo g w')
  refine⟨by rw[Wo.size,Wo.size];exact m.size,fun p u e=>?_⟩
  have h1:=Wo.not e
  have e2:=Wo.cell b w p u e
  have h2:=World.block_lt_of_cell? _ _ e2
  refine key p u ?_ (fun q=>h1 (Option.some.inj q).symm) e2
  rcases hg with h|h
  ·cases h;exact h1
  ·omega
theorem ays(v:Value)(w:World):Wl (aqD v) w=woC v.ownBlock w:=by
 unfold aqD woC
 cases v.ownBlock<;>rfl
theorem aeZ{fn:Func}{Q:Ending→World→Prop}{a:Act}{WF:World}{X s t:Nat}{c0 c1 e:Value}(hres:fn.results=#[.cell s 24,.tmp t])(hp:a.tmps.getD s undef=.pointer (some ⟨X,0,none⟩))(hb:a.tmps.getD t undef=e)(hd:a.defers=[])(hrow:WF.heap[X]?=some (.cells #[c0,c1] 24 (0,0)))(hQ:Q (.returned (.tuple #[.agg #[c0,c1],e])) WF):bodyPost Tryz.prog fn Q .ret a WF:=by
 obtain⟨e0,e1⟩:=acP hrow
 refine bodyPost_ret (v:=.tuple #[.agg #[c0,c1],e]) ?_ hd hQ
 have hp2:a.tmps[s]?.getD undef=.pointer (some ⟨X,0,none⟩):=by simpa using hp
 have hb2:a.tmps[t]?.getD undef=e:=by simpa using hb
 simp only[results,hres]
 go_simp
theorem ax1{W:World}{X:Nat}{a0 a1 b0 b1:Value}{T:TypeId}(h:W.heap[X]?=some (.cells #[a0,a1] T (0,0))):((W.setCell ⟨X,0,none⟩ b0).setCell ⟨X,1,none⟩ b1).heap[X]?=some (.cells #[b0,b1] T (0,0)):=by
 simp[World.setCell,Array.getElem?_modify,h]
theorem aj3{w:World}{base:Nat}{t:TypeId}{k n i X:Nat}{v u:Value}{cs:List Value}(h:w.ownsRow base t k v n cs)(hX:X<base):(w.setCell ⟨X,i,none⟩ u).ownsRow base t k v n cs:=h.kept (afi w X i u) (af2 h hX)
theorem axq{w:World}{base:Nat}{v:Value}{n:Nat}{cs:List Value}(h:aeP base w v n cs):∀X∈aqD v,X<w.heap.size∧base≤X:=fun X hx=>by
 unfold aqD at hx
 cases hv:v.ownBlock with
 |none=>rw[hv]at hx;cases hx
 |some b=>
  rw[hv]at hx
  have:=List.mem_singleton.1 hx
  subst this
  exact⟨(h.lt _ hv).2,(h.lt _ hv).1⟩
theorem Wl.app:∀(A B:List Nat) (w:World),Wl (A++B) w=Wl B (Wl A w)
 |[],B,w=>rfl
 |X::A,B,w=>Wl.app A B (Wo X w)
theorem ad8.put{w:World}{v:Value}{c:Int}{k:Option Nat}{X:Nat}{a0:Value}{s:Option Addr}{n cp:Nat}{T:TypeId}(h:ad8 w v (some (c,k)))(hX:w.heap[X]?=some (.cells #[a0,.slice s n cp] T (0,0)))(b0 b1:Value):ad8 ((w.setCell ⟨X,0,none⟩ b0).setCell ⟨X,1,none⟩ b1) v (some (c,k)):=by
 cases k with
 |none=>exact h
 |some k=>
  obtain⟨b,e,h0,h1,h2⟩:=h
  have hne:b≠X:=by
   rintro rfl
   rw[cell_of_row w b 1 _ _ _ hX]at h1
   cases h1
  have far:∀(w:World) (i j:Nat) (v:Value),(w.setCell ⟨X,i,none⟩ v).cell? ⟨b,j,none⟩=w.cell? ⟨b,j,none⟩:=fun w i j v=>World.cell?_setCell_other _ _ _ _ (by intro e;injection e with e;exact hne e.symm)
  exact⟨b,e,by rw[far,far];exact h0,by rw[far,far];exact h1,by simpa using h2⟩
end Go.Proofs.YtmffejnigppbpaaGreatDoor

namespace Go.Proofs.YtmffejnigppbpaaGreatDoor
open Go.RowKit
def apt(w:World)(n:Nat):World:={ w with heap:=w.heap.extract 0 n }
theorem agI{w:World}{n:Nat}(h:n≤w.heap.size):(apt w n).heap.size=n:=by
 show(w.heap.extract 0 n).size=n
 simp;omega
theorem auu{w:World}{n:Nat}(h:n≤w.heap.size):G (apt w n) w:=by
 refine⟨rfl,rfl,rfl,by rw[agI h];exact h,fun k hk=>?_⟩
 rw[agI h]at hk
 show w.heap[k]?=(w.heap.extract 0 n)[k]?
 rw[Array.getElem?_extract]
 simp;omega
theorem IsB.mv{w0 w w':World}{b R:Nat}{l:List UInt8}(h:IsB w0 w b l)(g:w.grownBy w' (some R))(hR:R<w0.heap.size):IsB w0 w' b l:=by
 have key:∀p,Lib.BuilderAt 124 5 w0.heap.size b p (Lib.byteCells l) w→Lib.BuilderAt 124 5 w0.heap.size b p (Lib.byteCells l) w':=by
  intro p h
  have hlt:=h.lt
  obtain⟨hB,v,hbk,hown,hne⟩:=h
  refine⟨hB,v,?_,⟨hown.1,?_⟩,hne⟩
  ·rw[g.block b hlt (by simp;omega)];exact hbk
  ·rcases hown.2 with h|⟨q,cap,cur,hv,hbq,hq,r⟩
   ·exact Or.inl h
   ·refine Or.inr ⟨q,cap,cur,hv,hbq,?_,r⟩
    have:q<w.heap.size:=by
     rcases Nat.lt_or_ge q w.heap.size with h'|h'
     ·exact h'
     ·rw[Array.getElem?_eq_none h']at hq;cases hq
    rw[g.block q this (by simp;omega)];exact hq
 rcases h with h|h
 ·exact Or.inl (key _ h)
 ·exact Or.inr (key _ h)
end Go.Proofs.YtmffejnigppbpaaGreatDoor

namespace Go.Proofs.YtmffejnigppbpaaGreatDoor
open Go.RowKit
theorem auC(v:Int):∀e∈UG v,e.most≤1:=by unfold UG;split<;>decide
theorem asn(v:Int)(u:List UInt8):0≤agm v u∧agm v u≤1:=by
 unfold agm acX
 cases h:(UG v).find? (fun e=>e.name==u)with
 |none=>simp
 |some e=>
  have:=auC v e (List.mem_of_find?_eq_some h)
  simp only
  omega
theorem auD{u:List UInt8}{ns:List (List UInt8)}{n:List UInt8}(h:n∈ns)(e:Eg n=u):1≤aek u ns:=by
 unfold aek
 exact List.length_pos_of_mem (List.mem_filter.2 ⟨h,by simpa using e⟩)
theorem asX{v:Int}{xs:List It}{x:It}(h:acN v xs=true)(hl:xs.length<60)(hc:agm v (Eg x.n)≤0):acN v (xs++[x])=adY v x:=by
 obtain⟨h1,h2,h3,h4,h5⟩:=aed.1 h
 rw[Bool.eq_iff_iff]
 constructor
 ·intro hr
  exact(aed.1 hr).2.2.1 x (by simp)
 ·intro ho
  refine aed.2 ⟨h1,by simp;omega,fun y hy=>?_,fun u hu=>?_,fun e he=>?_⟩
  ·rcases List.mem_append.1 hy with hy|hy
   ·exact h3 y hy
   ·rw[List.mem_singleton.1 hy];exact ho
  ·rw[List.map_append,ahw,List.map_singleton,alQ]
   by_cases e:Eg x.n=u
   ·subst e;omega
   ·rw[if_neg e];have:=h4 u hu;omega
  ·rw[List.map_append,ahw];have:=h5 e he;omega
theorem auE{v:Int}{xs:List It}{x:It}(h:acN v xs=true)(hx:adY v x=true):∀y∈xs++[x],adY v y=true:=by
 obtain⟨_,_,h3,_,_⟩:=aed.1 h
 intro y hy
 rcases List.mem_append.1 hy with hy|hy
 ·exact h3 y hy
 ·rw[List.mem_singleton.1 hy];exact hx
theorem asY{v:Int}{xs:List It}{x:It}(hx:x∈xs)(hc:0<agm v (Eg x.n)):afQ v ((xs++[x]).map It.n)=false:=by
 rw[Bool.eq_false_iff]
 intro h
 have h1:=anE.1 h _ hc
 have h2:=(asn v (Eg x.n)).2
 have h3:1≤aek (Eg x.n) (xs.map It.n):=auD (List.mem_map_of_mem hx) rfl
 rw[List.map_append,ahw,List.map_singleton,alQ,if_pos rfl]at h1
 omega
theorem apA{v:Int}{x:It}{s:List UInt8}(h:adY v x=true)(hs:s=[]∨GH s=true):aee v ⟨s,x.n,x.ps,x.v⟩=true∧x.v.ok=true∧¬(x.v.ty=3∧0<(acM v x.n).2.2.2∧(x.v.ps.length:Int)≠(acM v x.n).2.2.2):=by
 obtain⟨a,b,c,d,e,f,g⟩:=ajq.1 h
 refine⟨anH.2 ⟨?_,b,c,d⟩,e,f⟩
 unfold anF at a⊢
 simp only[Bool.and_eq_true]at a⊢
 refine⟨⟨⟨a.1.1.1,?_⟩,a.1.2⟩,a.2⟩
 rcases hs with rfl|hs
 ·rfl
 ·rw[hs];simp
theorem aq3{v:Int}{x:It}{s:List UInt8}{c:Int}(h:adY v x=true)(hs:s=[]∨GH s=true)(hc:agD v ⟨s,x.n,x.ps,x.v⟩ c)(h0:c≠0):c=4:=by
 obtain⟨a,b,d⟩:=apA h hs
 rcases hc.long a b d with e|e
 ·exact absurd e h0
 ·exact e
end Go.Proofs.YtmffejnigppbpaaGreatDoor

namespace Go.Proofs.YtmffejnigppbpaaGreatDoor
open Go.RowKit
theorem axp{W:World}{t:TypeId}{e:Value}{c:Int}{k:Option Nat}(h:ad8 W (.iface t e) (some (c,k)))(hE:UO W):Um 32 #[.iface t e] W (.int .i64 c):=by
 cases k with
 |none=>
  have e2:Value.iface t e=eno c:=h
  rw[e2];exact agX c W hE
 |some k=>exact alA c k _ W hE h
end Go.Proofs.YtmffejnigppbpaaGreatDoor

namespace Go.Proofs.YtmffejnigppbpaaGreatDoor
open Go.ChangeShapes Go.WideShapes Go.RowKit
theorem auV : Tryz.prog.globalNamed "errors.errorType" = some 1 := by kernel_rfl
theorem auW : (Tryz.prog.cutTypes.find? (·.1 == "internal/reflectlite.rtype")).map (·.2) = some 213 := by kernel_rfl
theorem atg:((List.range 413).filter fun t=>Tryz.prog.rowNamed t [101,114,114,111,114])=[28]:=by kernel_rfl
theorem aq9:Tryz.prog.types.size=413:=by kernel_rfl
theorem ako{W : World}(h : handlesMet Tryz.prog [("errors.errorType", Rows.laid_errors_errorType)] W) : UO W := by
 obtain⟨name,u,ty,e1,e2,e3,e4,e5⟩:=h _ (List.mem_singleton.2 rfl)
 have en:name=[101,114,114,111,114]:=(Option.some.inj e1).symm
 subst en
 obtain rfl:=Option.some.inj (auW.symm.trans e2)
 have hm:ty∈(List.range 413).filter fun t=>Tryz.prog.rowNamed t [101,114,114,111,114]:=List.mem_filter.2 ⟨List.mem_range.2 (by rw[←aq9];exact e3),e4⟩
 rw[atg]at hm
 obtain rfl:=List.mem_singleton.1 hm
 have hh:typeHandle Tryz.prog 28=.pointer (some (hA 28)):=by kernel_rfl
 rw[hh]at e5
 unfold UO
 simpa using World.var?_cell auV e5 0
end Go.Proofs.YtmffejnigppbpaaGreatDoor

namespace Go.Proofs.YtmffejnigppbpaaGreatDoor
open Go.RowKit
theorem acK.setPs{w:World}:∀ {xs:List It} {cs:List Value},acK w xs cs→∀ {i:Nat} {x:It},xs[i]?=some x→∃pv lv,adE w x pv lv∧(∀(j:Nat) (u:Value),(x.cells pv lv)[j]?=some u→cs[i*15+j]?=some u) ∧
  ∀(ps':List Pm) (pv':Value),adE w { x with ps:=ps' } pv' lv→acK w (xs.set i { x with ps:=ps' }) (cs.set (i*15+2) pv')
 |[],_,_,i,x,h=>by simp at h
 |y::xs,cs,⟨pv,lv,ds,e,h1,h2⟩,0,x,h=>by
  simp at h
  subst h
  refine⟨pv,lv,h1,fun j u hu=>?_,fun ps' pv' hok=>?_⟩
  ·rw[e,Nat.zero_mul,Nat.zero_add,List.getElem?_append_left (List.getElem?_eq_some_iff.1 hu).1];exact hu
  ·exact⟨pv',lv,ds,by rw[e];rfl,hok,h2⟩
 |y::xs,cs,⟨pv,lv,ds,e,h1,h2⟩,i+1,x,h=>by
  obtain⟨pv2,lv2,k1,k2,k3⟩:=acK.setPs h2 (i:=i) (x:=x) (by simpa using h)
  have hl:(y.cells pv lv).length=15:=rfl
  refine⟨pv2,lv2,k1,fun j u hu=>?_,fun ps' pv' hok=>?_⟩
  ·rw[e,List.getElem?_append_right (by rw[hl];omega),hl,show(i+1)*15+j-15=i*15+j by omega]
   exact k2 j u hu
  ·refine⟨pv,lv,ds.set (i*15+2) pv',?_,h1,k3 ps' pv' hok⟩
   rw[e,List.set_append_right _ _ (by rw[hl];omega),hl,show(i+1)*15+2-15=i*15+2 by omega]
def ED(w0:World)(D cap:Nat)(xs:List It)(W:World):Prop:=
 ∃cur,BR w0 D 38 cur W∧cur.length=cap*15∧xs.length≤cap∧acK (Wo D W) xs (cur.take (xs.length*15))
section
variable {w0 W W':World} {D cap:Nat} {xs:List It}
theorem ED.mv(h:ED w0 D cap xs W):w0.grownBy W (some D):=by obtain⟨cur,h1,_⟩:=h;exact h1.mv
theorem ED.lt(h:ED w0 D cap xs W):D<W.heap.size:=by obtain⟨cur,h1,_⟩:=h;exact h1.lt
theorem ED.grow(h:ED w0 D cap xs W)(g:G W W'):ED w0 D cap xs W':=by
 obtain⟨cur,h1,h2,h3,h4⟩:=h
 exact⟨cur,h1.grow g,h2,h3,h4.grow (Wo.g g)⟩
theorem ED.start{v0:World}{base n:Nat}{cs:List Value}(h:aeP base W (.slice (some ⟨D,0,none⟩) n cap) n cs)(hr:acK v0 xs cs)(hn:xs.length=n)(g:G v0 W)(hD:v0.heap.size≤D):ED W D cap xs W:=by
 rcases h.2 with⟨e,_⟩|⟨b,c,cur,e,hb,hg,h1,h2,h3,h4⟩
 ·cases e
 ·cases e
  refine⟨cur.toList,⟨aev _ _,by simpa using hg⟩,by rw[Array.length_toList];exact h3,by omega,?_⟩
  rw[hn,h4]
  exact hr.grow (Wo.of g hD)
theorem ED.at_(h:ED w0 D cap xs W){i:Nat}{x:It}(hx:xs[i]?=some x):∃pv lv,adE (Wo D W) x pv lv∧(∀(j:Nat) (u:Value),(x.cells pv lv)[j]?=some u→W.cell? ⟨D,i*15+j,none⟩=some u)∧(∀j,W.frozen? ⟨D,j,none⟩=false) ∧
  ∀(W':World) (ps':List Pm) (pv':Value),G W W'→adE (Wo D W') { x with ps:=ps' } pv' lv→ED w0 D cap (xs.set i { x with ps:=ps' }) (W'.setCell ⟨D,i*15+2,none⟩ pv'):=by
 obtain⟨cur,h1,h2,h3,h4⟩:=h
 obtain⟨pv,lv,k1,k2,_⟩:=h4.setPs hx
 have hi:=(List.getElem?_eq_some_iff.1 hx).1
 refine⟨pv,lv,k1,fun j u hu=>?_,fun j=>h1.fz j,fun W' ps' pv' g hok=>?_⟩
 ·have:=k2 j u hu
  rw[List.getElem?_take]at this
  split at this
  ·exact h1.cell this
  ·cases this
 ·obtain⟨pv3,lv3,m1,m2,m3⟩:=(h4.grow (Wo.g g)).setPs hx
  have e3:lv3=lv:=by
   have a1:=k2 5 lv rfl
   have a2:=m2 5 lv3 rfl
   rw[a1]at a2
   exact(Option.some.inj a2).symm
  subst e3
  refine⟨cur.set (i*15+2) pv',(h1.grow g).set _ _,by simpa using h2,by simpa using h3,?_⟩
  rw[Wo.set,List.length_set,List.take_set]
  exact m3 ps' pv' hok
theorem ED.items(h:ED w0 D cap xs W):UA W (.slice (some ⟨D,0,none⟩) xs.length cap) xs:=by
 obtain⟨cur,h1,h2,h3,h4⟩:=h
 refine agf (h4.sub (Wo.sub D W)) h1.lt (fun j u hu=>?_) h3
 rw[List.getElem?_take]at hu
 split at hu
 ·rw[Nat.zero_add];exact h1.cell hu
 ·cases hu
end
end Go.Proofs.YtmffejnigppbpaaGreatDoor

namespace Go.Proofs.YtmffejnigppbpaaGreatDoor
open Go.RowKit
theorem Wo.mv{B:Nat}{a b:World}(h:a.grownBy b (some B)):G (Wo B a) (Wo B b):=by
 refine⟨h.os,h.tape,h.output,by rw[Wo.size,Wo.size];exact h.size,fun k hk=>?_⟩
 rw[Wo.size]at hk
 by_cases e:k=B
 ·subst e
  have hk':=Nat.lt_of_lt_of_le hk h.size
  unfold Wo
  simp[hk,hk']
 ·rw[Wo.other B _ _ e,Wo.other B _ _ e]
  exact h.block k hk (fun e2=>e (Option.some.inj e2))
def EX(w0:World)(D cap:Nat)(xs:List It)(f:Nat→World→World)(W:World):Prop:=
 ∃cur,BR w0 D 38 cur W∧cur.length=cap*15∧xs.length≤cap∧∀(i:Nat) (x:It),xs[i]?=some x→∃pv lv,adE (f i W) x pv lv∧∀(j:Nat) (u:Value),(x.cells pv lv)[j]?=some u→cur[i*15+j]?=some u
section
variable {w0 W W':World} {D cap:Nat} {xs:List It} {f:Nat→World→World}
theorem EX.mv(h:EX w0 D cap xs f W):w0.grownBy W (some D):=by obtain⟨cur,h1,_⟩:=h;exact h1.mv
theorem EX.lt(h:EX w0 D cap xs f W):D<W.heap.size:=by obtain⟨cur,h1,_⟩:=h;exact h1.lt
theorem EX.fz(h:EX w0 D cap xs f W)(j:Nat):W.frozen? ⟨D,j,none⟩=false:=by obtain⟨cur,h1,_⟩:=h;exact h1.fz j
theorem EX.at_(h:EX w0 D cap xs f W){i:Nat}{x:It}(hx:xs[i]?=some x):∃pv lv,adE (f i W) x pv lv∧∀(j:Nat) (u:Value),(x.cells pv lv)[j]?=some u→W.cell? ⟨D,i*15+j,none⟩=some u:=by
 obtain⟨cur,h1,h2,h3,h4⟩:=h
 obtain⟨pv,lv,k1,k2⟩:=h4 i x hx
 exact⟨pv,lv,k1,fun j u hu=>h1.cell (k2 j u hu)⟩
theorem EX.turn(h:EX w0 D cap xs f W){f':Nat→World→World}(hm:w0.grownBy W' (some D))(hD:W'.heap[D]?=W.heap[D]?)(hf:∀(i:Nat) (x:It) (pv lv:Value),xs[i]?=some x→(∀(j:Nat) (u:Value),(x.cells pv lv)[j]?=some u→W.cell? ⟨D,i*15+j,none⟩=some u)→adE (f i W) x pv lv→adE (f' i W') x pv lv):EX w0 D cap xs f' W':=by
 obtain⟨cur,h1,h2,h3,h4⟩:=h
 refine⟨cur,⟨hm,hD.trans h1.b⟩,h2,h3,fun i x hx=>?_⟩
 obtain⟨pv,lv,k1,k2⟩:=h4 i x hx
 exact⟨pv,lv,hf i x pv lv hx (fun j u hu=>h1.cell (k2 j u hu)) k1,k2⟩
theorem EX.grow(h:EX w0 D cap xs f W)(hfm:∀i a b,G a b→G (f i a) (f i b))(g:G W W'):EX w0 D cap xs f W':=
 h.turn (axi h.mv g) (g.below.block _ h.lt) fun i x pv lv _ _ hk=>hk.grow (hfm i _ _ g)
theorem EX.set(h:EX w0 D cap xs f W){i:Nat}{x:It}(hx:xs[i]?=some x){pv lv:Value}(hc:∀(j:Nat) (u:Value),(x.cells pv lv)[j]?=some u→W.cell? ⟨D,i*15+j,none⟩=some u){f':Nat→World→World}(ps':List Pm)(pv':Value)(hok:adE (f' i (W.setCell ⟨D,i*15+2,none⟩ pv')) { x with ps:=ps' } pv' lv)(hf:∀(j:Nat) (y:It) (qv mv:Value),xs[j]?=some y→j≠i→adE (f j W) y qv mv→adE (f' j (W.setCell ⟨D,i*15+2,none⟩ pv')) y qv mv):EX w0 D cap (xs.set i { x with ps:=ps' }) f' (W.setCell ⟨D,i*15+2,none⟩ pv'):=by
 obtain⟨cur,h1,h2,h3,h4⟩:=h
 refine⟨cur.set (i*15+2) pv',h1.set _ _,by simpa using h2,by simpa using h3,fun j y hy=>?_⟩
 rw[List.getElem?_set]at hy
 by_cases e:i=j
 ·subst e
  rw[if_pos rfl]at hy
  split at hy
  ·cases hy
   refine⟨pv',lv,hok,fun k u hu=>?_⟩
   rw[List.getElem?_set]
   have hk:k<15:=by
    have:=(List.getElem?_eq_some_iff.1 hu).1
    exact this
   have hi:=(List.getElem?_eq_some_iff.1 hx).1
   by_cases e2:k=2
   ·subst e2
    rw[if_pos rfl,if_pos (by rw[h2];have:=Nat.mul_le_mul_right 15 (show i+1≤cap by omega);omega)]
    exact hu
   ·rw[if_neg (by omega)]
    have h5:(x.cells pv lv)[k]?=some u:=by
     rw[←hu]
     match k,hk,e2 with
     |0,_,_=>rfl|1,_,_=>rfl|2,_,e2=>exact absurd rfl e2
     |3,_,_=>rfl|4,_,_=>rfl|5,_,_=>rfl|6,_,_=>rfl|7,_,_=>rfl|8,_,_=>rfl|9,_,_=>rfl|10,_,_=>rfl|11,_,_=>rfl|12,_,_=>rfl|13,_,_=>rfl|14,_,_=>rfl
    have h6:=hc k u h5
    rw[cell_of_row W D (i*15+k) _ _ _ h1.b]at h6
    simpa using h6
  ·cases hy
 ·rw[if_neg e]at hy
  obtain⟨qv,mv,k1,k2⟩:=h4 j y hy
  refine⟨qv,mv,hf j y qv mv hy (fun e2=>e e2.symm) k1,fun k u hu=>?_⟩
  have hk:k<15:=(List.getElem?_eq_some_iff.1 hu).1
  rw[List.getElem?_set,if_neg (by omega)]
  exact k2 k u hu
theorem EX.items(h:EX w0 D cap xs f W)(hs:∀i,Sub (f i W) W):UA W (.slice (some ⟨D,0,none⟩) xs.length cap) xs:=by
 obtain⟨cur,h1,h2,h3,h4⟩:=h
 refine⟨_,_,rfl,h3,fun _=>⟨D,0,rfl,h1.lt,fun i x hx=>?_⟩⟩
 obtain⟨pv,lv,k1,k2⟩:=h4 i x hx
 exact⟨pv,lv,⟨fun j u hu=>by rw[Nat.zero_add];exact h1.cell (k2 j u hu),k1.sub (hs i)⟩⟩
theorem EX.start{v0:World}{base n:Nat}{cs:List Value}(h:aeP base W (.slice (some ⟨D,0,none⟩) n cap) n cs)(hr:acK v0 xs cs)(hn:xs.length=n)(g:G v0 W)(hD:v0.heap.size≤D):EX W D cap xs (fun _=>Wo D) W:=by
 rcases h.2 with⟨e,_⟩|⟨b,c,cur,e,hb,hg,h1,h2,h3,h4⟩
 ·cases e
 ·cases e
  refine⟨cur.toList,⟨aev _ _,by simpa using hg⟩,by rw[Array.length_toList];exact h3,by omega,fun i x hx=>?_⟩
  obtain⟨pv,lv,k1,k2⟩:=hr.at_ i x hx
  refine⟨pv,lv,k1.grow (Wo.of g hD),fun j u hu=>?_⟩
  have:=k2 j u hu
  rw[←h4,List.getElem?_take]at this
  split at this
  ·exact this
  ·cases this
end
end Go.Proofs.YtmffejnigppbpaaGreatDoor

namespace Go.Proofs.YtmffejnigppbpaaGreatDoor
open Go.RowKit
theorem EX.put{w0 W:World}{D cap:Nat}{xs:List It}(h:EX w0 D cap xs (fun _=>Wo D) W){i:Nat}{x:It}(hx:xs[i]?=some x){pv lv:Value}(hc:∀(j:Nat) (u:Value),(x.cells pv lv)[j]?=some u→W.cell? ⟨D,i*15+j,none⟩=some u)(y:It)(pv' lv':Value)(c:Nat)(v:Value)(hok:adE (Wo D W) y pv' lv')(hcells:y.cells pv' lv'=(x.cells pv lv).set c v)(hc15:c<15):EX w0 D cap (xs.set i y) (fun _=>Wo D) (W.setCell ⟨D,i*15+c,none⟩ v):=by
 obtain⟨cur,h1,h2,h3,h4⟩:=h
 have hi:=(List.getElem?_eq_some_iff.1 hx).1
 have hm:=Nat.mul_le_mul_right 15 (show i+1≤cap by omega)
 refine⟨cur.set (i*15+c) v,h1.set _ _,by simpa using h2,by simpa using h3,fun j z hz=>?_⟩
 rw[List.getElem?_set]at hz
 by_cases e:i=j
 ·subst e
  rw[if_pos rfl,if_pos hi]at hz
  cases hz
  refine⟨pv',lv',by show adE (Wo D _) y pv' lv';rw[Wo.set];exact hok,fun k u hu=>?_⟩
  have hk:k<15:=(List.getElem?_eq_some_iff.1 hu).1
  rw[hcells,List.getElem?_set]at hu
  rw[List.getElem?_set]
  by_cases e2:c=k
  ·subst e2
   rw[if_pos rfl,if_pos (by exact hk)]at hu
   rw[if_pos rfl,if_pos (by omega)]
   exact hu
  ·rw[if_neg e2]at hu
   rw[if_neg (by omega)]
   have h6:=hc k u hu
   rw[cell_of_row W D (i*15+k) _ _ _ h1.b]at h6
   simpa using h6
 ·rw[if_neg e]at hz
  obtain⟨qv,mv,k1,k2⟩:=h4 j z hz
  refine⟨qv,mv,by show adE (Wo D _) z qv mv;rw[Wo.set];exact k1,fun k u hu=>?_⟩
  have hk:k<15:=(List.getElem?_eq_some_iff.1 hu).1
  rw[List.getElem?_set,if_neg (by omega)]
  exact k2 k u hu
def gx(s:List UInt8)(x:It):It:=⟨s,x.n,x.ps,x.v⟩
theorem EX.group{w0 W:World}{D cap:Nat}{xs:List It}(h:EX w0 D cap xs (fun _=>Wo D) W){i:Nat}{x:It}(hx:xs[i]?=some x)(s:List UInt8):EX w0 D cap (xs.set i (gx s x)) (fun _=>Wo D) (W.setCell ⟨D,i*15,none⟩ (.string (S s))):=by
 obtain⟨pv,lv,k1,k2⟩:=h.at_ hx
 have k0:adE (Wo D W) (gx s x) pv lv:=⟨k1.p,k1.l,k1.f,k1.y,k1.t⟩
 exact h.put hx k2 (gx s x) pv lv 0 (.string (S s)) k0 rfl (by omega)
theorem aq1{s:List UInt8}{xs:List It}{k:Nat}{x:It}(hx:xs[k]?=some x):((xs.take k).map (gx s)++xs.drop k).set k (gx s x)=(xs.take (k+1)).map (gx s)++xs.drop (k+1):=by
 obtain⟨hk,rfl⟩:=List.getElem?_eq_some_iff.1 hx
 rw[List.set_append_right _ _ (by simp;omega),List.take_succ_eq_append_getElem hk,List.map_append]
 have:k-((xs.take k).map (gx s)).length=0:=by simp;omega
 rw[this,List.drop_eq_getElem_cons hk,List.set_cons_zero]
 simp
end Go.Proofs.YtmffejnigppbpaaGreatDoor

set_option maxHeartbeats 400000
set_option maxRecDepth 100000
namespace Go.Proofs.YtmffejnigppbpaaGreatDoor
open Go.RowKit
theorem avF(w:World):Um 32 #[.nilIface] w (.int .i64 0):=by
 go_enter Tryz.func32,Tryz.ntmps32
 go_wp2
 go_ret
 exact⟨rfl,(by repeat (first|exact G.refl _|assumption|apply G.drew|apply G.drewN|apply G.alloc|refine G.trans ?_ (by assumption)))⟩
end Go.Proofs.YtmffejnigppbpaaGreatDoor
