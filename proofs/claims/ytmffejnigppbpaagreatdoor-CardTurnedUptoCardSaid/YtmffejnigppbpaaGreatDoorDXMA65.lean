/-
  Texts merged into one: IsLists, Kp, Rdr, Stab, SortRow, Atoi, Nums, RowSet, MapRun, OwnStr, Pick.
-/
import Derived.Test.YtmffejnigppbpaaGreatDoorDXMA52
import Derived.Test.YtmffejnigppbpaaGreatDoorDXShelf
import Derived.Test.YtmffejnigppbpaaGreatDoorDXMA69
import Derived.Lib.AtoiErrMem
import Derived.Lib.AtoiAllCases
import Derived.Lib.AppendIntMem
import Derived.OwnWalk
import Derived.Laws.Tables
import Derived.Deep.RegionHeld3
import Derived.WideMake
import Derived.Deep.AppendLies
set_option linter.unusedVariables false
set_option linter.unusedSimpArgs false
namespace Go.Proofs.YtmffejnigppbpaaGreatDoor
open Go.RowKit
def adq(ls:List (List UInt8)):Nat:=(ls.map fun l=>l.length+1).sum
theorem afp(l:List UInt8)(ls:List (List UInt8)):adq (l::ls)=l.length+1+adq ls:=by simp[adq]
theorem ags(a b:List (List UInt8)):adq (a++b)=adq a+adq b:=by simp[adq]
theorem ahF(ls:List (List UInt8)):ls.length≤adq ls:=by
 induction ls with
 |nil=>simp
 |cons a ls ih=>rw[afp];simp;omega
theorem ajG{ls:List (List UInt8)}{l:List UInt8}(h:l∈ls):l.length+1≤adq ls:=by
 induction ls with
 |nil=>cases h
 |cons a ls ih=>
  rw[afp]
  rcases List.mem_cons.1 h with rfl|h
  ·omega
  ·have:=ih h;omega
def Uw(w:World)(v:Value)(ls:List (List (List UInt8))):Prop:=
 ∃cells,afJ 1 w v ls.length cells∧ap0 v∧∀(i:Nat) (l:List (List UInt8)),ls[i]?=some l→∃sv,cells[i]?=some sv∧Ux w sv l
theorem Uw.grow{w w':World}{v:Value}{ls:List (List (List UInt8))}(h:Uw w v ls)(g:G w w'):Uw w' v ls:=by
 obtain⟨cells,h1,h2,h3⟩:=h
 refine⟨cells,h1.grow g,h2,fun i l hl=>?_⟩
 obtain⟨sv,h4,h5⟩:=h3 i l hl
 exact⟨sv,h4,h5.grow g⟩
theorem Uw.len{w:World}{v:Value}{ls:List (List (List UInt8))}(h:Uw w v ls):∃a c,v=.slice a ls.length c∧ls.length≤c:=by
 obtain⟨cells,h1,h2,h3⟩:=h
 obtain⟨a,c,e⟩:=afJ.len h1
 exact⟨a,c,e,by rw[e]at h2;exact h2⟩
theorem Uw.at_{w:World}{v:Value}{ls:List (List (List UInt8))}(h:Uw w v ls)(h0:ls≠[]):∃b off cap,v=.slice (some ⟨b,off,none⟩) ls.length cap∧ls.length≤cap∧b<w.heap.size∧∀(i:Nat) (l:List (List UInt8)),ls[i]?=some l→∃sv,w.cell? ⟨b,off+i,none⟩=some sv∧Ux w sv l:=by
 obtain⟨cells,⟨h1,h2,h3⟩,hk,hc⟩:=h
 rcases h3 with⟨h3,_⟩|⟨b,off,cap,e,hb,hn,hcell⟩
 ·exact absurd (List.eq_nil_of_length_eq_zero h3) h0
 ·refine⟨b,off,cap,e,by rw[e]at hk;exact hk,hb,fun i l hl=>?_⟩
  obtain⟨sv,h4,h5⟩:=hc i l hl
  have hi:i<cells.length:=by
   rcases Nat.lt_or_ge i cells.length with h|h
   ·exact h
   ·rw[List.getElem?_eq_none h]at h4;cases h4
  refine⟨sv,?_,h5⟩
  rw[hcell i hi]
  rw[List.getElem?_eq_getElem hi]at h4
  exact h4
def acY(ls:List (List (List UInt8))):Nat:=(ls.map fun l=>adq l+1).sum
theorem af0(l:List (List UInt8))(ls:List (List (List UInt8))):acY (l::ls)=adq l+1+acY ls:=by simp[acY]
theorem ahG(ls:List (List (List UInt8))):ls.length≤acY ls:=by
 induction ls with
 |nil=>simp
 |cons a ls ih=>rw[af0];simp;omega
theorem ahH{ls:List (List (List UInt8))}{l:List (List UInt8)}(h:l∈ls):adq l+1≤acY ls:=by
 induction ls with
 |nil=>cases h
 |cons a ls ih=>
  rw[af0]
  rcases List.mem_cons.1 h with rfl|h
  ·omega
  ·have:=ih h;omega
end Go.Proofs.YtmffejnigppbpaaGreatDoor

namespace Go.Proofs.YtmffejnigppbpaaGreatDoor
open Go.RowKit
def avc:Value→Bool
 |.string _=>true
 |.slice (some _) _ _=>true
 |_=>false
def Kp(w w':World):Prop:=w.heap.size≤w'.heap.size∧∀p v,w.cell? p=some v→avc v=true→w'.cell? p=some v
theorem Kp.refl(w:World):Kp w w:=⟨Nat.le_refl _,fun _ _ h _=>h⟩
theorem Kp.trans{a b c:World}(h:Kp a b)(k:Kp b c):Kp a c:=⟨Nat.le_trans h.1 k.1,fun p v h1 h2=>k.2 p v (h.2 p v h1 h2) h2⟩
theorem Kp.set{w:World}{q:Addr}{old v:Value}(h:w.cell? q=some old)(hk:avc old=false∨old=v):Kp w (w.setCell q v):=by
 refine⟨by simp,fun p u hp hu=>?_⟩
 by_cases e:p=q
 ·subst e
  rw[h]at hp
  obtain rfl:=Option.some.inj hp
  rcases hk with hk|hk
  ·rw[hk]at hu;cases hu
  ·rw[World.cell?_setCell_same _ _ _ h,hk]
 ·rw[World.cell?_setCell_other _ _ _ _ (by exact Ne.symm e)];exact hp
theorem Ux.kept{w w':World}{v:Value}{l:List (List UInt8)}(h:Ux w v l)(k:Kp w w'):Ux w' v l:=by
 obtain⟨⟨h1,h2,h3⟩,hc⟩:=h
 refine⟨⟨h1,h2,?_⟩,hc⟩
 rcases h3 with h3|⟨b,off,cap,e,hb,h0,hcell⟩
 ·exact .inl h3
 ·refine .inr ⟨b,off,cap,e,Nat.lt_of_lt_of_le hb k.1,h0,fun j hj=>k.2 _ _ (hcell j hj) ?_⟩
  simp[avc]
end Go.Proofs.YtmffejnigppbpaaGreatDoor

namespace Go.Proofs.YtmffejnigppbpaaGreatDoor
open Go.RowKit
theorem aeU{a b c:World}{row:Option Nat}(h:a.grownBy b row)(k:b.grownBy c row):a.grownBy c row:=
 ⟨k.os.trans h.os,k.tape.trans h.tape,k.output.trans h.output,Nat.le_trans h.size k.size,fun i hi hne=>(k.block i (Nat.lt_of_lt_of_le hi h.size) hne).trans (h.block i hi hne)⟩
theorem aev(a:World)(row:Option Nat):a.grownBy a row:=⟨rfl,rfl,rfl,Nat.le_refl _,fun _ _ _=>rfl⟩
theorem ak2(row:Option Nat){a b:World}(g:G a b):a.grownBy b row:=⟨g.below.os,g.below.tape,g.below.output,g.below.size,fun k hk _=>g.below.block k hk⟩
theorem agy{a b:World}{row:Option Nat}(h:a.grownBy b row):a.grownBy b.drew row:=⟨h.os,h.tape,h.output,h.size,h.block⟩
theorem afG{a b:World}{row:Option Nat}(h:a.grownBy b row)(n:Nat):a.grownBy (b.drewN n) row:=aeU h (ak2 row ((G.refl _).drewN n))
theorem afi(W:World)(b j:Nat)(v:Value):W.grownBy (W.setCell ⟨b,j,none⟩ v) (some b):=
 ⟨rfl,rfl,rfl,by simp,fun k _ hk=>Below.heap_setCell _ _ _ k (fun e=>hk (by rw[e]))⟩
theorem ad9{a b:World}{R j:Nat}{v:Value}(h:a.grownBy b (some R)):a.grownBy (b.setCell ⟨R,j,none⟩ v) (some R):=aeU h (afi _ _ _ _)
theorem afH{a b:World}{row:Option Nat}(h:a.grownBy b row)(o:Obj):a.grownBy (b.alloc o) row:=aeU h (ak2 row ((G.refl _).alloc o))
theorem axi{a b c:World}{row:Option Nat}(h:a.grownBy b row)(g:G b c):a.grownBy c row:=aeU h (ak2 row g)
theorem alz{a b c:World}{R:Nat}(h:G a b)(k:b.grownBy c (some R))(hR:a.heap.size≤R):G a c:=
 h.below.grown k h.size (fun i e=>by injection e with e;omega)
def RdO(T:TypeId)(tl:List Value)(w:World)(R:Nat)(s:List UInt8)(k:Nat):Prop:=w.heap[R]?=some (.cells (.string (S s)::.int .i64 (k:Int)::tl).toArray T)
section
variable {T:TypeId} {tl:List Value} {w w':World} {R:Nat} {s:List UInt8} {k:Nat}
theorem RdO.lt(h:RdO T tl w R s k):R<w.heap.size:=(Array.getElem?_eq_some_iff.1 h).1
theorem RdO.c0(h:RdO T tl w R s k):w.cell? ⟨R,0,none⟩=some (.string (S s)):=by rw[cell_of_row w R 0 _ _ _ h];rfl
theorem RdO.c1(h:RdO T tl w R s k):w.cell? ⟨R,1,none⟩=some (.int .i64 (k:Int)):=by rw[cell_of_row w R 1 _ _ _ h];rfl
theorem RdO.fz(h:RdO T tl w R s k)(j:Nat):w.frozen? ⟨R,j,none⟩=false:=frozen_of_row w R j _ _ h
theorem RdO.grow(h:RdO T tl w R s k)(g:G w w'):RdO T tl w' R s k:=(g.below.block R h.lt).trans h
theorem RdO.set(h:RdO T tl w R s k)(k':Nat):RdO T tl (w.setCell ⟨R,1,none⟩ (.int .i64 (k':Int))) R s k':=by
 have h':w.heap[R]?=_:=h
 show(w.setCell _ _).heap[R]?=_
 simp[World.setCell,Array.getElem?_modify,h']
theorem RdO.setN(h:RdO T tl w R s k)(n:Int)(k':Nat)(e:n=(k':Int)):RdO T tl (w.setCell ⟨R,1,none⟩ (.int .i64 n)) R s k':=by subst e;exact h.set k'
theorem RdO.drewN(h:RdO T tl w R s k)(n:Nat):RdO T tl (w.drewN n) R s k:=h
theorem RdO.drew(h:RdO T tl w R s k):RdO T tl w.drew R s k:=h
def RdL(T:TypeId)(tl:List Value)(w:World)(R:Nat)(s l:List UInt8):Prop:=∃p,s=p++l∧RdO T tl w R s p.length
theorem RdL.grow{l:List UInt8}(h:RdL T tl w R s l)(g:G w w'):RdL T tl w' R s l:=by obtain⟨p,e,h⟩:=h;exact⟨p,e,h.grow g⟩
theorem RdL.lt{l:List UInt8}(h:RdL T tl w R s l):R<w.heap.size:=by obtain⟨p,e,h⟩:=h;exact h.lt
end
end Go.Proofs.YtmffejnigppbpaaGreatDoor

namespace Go.Proofs.YtmffejnigppbpaaGreatDoor.Stab
def L(k:Int→Int)(x y:Int):Prop:=k x<k y∨(k x=k y∧x<y)
theorem L.trans{k:Int→Int}{x y z:Int}(h:L k x y)(g:L k y z):L k x z:=by
 unfold L at *;omega
abbrev Srt(k:Int→Int)(l:List Int):Prop:=l.Pairwise (L k)
def Bef(u v:List Int):Prop:=∀x∈u,∀y∈v,x<y
def aqz(n:Nat):List (List Int)→Prop
 |[]=>True
 |[c]=>0<c.length∧c.length≤n
 |c::d::r=>c.length=n∧aqz n (d::r)
def ayq(k:Int→Int)(n:Nat)(cs:List (List Int)):Prop:=aqz n cs∧cs.Pairwise Bef∧∀c∈cs,Srt k c
def axo(k:Int→Int)(n:Nat)(D E:List (List Int)):Prop:=(∀d∈D,d.length=2*n)∧aqz n E∧(D++E).Pairwise Bef∧∀c∈D++E,Srt k c
theorem axo.start{k:Int→Int}{n:Nat}{cs:List (List Int)}(h:ayq k n cs):axo k n [] cs:=
 ⟨fun d hd=>by simp at hd,h.1,by simpa using h.2.1,by simpa using h.2.2⟩
def ax0(k:Int→Int)(n:Nat)(D:List (List Int))(t:List Int):Prop:=(∀d∈D,d.length=n)∧(D++[t]).Pairwise Bef∧(∀c∈D,Srt k c)∧t.Pairwise (· < ·)
theorem ax0.start{k:Int→Int}{n:Nat}{t:List Int}(h:t.Pairwise (· < ·)):ax0 k n [] t:=⟨fun d hd=>by simp at hd,by simp,fun c hc=>by simp at hc,h⟩
end Go.Proofs.YtmffejnigppbpaaGreatDoor.Stab

namespace Go.Proofs.YtmffejnigppbpaaGreatDoor
open Go.RowKit
structure SR(w0:World)(B off:Nat)(l:List Int)(W:World):Prop where
 mv:w0.grownBy W (some B)
 lt:B<W.heap.size
 cell:∀(i:Nat) (x:Int),l[i]?=some x→W.cell? ⟨B,off+i,none⟩=some (.int .i64 x)∧W.frozen? ⟨B,off+i,none⟩=false
 blk:∀cur T fr,w0.heap[B]?=some (.cells cur T fr)→∃cur',W.heap[B]?=some (.cells cur' T fr)∧cur'.size=cur.size
variable {w0 W W':World} {B off:Nat} {l:List Int}
theorem SR.grow(h:SR w0 B off l W)(g:G W W'):SR w0 B off l W':=
 ⟨axi h.mv g,Nat.lt_of_lt_of_le h.lt g.size,fun i x hx=>⟨by rw[g.cell h.lt];exact(h.cell i x hx).1,by rw[g.below.frozen h.lt];exact(h.cell i x hx).2⟩,fun cur T fr e=>by rw[g.below.block B h.lt];exact h.blk cur T fr e⟩
theorem SR.drew(h:SR w0 B off l W):SR w0 B off l W.drew:=h.grow ((G.refl _).drew)
theorem SR.start{base n cap:Nat}(h:W.ownsRow base 3 1 (.slice (some ⟨B,0,none⟩) n cap) n (l.map (Value.int .i64))):SR W B 0 l W:=by
 rcases h.2 with⟨e,_⟩|⟨g,c,cur,e,hb,hg,hn,hm,hs,ht⟩
 ·cases e
 ·cases e
  have hlen:l.length=n:=by have:=h.1;simpa using this
  refine⟨aev _ _,(Array.getElem?_eq_some_iff.1 hg).1,fun i x hx=>?_,fun cur T fr e=>⟨cur,e,rfl⟩⟩
  have hi:i<l.length:=(List.getElem?_eq_some_iff.1 hx).1
  have e2:cur[i]?=some (.int .i64 x):=by
   have:=congrArg (fun z=>z[i]?) ht
   simp only[List.getElem?_take,List.getElem?_map,hx]at this
   rw[if_pos (by omega)]at this
   simpa using this
  exact⟨by rw[cell_of_row W B (0+i) _ _ _ hg,Nat.zero_add];exact e2,frozen_of_row W B (0+i) _ _ hg⟩
end Go.Proofs.YtmffejnigppbpaaGreatDoor

namespace Go.Proofs.YtmffejnigppbpaaGreatDoor
open Go.RowKit
def ake(W:World):Prop:=(∃ev,W.cell? ⟨3,0,none⟩=some ev∧(ev=.nilIface∨∃te pe,ev=.iface te pe))∧(∃ev,W.cell? ⟨4,0,none⟩=some ev∧(ev=.nilIface∨∃te pe,ev=.iface te pe))
theorem ake.grow{w w':World}(h:ake w)(g:G w w'):ake w':=by
 obtain⟨⟨e1,h1,k1⟩,⟨e2,h2,k2⟩⟩:=h
 exact⟨⟨e1,(g.cell (World.block_lt_of_cell? _ _ h1)).trans h1,k1⟩,⟨e2,(g.cell (World.block_lt_of_cell? _ _ h2)).trans h2,k2⟩⟩
theorem aqX(s:List UInt8):(S s).data.toList=s:=by simp[S]
theorem asg(s:List UInt8)(n:Int)(w:World)(hs:s.length≤1000000)(h:Lib.atoiAll s=.ok n):Um 59 #[.string (S s)] w (.tuple #[.int .i64 n,.nilIface]):=by
 refine(Tryz.strconv_Atoi_ok (S s) (by simp;omega) n (by rw[aqX];exact h) w).mono ?_
 rintro e w' ⟨rfl,hw⟩
 refine⟨rfl,?_⟩
 rcases hw with rfl|⟨t,rfl⟩
 ·exact G.refl _
 ·exact Lib.bytesWorld_below _ _ _
theorem apm:∀n:Nat,n<10→Lib.atoiAll [UInt8.ofNat (48+n)]=.ok (n:Int):=by
 intro n hn
 have:n=0∨n=1∨n=2∨n=3∨n=4∨n=5∨n=6∨n=7∨n=8∨n=9:=by omega
 rcases this with rfl|rfl|rfl|rfl|rfl|rfl|rfl|rfl|rfl|rfl<;>rfl
theorem ads(n:Nat)(w:World)(h:n<10):Um 59 #[.string (S [UInt8.ofNat (48+n)])] w (.tuple #[.int .i64 n,.nilIface]):=asg _ _ w (by simp) (apm n h)
theorem awl(s:List UInt8)(w:World)(hs:s.length≤1000000)(h:∀n,Lib.atoiAll s≠.ok n)(hE:ake w):Uz 59 #[.string (S s)] w fun v _=>∃(n:Int) (N:Nat),v=.tuple #[.int .i64 n,.iface 198 (.pointer (some ⟨N,0,none⟩))]:=by
 obtain⟨⟨e1,h1,k1⟩,⟨e2,h2,k2⟩⟩:=hE
 rcases hc:Lib.atoiAll s with n|_|_
 ·exact absurd hc (h n)
 ·refine(Any.strconv_Atoi_syntax Tryz.laysC172 (S s) (by simp;omega) (by rw[aqX];exact hc) e1 w h1 k1).mono ?_
  rintro e w' ⟨N,rfl,_,_,g⟩
  exact⟨_,rfl,⟨_,_,rfl⟩,g⟩
 ·refine(Tryz.strconv_Atoi_range (S s) (by simp;omega) (by rw[aqX];exact hc) e2 w h2 k2).mono ?_
  rintro e w' ⟨N,rfl,_,_,g⟩
  exact⟨_,rfl,⟨_,_,rfl⟩,g⟩
theorem alM(n : Int)(w : World)(h0 : -9223372036854775808 ≤ n)(h1 : n ≤ 9223372036854775807)(htab : Lib.TabIs Tryz.prog w "internal/strconv.uint64pow10" .u64 Lib.pow10Tab) : Um 82 #[.int .i64 n] w (.string (S (Lib.itoa n))) := by
 refine(Tryz.strconv_Itoa n h0 h1 w htab).mono ?_
 rintro e w' ⟨rfl,k,os,rfl⟩
 exact⟨rfl,Lib.below_grow _ w (Nat.le_refl _) k os⟩
end Go.Proofs.YtmffejnigppbpaaGreatDoor

namespace Go.Proofs.YtmffejnigppbpaaGreatDoor
open Go.RowKit
def arH(w:World)(v:Value)(xs:List Int):Prop:=
 ∃a cap,v=.slice a xs.length cap∧xs.length≤cap∧(xs≠[]→∃b off,a=some ⟨b,off,none⟩∧b<w.heap.size∧∀(i:Nat) (x:Int),xs[i]?=some x→w.cell? ⟨b,off+i,none⟩=some (.int .i64 x))
theorem arH.grow{w w':World}{v:Value}{xs:List Int}(h:arH w v xs)(g:G w w'):arH w' v xs:=by
 obtain⟨a,cap,e,hc,h⟩:=h
 refine⟨a,cap,e,hc,fun h0=>?_⟩
 obtain⟨b,off,e2,hb,h⟩:=h h0
 exact⟨b,off,e2,Nat.lt_of_lt_of_le hb g.size,fun i x hx=>by rw[g.cell hb];exact h i x hx⟩
def atH(w:World)(base:Nat)(v:Value)(xs:List Int):Prop:=w.ownsRow base 3 1 v xs.length (xs.map (Value.int .i64))
theorem atH.grow{w w':World}{base:Nat}{v:Value}{xs:List Int}(h:atH w base v xs)(g:G w w'):atH w' base v xs:=
 World.ownsRow.kept h (ak2 none g) (by cases hv:v.ownBlock<;>simp)
theorem atH.mono{w:World}{base base':Nat}{v:Value}{xs:List Int}(h:atH w base v xs)(hb:base'≤base):atH w base' v xs:=by
 obtain⟨h1,h2⟩:=h
 refine⟨h1,?_⟩
 rcases h2 with h2|⟨g,cap,cur,e,hb',r⟩
 ·exact .inl h2
 ·exact .inr ⟨g,cap,cur,e,Nat.le_trans hb hb',r⟩
end Go.Proofs.YtmffejnigppbpaaGreatDoor

namespace Go.Proofs.YtmffejnigppbpaaGreatDoor
open Go.RowKit
theorem UI{w:World}{b:Nat}{o:Obj}(h:w.heap[b]?=some o):b<w.heap.size:=by
 rcases Nat.lt_or_ge b w.heap.size with h'|h'
 ·exact h'
 ·rw[Array.getElem?_eq_none h']at h;cases h
theorem UJ{W:World}{b i:Nat}{v:Value}{cs cs':Array Value}{T:TypeId}{fr:Nat×Nat}(h:W.heap[b]?=some (.cells cs T fr))(e:cs.setIfInBounds i v=cs'):(W.setCell ⟨b,i,none⟩ v).heap[b]?=some (.cells cs' T fr):=by
 subst e
 simp[World.setCell,Array.getElem?_modify,h]
theorem agW{W:World}{b:Nat}{o x:Obj}(h:W.heap[b]?=some o)(hb:b<W.heap.size):(W.alloc x).heap[b]?=some o:=by rw[Below.heap_alloc W x b hb];exact h
end Go.Proofs.YtmffejnigppbpaaGreatDoor

namespace Go.Proofs.YtmffejnigppbpaaGreatDoor
open Go.RowKit
theorem avp{α:Type}(a:Array α)(x y:α):(a.push x).setIfInBounds a.size y=a.push y:=by
 apply Array.ext'
 simp
theorem asB{P:Program}(w:World)(t kt et:TypeId)(d:TypeDesc)(ht:P.underlying t=some (.map kt et))(hk:P.underlying kt=some d)(es:Array MapEntry)(c:Nat)(k v:Value)(hkd:MapKept.IsKey d k)(hn:Instr.findNow d k es.toList 0=some none) :
  (Instr.mapUpdate t (.map (some w.heap.size)) k v).run P (w.alloc (.map es c))=.ok () (w.alloc (.map (es.push { key:=k,val:=v,born:=c }) (c+1))):=by
 have hb:(w.alloc (.map es c)).heap[w.heap.size]?=some (.map es c):=(MapKept.heap_alloc w _).1
 have hc:(Instr.checkKey false 10000 kt k).run P (w.alloc (.map es c))=.ok () (w.alloc (.map es c)):=MapKept.run_checkKey hk hkd false 9999
 have hw:({ (w.alloc (.map es c))with heap:=(w.alloc (.map es c)).heap.setIfInBounds w.heap.size (.map (es.push { key:=k,val:=v,born:=c }) (c+1)) }:World)=w.alloc (.map (es.push { key:=k,val:=v,born:=c }) (c+1)):=by
  unfold World.alloc
  simp only
  rw[avp]
 simp[Instr.mapUpdate,run_underlying ht,MapKept.run_getObj_map hb,hc,MapKept.run_findKey hk hn,MapKept.run_setObj_map _ hb,Result.andThen]
 exact hw
theorem aqc{P:Program}{k:Value}(w:World)(t kt et:TypeId)(d:TypeDesc)(ht:P.underlying t=some (.map kt et))(hk:P.underlying kt=some d)(b:Nat)(es:Array MapEntry)(c:Nat)(hb:w.heap[b]?=some (.map es c))(hkd:MapKept.IsKey d k)(i:Nat)(v:Value)(ok:Bool)(hn:Instr.findNow d k es.toList 0=some (some (i,v))) :
  (Instr.lookup t (.map (some b)) k ok).run P w=.ok (if ok then .tuple #[v,.bool true] else v) w:=by
 have hc:∀e,(Instr.checkKey e 10000 kt k).run P w=.ok () w:=fun e=>MapKept.run_checkKey hk hkd e 9999
 cases ok<;>simp[Instr.lookup,run_underlying ht,MapKept.run_getObj_map hb,hc,MapKept.run_findKey hk hn,Result.andThen]
theorem ajO(X:World)(o:Obj)(k:Nat)(h:X.heap.size=k):(X.alloc o).heap[k]?=some o:=by subst h;exact(MapKept.heap_alloc X _).1
theorem arF{P:Program}(w:World)(t kt et:TypeId)(d:TypeDesc)(ht:P.underlying t=some (.map kt et))(hk:P.underlying kt=some d)(b:Nat)(es:Array MapEntry)(c:Nat)(k v:Value)(hb:w.heap[b]?=some (.map es c))(hkd:MapKept.IsKey d k)(hn:Instr.findNow d k es.toList 0=some none) :
  (Instr.mapUpdate t (.map (some b)) k v).run P w=.ok () { w with heap:=w.heap.setIfInBounds b (.map (es.push { key:=k,val:=v,born:=c }) (c+1)) }:=by
 have hc:(Instr.checkKey false 10000 kt k).run P w=.ok () w:=MapKept.run_checkKey hk hkd false 9999
 simp[Instr.mapUpdate,run_underlying ht,MapKept.run_getObj_map hb,hc,MapKept.run_findKey hk hn,MapKept.run_setObj_map _ hb,Result.andThen]
end Go.Proofs.YtmffejnigppbpaaGreatDoor

namespace Go.Proofs.YtmffejnigppbpaaGreatDoor
open Go.RowKit
theorem ajT:(Tryz.prog.info? 9).map (fun i=>(i.zero,i.size,i.bytes))=some (some (.string ⟨#[]⟩),1,16):=by kernel_rfl
theorem aiL(w:World)(v:Value)(e:TypeId):∀(j:Nat) (u:Value),[v][j]?=some u→(w.alloc (.cells #[v] e)).cell? ((⟨w.heap.size,0,none⟩:Addr).add j)=some u:=by
 intro j u hj
 match j,hj with
 |0,hj=>simp at hj;subst hj;simp[Addr.add]
theorem aiM(v:Value)(h:v.oneCell'=true):∀u∈[v],u.oneCell'=true:=by intro u hu;simp at hu;subst hu;exact h
theorem ai5{w:World}{base:Nat}{e:TypeId}{k:Nat}{v:Value}{n:Nat}{xs:List Value}(h:w.ownsRow base e k v n xs)(h1:∀u∈xs,u.oneCell'=true):afJ k w v n xs:=by
 refine⟨h.1,h1,?_⟩
 rcases Nat.eq_zero_or_pos n with h0|h0
 ·left
  refine⟨h0,?_⟩
  rcases h.2 with⟨e,_⟩|⟨g,cap,cur,e,_⟩
  ·exact .inl e
  ·exact .inr ⟨_,_,by rw[e,h0]⟩
 ·right
  obtain⟨g,cap,rfl,_,hlt⟩:=h.form h0
  refine⟨g,0,cap,rfl,hlt,h0,fun j hj=>?_⟩
  have:=h.cells (g:=g) rfl j xs[j] (List.getElem?_eq_getElem hj)
  rw[Nat.zero_add]
  have e:(⟨g,0,none⟩:Addr).add j=⟨g,j,none⟩:=by unfold Addr.add;split<;>simp_all
  rw[e]at this;exact this
theorem ahb{w:World}{base:Nat}{e:TypeId}{k:Nat}{v:Value}{n:Nat}{xs:List Value}(h:w.ownsRow base e k v n xs):ap0 v:=by
 rcases h.2 with⟨rfl,_⟩|⟨g,cap,cur,rfl,_,_,hc,_⟩
 ·exact Nat.le_refl _
 ·exact hc
theorem aeF{w:World}{base:Nat}{v:Value}{ls:List (List UInt8)}(h:w.ownsRow base 9 1 v ls.length (ls.map fun l=>.string (S l))):Ux w v ls:=
 ⟨ai5 h (by intro u hu;obtain⟨l,_,rfl⟩:=List.mem_map.1 hu;rfl),ahb h⟩
theorem ai6{w:World}{b:Nat}{e:TypeId}{k n:Nat}{v:Value}{x:List Value}(h:w.ownsRow b e k v n x){B:Nat}{cs:Array Value}{t:TypeId}{fr:Nat×Nat}(hB:w.heap[B]?=some (.cells cs t fr))(ht:e≠t):v.ownBlock=none∨v.ownBlock≠some B:=by
 rcases h.2 with⟨rfl,_⟩|⟨g1,c1,cur1,rfl,_,hg1,_⟩
 ·exact .inl rfl
 ·refine .inr fun e=>?_
  have:g1=B:=by simpa[Value.ownBlock]using e
  subst this
  have:=hg1.symm.trans hB
  simp at this
  exact ht this.2.1
theorem af2{w:World}{b:Nat}{e:TypeId}{k n:Nat}{v:Value}{x:List Value}(h:w.ownsRow b e k v n x){B:Nat}(hB:B<b):v.ownBlock=none∨v.ownBlock≠some B:=by
 cases hv:v.ownBlock with
 |none=>exact .inl rfl
 |some g=>
  have:=(h.lt g hv).1
  exact .inr fun e=>by injection e with e;omega
end Go.Proofs.YtmffejnigppbpaaGreatDoor

set_option maxHeartbeats 400000
set_option maxRecDepth 100000
namespace Go.Proofs.YtmffejnigppbpaaGreatDoor
open Go.RowKit
def ak0(a n:Int):Nat:=((a%18446744073709551616)%n).toNat
theorem amB(a:Int){n:Int}(h:1≤n):(ak0 a n:Int)<n:=by
 unfold ak0
 have h1:=Int.emod_nonneg (a%18446744073709551616) (show n≠0 by omega)
 have h2:=Int.emod_lt_of_pos (a%18446744073709551616) (show 0<n by omega)
 omega
theorem aqo(a n:Int)(w:World)(h1:1≤n)(h2:n≤4611686018427387904):adV 29 #[.int .i64 a,.int .i64 n] w (.int .i64 (ak0 a n)):=by
 go_enter Tryz.func29,Tryz.ntmps29
 go_wp2
 go_ret
 refine⟨adZ ?_,rfl⟩
 have hw:IntKind.u64.wrap a=a%18446744073709551616:=IntKind.wrap_u64 a
 have h0:0≤a%18446744073709551616:=Int.emod_nonneg _ (by omega)
 rw[hw,Int.tmod_eq_emod_of_nonneg h0]
 have h3:=Int.emod_nonneg (a%18446744073709551616) (show n≠0 by omega)
 have h4:=Int.emod_lt_of_pos (a%18446744073709551616) (show 0<n by omega)
 unfold ak0
 rw[IntWalk.wrap64_in _ ⟨by omega,by omega⟩]
 omega
end Go.Proofs.YtmffejnigppbpaaGreatDoor
