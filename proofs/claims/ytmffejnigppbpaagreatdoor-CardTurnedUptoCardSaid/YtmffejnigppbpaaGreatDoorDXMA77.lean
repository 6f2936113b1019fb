/-
  Texts merged into one: HasM, Code, Lists, TextStill, TextLists, WhenRight, Asw, Del.
-/
import Derived.Test.YtmffejnigppbpaaGreatDoorDXShelf
import Derived.Test.YtmffejnigppbpaaGreatDoorDXMA69
import Derived.Test.YtmffejnigppbpaaGreatDoorDXMUtf
import Derived.Test.YtmffejnigppbpaaGreatDoorDXParts
import Derived.Test.YtmffejnigppbpaaGreatDoorDXMA75
import Derived.Test.YtmffejnigppbpaaGreatDoorDXMA52
import Derived.Lib.AppendZerosOnto
import Derived.Lib.AppendZeros
import Derived.Laws.AppendOwnNone
import Derived.Test.YtmffejnigppbpaaGreatDoorDXMA64
import Derived.Test.YtmffejnigppbpaaGreatDoorDXMTell
import Derived.Deep.RegionHeld3
import Derived.Deep.DeepCutAuto
import Derived.Deep.CutBlock
import Derived.Test.YtmffejnigppbpaaGreatDoorDXMPieces
import Derived.RangeFuncBox
import Derived.Stop.Asserts
import Derived.Lib.BufferMore
import Derived.Test.YtmffejnigppbpaaGreatDoorDXMA65
import Derived.Lib.SliceRun
set_option linter.unusedVariables false
set_option linter.unusedSimpArgs false
namespace Go.Proofs.YtmffejnigppbpaaGreatDoor
open Go.RowKit
def aer(w:World):Prop:=∃m,w.cell? ⟨5,0,none⟩=some (.int .i64 m)
theorem aer.grow{w w':World}(h:aer w)(g:G w w'):aer w':=by
 obtain⟨m,h⟩:=h
 exact⟨m,by rw[g.cell (p:=⟨5,0,none⟩) (World.block_lt_of_cell? w _ h)];exact h⟩
theorem age(s sep:List UInt8)(w:World)(hm:aer w)(hs:s.length≤1000000):Um 109 #[.string (S s),.string (S sep)] w (.tuple #[.string (S (Lib.cut s sep).1),.string (S (Lib.cut s sep).2.1),.bool (Lib.cut s sep).2.2]):=by
 obtain⟨m,hm⟩:=hm
 refine(Tryz.strings_Cut (S s) (S sep) m w (by simp;omega) hm).mono ?_
 rintro e w' ⟨rfl,q,rfl⟩
 exact⟨rfl,(G.refl w).drewN q⟩
end Go.Proofs.YtmffejnigppbpaaGreatDoor

namespace Go.Proofs.YtmffejnigppbpaaGreatDoor
open Go.RowKit
theorem al2{b:UInt8}{t:List UInt8}(h:b.toNat<128):adw (b::t)=((b.toNat:Int),1):=by
 unfold adw
 simp[h,show ¬128≤b.toNat by omega]
theorem al3{b:UInt8}{t:List UInt8}(h:b.toNat<128):Ut (b::t)=1:=by
 unfold Ut;rw[al2 h];rfl
theorem auQ{b:UInt8}{t:List UInt8}(h:b.toNat<128):UL (b::t)=(UL t).map (·+1):=by
 have hs:Ut (b::t)=1:=al3 h
 rw[aeo (by rw[hs];decide),hs];rfl
theorem aiC{b:UInt8}{t:List UInt8}(h:b.toNat<128):UL (b::t)=none↔UL t=none:=by
 rw[auQ h];cases UL t<;>simp
theorem akl:∀(l:List UInt8),(∀b∈l,b.toNat<128)→UL l=none
 |[],_=>aea
 |b::t,h=>(aiC (h b List.mem_cons_self)).2 (akl t fun x hx=>h x (List.mem_cons_of_mem _ hx))
theorem ate{l:List UInt8}(h:Ut l≠0):Ut l=1∧(∃b t,l=b::t∧b.toNat<128)∨∀b∈l.take (Ut l),128≤b.toNat:=by
 cases l with
 |nil=>exact absurd rfl h
 |cons b t=>
  by_cases hb:b.toNat<128
  ·exact .inl ⟨al3 hb,b,t,rfl,hb⟩
  ·right
   rcases adU (b::t)with hn|⟨r,n,hn,hm,n1,n4,nl⟩
   ·exact absurd (by unfold Ut;rw[hn];rfl) h
   ·have hs:Ut (b::t)=n:=ael hn
    rw[hs]
    have hp:=afM hn n1
    rw[←hp]
    have hr:¬r<128:=by
     intro hr
     rw[amV hr]at hp
     have hl:=congrArg List.length hp
     simp at hl
     have hn1:n=1:=by simp at nl;omega
     subst hn1
     simp at hp
     have:=(akD hm).1
     have hbn:(acR r).toNat=r.toNat:=by unfold acR;simp;omega
     rw[hp]at hbn
     omega
    have hby:∀x:Int,128≤x→x<256→128≤(acR x).toNat:=by
     intro x h1 h2
     have:(acR x).toNat=x.toNat:=by unfold acR;simp;omega
     omega
    have hr2:=akD hm
    intro c hc
    by_cases h2:r<2048
    ·rw[amW hr h2]at hc
     simp only[List.mem_cons,List.not_mem_nil,or_false]at hc
     rcases hc with rfl|rfl<;>exact hby _ (by omega) (by omega)
    ·by_cases h3:r<65536
     ·rw[amX hr h2 h3]at hc
      simp only[List.mem_cons,List.not_mem_nil,or_false]at hc
      rcases hc with rfl|rfl|rfl<;>exact hby _ (by omega) (by omega)
     ·rw[amY hr h2 h3]at hc
      simp only[List.mem_cons,List.not_mem_nil,or_false]at hc
      rcases hc with rfl|rfl|rfl|rfl<;>exact hby _ (by omega) (by omega)
theorem auR{l:List UInt8}(h:Ut l≠0):UL (l.take (Ut l))=none:=by
 obtain⟨hn,hl⟩:(adw (l.take (Ut l))=adw l)∧(l.take (Ut l)).length=Ut l:=by
  have hl:(l.take (Ut l)).length=Ut l:=by have:=alG l;simp;omega
  refine⟨?_,hl⟩
  rcases adU l with h0|⟨r,n,hn,hm,n1,n4,nl⟩
  ·exact absurd (by unfold Ut;rw[h0];rfl) h
  ·have hs:Ut l=n:=ael hn
   rw[hs,←afM hn n1]
   have:=ajd hm ([]:List UInt8)
   rw[List.append_nil]at this
   rw[this,afM hn n1,hn]
   have:(l.take n).length=n:=by simp;omega
   rw[this]
 have hs:Ut (l.take (Ut l))=Ut l:=congrArg (fun p:Int×Int=>p.2.toNat) hn
 rw[aeo (by rw[hs];exact h),hs,List.drop_eq_nil_of_le (by omega),aea];rfl
def af7(lines:Bool)(c:UInt8):Bool:=decide ((32≤(c.toNat:Int)∨(c.toNat:Int)=9∨((c.toNat:Int)=10∧lines=true))∧(c.toNat:Int)≠127)
def Af(s:List UInt8)(lines:Bool):Bool:=s.all (af7 lines)&&(UL s).isNone
theorem al4{s:List UInt8}{lines:Bool}(h:s.all (af7 lines)=false):Af s lines=false:=by unfold Af;rw[h];rfl
theorem akm{s:List UInt8}{lines:Bool}{k:Nat}(h:UL s=some k):Af s lines=false:=by unfold Af;rw[h];simp
theorem akn{s:List UInt8}{lines:Bool}(h:s.all (af7 lines)=true)(hb:UL s=none):Af s lines=true:=by unfold Af;rw[h,hb];rfl
theorem adH{s:List UInt8}{lines:Bool}:Af s lines=true↔(∀c∈s,af7 lines c=true)∧UL s=none:=by
 unfold Af
 rw[Bool.and_eq_true,List.all_eq_true,Option.isNone_iff_eq_none]
theorem adp{a b:List UInt8}{l:Bool}(ha:Af a l=true)(hb:Af b l=true):Af (a++b) l=true:=by
 obtain⟨a1,a2⟩:=adH.1 ha
 obtain⟨b1,b2⟩:=adH.1 hb
 refine adH.2 ⟨fun c hc=>?_,ae1 a2 b2⟩
 rcases List.mem_append.1 hc with h|h
 ·exact a1 c h
 ·exact b1 c h
theorem aez{c:UInt8}{b:List UInt8}{l:Bool}(hc:c.toNat<128)(ht:af7 l c=true)(hb:Af b l=true):Af (c::b) l=true:=by
 obtain⟨b1,b2⟩:=adH.1 hb
 refine adH.2 ⟨fun x hx=>?_,(aiC hc).2 b2⟩
 rcases List.mem_cons.1 hx with rfl|h
 ·exact ht
 ·exact b1 x h
theorem ah6(l:Bool):Af [] l=true:=adH.2 ⟨fun c hc=>(by cases hc),aea⟩
theorem afD{s:List UInt8}{l:Bool}(h:∀c∈s,32≤c.toNat∧c.toNat≤126):Af s l=true:=by
 refine adH.2 ⟨fun c hc=>?_,akl s fun b hb=>by have:=h b hb;omega⟩
 have:=h c hc
 unfold af7
 rw[decide_eq_true_iff]
 omega
end Go.Proofs.YtmffejnigppbpaaGreatDoor

set_option maxHeartbeats 2000000
set_option maxRecDepth 100000
namespace Go.Proofs.YtmffejnigppbpaaGreatDoor
open Go.RowKit
theorem aqb{va vb:Value}{xs ys:List (List (List UInt8))}{w:World}(ha:Uw w va xs)(hb:Uw w vb ys)(lx:acY xs≤1000000)(ly:acY ys≤1000000) :
  Um 154 #[va,vb,.func (.func 104) #[] #[]] w (.bool (decide (xs=ys))):=by
 obtain⟨aa,ca,hva,_⟩:=ha.len
 obtain⟨ab,cb,hvb,_⟩:=hb.len
 have hlx:=ahG xs
 have hly:=ahG ys
 by_cases hn:xs.length=ys.length
 ·have HA:=hid ha
  have HB:=hid hb
  have HMX:Hid (∀l∈xs,adq l+1≤acY xs):=hid (fun l hl=>ahH hl)
  have HMY:Hid (∀l∈ys,adq l+1≤acY ys):=hid (fun l hl=>ahH hl)
  subst hva;subst hvb
  clear ha hb
  have hb1:((xs.length:Int) != (ys.length:Int))=false:=by rw[hn];simp
  have HN:=hid hn
  clear hn
  go_enter Tryz.func154,Tryz.ntmps154
  go_wp2_with fail
  go_loopw [17] (fun i wr=>∃k:Nat,k≤xs.length∧i=.int .i64 k∧G w wr∧∀j,j<k→xs[j]?=ys[j]?) (fun i _=>xs.length-(intOf i).toNat)
  case atStart=>exact⟨0,Nat.zero_le _,rfl,G.refl _,by omega⟩
  case round=>
   obtain⟨k,hk,rfl,g,hall⟩:=hrel
   have HG:=hid g
   have HALL:=hid hall
   clear g hall
   by_cases hlt:k<xs.length
   ·have hlt2:k<ys.length:=by rw[←HN.out];exact hlt
    obtain⟨b1,o1,c1,e1,_,hb1',hc1⟩:=HA.out.at_ (by rintro rfl;simp at hlt)
    obtain⟨b2,o2,c2,e2,_,hb2',hc2⟩:=HB.out.at_ (by rintro rfl;simp at hlt2)
    simp only[Value.slice.injEq,true_and]at e1 e2
    obtain⟨rfl,rfl⟩:=e1
    obtain⟨rfl,rfl⟩:=e2
    obtain⟨s1,d1,i1⟩:=hc1 k _ (List.getElem?_eq_getElem hlt)
    obtain⟨s2,d2,i2⟩:=hc2 k _ (List.getElem?_eq_getElem hlt2)
    obtain⟨x,hx⟩:∃x,xs[k]=x:=⟨_,rfl⟩
    obtain⟨y,hy⟩:∃y,ys[k]=y:=⟨_,rfl⟩
    have sx:=HMX.out _ (List.getElem_mem hlt)
    have sy:=HMY.out _ (List.getElem_mem hlt2)
    rw[hx]at i1 sx
    rw[hy]at i2 sy
    have lx1:=ahF x
    have ly1:=ahF y
    have I1:=hid (i1.grow HG.out)
    have I2:=hid (i2.grow HG.out)
    rw[←HG.out.cell (p:=⟨b1,o1+k,none⟩) hb1']at d1
    rw[←HG.out.cell (p:=⟨b2,o2+k,none⟩) hb2']at d2
    have HX:=hid hx
    have HY:=hid hy
    clear hx hy i1 i2 hc1 hc2
    go_wp2_with fail
    refine(al9 I1.out I2.out (by omega) (by omega)).use ?_
    intro w1 g1
    by_cases hxy:x=y
    ·rw[decide_eq_true hxy]
     go_wp2_with fail
     go_roundw
     case rel=>
      refine⟨k+1,by omega,by go_num,HG.out.trans g1,fun j hj=>?_⟩
      rcases Nat.lt_or_ge j k with h|h
      ·exact HALL.out j h
      ·obtain rfl:j=k:=by omega
       rw[List.getElem?_eq_getElem hlt,List.getElem?_eq_getElem hlt2,HX.out,HY.out,hxy]
     case measure=>simp[intOf];omega
    ·have HR:Hid (decide (xs=ys)=false):=hid (decide_eq_false (by
      intro e
      apply hxy
      rw[←HX.out,←HY.out]
      simp only[e]))
     rw[decide_eq_false hxy]
     go_wp2_with fail
     go_ret
     exact⟨zF HR.out.symm,HG.out.trans g1⟩
   ·have HR:Hid (decide (xs=ys)=true):=hid (decide_eq_true (by
     apply List.ext_getElem?
     intro j
     rcases Nat.lt_or_ge j k with h|h
     ·exact HALL.out j h
     ·rw[List.getElem?_eq_none (by omega),List.getElem?_eq_none (by have:=HN.out;omega)]))
    go_wp2_with fail
    go_ret
    exact⟨zF HR.out.symm,HG.out⟩
 ·subst hva;subst hvb
  clear ha hb
  have hb1:((xs.length:Int) != (ys.length:Int))=true:=by simp;omega
  have HR:Hid (decide (xs=ys)=false):=hid (decide_eq_false (fun e=>hn (by rw[e])))
  clear hn
  go_enter Tryz.func154,Tryz.ntmps154
  go_wp2_with fail
  go_ret
  exact⟨zF HR.out.symm,G.refl _⟩
theorem anl{va vb:Value}{xs ys:List (List (List UInt8))}{w:World}(ha:Uw w va xs)(hb:Uw w vb ys)(lx:acY xs≤1000000)(ly:acY ys≤1000000):Um 105 #[va,vb] w (.bool (decide (xs=ys))):=by
 have HA:=hid ha
 have HB:=hid hb
 obtain⟨aa,ca,hva,_⟩:=ha.len
 obtain⟨ab,cb,hvb,_⟩:=hb.len
 subst hva;subst hvb
 clear ha hb
 go_enter Tryz.func105,Tryz.ntmps105
 go_wp2_with fail
 refine(aqb HA.out HB.out lx ly).use ?_
 intro w1 g1
 go_wp2_with fail
 go_ret
 exact⟨rfl,g1⟩
end Go.Proofs.YtmffejnigppbpaaGreatDoor

namespace Go.Proofs.YtmffejnigppbpaaGreatDoor
open Go.RowKit
theorem avK:∀(cs:List UInt8) (ts:List (List UInt8)) (cur:List (List UInt8)),cur≠[]→UD cur cs ts≠[]∧∀l∈UD cur cs ts,l≠[]:=by
 intro cs
 induction cs with
 |nil=>intro ts cur h;cases ts<;>simp[UD,h]
 |cons c cs ih=>
  intro ts cur h
  cases ts with
  |nil=>simp[UD,h]
  |cons t ts=>
   rw[afX]
   split
   ·refine⟨by simp,fun l hl=>?_⟩
    rcases List.mem_cons.1 hl with rfl|hl
    ·exact h
    ·exact(ih ts [t] (by simp)).2 l hl
   ·exact ih ts (cur++[t]) (by simp)
theorem an7{ls:List (List (List UInt8))}{v:Value}{w:World}(h:avM ls v w)(h1:ls≠[])(h2:∀l∈ls,l≠[]):v=.tuple #[.string (S (aeY ls)),.nilIface]:=by
 rcases h with⟨h,_⟩|⟨_,_,h⟩|⟨k,e,h,_⟩
 ·exact absurd h h1
 ·exact h
 ·exact absurd rfl (h2 _ (List.mem_of_getElem? h))
end Go.Proofs.YtmffejnigppbpaaGreatDoor

namespace Go.Proofs.YtmffejnigppbpaaGreatDoor
open Go.RowKit
theorem Ux.one{w:World}{v:Value}{ls:List (List UInt8)}(h:Ux w v ls):v.oneCell'=true:=by
 obtain⟨a,c,rfl,_⟩:=h.len;rfl
theorem aoY(a b:List (List UInt8))(ha:a≠[])(hb:b≠[]):acT (a++b)=acT a++44::acT b:=by
 cases a with
 |nil=>exact absurd rfl ha
 |cons x xs=>
  cases b with
  |nil=>exact absurd rfl hb
  |cons y ys=>
   rw[List.cons_append,agk,agk,agk,ahk,ahk,ahk]
   simp[Lib.joinTail]
end Go.Proofs.YtmffejnigppbpaaGreatDoor

set_option maxHeartbeats 4000000
set_option maxRecDepth 100000
namespace Go.Proofs.YtmffejnigppbpaaGreatDoor
open Go.RowKit
theorem adg{W w1:World}(hb:G W w1):(∀b o,b<W.heap.size→w1.cell? ⟨b,o,none⟩=W.cell? ⟨b,o,none⟩):=
 fun b o h=>hb.cell (p:=⟨b,o,none⟩) h
theorem akc(s sub:List UInt8)(w:World)(hm:aer w)(hs:s.length≤1000000):adV 196 #[.string (S s),.string (S sub)] w (.bool (Lib.contains s sub)):=by
 obtain⟨m,hm⟩:=hm
 refine(Tryz.strings_Contains (S s) (S sub) m w (by simp;omega) hm).mono ?_
 rintro e w' ⟨rfl,rfl⟩
 exact⟨rfl,rfl⟩
theorem afc(w:World)(o:Obj)(cs:Array Value)(t:TypeId)(i:Nat):((w.alloc o).alloc (.cells cs t)).drew.cell? ⟨w.heap.size+1,i,none⟩=cs[i]?:=by
 simp
def ahn:List UInt8:=[32,45,45,45,32,57,45,45,32,57,57,45,32,57,57,57,32,45,57,45,32,45,57,57,32,45,45,57,32]
def apf:List UInt8:=[32,57,57,57,32,45,57,57,32,45,45,57,32]
def apg:List UInt8:=[32,57,45,45,32,57,57,45,32,57,57,57,32]
def afz(D T:List UInt8):List UInt8:=if D≠[45,45,45]∧T≠[45,45,45] then apf else ahn
def afA(D T:List UInt8):List UInt8:=if D≠[45,45,45]∧T≠[45,45,45] then apg else ahn
def St.bad(t:St):Bool:=
 let D:=uX t.y t.m t.d;let T:=uX t.h t.n t.s
 (decide (D=[45,45,45])&&decide (T=[45,45,45])) || !(Lib.contains (afz D T) (32::(D++[32]))) || !(Lib.contains (afA D T) (32::(T++[32])))||(t.zd&&decide (t.h = -1))||(!t.zd && !decide (t.zn=0))
def St.most(t:St):Int:=if t.m = -1 then 31 else ahY t.y t.m
def St.fits(t:St):Bool:=wth t.y 0 9999&&wth t.m 1 12&&wth t.d 1 t.most&&wth t.h 0 23&&wth t.n 0 59&&wth t.s 0 59&&adF t.zn
def St.right(t:St):Int:=if t.bad then 3 else if t.fits then 0 else 2
theorem aiR(t:St)(w:World)(hm:aer w)(hy0 : -9223372036854775808≤t.y)(hy1:t.y≤9223372036854775807):Um 163 #[.agg #[.int .i64 t.y,.int .i64 t.m,.int .i64 t.d,.int .i64 t.h,.int .i64 t.n,.int .i64 t.s,.bool t.zd,.int .i64 t.zn]] w (apj t.right):=by
 obtain⟨y,m,d,h,n,s,zd,zn⟩:=t
 have HM:=hid hm
 simp only at hy0 hy1
 clear hm
 obtain⟨w1,hw1⟩:∃w1,w.alloc (.cells #[.int .i64 y,.int .i64 m,.int .i64 d,.int .i64 h,.int .i64 n,.int .i64 s,.bool zd,.int .i64 zn] 34)=w1:=⟨_,rfl⟩
 obtain⟨B,hB⟩:∃B,w.heap.size=B:=⟨_,rfl⟩
 have f0:w1.cell? ⟨B,0,none⟩=some (.int .i64 y):=by rw[←hw1,←hB,World.cell?_alloc_new];rfl
 have f1:w1.cell? ⟨B,1,none⟩=some (.int .i64 m):=by rw[←hw1,←hB,World.cell?_alloc_new];rfl
 have f2:w1.cell? ⟨B,2,none⟩=some (.int .i64 d):=by rw[←hw1,←hB,World.cell?_alloc_new];rfl
 have f3:w1.cell? ⟨B,3,none⟩=some (.int .i64 h):=by rw[←hw1,←hB,World.cell?_alloc_new];rfl
 have f4:w1.cell? ⟨B,4,none⟩=some (.int .i64 n):=by rw[←hw1,←hB,World.cell?_alloc_new];rfl
 have f5:w1.cell? ⟨B,5,none⟩=some (.int .i64 s):=by rw[←hw1,←hB,World.cell?_alloc_new];rfl
 have f6:w1.cell? ⟨B,6,none⟩=some (.bool zd):=by rw[←hw1,←hB,World.cell?_alloc_new];rfl
 have f7:w1.cell? ⟨B,7,none⟩=some (.int .i64 zn):=by rw[←hw1,←hB,World.cell?_alloc_new];rfl
 have hBlt:B<w1.heap.size:=by rw[←hw1,←hB];simp
 have G1:Hid (G w w1):=hid (by rw[←hw1];exact(G.refl w).alloc _)
 go_enter Tryz.func163,Tryz.ntmps163
 go_upto_region 1 with fail
 clear hw1 hB
 go_cut [3,4] (fun a b wx=>a=.string (S (uX y m d))∧b=.string (S (uX h n s))∧G w1 wx)
 case first=>
  go_region_held3 (fun w'=>w'.cell? ⟨B,0,none⟩=some (.int .i64 y)∧w'.cell? ⟨B,1,none⟩=some (.int .i64 m)∧w'.cell? ⟨B,2,none⟩=some (.int .i64 d)∧w'.cell? ⟨B,3,none⟩=some (.int .i64 h)∧w'.cell? ⟨B,4,none⟩=some (.int .i64 n)∧w'.cell? ⟨B,5,none⟩=some (.int .i64 s)) (go_keep)
   (first
    |(go_at_call 195;refine(akb y m d _ _ ?_ ?_ ?_ ?_).mono ?_;(· (first|(simp[*];done)|(rw[hc _ _ (by first|omega|(simp;done)|(simp;omega))];simp[*,afc];done)));(· (first|(simp[*];done)|(rw[hc _ _ (by first|omega|(simp;done)|(simp;omega))];simp[*,afc];done)));(· (first|(simp[*];done)|(rw[hc _ _ (by first|omega|(simp;done)|(simp;omega))];simp[*,afc];done)));(· (first|omega|(simp;done)|(simp;omega)));rintro e w' ⟨rfl,hg⟩;have s0:=hg.cell (p:=⟨B,0,none⟩) (by first|omega|(simp;done)|(simp;omega));have s1:=hg.cell (p:=⟨B,1,none⟩) (by first|omega|(simp;done)|(simp;omega));have s2:=hg.cell (p:=⟨B,2,none⟩) (by first|omega|(simp;done)|(simp;omega));have s3:=hg.cell (p:=⟨B,3,none⟩) (by first|omega|(simp;done)|(simp;omega));have s4:=hg.cell (p:=⟨B,4,none⟩) (by first|omega|(simp;done)|(simp;omega));have s5:=hg.cell (p:=⟨B,5,none⟩) (by first|omega|(simp;done)|(simp;omega));have hc:=adg hg;have hz:=hg.size;(try simp at hz);have hgx:=hid hg;clear hg)
    |(go_at_call 195;refine(akb h n s _ _ ?_ ?_ ?_ ?_).mono ?_;(· (first|(simp[*];done)|(rw[hc _ _ (by first|omega|(simp;done)|(simp;omega))];simp[*,afc];done)));(· (first|(simp[*];done)|(rw[hc _ _ (by first|omega|(simp;done)|(simp;omega))];simp[*,afc];done)));(· (first|(simp[*];done)|(rw[hc _ _ (by first|omega|(simp;done)|(simp;omega))];simp[*,afc];done)));(· (first|omega|(simp;done)|(simp;omega)));rintro e w' ⟨rfl,hg⟩;have s0:=hg.cell (p:=⟨B,0,none⟩) (by first|omega|(simp;done)|(simp;omega));have s1:=hg.cell (p:=⟨B,1,none⟩) (by first|omega|(simp;done)|(simp;omega));have s2:=hg.cell (p:=⟨B,2,none⟩) (by first|omega|(simp;done)|(simp;omega));have s3:=hg.cell (p:=⟨B,3,none⟩) (by first|omega|(simp;done)|(simp;omega));have s4:=hg.cell (p:=⟨B,4,none⟩) (by first|omega|(simp;done)|(simp;omega));have s5:=hg.cell (p:=⟨B,5,none⟩) (by first|omega|(simp;done)|(simp;omega));have hc:=adg hg;have hz:=hg.size;(try simp at hz);have hgx:=hid hg;clear hg))
  all_goals (go_wp2_with fail;go_meet;refine⟨rfl,rfl,?_⟩;exact by repeat (first|exact G.refl _|apply G.drew|apply G.alloc|refine G.trans ?_ (Hid.out ‹Hid (G _ _)›)))
 case rest=>
  obtain⟨rfl,rfl,gx⟩:=hcut
  obtain⟨D,hD⟩:∃D,uX y m d=D:=⟨_,rfl⟩
  obtain⟨T,hT⟩:∃T,uX h n s=T:=⟨_,rfl⟩
  rw[hD,hT]
  have HD:=hid hD
  have HT:=hid hT
  have hDl:D.length=3:=by rw[←hD];rfl
  have hTl:T.length=3:=by rw[←hT];rfl
  have GX:=hid gx
  have HMX:=hid (HM.out.grow (G1.out.trans gx))
  have k3:=(adg gx B 3 hBlt).trans f3
  clear hD hT gx
  by_cases hA:D=[45,45,45]∧T=[45,45,45]
  ·obtain⟨rfl,rfl⟩:=hA
   have HR:Hid ((⟨y,m,d,h,n,s,zd,zn⟩:St).right=3):=hid (by unfold St.right St.bad;simp only[HD.out,HT.out];rfl)
   go_wp2_with fail
   go_ret
   exact⟨by rw[HR.out];rfl,G1.out.trans GX.out⟩
  ·obtain⟨X,hX⟩:∃X,X=afz D T:=⟨_,rfl⟩
   obtain⟨Y,hY⟩:∃Y,Y=afA D T:=⟨_,rfl⟩
   have hA2:D=[45,45,45]∧(D==[45,45,45])=true∧T≠[45,45,45]∧(T==[45,45,45])=false∧(D==T)=false∧X=ahn∧Y=ahn∨D≠[45,45,45]∧(D==[45,45,45])=false∧T=[45,45,45]∧(T==[45,45,45])=true∧(D==T)=false∧X=ahn∧Y=ahn∨(D==[45,45,45])=false∧(T==[45,45,45])=false∧X=apf∧Y=apg:=by
    by_cases hd:D=[45,45,45]
    ·have ht:T≠[45,45,45]:=fun e=>hA ⟨hd,e⟩
     refine .inl ⟨hd,beq_iff_eq.2 hd,ht,beq_eq_false_iff_ne.2 ht,beq_eq_false_iff_ne.2 (fun e=>ht (e▸hd)),?_,?_⟩
     ·rw[hX];unfold afz;rw[if_neg (fun h=>h.1 hd)]
     ·rw[hY];unfold afA;rw[if_neg (fun h=>h.1 hd)]
    ·by_cases ht:T=[45,45,45]
     ·refine .inr (.inl ⟨hd,beq_eq_false_iff_ne.2 hd,ht,beq_iff_eq.2 ht,beq_eq_false_iff_ne.2 (fun e=>hd (e.trans ht)),?_,?_⟩)
      ·rw[hX];unfold afz;rw[if_neg (fun h=>h.2 ht)]
      ·rw[hY];unfold afA;rw[if_neg (fun h=>h.2 ht)]
     ·refine .inr (.inr ⟨beq_eq_false_iff_ne.2 hd,beq_eq_false_iff_ne.2 ht,?_,?_⟩)
      ·rw[hX];unfold afz;rw[if_pos ⟨hd,ht⟩]
      ·rw[hY];unfold afA;rw[if_pos ⟨hd,ht⟩]
   have HXY:=hid hA2
   have HX:=hid hX
   have HY:=hid hY
   have HA:=hid hA
   clear hA2 hX hY hA
   go_upto_block 0 with fail
   go_cut [5,6] (fun a b wz=>a=.string (S X)∧b=.string (S Y)∧wz=wc)
   case first=>
    rcases HXY.out with⟨q1,b1,q2,b2,b3,q3,q4⟩|⟨q1,b1,q2,b2,b3,q3,q4⟩|⟨b1,b2,q3,q4⟩
    all_goals
     have Q3:=hid q3
     have Q4:=hid q4
     clear q3 q4
     try clear q1
     try clear q2
     go_wp2_with fail
     go_meet
     exact⟨by rw[Q3.out];rfl,by rw[Q4.out];rfl,rfl⟩
   case rest=>
    obtain⟨rfl,rfl,rfl⟩:=hcut
    have hXl:X.length≤1000:=by rw[HX.out];unfold afz;split<;>decide
    have hYl:Y.length≤1000:=by rw[HY.out];unfold afA;split<;>decide
    have g6:=(adg GX.out B 6 hBlt).trans f6
    have g7:=(adg GX.out B 7 hBlt).trans f7
    obtain⟨c1,hc1⟩:∃c,Lib.contains X (32::(D++[32]))=c:=⟨_,rfl⟩
    obtain⟨c2,hc2⟩:∃c,Lib.contains Y (32::(T++[32]))=c:=⟨_,rfl⟩
    have HC1:=hid hc1
    have HC2:=hid hc2
    have HBAD:Hid ((⟨y,m,d,h,n,s,zd,zn⟩:St).bad=(!c1 || !c2||(zd&&decide (h = -1))||(!zd && !decide (zn=0)))):=hid (by
     unfold St.bad
     simp only[HD.out,HT.out]
     rw[←HX.out,←HY.out,hc1,hc2]
     have:(decide (D=[45,45,45])&&decide (T=[45,45,45]))=false:=by
      cases e:(decide (D=[45,45,45])&&decide (T=[45,45,45]))with
      |false=>rfl
      |true=>simp only[Bool.and_eq_true,decide_eq_true_eq]at e;exact absurd e HA.out
     rw[this,Bool.false_or])
    clear hc1 hc2
    go_upto_region 7 with fail
    go_cut [68] (fun a wz=>a=.bool (!c1 || !c2||(zd&&decide (h = -1))||(!zd && !decide (zn=0)))∧wz=wc)
    case first=>
     go_wp2_with fail
     refine(akc X (32::(D++[32])) _ HMX.out (by omega)).use ?_
     rw[HC1.out]
     cases c1 with
     |false=>go_wp2_with fail;go_meet;exact⟨by simp,rfl⟩
     |true=>
      go_wp2_with fail
      refine(akc Y (32::(T++[32])) _ HMX.out (by omega)).use ?_
      rw[HC2.out]
      cases c2 with
      |false=>go_wp2_with fail;go_meet;exact⟨by simp,rfl⟩
      |true=>
       cases zd with
       |true=>
        by_cases hh:h = -1
        ·subst hh
         go_wp2_with fail;go_meet;exact⟨by simp,rfl⟩
        ·have bh:(h == -1)=false:=by simpa using hh
         have HH:=hid hh
         clear hh
         go_wp2_with fail;go_meet;exact⟨by simp[HH.out],rfl⟩
       |false=>
        by_cases hz:zn=0
        ·subst hz
         go_wp2_with fail;go_meet;exact⟨by simp,rfl⟩
        ·have bz:(zn != 0)=true:=by simpa[bne_iff_ne]using hz
         have HZ:=hid hz
         clear hz
         go_wp2_with fail;go_meet;exact⟨by simp[HZ.out],rfl⟩
    case rest=>
     obtain⟨rfl,rfl⟩:=hcut
     cases hb:(!c1 || !c2||(zd&&decide (h = -1))||(!zd && !decide (zn=0)))with
     |true=>
      have HR:Hid ((⟨y,m,d,h,n,s,zd,zn⟩:St).right=3):=hid (by unfold St.right;rw[HBAD.out,hb];rfl)
      clear hb
      go_wp2_with fail
      go_ret
      exact⟨by rw[HR.out];rfl,G1.out.trans GX.out⟩
     |false=>
      have HR:Hid ((⟨y,m,d,h,n,s,zd,zn⟩:St).right=if (⟨y,m,d,h,n,s,zd,zn⟩:St).fits then 0 else 2):=hid (by unfold St.right;rw[HBAD.out,hb];rfl)
      clear hb
      have g0:=(adg GX.out B 0 hBlt).trans f0
      have g1:=(adg GX.out B 1 hBlt).trans f1
      have g2:=(adg GX.out B 2 hBlt).trans f2
      have g4:=(adg GX.out B 4 hBlt).trans f4
      have g5:=(adg GX.out B 5 hBlt).trans f5
      obtain⟨M,hM⟩:∃M,(⟨y,m,d,h,n,s,zd,zn⟩:St).most=M:=⟨_,rfl⟩
      obtain⟨b1,hb1⟩:∃b,wth y 0 9999=b:=⟨_,rfl⟩
      obtain⟨b2,hb2⟩:∃b,wth m 1 12=b:=⟨_,rfl⟩
      obtain⟨b3,hb3⟩:∃b,wth d 1 M=b:=⟨_,rfl⟩
      obtain⟨b4,hb4⟩:∃b,wth h 0 23=b:=⟨_,rfl⟩
      obtain⟨b5,hb5⟩:∃b,wth n 0 59=b:=⟨_,rfl⟩
      obtain⟨b6,hb6⟩:∃b,wth s 0 59=b:=⟨_,rfl⟩
      obtain⟨b7,hb7⟩:∃b,adF zn=b:=⟨_,rfl⟩
      have HFITS:Hid ((⟨y,m,d,h,n,s,zd,zn⟩:St).fits=(b1&&b2&&b3&&b4&&b5&&b6&&b7)):=hid (by unfold St.fits;rw[hM];simp only[hb1,hb2,hb3,hb4,hb5,hb6,hb7])
      have HMM:=hid hM
      have HB1:=hid hb1
      have HB2:=hid hb2
      have HB3:=hid hb3
      have HB4:=hid hb4
      have HB5:=hid hb5
      have HB6:=hid hb6
      have HB7:=hid hb7
      clear hb1 hb2 hb3 hb4 hb5 hb6 hb7 hM
      have hmm:m = -1∧(m != -1)=false∧M=31∨(m != -1)=true∧M=ahY y m:=by
       by_cases e:m = -1
       ·exact .inl ⟨e,by simp[e],by rw[←HMM.out];unfold St.most;rw[if_pos e]⟩
       ·exact .inr ⟨by simpa[bne_iff_ne]using e,by rw[←HMM.out];unfold St.most;rw[if_neg e]⟩
      rcases hmm with⟨e1,bm,e3⟩|⟨bm,e3⟩
      ·have E1:=hid e1
       clear e1
       subst e3
       go_upto_region 12 with fail
       go_cut [118] (fun a wz=>a=.bool (!(b1&&b2&&b3&&b4&&b5&&b6&&b7))∧wz=wc)
       case first=>
        go_wp2_with fail
        refine(adD y 0 9999 _).use ?_
        rw[HB1.out]
        cases b1 with
        |false=>go_wp2_with fail;go_meet;exact⟨by simp,rfl⟩
        |true=>
         go_wp2_with fail
         refine(adD m 1 12 _).use ?_
         rw[HB2.out]
         cases b2 with
         |false=>go_wp2_with fail;go_meet;exact⟨by simp,rfl⟩
         |true=>
          go_wp2_with fail
          refine(adD d 1 31 _).use ?_
          rw[HB3.out]
          cases b3 with
          |false=>go_wp2_with fail;go_meet;exact⟨by simp,rfl⟩
          |true=>
           go_wp2_with fail
           refine(adD h 0 23 _).use ?_
           rw[HB4.out]
           cases b4 with
           |false=>go_wp2_with fail;go_meet;exact⟨by simp,rfl⟩
           |true=>
            go_wp2_with fail
            refine(adD n 0 59 _).use ?_
            rw[HB5.out]
            cases b5 with
            |false=>go_wp2_with fail;go_meet;exact⟨by simp,rfl⟩
            |true=>
             go_wp2_with fail
             refine(adD s 0 59 _).use ?_
             rw[HB6.out]
             cases b6 with
             |false=>go_wp2_with fail;go_meet;exact⟨by simp,rfl⟩
             |true=>
              go_wp2_with fail
              refine(aeq zn _).use ?_
              rw[HB7.out]
              cases b7 with
              |false=>go_wp2_with fail;go_meet;exact⟨by simp,rfl⟩
              |true=>
               go_wp2_with fail;go_meet;exact⟨by simp,rfl⟩
       case rest=>
        obtain⟨rfl,rfl⟩:=hcut
        cases hb:(b1&&b2&&b3&&b4&&b5&&b6&&b7)with
        |true=>
         have HR2:Hid (apj (⟨y,m,d,h,n,s,zd,zn⟩:St).right=.nilIface):=hid (by rw[HR.out,HFITS.out,hb];rfl)
         clear hb
         go_wp2_with fail
         go_ret
         exact⟨by rw[HR2.out];rfl,G1.out.trans GX.out⟩
        |false=>
         have HR2:Hid (apj (⟨y,m,d,h,n,s,zd,zn⟩:St).right=eno 2):=hid (by rw[HR.out,HFITS.out,hb];rfl)
         clear hb
         go_wp2_with fail
         go_ret
         exact⟨by rw[HR2.out];rfl,G1.out.trans GX.out⟩
      ·subst e3
       go_upto_region 12 with(go_at_call 197;refine(av6 y m _ ⟨hy0,hy1⟩).use ?_)
       go_cut [118] (fun a wz=>a=.bool (!(b1&&b2&&b3&&b4&&b5&&b6&&b7))∧wz=wc)
       case first=>
        go_wp2_with fail
        refine(adD y 0 9999 _).use ?_
        rw[HB1.out]
        cases b1 with
        |false=>go_wp2_with fail;go_meet;exact⟨by simp,rfl⟩
        |true=>
         go_wp2_with fail
         refine(adD m 1 12 _).use ?_
         rw[HB2.out]
         cases b2 with
         |false=>go_wp2_with fail;go_meet;exact⟨by simp,rfl⟩
         |true=>
          go_wp2_with fail
          refine(adD d 1 (ahY y m) _).use ?_
          rw[HB3.out]
          cases b3 with
          |false=>go_wp2_with fail;go_meet;exact⟨by simp,rfl⟩
          |true=>
           go_wp2_with fail
           refine(adD h 0 23 _).use ?_
           rw[HB4.out]
           cases b4 with
           |false=>go_wp2_with fail;go_meet;exact⟨by simp,rfl⟩
           |true=>
            go_wp2_with fail
            refine(adD n 0 59 _).use ?_
            rw[HB5.out]
            cases b5 with
            |false=>go_wp2_with fail;go_meet;exact⟨by simp,rfl⟩
            |true=>
             go_wp2_with fail
             refine(adD s 0 59 _).use ?_
             rw[HB6.out]
             cases b6 with
             |false=>go_wp2_with fail;go_meet;exact⟨by simp,rfl⟩
             |true=>
              go_wp2_with fail
              refine(aeq zn _).use ?_
              rw[HB7.out]
              cases b7 with
              |false=>go_wp2_with fail;go_meet;exact⟨by simp,rfl⟩
              |true=>
               go_wp2_with fail;go_meet;exact⟨by simp,rfl⟩
       case rest=>
        obtain⟨rfl,rfl⟩:=hcut
        cases hb:(b1&&b2&&b3&&b4&&b5&&b6&&b7)with
        |true=>
         have HR2:Hid (apj (⟨y,m,d,h,n,s,zd,zn⟩:St).right=.nilIface):=hid (by rw[HR.out,HFITS.out,hb];rfl)
         clear hb
         go_wp2_with fail
         go_ret
         exact⟨by rw[HR2.out];rfl,G1.out.trans GX.out⟩
        |false=>
         have HR2:Hid (apj (⟨y,m,d,h,n,s,zd,zn⟩:St).right=eno 2):=hid (by rw[HR.out,HFITS.out,hb];rfl)
         clear hb
         go_wp2_with fail
         go_ret
         exact⟨by rw[HR2.out];rfl,G1.out.trans GX.out⟩
end Go.Proofs.YtmffejnigppbpaaGreatDoor

namespace Go.Proofs.YtmffejnigppbpaaGreatDoor
open Go.RowKit
structure Buf(w0 w:World)(Bx:Nat)(bs:List UInt8):Prop where
 bl:w0.heap.size≤Bx
 g:G w0 w
 row:∃v,v≠.slice none 0 0∧Boxed w Bx 391 v∧w.ownsRow w0.heap.size 5 1 v bs.length (Lib.byteCells bs)
theorem Buf.grow{w0 w w':World}{Bx:Nat}{bs:List UInt8}(h:Buf w0 w Bx bs)(g:G w w'):Buf w0 w' Bx bs:=by
 obtain⟨v,hv0,hv,hr⟩:=h.row
 refine⟨h.bl,h.g.trans g,v,hv0,(g.below.block Bx hv.lt).trans hv,hr.1,hr.2.imp id ?_⟩
 rintro⟨b,cap,cur,e1,e2,e3,r⟩
 exact⟨b,cap,cur,e1,e2,(g.below.block b (Array.getElem?_eq_some_iff.1 e3).1).trans e3,r⟩
end Go.Proofs.YtmffejnigppbpaaGreatDoor

namespace Go.Proofs.YtmffejnigppbpaaGreatDoor
open Go.RowKit
structure BR(w0:World)(B:Nat)(T:TypeId)(cur:List Value)(W:World):Prop where
 mv:w0.grownBy W (some B)
 b:W.heap[B]?=some (.cells cur.toArray T (0,0))
section
variable {w0 W W':World} {B:Nat} {T:TypeId} {cur:List Value}
theorem BR.lt(h:BR w0 B T cur W):B<W.heap.size:=(Array.getElem?_eq_some_iff.1 h.b).1
theorem BR.cell(h:BR w0 B T cur W){i:Nat}{v:Value}(hv:cur[i]?=some v):W.cell? ⟨B,i,none⟩=some v:=by rw[cell_of_row W B i _ _ _ h.b];simpa using hv
theorem BR.fz(h:BR w0 B T cur W)(i:Nat):W.frozen? ⟨B,i,none⟩=false:=frozen_of_row W B i _ _ h.b
theorem BR.grow(h:BR w0 B T cur W)(g:G W W'):BR w0 B T cur W':=⟨axi h.mv g,(g.below.block _ h.lt).trans h.b⟩
theorem BR.set(h:BR w0 B T cur W)(i:Nat)(v:Value):BR w0 B T (cur.set i v) (W.setCell ⟨B,i,none⟩ v):=by
 refine⟨ad9 h.mv,?_⟩
 have:=h.b
 rw[World.setCell]
 simp[Array.getElem?_modify,this]
end
structure awD{α:Type}(p:α→Bool)(cells:α→List Value)(k:Nat)(xs:List α)(cur0 cur:List Value)(i j:Nat):Prop where
 len:cur.length=cur0.length
 low:cur.take (i*k)=((xs.take j).filter fun x=>!p x).flatMap cells
 cnt:((xs.take j).filter fun x=>!p x).length=i
 high:cur.drop (j*k)=cur0.drop (j*k)
 lt:i<j
section
variable {α:Type} {p:α→Bool} {cells:α→List Value} {k:Nat} {xs:List α} {cur0 cur:List Value} {i j:Nat}
theorem al6(hk:∀x,(cells x).length=k):∀(xs:List α) (i:Nat),(xs.flatMap cells).take (i*k)=(xs.take i).flatMap cells
 |[],i=>by simp
 |x::xs,0=>by simp
 |x::xs,i+1=>by
  rw[List.flatMap_cons,List.take_append,hk,Nat.succ_mul,Nat.add_sub_cancel,al6 hk xs i,List.take_of_length_le (by rw[hk];omega),List.take_succ_cons,List.flatMap_cons]
theorem auU(hk:∀x,(cells x).length=k){xs:List α}{j:Nat}{x:α}(h:xs[j]?=some x)(t:Nat)(ht:t<k):(xs.flatMap cells)[j*k+t]?=(cells x)[t]?:=by
 induction xs generalizing j with
 |nil=>simp at h
 |cons y ys ih=>
  rw[List.flatMap_cons]
  cases j with
  |zero=>
   simp at h
   subst h
   rw[Nat.zero_mul,Nat.zero_add,List.getElem?_append_left (by rw[hk];exact ht)]
  |succ j=>
   rw[List.getElem?_append_right (by rw[hk,Nat.succ_mul];omega),hk,show(j+1)*k+t-k=j*k+t by rw[Nat.succ_mul];omega]
   exact ih (by simpa using h)
theorem awD.start(hk:∀x,(cells x).length=k)(h0:cur0.take (xs.length*k)=xs.flatMap cells)(hi:xs.findIdx? p=some i):awD p cells k xs cur0 cur0 i (i+1):=by
 rw[List.findIdx?_eq_some_iff_getElem]at hi
 obtain⟨hl,h1,h2⟩:=hi
 have e:(xs.take (i+1)).filter (fun x=>!p x)=xs.take i:=by
  rw[List.take_add_one,List.getElem?_eq_getElem hl,List.filter_append]
  simp only[Option.toList_some,List.filter_cons,h1,List.filter_nil]
  simp only[Bool.not_true,Bool.false_eq_true,if_false,List.append_nil]
  refine List.filter_eq_self.2 fun x hx=>?_
  obtain⟨j,hj,rfl⟩:=List.mem_iff_getElem.1 hx
  have:=h2 j (by simp at hj;omega)
  simpa using this
 refine⟨rfl,?_,by rw[e];simp;omega,rfl,Nat.lt_succ_self _⟩
 rw[e,←al6 hk,←h0,List.take_take,Nat.min_eq_left (Nat.mul_le_mul_right k (by omega))]
theorem awD.cell(hk:∀x,(cells x).length=k)(h:awD p cells k xs cur0 cur i j)(h0:cur0.take (xs.length*k)=xs.flatMap cells){x:α}(hx:xs[j]?=some x)(t:Nat)(ht:t<k):cur[j*k+t]?=(cells x)[t]?:=by
 have hj:=(List.getElem?_eq_some_iff.1 hx).1
 have h1:=congrArg (fun l=>l[t]?) h.high
 simp only[List.getElem?_drop]at h1
 rw[h1,←auU hk hx t ht,←h0,List.getElem?_take,if_pos]
 have:=Nat.mul_le_mul_right k (show j+1≤xs.length by omega)
 rw[Nat.succ_mul]at this
 omega
end
end Go.Proofs.YtmffejnigppbpaaGreatDoor
