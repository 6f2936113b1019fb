/-
  Texts merged into one: Items, Row8, WhenDate, B64Dec2, RulesNames4, RulesNames, Asw.
-/
import Derived.Test.YtmffejnigppbpaaGreatDoorCXMA63
import Derived.Test.YtmffejnigppbpaaGreatDoorCXMA59
import Derived.Shelf.SlicesQ.Load
import Derived.Test.YtmffejnigppbpaaGreatDoorCXMA52
import Derived.Test.YtmffejnigppbpaaGreatDoorCXWhenPrint
import Derived.Deep.RegionHeld3
import Derived.WideMake
import Derived.Laws.Tables
import Derived.Shelf.Strings.MapAny
import Derived.Test.YtmffejnigppbpaaGreatDoorCXMA69
import Derived.Test.YtmffejnigppbpaaGreatDoorCXMA49
import Derived.RangeFuncBox
import Derived.OwnWalkIn
import Derived.Test.YtmffejnigppbpaaGreatDoorCXMA47
import Derived.Test.YtmffejnigppbpaaGreatDoorCXMA68
import Derived.Test.YtmffejnigppbpaaGreatDoorCXMA58
import Derived.Test.YtmffejnigppbpaaGreatDoorCXMPieces
import Derived.Stop.Asserts
import Derived.Lib.BufferMore
set_option linter.unusedVariables false
set_option linter.unusedSimpArgs false
namespace Go.Proofs.YtmffejnigppbpaaGreatDoor
open Go.RowKit
structure It where
 g:List UInt8
 n:List UInt8
 ps:List Pm
 v:Vl
def Vl.cells(x:Vl)(lv:Value):List Value:=[.int .i64 x.ty,.string (S x.tx),lv,.int .i64 x.st.y,.int .i64 x.st.m,.int .i64 x.st.d,.int .i64 x.st.h,.int .i64 x.st.n,.int .i64 x.st.s,.bool x.st.zd,.int .i64 x.st.zn,.int .i64 x.n]
def It.cells(x:It)(pv lv:Value):List Value:=[.string (S x.g),.string (S x.n),pv,.int .i64 x.v.ty,.string (S x.v.tx),lv,.int .i64 x.v.st.y,.int .i64 x.v.st.m,.int .i64 x.v.st.d,.int .i64 x.v.st.h,.int .i64 x.v.st.n,.int .i64 x.v.st.s,.bool x.v.st.zd,.int .i64 x.v.st.zn,.int .i64 x.v.n]
abbrev It.val(x:It)(pv lv:Value):Value:=.agg #[.string (S x.g),.string (S x.n),pv,.int .i64 x.v.ty,.string (S x.v.tx),lv,.int .i64 x.v.st.y,.int .i64 x.v.st.m,.int .i64 x.v.st.d,.int .i64 x.v.st.h,.int .i64 x.v.st.n,.int .i64 x.v.st.s,.bool x.v.st.zd,.int .i64 x.v.st.zn,.int .i64 x.v.n]
structure dG(w:World)(x:It)(pv lv:Value):Prop where
 p:eu w pv x.ps
 l:fA w lv x.v.ps
 f:pv=.slice none 0 0∨∃a n c,pv=.slice (some a) n c
 y : -9223372036854775808≤x.v.st.y∧x.v.st.y≤9223372036854775807
 t : -9223372036854775808≤x.v.ty∧x.v.ty≤9223372036854775807
theorem dG.grow{w w':World}{x:It}{pv lv:Value}(h:dG w x pv lv)(g:G w w'):dG w' x pv lv:=⟨h.p.grow g,h.l.grow g,h.f,h.y,h.t⟩
theorem dG.pv{w:World}{x:It}{pv lv:Value}(h:dG w x pv lv):∃a c,pv=.slice a x.ps.length c:=by obtain⟨a,c,e,_⟩:=h.p;exact⟨a,c,e⟩
theorem dG.lv{w:World}{x:It}{pv lv:Value}(h:dG w x pv lv):∃a c,lv=.slice a x.v.ps.length c:=by obtain⟨a,c,e,_⟩:=h.l.len;exact⟨a,c,e⟩
structure xZ(w:World)(b o:Nat)(x:It)(pv lv:Value):Prop where
 c:∀(j:Nat) (u:Value),(x.cells pv lv)[j]?=some u→w.cell? ⟨b,o+j,none⟩=some u
 ok:dG w x pv lv
theorem xZ.grow{w w':World}{b o:Nat}{x:It}{pv lv:Value}(h:xZ w b o x pv lv)(hb:b<w.heap.size)(g:G w w'):xZ w' b o x pv lv:=
 ⟨fun j u hu=>by rw[g.cell hb];exact h.c j u hu,h.ok.grow g⟩
theorem xZ.e{w:World}{b o:Nat}{x:It}{pv lv:Value}(h:xZ w b o x pv lv):w.cell? ⟨b,o,none⟩=some (.string (S x.g))∧w.cell? ⟨b,o+1,none⟩=some (.string (S x.n))∧w.cell? ⟨b,o+2,none⟩=some (pv)∧w.cell? ⟨b,o+3,none⟩=some (.int .i64 x.v.ty)∧w.cell? ⟨b,o+4,none⟩=some (.string (S x.v.tx))∧w.cell? ⟨b,o+5,none⟩=some (lv)∧w.cell? ⟨b,o+6,none⟩=some (.int .i64 x.v.st.y)∧w.cell? ⟨b,o+7,none⟩=some (.int .i64 x.v.st.m)∧w.cell? ⟨b,o+8,none⟩=some (.int .i64 x.v.st.d)∧w.cell? ⟨b,o+9,none⟩=some (.int .i64 x.v.st.h)∧w.cell? ⟨b,o+10,none⟩=some (.int .i64 x.v.st.n)∧w.cell? ⟨b,o+11,none⟩=some (.int .i64 x.v.st.s)∧w.cell? ⟨b,o+12,none⟩=some (.bool x.v.st.zd)∧w.cell? ⟨b,o+13,none⟩=some (.int .i64 x.v.st.zn)∧w.cell? ⟨b,o+14,none⟩=some (.int .i64 x.v.n):=
 ⟨h.c 0 _ rfl,h.c 1 _ rfl,h.c 2 _ rfl,h.c 3 _ rfl,h.c 4 _ rfl,h.c 5 _ rfl,h.c 6 _ rfl,h.c 7 _ rfl,h.c 8 _ rfl,h.c 9 _ rfl,h.c 10 _ rfl,h.c 11 _ rfl,h.c 12 _ rfl,h.c 13 _ rfl,h.c 14 _ rfl⟩
def dX(w:World)(v:Value)(xs:List It):Prop:=
 ∃a cap,v=.slice a xs.length cap∧xs.length≤cap∧(xs≠[]→∃b off,a=some ⟨b,off,none⟩∧b<w.heap.size∧∀(i:Nat) (x:It),xs[i]?=some x→∃pv lv,xZ w b (off+i*15) x pv lv)
theorem dX.grow{w w':World}{v:Value}{xs:List It}(h:dX w v xs)(g:G w w'):dX w' v xs:=by
 obtain⟨a,cap,e,hc,h⟩:=h
 refine⟨a,cap,e,hc,fun h0=>?_⟩
 obtain⟨b,off,e2,hb,h⟩:=h h0
 refine⟨b,off,e2,Nat.lt_of_lt_of_le hb g.size,fun i x hx=>?_⟩
 obtain⟨pv,lv,h1⟩:=h i x hx
 exact⟨pv,lv,h1.grow hb g⟩
theorem dX.len{w:World}{v:Value}{xs:List It}(h:dX w v xs):∃a c,v=.slice a xs.length c∧xs.length≤c:=by
 obtain⟨a,c,e,h1,_⟩:=h
 exact⟨a,c,e,h1⟩
def gY(ver:Int)(iv:Value):Value:=.agg #[.int .i64 ver,iv]
end Go.Proofs.YtmffejnigppbpaaGreatDoor

namespace Go.Proofs.YtmffejnigppbpaaGreatDoor
open Go.RowKit
section
variable {W w:World} {b:Nat} {T:TypeId} {c0 c1 c2 c3 c4 c5 c6 c7:Value}
theorem YB{w w':World}{b:Nat}{o:Obj}(h:w.heap[b]?=some o)(g:G w w'):w'.heap[b]?=some o:=(g.below.block b (Array.getElem?_eq_some_iff.1 h).1).trans h
theorem YC{w w2:World}{o p:Obj}(g:G ((w.alloc o).alloc p) w2):w2.heap[w.heap.size]?=some o:=YB (by rw[Lib.alloc_old _ _ _ (by simp)];exact heap_alloc_new w o) g
theorem YD{w w2:World}{o p:Obj}(g:G ((w.alloc o).alloc p) w2):w2.heap[w.heap.size+1]?=some p:=YB (by have:=heap_alloc_new (w.alloc o) p;simpa using this) g
end
end Go.Proofs.YtmffejnigppbpaaGreatDoor

namespace Go.Proofs.YtmffejnigppbpaaGreatDoor
open Go.RowKit
def shF(x:Int):Int:=if 48≤x∧x≤57 then 57 else x
def jl(s:List UInt8):List UInt8:=Lib.mapD shF s
def abV(w:World):Prop:=Lib.Utf8Tabs 6 7 w
theorem abV.grow{w w':World}(h:abV w)(g:G w w'):abV w':=Utf8Tabs_below h g
def dgB(c:UInt8):Bool:=decide (48≤c.toNat)&&decide (c.toNat≤57)
def W9(l:List UInt8):Nat:=l.foldl (fun n c=>10*n+(c.toNat-48)) 0
theorem Xa(l:List UInt8)(c:UInt8):W9 (l++[c])=10*W9 l+(c.toNat-48):=by simp[W9]
end Go.Proofs.YtmffejnigppbpaaGreatDoor

set_option maxHeartbeats 4000000
set_option maxRecDepth 100000
namespace Go.Proofs.YtmffejnigppbpaaGreatDoor
open Go.RowKit
def jB(l:List UInt8)(v:Value)(w':World):Prop:=
 if l.length%4≠0 then ∃e,v=.tuple #[.string (S []),e]∧ji w' e 7 l.length
 else match qi l with
  |.ok bs=>v=.tuple #[.string (S bs),.nilIface]
  |.error p=>∃e,v=.tuple #[.string (S []),e]∧ji w' e 3 p
theorem jB.odd{l:List UInt8}(h:l.length%4≠0){w':World}{e:Value}(he:ji w' e 7 l.length):jB l (.tuple #[.string (S []),e]) w':=by
 unfold jB;rw[if_pos h];exact⟨e,rfl,he⟩
theorem jB.good{l bs:List UInt8}(h:l.length%4=0)(hd:qi l=.ok bs){w':World}:jB l (.tuple #[.string (S bs),.nilIface]) w':=by
 unfold jB;rw[if_neg (by omega),hd]
theorem jB.bad{l:List UInt8}{p:Nat}(h:l.length%4=0)(hd:qi l=.error p){w':World}{e:Value}(he:ji w' e 3 p):jB l (.tuple #[.string (S []),e]) w':=by
 unfold jB;rw[if_neg (by omega),hd];exact⟨e,rfl,he⟩
def Ba(pre:List UInt8)(k:Nat):Except Nat (List UInt8)→Except Nat (List UInt8)
 |.ok bs=>.ok (pre++bs)
 |.error p=>.error (p+k)
theorem Dy(c0 c1 c2 c3:UInt8)(t:List UInt8):qi (c0::c1::c2::c3::t)=match qL t.isEmpty c0 c1 c2 c3 with
  |.error p=>.error p
  |.ok bs=>Ba bs 4 (qi t):=by
 rw[qi]
 cases qL t.isEmpty c0 c1 c2 c3 with
 |error p=>rfl
 |ok bs=>cases qi t<;>rfl
theorem rQ{l outp rest:List UInt8}{k p:Nat}{c0 c1 c2 c3:UInt8}{t:List UInt8}(h:qi l=Ba outp k (qi (c0::c1::c2::c3::t)))(hq:qL t.isEmpty c0 c1 c2 c3=.error p):qi l=.error (p+k):=by
 rw[h,Dy,hq];rfl
theorem QH{l outp:List UInt8}{k:Nat}{c0 c1 c2 c3:UInt8}{t bs:List UInt8}(h:qi l=Ba outp k (qi (c0::c1::c2::c3::t)))(hq:qL t.isEmpty c0 c1 c2 c3=.ok bs):qi l=Ba (outp++bs) (k+4) (qi t):=by
 rw[h,Dy,hq]
 show Ba outp k (Ba bs 4 (qi t))=_
 cases qi t with
 |error p=>show Except.error _=Except.error _;congr 1;omega
 |ok cs=>show Except.ok _=Except.ok _;rw[List.append_assoc]
theorem fZ(c:UInt8)(k:Int)(h:lJ c=k)(w:World):nT 76 #[.string (S oq),.int .u8 (c.toNat:Int)] w (.int .i64 k):=by
 subst h;exact qI oq c w
theorem QI{c:UInt8}(h:c≠61):((c.toNat:Int)==61)=false:=beq_eq_false_iff_ne.2 fun e=>h (UInt8.toNat_inj.1 (by show c.toNat=61;omega))
theorem Vt{c:UInt8}(h:c=61):((c.toNat:Int)==61)=true:=by subst h;rfl
theorem or0{k:Int}(h0:0≤k)(h1:k<64):bits .or .i64 0 k=k:=by
 have:=pg 6 0 k (by omega) (by decide) (by omega) h0 (by omega) (by omega);omega
theorem Vu{n k:Int}(n0:0≤n)(n1:n<16777216)(h0:0≤k)(h1:k<64):bits .or .i64 (n*64) k=n*64+k:=
 pg 6 _ _ (by omega) (by simp) (by omega) h0 (by omega) (by omega)
structure At4(l:List UInt8)(k:Nat)(c0 c1 c2 c3:UInt8)(t:List UInt8):Prop where
 len:l.length=k+4+t.length
 x0:l[k]?=some c0
 x1:l[k+1]?=some c1
 x2:l[k+2]?=some c2
 x3:l[k+3]?=some c3
theorem At4.of{l:List UInt8}{k:Nat}{c0 c1 c2 c3:UInt8}{t:List UInt8}(h:l.drop k=c0::c1::c2::c3::t):At4 l k c0 c1 c2 c3 t:=by
 have hl:=congrArg List.length h
 simp only[List.length_drop,List.length_cons]at hl
 have g:∀j,(l.drop k)[j]?=l[k+j]?:=fun j=>List.getElem?_drop
 refine⟨by omega,?_,?_,?_,?_⟩
 ·have:=g 0;rw[h]at this;simpa using this.symm
 ·have:=g 1;rw[h]at this;simpa using this.symm
 ·have:=g 2;rw[h]at this;simpa using this.symm
 ·have:=g 3;rw[h]at this;simpa using this.symm
theorem LZ{l:List UInt8}{j:Nat}{c:UInt8}(h:l[j]?=some c)(hj:j<l.length):l[j]=c:=by
 rw[List.getElem?_eq_getElem hj]at h;exact Option.some.inj h
theorem Jz(l:List UInt8)(w:World)(hl:l.length≤1099511627776):dP 139 #[.string (S l)] w (jB l):=by
 obtain⟨i0,hi,hz0,hz1,hz2⟩:=info_parts infoByte
 by_cases hm:l.length%4=0
 case neg=>
  have h1:((l.length:Int)%4 != 0)=true:=bne_iff_ne.2 (by omega)
  have HM:=hid hm
  clear hm
  go_enter Tryz.func139,Tryz.ntmps139
  go_wp2
  go_ret2
  exact⟨_,rfl,jB.odd HM.out (ji.new _ _ _ _),(G.refl w).alloc _⟩
 have h1:((l.length:Int)%4 != 0)=false:=by rw[bne_eq_false_iff_eq];omega
 have HM:=hid hm
 clear hm
 go_enter Tryz.func139,Tryz.ntmps139
 go_wp2
 go_loopw [4,5] (fun v i wr=>∃k:Nat,∃outp:List UInt8,k≤l.length∧i=.int .i64 k∧k%4=0∧qi l=Ba outp k (qi (l.drop k))∧outp.length≤k∧wr.ownsRow w.heap.size 5 1 v outp.length (outp.map fun c=>Value.int .u8 (c.toNat:Int))∧G w wr) (fun _ i _=>l.length-(intOf i).toNat)
 case atStart=>exact⟨0,[],Nat.zero_le _,rfl,rfl,by simp;cases qi l<;>rfl,by simp,World.ownsRow_nil _ _ _ _,G.refl _⟩
 case round=>
  obtain⟨k,outp,hk,rfl,hk4,hd,hol,hown,hg⟩:=hrel
  have HD:=hid hd
  clear hd
  by_cases hlt:k<l.length
  case neg=>
   have hc:=Xo hown
   go_wp2
   go_ret2
   refine⟨_,rfl,jB.good HM.out ?_,hg⟩
   rw[HD.out,List.drop_eq_nil_of_le (by omega)]
   show Ba outp k (.ok [])=_
   simp[Ba]
  obtain⟨c0,c1,c2,c3,t,hdr⟩:∃c0 c1 c2 c3 t,l.drop k=c0::c1::c2::c3::t:=by
   have hll:=HM.out
   have hlen:(l.drop k).length=l.length-k:=List.length_drop
   match hdr:l.drop k with
   |[]=>rw[hdr]at hlen;simp at hlen;omega
   |[_]=>rw[hdr]at hlen;simp at hlen;omega
   |[_,_]=>rw[hdr]at hlen;simp at hlen;omega
   |[_,_,_]=>rw[hdr]at hlen;simp at hlen;omega
   |c0::c1::c2::c3::t=>exact⟨c0,c1,c2,c3,t,rfl⟩
  have h4:=At4.of hdr
  have hd:=HD.out
  rw[hdr]at hd
  have HD2:=hid hd
  have hlen:=h4.len
  have hll:k+4+t.length=l.length:=hlen.symm
  have lk1:k+1<l.length:=by omega
  have lk2:k+2<l.length:=by omega
  have lk3:k+3<l.length:=by omega
  have x0:=LZ h4.x0 hlt
  have x1:=LZ h4.x1 lk1
  have x2:=LZ h4.x2 lk2
  have x3:=LZ h4.x3 lk3
  have hdt:l.drop (k+4)=t:=by rw[←List.drop_drop,hdr];rfl
  have HDT:=hid hdt
  have b0:c0.toNat<256:=c0.toNat_lt
  have b1:c1.toNat<256:=c1.toNat_lt
  have b2:c2.toNat<256:=c2.toNat_lt
  have b3:c3.toNat<256:=c3.toNat_lt
  have hlast:((k:Int)+4==(l.length:Int))=t.isEmpty:=by
   cases t with
   |nil=>simp at hll⊢;omega
   |cons a t=>simp at hll⊢;omega
  clear hd hlen h4 HD hdr hdt
  have llb:k+4≤l.length:=by omega
  clear hll
  rcases sG c0 with i0c|⟨p0,q0,-,r0⟩
  ·have I0:=hid i0c
   have HQ:Hid (qL t.isEmpty c0 c1 c2 c3=.error 0):=hid (by unfold qL;rw[if_pos (by omega)])
   cases h61:((c0.toNat:Int)==61)
   all_goals cases hls:t.isEmpty
   all_goals rw[hls]at hlast
   all_goals clear i0c
   all_goals
    go_wp2_with fail
    refine wp_loop_rounds 5 ?_
    rw[rounds_succ]
    go_wp2_with fail
    refine(fZ c0 (-1) I0.out _).use ?_
    go_wp2_with fail
    go_ret2
    exact⟨_,rfl,jB.bad HM.out (rQ (rest:=[]) HD2.out HQ.out) (by have:=ji.new wr 82 3 (k);simpa[Int.add_comm]using this),hg.alloc _⟩
  have z0:=QI r0
  obtain⟨K0,hK0⟩:∃K0,K0=lJ c0:=⟨_,rfl⟩
  rw[←hK0]at p0 q0
  have I0:Hid (lJ c0=K0):=hid hK0.symm
  have e0:=or0 p0 q0
  clear hK0
  rcases sG c1 with i1c|⟨p1,q1,-,r1⟩
  ·have I1:=hid i1c
   have HQ:Hid (qL t.isEmpty c0 c1 c2 c3=.error 1):=hid (by unfold qL;rw[if_neg (by rw[I0.out];omega),if_pos (by omega)])
   cases h61:((c1.toNat:Int)==61)
   all_goals cases hls:t.isEmpty
   all_goals rw[hls]at hlast
   all_goals clear i1c
   all_goals
    go_wp2_with fail
    refine wp_loop_rounds 5 ?_
    rw[rounds_succ]
    go_wp2_with fail
    refine(fZ c0 K0 I0.out _).use ?_
    go_wp2_with fail
    rw[rounds_succ]
    go_wp2_with fail
    refine(fZ c1 (-1) I1.out _).use ?_
    go_wp2_with fail
    go_ret2
    exact⟨_,rfl,jB.bad HM.out (rQ (rest:=[]) HD2.out HQ.out) (by have:=ji.new wr 82 3 ((k:Int)+1);simpa[Int.add_comm]using this),hg.alloc _⟩
  have z1:=QI r1
  obtain⟨K1,hK1⟩:∃K1,K1=lJ c1:=⟨_,rfl⟩
  rw[←hK1]at p1 q1
  have I1:Hid (lJ c1=K1):=hid hK1.symm
  have e1:=Vu (n:=K0) p0 (by omega) p1 q1
  have n1a:0≤K0*64+K1:=by omega
  have n1b:K0*64+K1<4096:=by omega
  obtain⟨N1,hN1⟩:∃N1,N1=K0*64+K1:=⟨_,rfl⟩
  rw[←hN1]at e1 n1a n1b
  have HN1:=hid hN1
  clear hK1 hN1
  by_cases hp2:t.isEmpty=true∧c3=61∧c2=61
  ·obtain⟨hls,hc3,hc2⟩:=hp2
   have z2:=Vt hc2
   have z3:=Vt hc3
   have I2:Hid (lJ c2 = -1):=hid (by rw[hc2];exact Xn)
   have I3:Hid (lJ c3 = -1):=hid (by rw[hc3];exact Xn)
   have hnum:jK K0 K1 0 0=N1*4096:=by unfold jK;rw[HN1.out];omega
   have e2:=Vu (n:=N1) (k:=0) n1a (by omega) (by omega) (by omega)
   have e3:=Vu (n:=N1*64) (k:=0) (by omega) (by omega) (by omega) (by omega)
   rw[Int.add_zero]at e2 e3
   obtain⟨N3,hN3⟩:∃N3,N3=N1*64*64:=⟨_,rfl⟩
   have n3a:0≤N3:=by omega
   have n3b:N3<16777216:=by omega
   replace e3:bits .or .i64 (N1*64*64) 0=N3:=e3.trans hN3.symm
   have mm:(min 4 (min 2 3):Int)=2:=by decide
   have m3:bits .and .i64 N3 65535=N3%65536:=lK 16 (by omega) _ 65535 (by omega) (by omega) rfl
   have hnum2:jK K0 K1 0 0=N3:=by rw[hnum,hN3];omega
   have HNU:=hid hnum2
   rw[hls]at hlast
   have HLS:=hid hls
   have HC3:=hid hc3
   have HC2:=hid hc2
   clear hnum hnum2 hls hc2 hc3 hN3
   by_cases hz:N3%65536=0
   ·have HQ:Hid (qL t.isEmpty c0 c1 c2 c3=.ok ((oK N3).take 1)):=hid (by unfold qL;rw[if_neg (by rw[I0.out];omega),if_neg (by rw[I1.out];omega),if_pos ⟨HLS.out,HC3.out,HC2.out⟩,I0.out,I1.out,HNU.out,if_pos hz])
    have tz:(N3%65536 != 0)=false:=by rw[bne_eq_false_iff_eq];exact hz
    clear hz
    go_wp2_with fail
    refine wp_loop_rounds 5 ?_
    rw[rounds_succ]
    go_wp2_with fail
    refine(fZ c0 K0 I0.out _).use ?_
    go_wp2_with fail
    rw[rounds_succ]
    go_wp2_with fail
    refine(fZ c1 K1 I1.out _).use ?_
    go_wp2_with fail
    rw[rounds_succ]
    go_wp2_with fail
    refine(fZ c2 (-1) I2.out _).use ?_
    go_wp2_with fail
    rw[rounds_succ]
    go_wp2_with fail
    refine(fZ c3 (-1) I3.out _).use ?_
    go_wp2_with fail
    rw[rounds_succ]
    go_wp2_with (at_builtin;refine vV (w:=w) rfl _ _ 122 rfl 5 i0 _ 1 Tryz.underlying122 hi hz0 hz1 hz2 rfl _ _ _ rfl hown hg [.int .u8 (N3/65536),.int .u8 (N3/256%256),.int .u8 (N3%256)] 1 3 (by simp) rfl (by intro u hu;simp at hu;rcases hu with rfl|rfl|rfl<;>rfl) (by omega) (by omega) ?_;intro v' w' hown' hg')
    go_roundw
    case rel=>
     refine⟨k+4,outp++(oK N3).take 1,by omega,by go_num,by omega,?_,by simp[oK];omega,?_,hg'⟩
     ·rw[HDT.out];exact QH HD2.out HQ.out
     ·have e1:=dK (n:=N3/65536) (by omega) (by omega)
      have e2:=dK (n:=N3/256%256) (by omega) (by omega)
      have e3:=dK (n:=N3%256) (by omega) (by omega)
      simpa[oK,e1,e2,e3]using hown'
    case measure=>simp[intOf];omega
   ·have HQ:Hid (qL t.isEmpty c0 c1 c2 c3=.error 1):=hid (by unfold qL;rw[if_neg (by rw[I0.out];omega),if_neg (by rw[I1.out];omega),if_pos ⟨HLS.out,HC3.out,HC2.out⟩,I0.out,I1.out,HNU.out,if_neg hz])
    have tz:(N3%65536 != 0)=true:=bne_iff_ne.2 hz
    clear hz
    go_wp2_with fail
    refine wp_loop_rounds 5 ?_
    rw[rounds_succ]
    go_wp2_with fail
    refine(fZ c0 K0 I0.out _).use ?_
    go_wp2_with fail
    rw[rounds_succ]
    go_wp2_with fail
    refine(fZ c1 K1 I1.out _).use ?_
    go_wp2_with fail
    rw[rounds_succ]
    go_wp2_with fail
    refine(fZ c2 (-1) I2.out _).use ?_
    go_wp2_with fail
    rw[rounds_succ]
    go_wp2_with fail
    refine(fZ c3 (-1) I3.out _).use ?_
    go_wp2_with fail
    rw[rounds_succ]
    go_wp2_with fail
    go_ret2
    exact⟨_,rfl,jB.bad HM.out (rQ (rest:=[]) HD2.out HQ.out) (by have h:((1+k:Nat):Int)=(k:Int)+2-1:=(by omega);rw[h];exact ji.new _ _ _ _),hg.alloc _⟩
  have NP2:=hid hp2
  clear hp2
  rcases sG c2 with i2c|⟨p2,q2,-,r2⟩
  ·have I2:=hid i2c
   have HQ:Hid (qL t.isEmpty c0 c1 c2 c3=.error 2):=hid (by unfold qL;rw[if_neg (by rw[I0.out];omega),if_neg (by rw[I1.out];omega),if_neg NP2.out,if_pos (by omega)])
   by_cases h61:c2=61
   ·have z2:=Vt h61
    by_cases h613:c3=61
    ·have z3:=Vt h613
     have hls:t.isEmpty=false:=by
      cases hls:t.isEmpty
      ·rfl
      ·exact absurd ⟨hls,h613,h61⟩ NP2.out
     rw[hls]at hlast
     clear i2c h61 h613
     go_wp2_with fail
     refine wp_loop_rounds 5 ?_
     rw[rounds_succ]
     go_wp2_with fail
     refine(fZ c0 K0 I0.out _).use ?_
     go_wp2_with fail
     rw[rounds_succ]
     go_wp2_with fail
     refine(fZ c1 K1 I1.out _).use ?_
     go_wp2_with fail
     rw[rounds_succ]
     go_wp2_with fail
     refine(fZ c2 (-1) I2.out _).use ?_
     go_wp2_with fail
     go_ret2
     exact⟨_,rfl,jB.bad HM.out (rQ (rest:=[]) HD2.out HQ.out) (by have:=ji.new wr 82 3 ((k:Int)+2);simpa[Int.add_comm]using this),hg.alloc _⟩
    ·have z3:=QI h613
     cases hls:t.isEmpty
     all_goals rw[hls]at hlast
     all_goals clear i2c h61 h613
     all_goals
      go_wp2_with fail
      refine wp_loop_rounds 5 ?_
      rw[rounds_succ]
      go_wp2_with fail
      refine(fZ c0 K0 I0.out _).use ?_
      go_wp2_with fail
      rw[rounds_succ]
      go_wp2_with fail
      refine(fZ c1 K1 I1.out _).use ?_
      go_wp2_with fail
      rw[rounds_succ]
      go_wp2_with fail
      refine(fZ c2 (-1) I2.out _).use ?_
      go_wp2_with fail
      go_ret2
      exact⟨_,rfl,jB.bad HM.out (rQ (rest:=[]) HD2.out HQ.out) (by have:=ji.new wr 82 3 ((k:Int)+2);simpa[Int.add_comm]using this),hg.alloc _⟩
   ·have z2:=QI h61
    cases hls:t.isEmpty
    all_goals rw[hls]at hlast
    all_goals clear i2c h61
    all_goals
     go_wp2_with fail
     refine wp_loop_rounds 5 ?_
     rw[rounds_succ]
     go_wp2_with fail
     refine(fZ c0 K0 I0.out _).use ?_
     go_wp2_with fail
     rw[rounds_succ]
     go_wp2_with fail
     refine(fZ c1 K1 I1.out _).use ?_
     go_wp2_with fail
     rw[rounds_succ]
     go_wp2_with fail
     refine(fZ c2 (-1) I2.out _).use ?_
     go_wp2_with fail
     go_ret2
     exact⟨_,rfl,jB.bad HM.out (rQ (rest:=[]) HD2.out HQ.out) (by have:=ji.new wr 82 3 ((k:Int)+2);simpa[Int.add_comm]using this),hg.alloc _⟩
  have z2:=QI r2
  obtain⟨K2,hK2⟩:∃K2,K2=lJ c2:=⟨_,rfl⟩
  rw[←hK2]at p2 q2
  have I2:Hid (lJ c2=K2):=hid hK2.symm
  have e2:=Vu (n:=N1) n1a (by omega) p2 q2
  have n2a:0≤N1*64+K2:=by omega
  have n2b:N1*64+K2<262144:=by omega
  obtain⟨N2,hN2⟩:∃N2,N2=N1*64+K2:=⟨_,rfl⟩
  rw[←hN2]at e2 n2a n2b
  have HN2:=hid hN2
  clear hK2 hN2
  by_cases hp3:t.isEmpty=true∧c3=61
  ·obtain⟨hls,hc3⟩:=hp3
   have z3:=Vt hc3
   have I3:Hid (lJ c3 = -1):=hid (by rw[hc3];exact Xn)
   have e3:=Vu (n:=N2) (k:=0) n2a (by omega) (by omega) (by omega)
   rw[Int.add_zero]at e3
   obtain⟨N3,hN3⟩:∃N3,N3=N2*64:=⟨_,rfl⟩
   have n3a:0≤N3:=by omega
   have n3b:N3<16777216:=by omega
   replace e3:bits .or .i64 (N2*64) 0=N3:=e3.trans hN3.symm
   have mm:(min 4 3:Int)=3:=by decide
   have m3:bits .and .i64 N3 255=N3%256:=lK 8 (by omega) _ 255 (by omega) (by omega) rfl
   have HNU:Hid (jK K0 K1 K2 0=N3):=hid (by unfold jK;rw[hN3,HN2.out,HN1.out];omega)
   rw[hls]at hlast
   have HLS:=hid hls
   have HC3:=hid hc3
   clear hls hc3 hN3
   by_cases hz:N3%256=0
   ·have HQ:Hid (qL t.isEmpty c0 c1 c2 c3=.ok ((oK N3).take 2)):=hid (by unfold qL;rw[if_neg (by rw[I0.out];omega),if_neg (by rw[I1.out];omega),if_neg NP2.out,if_neg (by rw[I2.out];omega),if_pos ⟨HLS.out,HC3.out⟩,I0.out,I1.out,I2.out,HNU.out,if_pos hz])
    have tz:(N3%256 != 0)=false:=by rw[bne_eq_false_iff_eq];exact hz
    clear hz
    go_wp2_with fail
    refine wp_loop_rounds 5 ?_
    rw[rounds_succ]
    go_wp2_with fail
    refine(fZ c0 K0 I0.out _).use ?_
    go_wp2_with fail
    rw[rounds_succ]
    go_wp2_with fail
    refine(fZ c1 K1 I1.out _).use ?_
    go_wp2_with fail
    rw[rounds_succ]
    go_wp2_with fail
    refine(fZ c2 K2 I2.out _).use ?_
    go_wp2_with fail
    rw[rounds_succ]
    go_wp2_with fail
    refine(fZ c3 (-1) I3.out _).use ?_
    go_wp2_with fail
    rw[rounds_succ]
    go_wp2_with (at_builtin;refine vV (w:=w) rfl _ _ 122 rfl 5 i0 _ 1 Tryz.underlying122 hi hz0 hz1 hz2 rfl _ _ _ rfl hown hg [.int .u8 (N3/65536),.int .u8 (N3/256%256),.int .u8 (N3%256)] 2 3 (by simp) rfl (by intro u hu;simp at hu;rcases hu with rfl|rfl|rfl<;>rfl) (by omega) (by omega) ?_;intro v' w' hown' hg')
    go_roundw
    case rel=>
     refine⟨k+4,outp++(oK N3).take 2,by omega,by go_num,by omega,?_,by simp[oK];omega,?_,hg'⟩
     ·rw[HDT.out];exact QH HD2.out HQ.out
     ·have e1:=dK (n:=N3/65536) (by omega) (by omega)
      have e2:=dK (n:=N3/256%256) (by omega) (by omega)
      have e3:=dK (n:=N3%256) (by omega) (by omega)
      simpa[oK,e1,e2,e3]using hown'
    case measure=>simp[intOf];omega
   ·have HQ:Hid (qL t.isEmpty c0 c1 c2 c3=.error 2):=hid (by unfold qL;rw[if_neg (by rw[I0.out];omega),if_neg (by rw[I1.out];omega),if_neg NP2.out,if_neg (by rw[I2.out];omega),if_pos ⟨HLS.out,HC3.out⟩,I0.out,I1.out,I2.out,HNU.out,if_neg hz])
    have tz:(N3%256 != 0)=true:=bne_iff_ne.2 hz
    clear hz
    go_wp2_with fail
    refine wp_loop_rounds 5 ?_
    rw[rounds_succ]
    go_wp2_with fail
    refine(fZ c0 K0 I0.out _).use ?_
    go_wp2_with fail
    rw[rounds_succ]
    go_wp2_with fail
    refine(fZ c1 K1 I1.out _).use ?_
    go_wp2_with fail
    rw[rounds_succ]
    go_wp2_with fail
    refine(fZ c2 K2 I2.out _).use ?_
    go_wp2_with fail
    rw[rounds_succ]
    go_wp2_with fail
    refine(fZ c3 (-1) I3.out _).use ?_
    go_wp2_with fail
    rw[rounds_succ]
    go_wp2_with fail
    go_ret2
    exact⟨_,rfl,jB.bad HM.out (rQ (rest:=[]) HD2.out HQ.out) (by have h:((2+k:Nat):Int)=(k:Int)+3-1:=(by omega);rw[h];exact ji.new _ _ _ _),hg.alloc _⟩
  have NP3:=hid hp3
  clear hp3
  rcases sG c3 with i3c|⟨p3,q3,-,r3⟩
  ·have I3:=hid i3c
   have HQ:Hid (qL t.isEmpty c0 c1 c2 c3=.error 3):=hid (by unfold qL;rw[if_neg (by rw[I0.out];omega),if_neg (by rw[I1.out];omega),if_neg NP2.out,if_neg (by rw[I2.out];omega),if_neg NP3.out,if_pos (by omega)])
   by_cases h61:c3=61
   ·have z3:=Vt h61
    have hls:t.isEmpty=false:=by
     cases hls:t.isEmpty
     ·rfl
     ·exact absurd ⟨hls,h61⟩ NP3.out
    rw[hls]at hlast
    clear i3c h61
    go_wp2_with fail
    refine wp_loop_rounds 5 ?_
    rw[rounds_succ]
    go_wp2_with fail
    refine(fZ c0 K0 I0.out _).use ?_
    go_wp2_with fail
    rw[rounds_succ]
    go_wp2_with fail
    refine(fZ c1 K1 I1.out _).use ?_
    go_wp2_with fail
    rw[rounds_succ]
    go_wp2_with fail
    refine(fZ c2 K2 I2.out _).use ?_
    go_wp2_with fail
    rw[rounds_succ]
    go_wp2_with fail
    refine(fZ c3 (-1) I3.out _).use ?_
    go_wp2_with fail
    go_ret2
    exact⟨_,rfl,jB.bad HM.out (rQ (rest:=[]) HD2.out HQ.out) (by have:=ji.new wr 82 3 ((k:Int)+3);simpa[Int.add_comm]using this),hg.alloc _⟩
   ·have z3:=QI h61
    cases hls:t.isEmpty
    all_goals rw[hls]at hlast
    all_goals clear i3c h61
    all_goals
     go_wp2_with fail
     refine wp_loop_rounds 5 ?_
     rw[rounds_succ]
     go_wp2_with fail
     refine(fZ c0 K0 I0.out _).use ?_
     go_wp2_with fail
     rw[rounds_succ]
     go_wp2_with fail
     refine(fZ c1 K1 I1.out _).use ?_
     go_wp2_with fail
     rw[rounds_succ]
     go_wp2_with fail
     refine(fZ c2 K2 I2.out _).use ?_
     go_wp2_with fail
     rw[rounds_succ]
     go_wp2_with fail
     refine(fZ c3 (-1) I3.out _).use ?_
     go_wp2_with fail
     go_ret2
     exact⟨_,rfl,jB.bad HM.out (rQ (rest:=[]) HD2.out HQ.out) (by have:=ji.new wr 82 3 ((k:Int)+3);simpa[Int.add_comm]using this),hg.alloc _⟩
  have z3:=QI r3
  obtain⟨K3,hK3⟩:∃K3,K3=lJ c3:=⟨_,rfl⟩
  rw[←hK3]at p3 q3
  have I3:Hid (lJ c3=K3):=hid hK3.symm
  have e3:=Vu (n:=N2) n2a (by omega) p3 q3
  have n3a:0≤N2*64+K3:=by omega
  have n3b:N2*64+K3<16777216:=by omega
  obtain⟨N3,hN3⟩:∃N3,N3=N2*64+K3:=⟨_,rfl⟩
  rw[←hN3]at e3 n3a n3b
  have HN3:=hid hN3
  clear hK3 hN3
  have HQ:Hid (qL t.isEmpty c0 c1 c2 c3=.ok ((oK N3).take 3)):=hid (by
   have hnum:jK K0 K1 K2 K3=N3:=by unfold jK;rw[HN3.out,HN2.out,HN1.out]
   unfold qL
   rw[if_neg (by rw[I0.out];omega),if_neg (by rw[I1.out];omega),if_neg NP2.out,if_neg (by rw[I2.out];omega),if_neg NP3.out,if_neg (by rw[I3.out];omega),I0.out,I1.out,I2.out,I3.out,hnum];rfl)
  cases hls:t.isEmpty
  all_goals rw[hls]at hlast
  all_goals
   go_wp2_with fail
   refine wp_loop_rounds 5 ?_
   rw[rounds_succ]
   go_wp2_with fail
   refine(fZ c0 K0 I0.out _).use ?_
   go_wp2_with fail
   rw[rounds_succ]
   go_wp2_with fail
   refine(fZ c1 K1 I1.out _).use ?_
   go_wp2_with fail
   rw[rounds_succ]
   go_wp2_with fail
   refine(fZ c2 K2 I2.out _).use ?_
   go_wp2_with fail
   rw[rounds_succ]
   go_wp2_with fail
   refine(fZ c3 K3 I3.out _).use ?_
   go_wp2_with fail
   rw[rounds_succ]
   go_wp2_with (at_builtin;refine vV (w:=w) rfl _ _ 122 rfl 5 i0 _ 1 Tryz.underlying122 hi hz0 hz1 hz2 rfl _ _ _ rfl hown hg [.int .u8 (N3/65536),.int .u8 (N3/256%256),.int .u8 (N3%256)] 3 3 (by simp) rfl (by intro u hu;simp at hu;rcases hu with rfl|rfl|rfl<;>rfl) (by omega) (by omega) ?_;intro v' w' hown' hg')
   go_roundw
   case rel=>
    refine⟨k+4,outp++(oK N3).take 3,by omega,by go_num,by omega,?_,by simp[oK];omega,?_,hg'⟩
    ·rw[HDT.out];exact QH HD2.out HQ.out
    ·have e1:=dK (n:=N3/65536) (by omega) (by omega)
     have e2:=dK (n:=N3/256%256) (by omega) (by omega)
     have e3:=dK (n:=N3%256) (by omega) (by omega)
     simpa[oK,e1,e2,e3]using hown'
   case measure=>simp[intOf];omega
end Go.Proofs.YtmffejnigppbpaaGreatDoor

set_option maxHeartbeats 4000000
set_option maxRecDepth 100000
namespace Go.Proofs.YtmffejnigppbpaaGreatDoor
open Go.RowKit Go.Shelf
attribute [local go_sem] Oper.semAt_some
theorem WL(w:World)(hm:nJ w) :
  CallsIn Fence.wide 6 Tryz.prog 66 #[.int .i64 4] w fun e w'=>∃v,e=.returned (.tuple #[v,.nilIface])∧w'.ownsRow w.heap.size 9 1 v (fM 4).length ((fM 4).map fun e=>.string (S e.name))∧Below w.heap.size w w':=by
 have tb:=fun W=>yY 4 W
 have TB:=hid tb
 clear tb
 obtain⟨i0,hi,hz0,hz1,hz2⟩:=info_parts KP
 refine callsIn_of_wp_marks Tryz.func66 rfl trivial ?_ rfl
 simp only[Tryz.ntmps66,List.size_toArray,List.length_cons,List.length_nil,Nat.reduceAdd,Nat.reduceSub,Array.replicate_succ,Array.replicate_zero,List.push_toArray,List.append_toArray,List.nil_append,List.cons_append]
 gi_wp2_with (first|(refine⟨trivial,?_⟩;gi_at_call 57;refine(callsIn_wide.2 (TB.out _)).mono ?_;rintro e w' ⟨rfl,rfl⟩)|(refine⟨trivial,?_⟩;gi_at_call 56;refine(callsIn_wide.2 (rX _ _ _)).mono ?_;rintro e w' ⟨rfl,rfl⟩))
 obtain⟨p,ps,e1,e2,e3,e4⟩:=yV 4
 rw[e2]
 have bO:=Boxed.new w 39 (.slice none 0 0)
 generalize hW0:World.alloc _ (Obj.cells #[Value.int IntKind.i64 0] 3)=W0
 have z0:W0.heap.size=w.heap.size+4:=by rw[←hW0];simp
 have c2:W0.cell? ⟨w.heap.size+1,0,none⟩=some (.string (S (gp [124] p ps))):=by rw[←hW0];simp[go_sem]
 have c3:W0.cell? ⟨w.heap.size+2,0,none⟩=some (.string (S [124])):=by rw[←hW0];simp[go_sem]
 have c4:W0.cell? ⟨w.heap.size+3,0,none⟩=some (.int .i64 0):=by rw[←hW0];simp[go_sem]
 have f2:W0.frozen? ⟨w.heap.size+1,0,none⟩=false:=by rw[←hW0];simp[go_sem]
 have hbx:Boxed W0 w.heap.size 39 (.slice none 0 0):=by rw[←hW0];exact((bO.alloc _).alloc _).alloc _
 have hB0:Below w.heap.size w W0:=by rw[←hW0];repeat (first|exact Below.refl _ _|(refine Below.alloc ?_ (by simp;try omega) _))
 clear hW0 bO
 refine lQ (B:=w.heap.size+1) (by omega) rfl (by decide) (gf:=146) (lb:=#[.pointer (some ⟨w.heap.size+2,0,none⟩),.pointer (some ⟨w.heap.size+1,0,none⟩),.pointer (some ⟨w.heap.size+3,0,none⟩)]) rfl trivial (enters_of Tryz.func146 (by kernel_rfl) rfl)
  (y8 5 (w.heap.size+2) (w.heap.size+1) (w.heap.size+3) (by omega) (by omega) (by omega) p ps e3 e4 W0 (by omega) (by omega) (by omega) c3 c2 c4 f2) yX
  (fun W l o o' hl hW ho hw=>mF (belowK_b (w:=W0) (Nat.le_refl _) W l o o' hl hW ho hw) (by omega) (by omega) (by omega)) (Below.refl _ _) (fun _=>rfl)
  (fun pre W=>((∃v,Boxed W w.heap.size 39 v∧W.ownsRow W0.heap.size 9 1 v pre.length (pre.map fun x=>.string (S (wE x)))∧True)∧W0.heap.size≤W.heap.size)∧Below w.heap.size w W)
  (fun _ _ _=>False)
  (OwnFrom.and (OwnFrom.and (Own.from (holdsRow_own W0.heap.size w.heap.size 39 9 1 (fun (pre:List (List UInt8))=>pre.length) (fun pre=>pre.map fun x=>.string (S (wE x))) (fun _ _=>True)) _) (fun x A B row hs hg hr=>Nat.le_trans hs hg.size)) (ownFrom_below (Nat.le_refl _) (by omega)))
  (fun x W v hs=>by
   obtain⟨⟨⟨u,hb,hr,_⟩,hsz⟩,hB⟩:=hs
   refine⟨⟨⟨u,hb.kept (grownBy_setCell' W _ v) (by simp),hr.kept (grownBy_setCell' W _ v) ?_,trivial⟩,Nat.le_trans hsz (by simp)⟩,hB.setCell (p:=⟨w.heap.size+1,0,none⟩) (by simp) _⟩
   rcases hr.2 with⟨rfl,_⟩|⟨g,cap,cur,rfl,hg,_⟩
   ·exact .inl rfl
   ·exact .inr (by simp[Value.ownBlock];omega))
  (fun c x A B row hs _ _=>hs.elim)
  ⟨⟨⟨_,hbx,World.ownsRow_nil _ _ _ _,trivial⟩,Nat.le_refl _⟩,hB0⟩
  (fun x=>{ tmps:=#[.int .i64 4,undef,.slice none 0 0,.nilIface,.pointer (some ⟨w.heap.size,0,none⟩),.string (S x),undef,undef,undef,.int .i64 4,.bool true,.bool true,.int .i64 4,.bool false,.bool false,undef,.int .i64 4,.string (S (gp [124] p ps)),.func (.func 146) #[] #[.pointer (some ⟨w.heap.size+2,0,none⟩),.pointer (some ⟨w.heap.size+1,0,none⟩),.pointer (some ⟨w.heap.size+3,0,none⟩)],.string (S x),undef,undef,undef,undef,undef,undef,undef,undef,undef,undef,undef],defers:=[] })
  ?assign ?body ?done ?stop
 case assign=>
  intro l x W K hK
  gi_wp2
  exact hK
 case body=>
  rintro l pre x W ⟨⟨⟨v,hv,hrow,_⟩,hsz⟩,hB⟩ hpre
  have hx:x∈(fM 4).map Ent.text:=by rw[e1];exact hpre.subset (by simp)
  have hpl:pre.length≤100:=by
   have h1:=hpre.length_le
   have h2:(p::ps).length≤100:=by rw[←e1,List.length_map];exact Na 4
   simp only[List.length_append]at h1
   omega
  have hxl:x.length≤1000:=by
   obtain⟨e,he,rfl⟩:=List.mem_map.1 hx
   have:=(qo 4 e he).2.2.2.2.2.1
   omega
  have cu:=sW x [32] W (hm.grow hB) (by omega)
  obtain⟨ca,hca⟩:∃y,y=(Lib.cut x [32]).1:=⟨_,rfl⟩
  obtain⟨cb,hcb⟩:∃y,y=(Lib.cut x [32]).2.1:=⟨_,rfl⟩
  obtain⟨ct,hct⟩:∃y,y=(Lib.cut x [32]).2.2:=⟨_,rfl⟩
  rw[←hca,←hcb,←hct]at cu
  have hno:wE x=ca:=hca.symm
  have CU:=hid cu
  have hc:=hv.cell
  have HV:=hid hv
  have HROW:=hid hrow
  clear cu hca hcb hct hx hv hrow hpre
  gi_wp2_with (first
   |(refine⟨trivial,?_⟩;gi_at_call 109;refine(CallsIn.inRound l (callsIn_wide.2 CU.out)).mono ?_;rintro e' w' ⟨rfl,hg'⟩;have hc1:=(uy HV.out hg'.below).cell;have HG:=hid hg';have hgs:=hg'.size;clear hg' hc)
   |(gi_at_builtin;refine wpListIn_append_own _ rfl _ _ 39 rfl W0.heap.size 9 i0 (.string ⟨#[]⟩) 1 16 Tryz.underlying39 hi hz0 hz1 hz2 rfl (by decide) _ _ _ rfl ((ng HROW.out HG.out.below).alloc _) ⟨w'.heap.size,0,none⟩ 1 1 [.string (S ca)] rfl rfl (cell_one_new _ _ _) (by intro u hu;rw[List.mem_singleton.1 hu];rfl) (by unfold maxLen;omega) (by omega) (by simp;omega) ?_;intro v' w1 hown' hgrow _;obtain⟨g',cap',rfl⟩:=ownsRow_succ hown';obtain⟨hv1,hv2,hr2,hk2,hb2⟩:=(uy HV.out HG.out.below).appended (by decide) (yN (ng HROW.out HG.out.below) (show w.heap.size≤W0.heap.size by omega)) (by omega) (Nat.le_refl _) (yN hown' (show w.heap.size≤W0.heap.size by omega)) hgrow;have hc2:=hv1.cell;have hf2:=hv1.frozen;have HOWN:=hid hown';have HGR:=hid hgrow;have HB2:=hid hb2;have HK2:=hid hk2;have HV2:=hid hv2;have HV1:=hid hv1;clear hown' hgrow hb2 hk2 hv2 hr2 hv1))
  have hw1:Below W0.heap.size w' w1:=EN (ng HROW.out HG.out.below) (Nat.le_trans hsz hgs) HGR.out
  have hkp:CJ (w.heap.size+2) (w.heap.size+1) (w.heap.size+3) W w1:=mF ((HG.out.below.mono hsz).trans hw1) (by omega) (by omega) (by omega)
  have hrow3:=HOWN.out.kept (grownBy_setCell' w1 w.heap.size (.slice (some ⟨g',0,none⟩) (pre.length+1) cap')) (.inr (HV1.out.not_row (by decide) HOWN.out).symm)
  have hz3:=HB2.out.size
  refine⟨(lG HG.out.below).trans (HK2.out.from _),yX hkp (KH _ (by omega) (by omega) (by omega)),⟨⟨_,HV2.out,?_,trivial⟩,Nat.le_trans (Nat.le_trans hsz hgs) hz3⟩,hB.trans ((HG.out.below.mono hB.size).trans HB2.out)⟩
  rw[List.length_append,List.map_append,List.map_cons,List.map_nil,hno]
  exact hrow3
 case done=>
  rintro D W hD ⟨⟨⟨v,hv,hrow,_⟩,hsz⟩,hB⟩ hK
  have hc:=hv.cell
  gi_wp2
  refine⟨by simp,.inl ⟨_,_,rfl,run_takeDeferred hK,?_⟩⟩
  have hl:(fM 4).length=(p::ps).length:=by rw[←e1,List.length_map]
  have hm2:((fM 4).map fun e=>Value.string (S e.name))=(p::ps).map fun x=>.string (S (wE x)):=by
   rw[←e1,List.map_map]
   have:=congrArg (List.map fun l=>Value.string (S l)) (EO 4)
   simp only[List.map_map]at this
   exact this.symm
  refine⟨_,results_tmp2 rfl _ _ _,v,rfl,?_,hB.trans (belowK_b (w:=w) (Nat.le_refl _) W D _ _ (by omega) hK rfl rfl)⟩
  rw[hl,hm2]
  exact ownsRow_putObj (yN hrow (show w.heap.size≤W0.heap.size by omega)) _ hK rfl
 case stop=>
  rintro D c pre W _ _ h _
  exact h.elim
end Go.Proofs.YtmffejnigppbpaaGreatDoor

namespace Go.Proofs.YtmffejnigppbpaaGreatDoor
open Go.RowKit
theorem WH(v:Int)(w:World)(hv:v=3∨v=4)(hM:qm w) :
  Calls Tryz.prog 66 #[.int .i64 v] w fun e w'=>∃u,e=.returned (.tuple #[u,.nilIface])∧w'.ownsRow w.heap.size 9 1 u (fM v).length ((fM v).map fun e=>.string (S e.name))∧Below w.heap.size w w':=by
 rcases hv with rfl|rfl
 ·exact(callsIn_wide (n:=6)).1 (WJ w hM.hm)
 ·exact(callsIn_wide (n:=6)).1 (WL w hM.hm)
def aaL(e:Ent):Bool:=fH e.name&&(bU e.name==e.name&&(decide (1≤e.ty∧e.ty<9∧(0<e.most→e.least≤e.most)∧(0<e.parts→e.ty=3)∧e.name.length≤100)))
theorem YG(v:Int):(∀e∈fM v,aaL e=true)∧25<(fM v).length:=by
 unfold fM
 split
 ·decide +kernel
 ·decide +kernel
end Go.Proofs.YtmffejnigppbpaaGreatDoor

namespace Go.Proofs.YtmffejnigppbpaaGreatDoor
open Go.RowKit
structure Buf(w0 w:World)(Bx:Nat)(bs:List UInt8):Prop where
 bl:w0.heap.size≤Bx
 g:G w0 w
 row:∃v,v≠.slice none 0 0∧Boxed w Bx 391 v∧w.ownsRow w0.heap.size 5 1 v bs.length (Lib.byteCells bs)
theorem Buf.grow{w0 w w':World}{Bx:Nat}{bs:List UInt8}(h:Buf w0 w Bx bs)(g:G w w'):Buf w0 w' Bx bs:=by
 obtain⟨v,hv0,hv,hr⟩:=h.row
 refine⟨h.bl,h.g.trans g,v,hv0,(g.below.block Bx hv.lt).trans hv,hr.1,hr.2.imp id ?_⟩
 rintro⟨b,cap,cur,e1,e2,e3,r⟩
 exact⟨b,cap,cur,e1,e2,(g.below.block b (Array.getElem?_eq_some_iff.1 e3).1).trans e3,r⟩
end Go.Proofs.YtmffejnigppbpaaGreatDoor
