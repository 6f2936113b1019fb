/-
  Texts merged into one: Lists, RulesOf, RulesOf4, B64Dec.
-/
import Derived.Test.YtmffejnigppbpaaGreatDoorCXMA50
import Derived.Test.YtmffejnigppbpaaGreatDoorCXMA63
import Derived.Test.YtmffejnigppbpaaGreatDoorCXMA49
import Derived.LoopIn
import Derived.Test.YtmffejnigppbpaaGreatDoorCXMA59
import Derived.RangeFuncBound
import Derived.RangeFuncCalls
import Derived.Lib.AppendIntMem
import Derived.TacticsIn
import Derived.RegionIn
import Derived.Shelf.RegionOpen
import Derived.Test.YtmffejnigppbpaaGreatDoorCXMA54
set_option linter.unusedVariables false
set_option linter.unusedSimpArgs false
set_option maxHeartbeats 2000000
set_option maxRecDepth 100000
namespace Go.Proofs.YtmffejnigppbpaaGreatDoor
open Go.RowKit
theorem Pj{va vb:Value}{xs ys:List (List (List UInt8))}{w:World}(ha:fA w va xs)(hb:fA w vb ys)(lx:iL xs≤1000000)(ly:iL ys≤1000000) :
  dA 154 #[va,vb,.func (.func 104) #[] #[]] w (.bool (decide (xs=ys))):=by
 obtain⟨aa,ca,hva,_⟩:=ha.len
 obtain⟨ab,cb,hvb,_⟩:=hb.len
 have hlx:=xX xs
 have hly:=xX ys
 by_cases hn:xs.length=ys.length
 ·have HA:=hid ha
  have HB:=hid hb
  have HMX:Hid (∀l∈xs,jF l+1≤iL xs):=hid (fun l hl=>xY hl)
  have HMY:Hid (∀l∈ys,jF l+1≤iL ys):=hid (fun l hl=>xY hl)
  subst hva;subst hvb
  clear ha hb
  have hb1:((xs.length:Int) != (ys.length:Int))=false:=by rw[hn];simp
  have HN:=hid hn
  clear hn
  go_enter Tryz.func154,Tryz.ntmps154
  go_wp2_with fail
  go_loopw [17] (fun i wr=>∃k:Nat,k≤xs.length∧i=.int .i64 k∧G w wr∧∀j,j<k→xs[j]?=ys[j]?) (fun i _=>xs.length-(intOf i).toNat)
  case atStart=>exact⟨0,Nat.zero_le _,rfl,G.refl _,by omega⟩
  case round=>
   obtain⟨k,hk,rfl,g,hall⟩:=hrel
   have HG:=hid g
   have HALL:=hid hall
   clear g hall
   by_cases hlt:k<xs.length
   ·have hlt2:k<ys.length:=by rw[←HN.out];exact hlt
    obtain⟨b1,o1,c1,e1,_,hb1',hc1⟩:=HA.out.at_ (by rintro rfl;simp at hlt)
    obtain⟨b2,o2,c2,e2,_,hb2',hc2⟩:=HB.out.at_ (by rintro rfl;simp at hlt2)
    simp only[Value.slice.injEq,true_and]at e1 e2
    obtain⟨rfl,rfl⟩:=e1
    obtain⟨rfl,rfl⟩:=e2
    obtain⟨s1,d1,i1⟩:=hc1 k _ (List.getElem?_eq_getElem hlt)
    obtain⟨s2,d2,i2⟩:=hc2 k _ (List.getElem?_eq_getElem hlt2)
    obtain⟨x,hx⟩:∃x,xs[k]=x:=⟨_,rfl⟩
    obtain⟨y,hy⟩:∃y,ys[k]=y:=⟨_,rfl⟩
    have sx:=HMX.out _ (List.getElem_mem hlt)
    have sy:=HMY.out _ (List.getElem_mem hlt2)
    rw[hx]at i1 sx
    rw[hy]at i2 sy
    have lx1:=xW x
    have ly1:=xW y
    have I1:=hid (i1.grow HG.out)
    have I2:=hid (i2.grow HG.out)
    rw[←HG.out.cell (p:=⟨b1,o1+k,none⟩) hb1']at d1
    rw[←HG.out.cell (p:=⟨b2,o2+k,none⟩) hb2']at d2
    have HX:=hid hx
    have HY:=hid hy
    clear hx hy i1 i2 hc1 hc2
    go_wp2_with fail
    refine(Hz I1.out I2.out (by omega) (by omega)).use ?_
    intro w1 g1
    by_cases hxy:x=y
    ·rw[decide_eq_true hxy]
     go_wp2_with fail
     go_roundw
     case rel=>
      refine⟨k+1,by omega,by go_num,HG.out.trans g1,fun j hj=>?_⟩
      rcases Nat.lt_or_ge j k with h|h
      ·exact HALL.out j h
      ·obtain rfl:j=k:=by omega
       rw[List.getElem?_eq_getElem hlt,List.getElem?_eq_getElem hlt2,HX.out,HY.out,hxy]
     case measure=>simp[intOf];omega
    ·have HR:Hid (decide (xs=ys)=false):=hid (decide_eq_false (by
      intro e
      apply hxy
      rw[←HX.out,←HY.out]
      simp only[e]))
     rw[decide_eq_false hxy]
     go_wp2_with fail
     go_ret
     exact⟨cO HR.out.symm,HG.out.trans g1⟩
   ·have HR:Hid (decide (xs=ys)=true):=hid (decide_eq_true (by
     apply List.ext_getElem?
     intro j
     rcases Nat.lt_or_ge j k with h|h
     ·exact HALL.out j h
     ·rw[List.getElem?_eq_none (by omega),List.getElem?_eq_none (by have:=HN.out;omega)]))
    go_wp2_with fail
    go_ret
    exact⟨cO HR.out.symm,HG.out⟩
 ·subst hva;subst hvb
  clear ha hb
  have hb1:((xs.length:Int) != (ys.length:Int))=true:=by simp;omega
  have HR:Hid (decide (xs=ys)=false):=hid (decide_eq_false (fun e=>hn (by rw[e])))
  clear hn
  go_enter Tryz.func154,Tryz.ntmps154
  go_wp2_with fail
  go_ret
  exact⟨cO HR.out.symm,G.refl _⟩
theorem JH{va vb:Value}{xs ys:List (List (List UInt8))}{w:World}(ha:fA w va xs)(hb:fA w vb ys)(lx:iL xs≤1000000)(ly:iL ys≤1000000):dA 105 #[va,vb] w (.bool (decide (xs=ys))):=by
 have HA:=hid ha
 have HB:=hid hb
 obtain⟨aa,ca,hva,_⟩:=ha.len
 obtain⟨ab,cb,hvb,_⟩:=hb.len
 subst hva;subst hvb
 clear ha hb
 go_enter Tryz.func105,Tryz.ntmps105
 go_wp2_with fail
 refine(Pj HA.out HB.out lx ly).use ?_
 intro w1 g1
 go_wp2_with fail
 go_ret
 exact⟨rfl,g1⟩
end Go.Proofs.YtmffejnigppbpaaGreatDoor

namespace Go.Proofs.YtmffejnigppbpaaGreatDoor
open Go.RowKit Go.Shelf
attribute [local go_sem] Oper.semAt_some
theorem yV(v:Int):∃p ps,(fM v).map Ent.text=p::ps∧aaM (fM v)=gp [124] p ps∧(∀q∈p::ps,(124:UInt8)∉q)∧(gp [124] p ps).length≤1000000:=by
 unfold fM
 split
 ·exact⟨_,_,rfl,rfl,by decide +kernel,by decide +kernel⟩
 ·exact⟨_,_,rfl,rfl,by decide +kernel,by decide +kernel⟩
theorem qo(v:Int):∀e∈fM v,Lib.fields e.text=[e.name,[UInt8.ofNat (48+e.ty)],[UInt8.ofNat (48+e.least)],[UInt8.ofNat (48+e.most)],[UInt8.ofNat (48+e.parts)]]∧e.ty<10∧e.least<10∧e.most<10∧e.parts<10∧e.text.length<100∧∀b∈e.text,b.toNat<128:=by
 unfold fM
 split
 ·decide +kernel
 ·decide +kernel
theorem yX{Bp B1 Bz:Nat}{X Y Z:World}(h:CJ Bp B1 Bz X Y)(k:CJ Bp B1 Bz Y Z):CJ Bp B1 Bz X Z:=⟨k.1.trans h.1,k.2.1.trans h.2.1,k.2.2.1.trans h.2.2.1,k.2.2.2.trans h.2.2.2⟩
theorem mF{Bp B1 Bz n:Nat}{W W':World}(h:Below n W W')(h1:Bp<n)(h2:B1<n)(h3:Bz<n):CJ Bp B1 Bz W W':=
 ⟨h.cell (p:=⟨Bp,0,none⟩) h1,h.cell (p:=⟨B1,0,none⟩) h2,h.cell (p:=⟨Bz,0,none⟩) h3,h.frozen (p:=⟨B1,0,none⟩) h2⟩
structure pX(b:Nat)(s:List UInt8)(r:Int×Int×Int×Int)(W:World):Prop where
 c0:W.cell? ⟨b,0,none⟩=some (.string (S s))
 r0:W.cell? ⟨b+1,0,none⟩=some (.int .i64 r.1)
 r1:W.cell? ⟨b+1,1,none⟩=some (.int .i64 r.2.1)
 r2:W.cell? ⟨b+1,2,none⟩=some (.int .i64 r.2.2.1)
 r3:W.cell? ⟨b+1,3,none⟩=some (.int .i64 r.2.2.2)
 er:W.cell? ⟨b+2,0,none⟩=some .nilIface
 f0:W.frozen? ⟨b+1,0,none⟩=false
 f1:W.frozen? ⟨b+1,1,none⟩=false
 f2:W.frozen? ⟨b+1,2,none⟩=false
 f3:W.frozen? ⟨b+1,3,none⟩=false
 fe:W.frozen? ⟨b+2,0,none⟩=false
theorem pX.own(b:Nat)(s:List UInt8)(r:Int×Int×Int×Int):Own (fun (_:List (List UInt8)) W=>pX b s r W):=
 fun x A B row h hg hr=>⟨cell_kept h.c0 hg hr,cell_kept h.r0 hg hr,cell_kept h.r1 hg hr,cell_kept h.r2 hg hr,cell_kept h.r3 hg hr,cell_kept h.er hg hr,
  (frozen_kept h.r0 hg hr).trans h.f0,(frozen_kept h.r1 hg hr).trans h.f1,(frozen_kept h.r2 hg hr).trans h.f2,(frozen_kept h.r3 hg hr).trans h.f3,(frozen_kept h.er hg hr).trans h.fe⟩
theorem pX.set{b:Nat}{s:List UInt8}{r:Int×Int×Int×Int}{W:World}(h:pX b s r W)(B:Nat)(v:Value)(h0:b+2<B):pX b s r (W.setCell ⟨B,0,none⟩ v):=by
 refine⟨?_,?_,?_,?_,?_,?_,?_,?_,?_,?_,?_⟩
 ·rw[World.cell?_setCell_other _ _ _ _ (by first|(simp;done)|(simp;omega))];exact h.c0
 ·rw[World.cell?_setCell_other _ _ _ _ (by first|(simp;done)|(simp;omega))];exact h.r0
 ·rw[World.cell?_setCell_other _ _ _ _ (by first|(simp;done)|(simp;omega))];exact h.r1
 ·rw[World.cell?_setCell_other _ _ _ _ (by first|(simp;done)|(simp;omega))];exact h.r2
 ·rw[World.cell?_setCell_other _ _ _ _ (by first|(simp;done)|(simp;omega))];exact h.r3
 ·rw[World.cell?_setCell_other _ _ _ _ (by first|(simp;done)|(simp;omega))];exact h.er
 ·rw[World.frozen?_setCell];exact h.f0
 ·rw[World.frozen?_setCell];exact h.f1
 ·rw[World.frozen?_setCell];exact h.f2
 ·rw[World.frozen?_setCell];exact h.f3
 ·rw[World.frozen?_setCell];exact h.fe
theorem lG{B:Nat}{W W':World}(h:Below W.heap.size W W'):KeepsFrom B W W':=⟨h.size,fun k o _ hk _=>(h.block k (Array.getElem?_eq_some_iff.1 hk).1).trans hk⟩
theorem pX.below{b n:Nat}{s:List UInt8}{r:Int×Int×Int×Int}{W W':World}(h:pX b s r W)(g:Below n W W')(hn:b+2<n):pX b s r W':=
 ⟨(g.cell (p:=⟨b,0,none⟩) (by simp;omega)).trans h.c0,(g.cell (p:=⟨b+1,0,none⟩) (by simp;omega)).trans h.r0,(g.cell (p:=⟨b+1,1,none⟩) (by simp;omega)).trans h.r1,(g.cell (p:=⟨b+1,2,none⟩) (by simp;omega)).trans h.r2,
  (g.cell (p:=⟨b+1,3,none⟩) (by simp;omega)).trans h.r3,(g.cell (p:=⟨b+2,0,none⟩) (by simp;omega)).trans h.er,
  (g.frozen (p:=⟨b+1,0,none⟩) (by simp;omega)).trans h.f0,(g.frozen (p:=⟨b+1,1,none⟩) (by simp;omega)).trans h.f1,(g.frozen (p:=⟨b+1,2,none⟩) (by simp;omega)).trans h.f2,(g.frozen (p:=⟨b+1,3,none⟩) (by simp;omega)).trans h.f3,(g.frozen (p:=⟨b+2,0,none⟩) (by simp;omega)).trans h.fe⟩
theorem Le{v:Int}{e e':Ent}(h:e∈fM v)(h':e'∈fM v)(ht:e'.text=e.text):e'.name=e.name:=by
 have a:=(qo v e h).1
 have b:=(qo v e' h').1
 rw[ht,a]at b
 exact(List.cons.inj b).1.symm
theorem pX.put{b:Nat}{s:List UInt8}{r:Int×Int×Int×Int}{W:World}(h:pX b s r W)(x0 x1 x2 x3:Int):pX b s (x0,x1,x2,x3) (((((W.setCell ⟨b+1,0,none⟩ (.int .i64 x0)).setCell ⟨b+1,1,none⟩ (.int .i64 x1)).setCell ⟨b+1,2,none⟩ (.int .i64 x2)).setCell ⟨b+1,3,none⟩ (.int .i64 x3)).setCell ⟨b+2,0,none⟩ .nilIface):=by
 refine⟨?_,?_,?_,?_,?_,?_,?_,?_,?_,?_,?_⟩
 ·(repeat rw[World.cell?_setCell_other _ _ _ _ (by first|(simp;done)|(simp;omega))])
  exact h.c0
 ·(repeat rw[World.cell?_setCell_other _ _ _ _ (by first|(simp;done)|(simp;omega))])
  exact World.cell?_setCell_same' _ _ _ (by(repeat rw[World.cell?_setCell_other _ _ _ _ (by first|(simp;done)|(simp;omega))]);rw[h.r0];rfl)
 ·(repeat rw[World.cell?_setCell_other _ _ _ _ (by first|(simp;done)|(simp;omega))])
  exact World.cell?_setCell_same' _ _ _ (by(repeat rw[World.cell?_setCell_other _ _ _ _ (by first|(simp;done)|(simp;omega))]);rw[h.r1];rfl)
 ·(repeat rw[World.cell?_setCell_other _ _ _ _ (by first|(simp;done)|(simp;omega))])
  exact World.cell?_setCell_same' _ _ _ (by(repeat rw[World.cell?_setCell_other _ _ _ _ (by first|(simp;done)|(simp;omega))]);rw[h.r2];rfl)
 ·(repeat rw[World.cell?_setCell_other _ _ _ _ (by first|(simp;done)|(simp;omega))])
  exact World.cell?_setCell_same' _ _ _ (by(repeat rw[World.cell?_setCell_other _ _ _ _ (by first|(simp;done)|(simp;omega))]);rw[h.r3];rfl)
 ·(repeat rw[World.cell?_setCell_other _ _ _ _ (by first|(simp;done)|(simp;omega))])
  exact World.cell?_setCell_same' _ _ _ (by(repeat rw[World.cell?_setCell_other _ _ _ _ (by first|(simp;done)|(simp;omega))]);rw[h.er];rfl)
 ·simp only[World.frozen?_setCell];exact h.f0
 ·simp only[World.frozen?_setCell];exact h.f1
 ·simp only[World.frozen?_setCell];exact h.f2
 ·simp only[World.frozen?_setCell];exact h.f3
 ·simp only[World.frozen?_setCell];exact h.fe
theorem Tu(v:Int):((fM v).map Ent.name).Nodup:=by
 unfold fM
 split
 ·decide +kernel
 ·decide +kernel
theorem WM(T:List Ent)(h:(T.map Ent.name).Nodup)(e:Ent)(he:e∈T):T.find? (fun x=>x.name==e.name)=some e:=by
 induction T with
 |nil=>cases he
 |cons a T ih=>
  rw[List.map_cons,List.nodup_cons]at h
  rcases List.mem_cons.1 he with rfl|he
  ·simp
  ·have hne:a.name≠e.name:=fun hc=>h.1 (by rw[hc];exact List.mem_map_of_mem he)
   rw[List.find?_cons_of_neg (by simpa using hne)]
   exact ih h.2 he
theorem Va{v:Int}{e:Ent}{u:List UInt8}(he:e∈fM v)(hn:e.name=u):iM (fM v) u=((e.ty:Int),(e.least:Int),(e.most:Int),(e.parts:Int)):=by
 unfold iM
 rw[←hn,WM _ (Tu v) e he]
structure Dig(B:Nat)(e:Ent)(k:Nat)(w:World):Prop where
 c0:w.cell? ⟨B,0,none⟩=some (.int .i64 (if 0<k then e.ty else 0))
 c1:w.cell? ⟨B,1,none⟩=some (.int .i64 (if 1<k then e.least else 0))
 c2:w.cell? ⟨B,2,none⟩=some (.int .i64 (if 2<k then e.most else 0))
 c3:w.cell? ⟨B,3,none⟩=some (.int .i64 (if 3<k then e.parts else 0))
 f0:w.frozen? ⟨B,0,none⟩=false
 f1:w.frozen? ⟨B,1,none⟩=false
 f2:w.frozen? ⟨B,2,none⟩=false
 f3:w.frozen? ⟨B,3,none⟩=false
theorem Dig.grow{B:Nat}{e:Ent}{k:Nat}{w w':World}(h:Dig B e k w)(g:G w w'):Dig B e k w':=by
 have hb:B<w.heap.size:=World.block_lt_of_cell? _ _ h.c0
 exact⟨(g.cell hb).trans h.c0,(g.cell hb).trans h.c1,(g.cell hb).trans h.c2,(g.cell hb).trans h.c3,(g.below.frozen hb).trans h.f0,(g.below.frozen hb).trans h.f1,(g.below.frozen hb).trans h.f2,(g.below.frozen hb).trans h.f3⟩
theorem Dig.set{B:Nat}{e:Ent}{k:Nat}{w:World}(h:Dig B e k w)(hk:k<4):Dig B e (k+1) (w.setCell ⟨B,k,none⟩ (.int .i64 (match k with|0=>e.ty|1=>e.least|2=>e.most|_=>e.parts:Nat))):=by
 have h1:k=0∨k=1∨k=2∨k=3:=by omega
 obtain⟨a0,a1,a2,a3,b0,b1,b2,b3⟩:=h
 rcases h1 with rfl|rfl|rfl|rfl
 all_goals
  refine⟨?_,?_,?_,?_,?_,?_,?_,?_⟩
  all_goals first
   |(rw[World.frozen?_setCell];assumption)
   |(rw[World.cell?_setCell_other _ _ _ _ (by simp)];assumption)
   |(refine World.cell?_setCell_same' _ _ _ ?_;simp[*])
end Go.Proofs.YtmffejnigppbpaaGreatDoor

set_option maxHeartbeats 40000000
set_option maxRecDepth 100000
namespace Go.Proofs.YtmffejnigppbpaaGreatDoor
open Go.RowKit Go.Shelf
attribute [local go_sem] Oper.semAt_some
theorem abG(s : List UInt8)(w : World)(hs : s.length ≤ 1000000)(hsp : Lib.TabIs Tryz.prog w "strings.asciiSpace" .u8 Lib.asciiSpaceTab) :
  CallsIn Fence.wide 6 Tryz.prog 20 #[.string (S s),.int .i64 4] w fun e w'=>e=.returned (.tuple #[.agg #[.int .i64 (iM (fM 4) (bU s)).1,.int .i64 (iM (fM 4) (bU s)).2.1,.int .i64 (iM (fM 4) (bU s)).2.2.1,.int .i64 (iM (fM 4) (bU s)).2.2.2],.nilIface])∧Below w.heap.size w w':=by
 have tb:=fun W=>yY 4 W
 have TB:=hid tb
 clear tb
 refine callsIn_of_wp_marks Tryz.func20 rfl trivial ?_ rfl
 simp only[Tryz.ntmps20,List.size_toArray,List.length_cons,List.length_nil,Nat.reduceAdd,Nat.reduceSub,Array.replicate_succ,Array.replicate_zero,List.push_toArray,List.append_toArray,List.nil_append,List.cons_append]
 gi_wp2_with (first|(refine⟨trivial,?_⟩;gi_at_call 57;refine(callsIn_wide.2 (TB.out _)).mono ?_;rintro e w' ⟨rfl,rfl⟩)|(refine⟨trivial,?_⟩;gi_at_call 56;refine(callsIn_wide.2 (rX _ _ _)).mono ?_;rintro e w' ⟨rfl,rfl⟩))
 obtain⟨p,ps,e1,e2,e3,e4⟩:=yV 4
 rw[e2]
 generalize hW0:World.alloc _ (Obj.cells #[Value.int IntKind.i64 0] 3)=W0
 have z0:W0.heap.size=w.heap.size+6:=by rw[←hW0];simp
 have c0:W0.cell? ⟨w.heap.size,0,none⟩=some (.string (S s)):=by rw[←hW0];simp[go_sem]
 have c2:W0.cell? ⟨w.heap.size+3,0,none⟩=some (.string (S (gp [124] p ps))):=by rw[←hW0];simp[go_sem]
 have c3:W0.cell? ⟨w.heap.size+4,0,none⟩=some (.string (S [124])):=by rw[←hW0];simp[go_sem]
 have c4:W0.cell? ⟨w.heap.size+5,0,none⟩=some (.int .i64 0):=by rw[←hW0];simp[go_sem]
 have f2:W0.frozen? ⟨w.heap.size+3,0,none⟩=false:=by rw[←hW0];simp[go_sem]
 have hof:pX w.heap.size s (0,0,0,0) W0:=by rw[←hW0];refine⟨?_,?_,?_,?_,?_,?_,?_,?_,?_,?_,?_⟩<;>simp[go_sem]
 have hB0:Below w.heap.size w W0:=by rw[←hW0];repeat (first|exact Below.refl _ _|(refine Below.alloc ?_ (by simp;try omega) _))
 refine lQ (B:=w.heap.size+3) (by omega) rfl (by decide) (gf:=146) (lb:=#[.pointer (some ⟨w.heap.size+4,0,none⟩),.pointer (some ⟨w.heap.size+3,0,none⟩),.pointer (some ⟨w.heap.size+5,0,none⟩)]) rfl trivial (enters_of Tryz.func146 (by kernel_rfl) rfl)
  (y8 5 (w.heap.size+4) (w.heap.size+3) (w.heap.size+5) (by omega) (by omega) (by omega) p ps e3 e4 W0 (by omega) (by omega) (by omega) c3 c2 c4 f2) yX
  (fun W l o o' hl hW ho hw=>mF (belowK_b (w:=W0) (Nat.le_refl _) W l o o' hl hW ho hw) (by omega) (by omega) (by omega)) (Below.refl _ _) (fun _=>rfl)
  (fun pre W=>(pX w.heap.size s (0,0,0,0) W∧(∀e∈fM 4,e.text∈pre→¬e.name=bU s)∧W0.heap.size≤W.heap.size)∧Below w.heap.size w W)
  (fun c pre W=>(pX w.heap.size s (iM (fM 4) (bU s)) W∧c=.ret)∧Below w.heap.size w W)
  (OwnFrom.and (Own.from (fun x A B row hs hg hr=>⟨pX.own _ _ _ x A B row hs.1 hg hr,hs.2.1,Nat.le_trans hs.2.2 hg.size⟩) _) (ownFrom_below (Nat.le_refl _) (by omega)))
  (fun x W v hs=>⟨⟨hs.1.1.set _ _ (by omega),hs.1.2.1,Nat.le_trans hs.1.2.2 (by simp)⟩,hs.2.setCell (p:=⟨w.heap.size+3,0,none⟩) (by simp) _⟩)
  (fun c=>OwnFrom.and (Own.from (fun x A B row hs hg hr=>⟨pX.own _ _ _ x A B row hs.1 hg hr,hs.2⟩) _) (ownFrom_below (Nat.le_refl _) (by omega)))
  ⟨⟨hof,by simp,Nat.le_refl _⟩,hB0⟩
  (fun x=>{ tmps:=#[.string (S s),.int .i64 4,.pointer (some ⟨w.heap.size,0,none⟩),undef,.pointer (some ⟨w.heap.size+1,0,none⟩),.pointer (some ⟨w.heap.size+1+1,0,none⟩),.string (S x),undef,undef,undef,.int .i64 4,.bool true,.bool true,.int .i64 4,.bool false,.bool false,undef,undef,.int .i64 4,.string (S (gp [124] p ps)),.func (.func 146) #[] #[.pointer (some ⟨w.heap.size+4,0,none⟩),.pointer (some ⟨w.heap.size+3,0,none⟩),.pointer (some ⟨w.heap.size+5,0,none⟩)],.string (S x),undef,undef,undef,undef,undef,undef,undef,undef,undef,undef,undef,undef,undef,undef,undef,undef,undef,undef,undef,undef,undef,undef,undef,undef,undef,undef,undef,undef,undef,undef,undef,undef,undef],defers:=[] })
  ?assign ?body ?done ?stop
 case assign=>
  intro l x W K hK
  gi_wp2
  exact hK
 case body=>
  rintro l pre x W ⟨⟨ho,hne,hsz⟩,hB⟩ hpre
  have hx:x∈(fM 4).map Ent.text:=by rw[e1];exact hpre.subset (by simp)
  obtain⟨e,he,rfl⟩:=List.mem_map.1 hx
  obtain⟨hf,t1,t2,t3,t4,hlen,hasc⟩:=qo 4 e he
  have fl:=Tryz.strings_Fields_laid (S e.text) W (by simp;omega) (fun j b hb=>hasc b (by simp at hb;exact List.mem_of_getElem? hb)) (Lib.tabBelow_of_tabIs hsp W hB)
  rw[show(S e.text).data.toList=e.text from by simp,hf]at fl
  have FL:=hid fl
  have up:=fun W=>kV s W (by omega)
  have UP:=hid up
  have ho0:=ho.c0
  clear fl up
  gi_wp2_with (refine⟨trivial,?_⟩;gi_at_call 58;refine(CallsIn.inRound l (callsIn_wide.2 FL.out)).mono ?_;rintro e' w' ⟨rfl,rfl⟩)
  generalize hW5:W.alloc _=W5
  have gW5:Below W.heap.size W W5:=by rw[←hW5];exact(Below.refl _ _).alloc (Nat.le_refl _) _
  have g5:Below w.heap.size w W5:=by rw[←hW5];exact hB.alloc hB.size _
  have k5:∀i,i<5→W5.cell? ⟨W.heap.size,i,none⟩=([e.name,[UInt8.ofNat (48+e.ty)],[UInt8.ofNat (48+e.least)],[UInt8.ofNat (48+e.most)],[UInt8.ofNat (48+e.parts)]].map fun l=>Value.string (S l))[i]?:=by
   intro i hi
   have h5:i=0∨i=1∨i=2∨i=3∨i=4:=by omega
   rw[←hW5]
   rcases h5 with rfl|rfl|rfl|rfl|rfl<;>simp[go_sem]<;>rfl
  have a0:W5.cell? ⟨W.heap.size,0,none⟩=some (.string (S e.name)):=k5 0 (by decide)
  have o5:pX w.heap.size s (0,0,0,0) W5:=by rw[←hW5];exact pX.own _ _ _ [] W _ none ho (World.grownBy_alloc W _ none) (fun r e=>by cases e)
  have o0:=o5.c0
  have hl5:W.heap.size<W5.heap.size:=by rw[←hW5];simp
  have hl6:w.heap.size<W5.heap.size:=Nat.lt_of_le_of_lt hB.size hl5
  have hd:1≤6-1-1:=by decide
  by_cases hn:e.name=bU s
  ·have hnb:(e.name==bU s)=true:=beq_iff_eq.2 hn
   have hmx:Tryz.prog.follows .mixedOrders=true:=by kernel_rfl
   gi_region_with_o (refine⟨trivial,?_⟩;gi_at_call 52;refine(CallsIn.inRound l (callsIn_wide.2 (UP.out _))).mono ?_;rintro e' w' ⟨rfl,hg'⟩;have q0:w'.cell? ⟨W.heap.size,0,none⟩=some (.string (S e.name)):=(G.cell hg' (p:=⟨W.heap.size,0,none⟩) hl5).trans a0;have q1:w'.cell? ⟨w.heap.size,0,none⟩=some (.string (S s)):=(G.cell hg' (p:=⟨w.heap.size,0,none⟩) hl6).trans o0)
   all_goals gi_wp2_with fail
   all_goals
    have hl7:W.heap.size<w'.heap.size:=Nat.lt_of_lt_of_le hl5 hg'.below.size
    obtain⟨l1,hl1'⟩:∃x,x=[UInt8.ofNat (48+e.ty)]:=⟨_,rfl⟩
    have r1:w'.cell? ⟨W.heap.size,1,none⟩=some (.string (S l1)):=by rw[hl1'];exact(G.cell hg' (p:=⟨W.heap.size,1,none⟩) hl5).trans (k5 1 (by decide))
    obtain⟨l2,hl2'⟩:∃x,x=[UInt8.ofNat (48+e.least)]:=⟨_,rfl⟩
    have r2:w'.cell? ⟨W.heap.size,2,none⟩=some (.string (S l2)):=by rw[hl2'];exact(G.cell hg' (p:=⟨W.heap.size,2,none⟩) hl5).trans (k5 2 (by decide))
    obtain⟨l3,hl3'⟩:∃x,x=[UInt8.ofNat (48+e.most)]:=⟨_,rfl⟩
    have r3:w'.cell? ⟨W.heap.size,3,none⟩=some (.string (S l3)):=by rw[hl3'];exact(G.cell hg' (p:=⟨W.heap.size,3,none⟩) hl5).trans (k5 3 (by decide))
    obtain⟨l4,hl4'⟩:∃x,x=[UInt8.ofNat (48+e.parts)]:=⟨_,rfl⟩
    have r4:w'.cell? ⟨W.heap.size,4,none⟩=some (.string (S l4)):=by rw[hl4'];exact(G.cell hg' (p:=⟨W.heap.size,4,none⟩) hl5).trans (k5 4 (by decide))
    have at1:∀W,dA 59 #[.string (S l1)] W (.tuple #[.int .i64 e.ty,.nilIface]):=fun W=>by rw[hl1'];exact jS e.ty W t1
    have at2:∀W,dA 59 #[.string (S l2)] W (.tuple #[.int .i64 e.least,.nilIface]):=fun W=>by rw[hl2'];exact jS e.least W t2
    have at3:∀W,dA 59 #[.string (S l3)] W (.tuple #[.int .i64 e.most,.nilIface]):=fun W=>by rw[hl3'];exact jS e.most W t3
    have at4:∀W,dA 59 #[.string (S l4)] W (.tuple #[.int .i64 e.parts,.nilIface]):=fun W=>by rw[hl4'];exact jS e.parts W t4
    have A1:=hid at1
    have A2:=hid at2
    have A3:=hid at3
    have A4:=hid at4
    clear at1 at2 at3 at4 k5 a0 q0 hlen hasc hf hl1' hl2' hl3' hl4' e1 e2 e3 e4 hx hpre
    have hbl:Below w'.heap.size w' (w'.alloc (Obj.cells #[Value.int IntKind.i64 0,Value.int IntKind.i64 0,Value.int IntKind.i64 0,Value.int IntKind.i64 0] 92)):=(Below.refl _ _).alloc (Nat.le_refl _) _
    have hdg:Dig w'.heap.size e 0 (w'.alloc (Obj.cells #[Value.int IntKind.i64 0,Value.int IntKind.i64 0,Value.int IntKind.i64 0,Value.int IntKind.i64 0] 92)):=by refine⟨?_,?_,?_,?_,?_,?_,?_,?_⟩<;>simp[go_sem]
    gi_loopw [30] (fun i wr=>∃k:Nat,k≤4∧i=.int .i64 k∧Dig w'.heap.size e k wr∧Below w'.heap.size w' wr) (fun i _=>4-(intOf i).toNat)
    case atStart=>exact⟨0,by omega,rfl,hdg,hbl⟩
    case round=>
     obtain⟨k,hk,rfl,hd',hb'⟩:=hrel
     have HD:=hid hd'
     have HB:=hid hb'
     have v1:=(hb'.cell (p:=⟨W.heap.size,1,none⟩) hl7).trans r1
     have v2:=(hb'.cell (p:=⟨W.heap.size,2,none⟩) hl7).trans r2
     have v3:=(hb'.cell (p:=⟨W.heap.size,3,none⟩) hl7).trans r3
     have v4:=(hb'.cell (p:=⟨W.heap.size,4,none⟩) hl7).trans r4
     obtain⟨d0,d1,d2,d3,f0,f1,f2,f3⟩:=hd'
     clear hb' hdg hbl r1 r2 r3 r4
     have hG:Below W.heap.size W wr:=(gW5.drew.trans (Below.mono hg'.below (Nat.le_of_lt hl5))).trans (HB.out.mono (Nat.le_of_lt (Nat.lt_of_lt_of_le hl5 hg'.below.size)))
     by_cases hk4:k=4
     ·subst hk4
      clear v1 v2 v3 v4
      simp only[Nat.reduceLT,if_true]at d0 d1 d2 d3
      have o6:=ho.below hG (by omega)
      have y0:=o6.c0
      have y1:=o6.r0
      have y2:=o6.r1
      have y3:=o6.r2
      have y4:=o6.r3
      have y5:=o6.er
      have g1:=o6.f0
      have g2:=o6.f1
      have g3:=o6.f2
      have g4:=o6.f3
      have g5':=o6.fe
      gi_wp2
      have o7:=o6.put e.ty e.least e.most e.parts
      have hr:iM (fM 4) (bU s)=((e.ty:Int),(e.least:Int),(e.most:Int),(e.parts:Int)):=Va he hn
      have hB3:=(((((hB.trans (hG.mono hB.size)).setCell (p:=⟨w.heap.size+1,0,none⟩) (by simp) (.int .i64 e.ty)).setCell (p:=⟨w.heap.size+1,1,none⟩) (by simp) (.int .i64 e.least)).setCell (p:=⟨w.heap.size+1,2,none⟩) (by simp) (.int .i64 e.most)).setCell (p:=⟨w.heap.size+1,3,none⟩) (by simp) (.int .i64 e.parts)).setCell (p:=⟨w.heap.size+2,0,none⟩) (by simp) .nilIface
      have hK3:=(((((KeepsOthers.setCell wr ⟨w.heap.size+1,0,none⟩ (.int .i64 e.ty)).trans (KeepsOthers.setCell _ ⟨w.heap.size+1,1,none⟩ (.int .i64 e.least))).trans (KeepsOthers.setCell _ ⟨w.heap.size+1,2,none⟩ (.int .i64 e.most))).trans (KeepsOthers.setCell _ ⟨w.heap.size+1,3,none⟩ (.int .i64 e.parts))).trans (KeepsOthers.setCell _ ⟨w.heap.size+2,0,none⟩ .nilIface)).from (w.heap.size+6)
      exact⟨(lG hG).trans hK3,⟨by rw[hr];exact o7,rfl⟩,hB3⟩
     ·have hk5:k=0∨k=1∨k=2∨k=3:=by omega
      clear hk4 hk
      rcases hk5 with rfl|rfl|rfl|rfl
      ·gi_wp2_with (refine⟨trivial,?_⟩;gi_at_call 59;refine(CallsIn.inRound l (callsIn_wide.2 (A1.out _))).mono ?_;rintro e' wx ⟨rfl,hx'⟩;have x0:=(HD.out.grow hx').c0;have x1:=(HD.out.grow hx').f0)
       go_roundw
       case rel=>exact⟨1,by omega,rfl,(HD.out.grow hx').set (by omega),(HB.out.trans (hx'.below.mono HB.out.size)).setCell (Nat.le_refl _) _⟩
       case measure=>simp[intOf]
      ·gi_wp2_with (refine⟨trivial,?_⟩;gi_at_call 59;refine(CallsIn.inRound l (callsIn_wide.2 (A2.out _))).mono ?_;rintro e' wx ⟨rfl,hx'⟩;have x0:=(HD.out.grow hx').c1;have x1:=(HD.out.grow hx').f1)
       go_roundw
       case rel=>exact⟨2,by omega,rfl,(HD.out.grow hx').set (by omega),(HB.out.trans (hx'.below.mono HB.out.size)).setCell (Nat.le_refl _) _⟩
       case measure=>simp[intOf]
      ·gi_wp2_with (refine⟨trivial,?_⟩;gi_at_call 59;refine(CallsIn.inRound l (callsIn_wide.2 (A3.out _))).mono ?_;rintro e' wx ⟨rfl,hx'⟩;have x0:=(HD.out.grow hx').c2;have x1:=(HD.out.grow hx').f2)
       go_roundw
       case rel=>exact⟨3,by omega,rfl,(HD.out.grow hx').set (by omega),(HB.out.trans (hx'.below.mono HB.out.size)).setCell (Nat.le_refl _) _⟩
       case measure=>simp[intOf]
      ·gi_wp2_with (refine⟨trivial,?_⟩;gi_at_call 59;refine(CallsIn.inRound l (callsIn_wide.2 (A4.out _))).mono ?_;rintro e' wx ⟨rfl,hx'⟩;have x0:=(HD.out.grow hx').c3;have x1:=(HD.out.grow hx').f3)
       go_roundw
       case rel=>exact⟨4,by omega,rfl,(HD.out.grow hx').set (by omega),(HB.out.trans (hx'.below.mono HB.out.size)).setCell (Nat.le_refl _) _⟩
       case measure=>simp[intOf]
  have hnb:(e.name==bU s)=false:=beq_eq_false_iff_ne.2 hn
  have hmx:Tryz.prog.follows .mixedOrders=true:=by kernel_rfl
  gi_region_with_o (refine⟨trivial,?_⟩;gi_at_call 52;refine(CallsIn.inRound l (callsIn_wide.2 (UP.out _))).mono ?_;rintro e' w' ⟨rfl,hg'⟩;have q0:w'.cell? ⟨W.heap.size,0,none⟩=some (.string (S e.name)):=(G.cell hg' (p:=⟨W.heap.size,0,none⟩) hl5).trans a0;have q1:w'.cell? ⟨w.heap.size,0,none⟩=some (.string (S s)):=(G.cell hg' (p:=⟨w.heap.size,0,none⟩) hl6).trans o0)
  all_goals gi_wp2
  all_goals
   have hG:Below W.heap.size W w':=gW5.drew.trans (Below.mono hg'.below (Nat.le_of_lt hl5))
   exact⟨lG hG,mF hG (by omega) (by omega) (by omega),⟨ho.below hG (by omega),fun e' he' hm=>(List.mem_append.1 hm).elim (hne e' he') (fun h=>by rw[Le he he' (by simpa using h)];exact hn),Nat.le_trans hsz hG.size⟩,hB.trans (hG.mono hB.size)⟩
 case done=>
  rintro D W hD ⟨⟨ho,hne,hsz⟩,hB⟩ hK
  have d1:=ho.r0
  have d2:=ho.r1
  have d3:=ho.r2
  have d4:=ho.r3
  have d5:=ho.er
  have y1:=ho.f0
  have y2:=ho.f1
  have y3:=ho.f2
  have y4:=ho.f3
  have y5:=ho.fe
  gi_wp2
  have ho3:=ho.put 8 0 0 0
  have hB3:=((((hB.setCell (p:=⟨w.heap.size+1,0,none⟩) (by simp) (.int .i64 8)).setCell (p:=⟨w.heap.size+1,1,none⟩) (by simp) (.int .i64 0)).setCell (p:=⟨w.heap.size+1,2,none⟩) (by simp) (.int .i64 0)).setCell (p:=⟨w.heap.size+1,3,none⟩) (by simp) (.int .i64 0)).setCell (p:=⟨w.heap.size+2,0,none⟩) (by simp) .nilIface
  have hK3:=(((((KeepsOthers.setCell W ⟨w.heap.size+1,0,none⟩ (.int .i64 8)).trans (KeepsOthers.setCell _ ⟨w.heap.size+1,1,none⟩ (.int .i64 0))).trans (KeepsOthers.setCell _ ⟨w.heap.size+1,2,none⟩ (.int .i64 0))).trans (KeepsOthers.setCell _ ⟨w.heap.size+1,3,none⟩ (.int .i64 0))).trans (KeepsOthers.setCell _ ⟨w.heap.size+2,0,none⟩ .nilIface)).same D _ hK rfl
  have hr:iM (fM 4) (bU s)=(8,0,0,0):=by
   unfold iM
   rw[List.find?_eq_none.2 (fun e he=>by
    have:=hne e he (by rw[←e1];exact List.mem_map_of_mem he)
    simp[this])]
  rw[hr]
  generalize hW3:World.setCell _ _ Value.nilIface=W3 at ho3 hB3 hK3⊢
  refine⟨by simp,.inl ⟨_,_,rfl,run_takeDeferred hK3,?_⟩⟩
  have ho2:=pX.own _ _ _ [] W3 _ (some D) ho3 (grownBy_putObj' _ D (.deferred none)) (fun r e=>by cases e;exact⟨_,hK3,rfl⟩)
  have d1:=ho2.r0
  have d2:=ho2.r1
  have d3:=ho2.r2
  have d4:=ho2.r3
  have d5:=ho2.er
  refine⟨_,?_,rfl,hB3.trans (belowK_b (w:=w) (Nat.le_refl _) W3 D _ _ (by omega) hK3 rfl rfl)⟩
  simp[results,Tryz.f20,go_sem,d1,d2,d3,d4,d5]
 case stop=>
  rintro D c pre W hD hpre ⟨⟨ho,rfl⟩,hB⟩ hK
  gi_wp2
  refine⟨by simp,.inl ⟨_,_,rfl,run_takeDeferred hK,?_⟩⟩
  have ho2:=pX.own _ _ _ [] W _ (some D) ho (grownBy_putObj' _ D (.deferred none)) (fun r e=>by cases e;exact⟨_,hK,rfl⟩)
  have d1:=ho2.r0
  have d2:=ho2.r1
  have d3:=ho2.r2
  have d4:=ho2.r3
  have d5:=ho2.er
  refine⟨_,?_,rfl,hB.trans (belowK_b (w:=w) (Nat.le_refl _) W D _ _ (by omega) hK rfl rfl)⟩
  simp[results,Tryz.f20,go_sem,d1,d2,d3,d4,d5]
end Go.Proofs.YtmffejnigppbpaaGreatDoor

namespace Go.Proofs.YtmffejnigppbpaaGreatDoor
open Go.RowKit
def lJ(c:UInt8):Int:=Lib.indexByte oq c
theorem sG(c:UInt8):lJ c = -1∨(0≤lJ c∧lJ c<64∧dL (og (lJ c))=c∧c≠61):=by
 have:=ou (fun c=>decide (lJ c = -1∨(0≤lJ c∧lJ c<64∧dL (og (lJ c))=c∧c≠61))) (by decide +kernel) c
 exact of_decide_eq_true this
theorem Xn:lJ 61 = -1:=by decide +kernel
def oK(n:Int):List UInt8:=[dL (n/65536),dL (n/256%256),dL (n%256)]
def jK(a b c d:Int):Int:=((a*64+b)*64+c)*64+d
def qL(last:Bool)(c0 c1 c2 c3:UInt8):Except Nat (List UInt8):=
 if lJ c0<0 then .error 0
 else if lJ c1<0 then .error 1
 else if last=true∧c3=61∧c2=61 then
  (if jK (lJ c0) (lJ c1) 0 0%65536=0 then .ok ((oK (jK (lJ c0) (lJ c1) 0 0)).take 1)else .error 1)
 else if lJ c2<0 then .error 2
 else if last=true∧c3=61 then
  (if jK (lJ c0) (lJ c1) (lJ c2) 0%256=0 then .ok ((oK (jK (lJ c0) (lJ c1) (lJ c2) 0)).take 2)else .error 2)
 else if lJ c3<0 then .error 3
 else .ok (oK (jK (lJ c0) (lJ c1) (lJ c2) (lJ c3)))
def qi:List UInt8→Except Nat (List UInt8)
 |c0::c1::c2::c3::t=>
  match qL t.isEmpty c0 c1 c2 c3 with
  |.error p=>.error p
  |.ok bs=>match qi t with
   |.error p=>.error (p+4)
   |.ok cs=>.ok (bs++cs)
 |_=>.ok []
theorem vV{ops:Array Oper}{rest:List Oper}{o:Oper}{a:Act}{Q:Exit→Act→World→Prop}{w wr:World}(hgd:o.guard=none)(s x:Operand)(t:TypeId)(ho:o.op=.call { callee:=.builtin .append,args:=#[s,x],argTypes:=#[t,t] })(e:TypeId)(i:TypeInfo)(z:Value)(bytes:Nat)(ht:Tryz.prog.underlying t=some (.slice e))(hi:Tryz.prog.info? e=some i)(hz:i.zero=some z)(hsize:i.size=1)(hby:i.bytes=bytes)(hzs:z.cells.size=1)(v:Value)(n:Nat)(xs:List Value)(hs:a.eval s=v)(hown:wr.ownsRow w.heap.size e 1 v n xs)(hg:G w wr)(us:List Value)(m cap:Nat)(hm:m≤us.length)(hx:a.eval x=.slice (some ⟨wr.heap.size,0,none⟩) m cap)(h1:∀u∈us,u.oneCell'=true)(hbytes:(n+m)*bytes≤140737488355328)(h63:n+m≤140737488355328)(h:∀v' w',w'.ownsRow w.heap.size e 1 v' (n+m) (xs++us.take m)→G w w'→wpList Tryz.prog ops Q rest (a.put o.dst v') w') :
  wpList Tryz.prog ops Q (o::rest) a (wr.alloc (.cells us.toArray e)):=by
 refine wpList_append_own _ hgd s x t ho w.heap.size e i z 1 bytes ht hi hz hsize hby hzs (by decide) v n xs hs (hown.alloc _) ⟨wr.heap.size,0,none⟩ m cap (us.take m) hx (by simp;omega) ?_ (fun u hu=>h1 u (List.mem_of_mem_take hu)) (by unfold maxLen;omega) hbytes (by have:=hg.size;simp;omega) ?_
 ·intro j u hj
  have:(⟨wr.heap.size,0,none⟩:Addr).add j=⟨wr.heap.size,j,none⟩:=by unfold Addr.add;split<;>simp_all
  rw[this,World.cell?_alloc_new]
  have hjm:j<m:=by
   rcases Nat.lt_or_ge j m with h|h
   ·exact h
   ·rw[List.getElem?_eq_none (by simp;omega)]at hj;cases hj
  rw[List.getElem?_take_of_lt hjm]at hj
  simpa using hj
 ·intro v' w' h2 h3 h4
  refine h v' w' h2 ?_
  refine(hg.alloc (.cells us.toArray e)).grown h3 (by have:=hg.size;simp;omega) ?_
  intro k hk
  exact((hown.alloc (.cells us.toArray e)).lt k hk).1
theorem Xo{w:World}{B:Nat}{v:Value}{bs:List UInt8}(h:w.ownsRow B 5 1 v bs.length (bs.map fun c=>Value.int .u8 (c.toNat:Int))) :
  (convert 122 9 v).run Tryz.prog w=.ok (.string (S bs)) w:=by
 obtain⟨h1,h2⟩:=h
 rcases h2 with⟨rfl,h0⟩|⟨g,cap,cur,hv,hb,hh,hn,hm,hcs,ht⟩
 ·have:bs=[]:=List.eq_nil_of_length_eq_zero h0
  subst this
  exact run_convert_bytes_nil (P:=Tryz.prog) w 122 5 Tryz.underlying122 Tryz.underlying5 0 0 9 Tryz.underlying9
 ·subst hv
  refine run_convert_bytes_back (P:=Tryz.prog) w 122 9 5 ⟨g,0,none⟩ cap bs Tryz.underlying122 Tryz.underlying5 Tryz.underlying9 (fun j hj=>?_)
  have e:(⟨g,0,none⟩:Addr).add j=⟨g,j,none⟩:=by unfold Addr.add;split<;>simp_all
  rw[e]
  have:=World.ownsRow.cellAt (w:=w) (base:=B) (e:=5) (size:=1) (g:=g) (n:=bs.length) (cap:=cap) (xs:=bs.map fun c=>Value.int .u8 (c.toNat:Int)) ⟨h1,Or.inr ⟨g,cap,cur,rfl,hb,hh,hn,hm,hcs,ht⟩⟩ j (by omega)
  rw[this]
  simp[List.getElem?_eq_getElem hj]
end Go.Proofs.YtmffejnigppbpaaGreatDoor
