/-
  Texts merged into one: Row8, WhenDate, SeqSplit, RulesTab, RulesOf, NameF, DoorW, DoorR.
-/
import Derived.Test.YtmffejnigppbpaaGreatDoorDXMA65
import Derived.Test.YtmffejnigppbpaaGreatDoorDXMA69
import Derived.Test.YtmffejnigppbpaaGreatDoorDXWhenPrint
import Derived.Deep.RegionHeld3
import Derived.WideMake
import Derived.Laws.Tables
import Derived.Shelf.Strings.MapAny
import Derived.Test.YtmffejnigppbpaaGreatDoorDXMA52
import Derived.Shelf.Abstract
import Derived.OwnWalkIn
import Derived.TacticsInMore
import Derived.LoopNIn
import Derived.LoopIn
import Derived.Test.YtmffejnigppbpaaGreatDoorDXMA59
import Derived.RangeFuncBound
import Derived.RangeFuncCalls
import Derived.Lib.AppendIntMem
import Derived.TacticsIn
import Derived.RegionIn
import Derived.Shelf.RegionOpen
import Derived.Test.YtmffejnigppbpaaGreatDoorRows
import Derived.ChangeSame
import Derived.ChangeVars
import Derived.JoinedOf
import Derived.RowKit
import Derived.RowKitTokens
import Derived.LaidLaws
import Derived.LaidHandle
import Derived.Stop.Joined
import Derived.Lib.LaidU8
import Derived.Test.YtmffejnigppbpaaGreatDoorDXMRules
set_option linter.unusedVariables false
set_option linter.unusedSimpArgs false
namespace Go.Proofs.YtmffejnigppbpaaGreatDoor
open Go.RowKit
section
variable {W w:World} {b:Nat} {T:TypeId} {c0 c1 c2 c3 c4 c5 c6 c7:Value}
theorem avE{w w':World}{b:Nat}{o:Obj}(h:w.heap[b]?=some o)(g:G w w'):w'.heap[b]?=some o:=(g.below.block b (Array.getElem?_eq_some_iff.1 h).1).trans h
theorem amH{w w2:World}{o p:Obj}(g:G ((w.alloc o).alloc p) w2):w2.heap[w.heap.size]?=some o:=avE (by rw[Lib.alloc_old _ _ _ (by simp)];exact heap_alloc_new w o) g
theorem amI{w w2:World}{o p:Obj}(g:G ((w.alloc o).alloc p) w2):w2.heap[w.heap.size+1]?=some p:=avE (by have:=heap_alloc_new (w.alloc o) p;simpa using this) g
theorem afK{w W:World}{X i:Nat}{v:Value}(h:G w W)(hX:w.heap.size≤X):G w (W.setCell ⟨X,i,none⟩ v):=Below.setCell h (by simpa using hX) _
end
end Go.Proofs.YtmffejnigppbpaaGreatDoor

namespace Go.Proofs.YtmffejnigppbpaaGreatDoor
open Go.RowKit
def shF(x:Int):Int:=if 48≤x∧x≤57 then 57 else x
def ac8(s:List UInt8):List UInt8:=Lib.mapD shF s
def ayC(w:World):Prop:=Lib.Utf8Tabs 6 7 w
theorem ayC.grow{w w':World}(h:ayC w)(g:G w w'):ayC w':=Utf8Tabs_below h g
def dgB(c:UInt8):Bool:=decide (48≤c.toNat)&&decide (c.toNat≤57)
def aug(l:List UInt8):Nat:=l.foldl (fun n c=>10*n+(c.toNat-48)) 0
theorem auh(l:List UInt8)(c:UInt8):aug (l++[c])=10*aug l+(c.toNat-48):=by simp[aug]
end Go.Proofs.YtmffejnigppbpaaGreatDoor

set_option maxHeartbeats 2000000
set_option maxRecDepth 100000
namespace Go.Proofs.YtmffejnigppbpaaGreatDoor
open Go.RowKit Go.Shelf
attribute [local go_sem] Oper.semAt_some
def ajY(Bp B1 Bz:Nat)(W W':World):Prop:=W'.cell? ⟨Bp,0,none⟩=W.cell? ⟨Bp,0,none⟩∧W'.cell? ⟨B1,0,none⟩=W.cell? ⟨B1,0,none⟩∧W'.cell? ⟨Bz,0,none⟩=W.cell? ⟨Bz,0,none⟩∧W'.frozen? ⟨B1,0,none⟩=W.frozen? ⟨B1,0,none⟩
def asG(B1:Nat)(W:World):Nat:=match W.cell? ⟨B1,0,none⟩with|some (.string b)=>b.size|_=>0
theorem ayp(n l Bp B1 Bz:Nat)(hn:1≤n)(hpz:¬Bp=B1)(hzz:¬Bz=B1)(xs:List (List UInt8))(hx:∀q∈xs,(124:UInt8)∉q)(p:List UInt8)(ps:List (List UInt8))(hxs:xs=p::ps)(hsz:(Uu [124] p ps).length≤1000000)(J Jx:List (List UInt8)→World→Prop)(hJB:amN B1 J)(hY:∀pre x W1,J pre W1→pre++[x] <+: xs→YieldAt Fence.wide (n-1) Tryz.prog l #[.string (S x)] W1 fun e W'=>
   (e=.returned (.bool true)∧J (pre++[x]) W'∧ajY Bp B1 Bz W1 W')∨(e=.returned (.bool false)∧Jx (pre++[x]) W'))(W:World)(c1:W.cell? ⟨Bp,0,none⟩=some (.string (S [124])))(c2:W.cell? ⟨B1,0,none⟩=some (.string (S (Uu [124] p ps))))(c3:W.cell? ⟨Bz,0,none⟩=some (.int .i64 0))(cf:W.frozen? ⟨B1,0,none⟩=false)(h0:J [] W) :
  CallsIn Fence.wide n Tryz.prog 146 #[.func (.yield l) #[] #[],.pointer (some ⟨Bp,0,none⟩),.pointer (some ⟨B1,0,none⟩),.pointer (some ⟨Bz,0,none⟩)] W fun e W'=>(∃v,e=.returned v)∧(J xs W'∨∃pre,pre <+: xs∧Jx pre W'):=by
 refine callsIn_of_wp Tryz.func146 rfl trivial ?_ rfl
 simp only[Tryz.ntmps146,List.size_toArray,List.length_cons,List.length_nil,Nat.reduceAdd,Nat.reduceSub,Array.replicate_succ,Array.replicate_zero,List.push_toArray,List.append_toArray,List.nil_append,List.cons_append]
 gi_wp2
 gi_loopw [7] (fun _ wr=>∃(pre:List (List UInt8)) (q:List UInt8) (qs:List (List UInt8)),xs=pre++(q::qs)∧wr.cell? ⟨Bp,0,none⟩=some (.string (S [124]))∧wr.cell? ⟨B1,0,none⟩=some (.string (S (Uu [124] q qs)))∧wr.cell? ⟨Bz,0,none⟩=some (.int .i64 0)∧wr.frozen? ⟨B1,0,none⟩=false∧(Uu [124] q qs).length≤1000000∧J pre wr)
  (fun _ wr=>asG B1 wr)
 case atStart=>exact⟨[],p,ps,hxs,c1,c2,c3,cf,hsz,h0⟩
 case round=>
  obtain⟨pre,q,qs,e,d1,d2,d3,df,dz,hJ⟩:=hrel
  have hq:(124:UInt8)∉q:=hx q (by rw[e];simp)
  have hpl:pre++[q] <+: xs:=by rw[e];exact⟨qs,by simp⟩
  cases qs with
  |nil=>
   simp only[Uu]at d2 dz
   obtain⟨fn,tmps,assign,body,hy,hR⟩:=hY pre q wr hJ hpl
   have hi:∀w,Calls Tryz.prog 131 #[.string (S q),.string (S [124])] w fun e w'=>e=.returned (.int .i64 (-1))∧w'=w:=fun w=>by
    have:=Tryz.strings_Index_one (S q) 124 w
    rw[show(S q).data.toList=q from by simp[S],agj q 124 hq]at this
    exact this
   have HI:=hid hi
   clear hi
   gi_wp2_with (refine⟨trivial,?_⟩;gi_at_call 131;refine(callsIn_wide.2 (HI.out _)).mono ?_;rintro e w' ⟨rfl,rfl⟩)
   refine hR.mono ?_
   rintro e2 W3 (⟨rfl,hJ3,hk3⟩|⟨rfl,hJx3⟩)
   ·gi_wp2
    go_end0
    exact⟨⟨_,rfl⟩,.inl (by rw[e];exact hJ3)⟩
   ·gi_wp2
    go_end0
    exact⟨⟨_,rfl⟩,.inr ⟨_,by rw[e];exact List.prefix_refl _,hJx3⟩⟩
  |cons r rs=>
   have dd:Uu [124] q (r::rs)=q++124::Uu [124] r rs:=by simp[Uu]
   rw[dd]at d2 dz
   obtain⟨fn,tmps,assign,body,hy,hR⟩:=hY pre q wr hJ hpl
   have hi:∀w,Calls Tryz.prog 131 #[.string (S (q++124::Uu [124] r rs)),.string (S [124])] w fun e w'=>e=.returned (.int .i64 (q.length:Int))∧w'=w:=fun w=>by
    have:=Tryz.strings_Index_one (S (q++124::Uu [124] r rs)) 124 w
    rw[show(S (q++124::Uu [124] r rs)).data.toList=q++124::Uu [124] r rs from by simp[S],ahT q _ 124 hq]at this
    exact this
   have HI:=hid hi
   clear hi
   have hl:q.length+1+(Uu [124] r rs).length≤1000000:=by simp only[List.length_append,List.length_cons]at dz;omega
   have hw:wrap64 (q.length:Int)=(q.length:Int):=(by unfold wrap64;omega)
   gi_wp2_with (refine⟨trivial,?_⟩;gi_at_call 131;refine(callsIn_wide.2 (HI.out _)).mono ?_;rintro e w' ⟨rfl,rfl⟩)
   refine hR.mono ?_
   rintro e2 W3 (⟨rfl,hJ3,k1,k2,k3,k4⟩|⟨rfl,hJx3⟩)
   ·have b1:=k1.trans d1
    have b2:=k2.trans d2
    have b3:=k3.trans d3
    have b4:=k4.trans df
    have hw2:wrap64 ((q.length:Int)+1)=(q.length:Int)+1:=(by unfold wrap64;omega)
    have htk:List.drop (q.length+1) (List.take (q.length+((Uu [124] r rs).length+1)) (q++124::Uu [124] r rs))=Uu [124] r rs:=by
     rw[List.take_of_length_le (by simp)]
     simp[List.drop_length_add_append]
    gi_wp2
    go_roundw
    case rel=>
     refine⟨pre++[q],r,rs,by rw[e];simp,?_,?_,?_,?_,by omega,hJB _ _ _ hJ3⟩
     ·rw[World.cell?_setCell_other _ _ _ _ (by first|(simp;done)|(simp;omega))];exact b1
     ·rw[World.cell?_setCell_same _ _ _ b2]
     ·rw[World.cell?_setCell_other _ _ _ _ (by first|(simp;done)|(simp;omega))];exact b3
     ·rw[World.frozen?_setCell];exact b4
    case measure=>
     unfold asG
     rw[World.cell?_setCell_same _ _ _ b2,d2]
     simp;omega
   ·gi_wp2
    refine bodyPost_ret (results_none rfl _ _ _) rfl ?_
    exact⟨⟨_,rfl⟩,.inr ⟨_,by rw[e];exact⟨r::rs,by simp⟩,hJx3⟩⟩
theorem aim(n Bp B1 Bz:Nat)(hn:1≤n)(hpz:¬Bp=B1)(hzz:¬Bz=B1)(p:List UInt8)(ps:List (List UInt8))(hx:∀q∈p::ps,(124:UInt8)∉q)(hsz:(Uu [124] p ps).length≤1000000)(w:World)(hBp:Bp<w.heap.size)(hB1:B1<w.heap.size)(hBz:Bz<w.heap.size)(c1:w.cell? ⟨Bp,0,none⟩=some (.string (S [124])))(c2:w.cell? ⟨B1,0,none⟩=some (.string (S (Uu [124] p ps))))(c3:w.cell? ⟨Bz,0,none⟩=some (.int .i64 0))(cf:w.frozen? ⟨B1,0,none⟩=false) :
  amO B1 Fence.wide n Tryz.prog 146 #[.pointer (some ⟨Bp,0,none⟩),.pointer (some ⟨B1,0,none⟩),.pointer (some ⟨Bz,0,none⟩)] (fun x=>#[Value.string (S x)]) (ajY Bp B1 Bz) (p::ps) w:=
 fun l J Jx W hW _ _ hJB hY h0=>ayp n l Bp B1 Bz hn hpz hzz (p::ps) hx p ps rfl hsz J Jx hJB hY W ((hW.cell (p:=⟨Bp,0,none⟩) hBp).trans c1) ((hW.cell (p:=⟨B1,0,none⟩) hB1).trans c2) ((hW.cell (p:=⟨Bz,0,none⟩) hBz).trans c3) ((hW.frozen (p:=⟨B1,0,none⟩) hB1).trans cf) h0
end Go.Proofs.YtmffejnigppbpaaGreatDoor

set_option maxHeartbeats 1000000
set_option maxRecDepth 100000
namespace Go.Proofs.YtmffejnigppbpaaGreatDoor
open Go.RowKit
structure Ent where
 name:List UInt8
 ty:Nat
 least:Nat
 most:Nat
 parts:Nat
def Ent.text(e:Ent):List UInt8:=e.name++[32,UInt8.ofNat (48+e.ty),32,UInt8.ofNat (48+e.least),32,UInt8.ofNat (48+e.most),32,UInt8.ofNat (48+e.parts)]
def azd:List Ent:=[⟨[70,78],1,1,1,0⟩,⟨[78],3,1,1,5⟩,⟨[78,73,67,75,78,65,77,69],2,0,0,0⟩,⟨[80,72,79,84,79],8,0,0,0⟩,⟨[66,68,65,89],5,0,1,0⟩,⟨[65,68,82],3,0,0,7⟩,⟨[76,65,66,69,76],1,0,0,0⟩,⟨[84,69,76],1,0,0,0⟩,⟨[69,77,65,73,76],1,0,0,0⟩,⟨[77,65,73,76,69,82],1,0,0,0⟩,⟨[84,90],6,0,1,0⟩,⟨[71,69,79],3,0,1,2⟩,⟨[84,73,84,76,69],1,0,0,0⟩,⟨[82,79,76,69],1,0,0,0⟩,⟨[76,79,71,79],8,0,0,0⟩,⟨[65,71,69,78,84],1,0,0,0⟩,⟨[79,82,71],3,0,0,0⟩,⟨[67,65,84,69,71,79,82,73,69,83],2,0,0,0⟩,⟨[78,79,84,69],1,0,0,0⟩,⟨[80,82,79,68,73,68],1,0,1,0⟩,⟨[82,69,86],5,0,1,0⟩,⟨[83,79,82,84,45,83,84,82,73,78,71],1,0,1,0⟩,⟨[83,79,85,78,68],8,0,0,0⟩,⟨[85,73,68],1,0,1,0⟩,⟨[85,82,76],4,0,0,0⟩,⟨[67,76,65,83,83],1,0,1,0⟩,⟨[75,69,89],8,0,0,0⟩,⟨[78,65,77,69],1,0,1,0⟩,⟨[83,79,85,82,67,69],4,0,0,0⟩]
def ay1:List Ent:=[⟨[70,78],1,1,0,0⟩,⟨[78],3,0,1,5⟩,⟨[78,73,67,75,78,65,77,69],2,0,0,0⟩,⟨[80,72,79,84,79],4,0,0,0⟩,⟨[66,68,65,89],5,0,1,0⟩,⟨[65,78,78,73,86,69,82,83,65,82,89],5,0,1,0⟩,⟨[71,69,78,68,69,82],3,0,1,2⟩,⟨[65,68,82],3,0,0,7⟩,⟨[84,69,76],1,0,0,0⟩,⟨[69,77,65,73,76],1,0,0,0⟩,⟨[73,77,80,80],4,0,0,0⟩,⟨[76,65,78,71],7,0,0,0⟩,⟨[84,90],1,0,0,0⟩,⟨[71,69,79],4,0,0,0⟩,⟨[84,73,84,76,69],1,0,0,0⟩,⟨[82,79,76,69],1,0,0,0⟩,⟨[76,79,71,79],4,0,0,0⟩,⟨[79,82,71],3,0,0,0⟩,⟨[77,69,77,66,69,82],4,0,0,0⟩,⟨[82,69,76,65,84,69,68],4,0,0,0⟩,⟨[67,65,84,69,71,79,82,73,69,83],2,0,0,0⟩,⟨[78,79,84,69],1,0,0,0⟩,⟨[80,82,79,68,73,68],1,0,1,0⟩,⟨[82,69,86],5,0,1,0⟩,⟨[83,79,85,78,68],4,0,0,0⟩,⟨[85,73,68],4,0,1,0⟩,⟨[85,82,76],4,0,0,0⟩,⟨[75,73,78,68],1,0,1,0⟩,⟨[75,69,89],4,0,0,0⟩,⟨[83,79,85,82,67,69],4,0,0,0⟩]
def UG(v:Int):List Ent:=if v=3 then azd else ay1
def axZ(T:List Ent):List UInt8:=match T.map Ent.text with|[]=>[]|p::ps=>Uu [124] p ps
def acX(T:List Ent)(u:List UInt8):Int×Int×Int×Int:=match T.find? (fun e=>e.name==u)with|some e=>((e.ty:Int),(e.least:Int),(e.most:Int),(e.parts:Int))|none=>(8,0,0,0)
theorem aik(v:Int)(w:World):adV 57 #[.int .i64 v] w (.string (S (axZ (UG v)))):=by
 by_cases h:v=3
 ·subst h
  go_enter Tryz.func57,Tryz.ntmps57
  go_wp2
  go_ret
  exact⟨by rfl,rfl⟩
 ·have ht:UG v=ay1:=if_neg h
  rw[ht]
  go_enter Tryz.func57,Tryz.ntmps57
  go_wp2
  go_ret
  exact⟨by rfl,rfl⟩
theorem aoS(t sep:List UInt8)(w:World):Calls Tryz.prog 97 #[.string (S t),.string (S sep),.int .i64 0] w fun e w'=>e=.returned (.func (.func 146) #[] #[.pointer (some ⟨w.heap.size+1,0,none⟩),.pointer (some ⟨w.heap.size,0,none⟩),.pointer (some ⟨w.heap.size+2,0,none⟩)]) ∧
  w'=((w.alloc (.cells #[.string (S t)] 9)).alloc (.cells #[.string (S sep)] 9)).alloc (.cells #[.int .i64 0] 3):=by
 have hmf:∀(fn:Fn) (first cap:Array Value) (w:World),(Instr.makeFunc fn first cap).run Tryz.prog w=.ok (.func fn first cap) w:=fun _ _ _ _=>rfl
 go_enter Tryz.func97,Tryz.ntmps97
 go_wp2
 go_ret
 exact⟨by simp,rfl⟩
theorem afY(t sep:List UInt8)(w:World):Calls Tryz.prog 56 #[.string (S t),.string (S sep)] w fun e w'=>e=.returned (.func (.func 146) #[] #[.pointer (some ⟨w.heap.size+1,0,none⟩),.pointer (some ⟨w.heap.size,0,none⟩),.pointer (some ⟨w.heap.size+2,0,none⟩)]) ∧
  w'=((w.alloc (.cells #[.string (S t)] 9)).alloc (.cells #[.string (S sep)] 9)).alloc (.cells #[.int .i64 0] 3):=by
 go_enter Tryz.func56,Tryz.ntmps56
 go_wp2_with (go_at_call 97;refine(aoS t sep _).mono ?_;rintro e w' ⟨rfl,rfl⟩)
 go_ret
 exact⟨rfl,rfl⟩
end Go.Proofs.YtmffejnigppbpaaGreatDoor

namespace Go.Proofs.YtmffejnigppbpaaGreatDoor
open Go.RowKit Go.Shelf
attribute [local go_sem] Oper.semAt_some
theorem aii(v:Int):∃p ps,(UG v).map Ent.text=p::ps∧axZ (UG v)=Uu [124] p ps∧(∀q∈p::ps,(124:UInt8)∉q)∧(Uu [124] p ps).length≤1000000:=by
 unfold UG
 split
 ·exact⟨_,_,rfl,rfl,by decide +kernel,by decide +kernel⟩
 ·exact⟨_,_,rfl,rfl,by decide +kernel,by decide +kernel⟩
theorem aft(v:Int):∀e∈UG v,Lib.fields e.text=[e.name,[UInt8.ofNat (48+e.ty)],[UInt8.ofNat (48+e.least)],[UInt8.ofNat (48+e.most)],[UInt8.ofNat (48+e.parts)]]∧e.ty<10∧e.least<10∧e.most<10∧e.parts<10∧e.text.length<100∧∀b∈e.text,b.toNat<128:=by
 unfold UG
 split
 ·decide +kernel
 ·decide +kernel
theorem aij{Bp B1 Bz:Nat}{X Y Z:World}(h:ajY Bp B1 Bz X Y)(k:ajY Bp B1 Bz Y Z):ajY Bp B1 Bz X Z:=⟨k.1.trans h.1,k.2.1.trans h.2.1,k.2.2.1.trans h.2.2.1,k.2.2.2.trans h.2.2.2⟩
theorem aec{Bp B1 Bz n:Nat}{W W':World}(h:Below n W W')(h1:Bp<n)(h2:B1<n)(h3:Bz<n):ajY Bp B1 Bz W W':=
 ⟨h.cell (p:=⟨Bp,0,none⟩) h1,h.cell (p:=⟨B1,0,none⟩) h2,h.cell (p:=⟨Bz,0,none⟩) h3,h.frozen (p:=⟨B1,0,none⟩) h2⟩
structure afk(b:Nat)(s:List UInt8)(r:Int×Int×Int×Int)(W:World):Prop where
 c0:W.cell? ⟨b,0,none⟩=some (.string (S s))
 r0:W.cell? ⟨b+1,0,none⟩=some (.int .i64 r.1)
 r1:W.cell? ⟨b+1,1,none⟩=some (.int .i64 r.2.1)
 r2:W.cell? ⟨b+1,2,none⟩=some (.int .i64 r.2.2.1)
 r3:W.cell? ⟨b+1,3,none⟩=some (.int .i64 r.2.2.2)
 er:W.cell? ⟨b+2,0,none⟩=some .nilIface
 f0:W.frozen? ⟨b+1,0,none⟩=false
 f1:W.frozen? ⟨b+1,1,none⟩=false
 f2:W.frozen? ⟨b+1,2,none⟩=false
 f3:W.frozen? ⟨b+1,3,none⟩=false
 fe:W.frozen? ⟨b+2,0,none⟩=false
theorem afk.own(b:Nat)(s:List UInt8)(r:Int×Int×Int×Int):Own (fun (_:List (List UInt8)) W=>afk b s r W):=
 fun x A B row h hg hr=>⟨cell_kept h.c0 hg hr,cell_kept h.r0 hg hr,cell_kept h.r1 hg hr,cell_kept h.r2 hg hr,cell_kept h.r3 hg hr,cell_kept h.er hg hr,
  (frozen_kept h.r0 hg hr).trans h.f0,(frozen_kept h.r1 hg hr).trans h.f1,(frozen_kept h.r2 hg hr).trans h.f2,(frozen_kept h.r3 hg hr).trans h.f3,(frozen_kept h.er hg hr).trans h.fe⟩
theorem afk.set{b:Nat}{s:List UInt8}{r:Int×Int×Int×Int}{W:World}(h:afk b s r W)(B:Nat)(v:Value)(h0:b+2<B):afk b s r (W.setCell ⟨B,0,none⟩ v):=by
 refine⟨?_,?_,?_,?_,?_,?_,?_,?_,?_,?_,?_⟩
 ·rw[World.cell?_setCell_other _ _ _ _ (by first|(simp;done)|(simp;omega))];exact h.c0
 ·rw[World.cell?_setCell_other _ _ _ _ (by first|(simp;done)|(simp;omega))];exact h.r0
 ·rw[World.cell?_setCell_other _ _ _ _ (by first|(simp;done)|(simp;omega))];exact h.r1
 ·rw[World.cell?_setCell_other _ _ _ _ (by first|(simp;done)|(simp;omega))];exact h.r2
 ·rw[World.cell?_setCell_other _ _ _ _ (by first|(simp;done)|(simp;omega))];exact h.r3
 ·rw[World.cell?_setCell_other _ _ _ _ (by first|(simp;done)|(simp;omega))];exact h.er
 ·rw[World.frozen?_setCell];exact h.f0
 ·rw[World.frozen?_setCell];exact h.f1
 ·rw[World.frozen?_setCell];exact h.f2
 ·rw[World.frozen?_setCell];exact h.f3
 ·rw[World.frozen?_setCell];exact h.fe
theorem adQ{B:Nat}{W W':World}(h:Below W.heap.size W W'):KeepsFrom B W W':=⟨h.size,fun k o _ hk _=>(h.block k (Array.getElem?_eq_some_iff.1 hk).1).trans hk⟩
theorem afk.below{b n:Nat}{s:List UInt8}{r:Int×Int×Int×Int}{W W':World}(h:afk b s r W)(g:Below n W W')(hn:b+2<n):afk b s r W':=
 ⟨(g.cell (p:=⟨b,0,none⟩) (by simp;omega)).trans h.c0,(g.cell (p:=⟨b+1,0,none⟩) (by simp;omega)).trans h.r0,(g.cell (p:=⟨b+1,1,none⟩) (by simp;omega)).trans h.r1,(g.cell (p:=⟨b+1,2,none⟩) (by simp;omega)).trans h.r2,
  (g.cell (p:=⟨b+1,3,none⟩) (by simp;omega)).trans h.r3,(g.cell (p:=⟨b+2,0,none⟩) (by simp;omega)).trans h.er,
  (g.frozen (p:=⟨b+1,0,none⟩) (by simp;omega)).trans h.f0,(g.frozen (p:=⟨b+1,1,none⟩) (by simp;omega)).trans h.f1,(g.frozen (p:=⟨b+1,2,none⟩) (by simp;omega)).trans h.f2,(g.frozen (p:=⟨b+1,3,none⟩) (by simp;omega)).trans h.f3,(g.frozen (p:=⟨b+2,0,none⟩) (by simp;omega)).trans h.fe⟩
theorem an4{v:Int}{e e':Ent}(h:e∈UG v)(h':e'∈UG v)(ht:e'.text=e.text):e'.name=e.name:=by
 have a:=(aft v e h).1
 have b:=(aft v e' h').1
 rw[ht,a]at b
 exact(List.cons.inj b).1.symm
theorem afk.put{b:Nat}{s:List UInt8}{r:Int×Int×Int×Int}{W:World}(h:afk b s r W)(x0 x1 x2 x3:Int):afk b s (x0,x1,x2,x3) (((((W.setCell ⟨b+1,0,none⟩ (.int .i64 x0)).setCell ⟨b+1,1,none⟩ (.int .i64 x1)).setCell ⟨b+1,2,none⟩ (.int .i64 x2)).setCell ⟨b+1,3,none⟩ (.int .i64 x3)).setCell ⟨b+2,0,none⟩ .nilIface):=by
 refine⟨?_,?_,?_,?_,?_,?_,?_,?_,?_,?_,?_⟩
 ·(repeat rw[World.cell?_setCell_other _ _ _ _ (by first|(simp;done)|(simp;omega))])
  exact h.c0
 ·(repeat rw[World.cell?_setCell_other _ _ _ _ (by first|(simp;done)|(simp;omega))])
  exact World.cell?_setCell_same' _ _ _ (by(repeat rw[World.cell?_setCell_other _ _ _ _ (by first|(simp;done)|(simp;omega))]);rw[h.r0];rfl)
 ·(repeat rw[World.cell?_setCell_other _ _ _ _ (by first|(simp;done)|(simp;omega))])
  exact World.cell?_setCell_same' _ _ _ (by(repeat rw[World.cell?_setCell_other _ _ _ _ (by first|(simp;done)|(simp;omega))]);rw[h.r1];rfl)
 ·(repeat rw[World.cell?_setCell_other _ _ _ _ (by first|(simp;done)|(simp;omega))])
  exact World.cell?_setCell_same' _ _ _ (by(repeat rw[World.cell?_setCell_other _ _ _ _ (by first|(simp;done)|(simp;omega))]);rw[h.r2];rfl)
 ·(repeat rw[World.cell?_setCell_other _ _ _ _ (by first|(simp;done)|(simp;omega))])
  exact World.cell?_setCell_same' _ _ _ (by(repeat rw[World.cell?_setCell_other _ _ _ _ (by first|(simp;done)|(simp;omega))]);rw[h.r3];rfl)
 ·(repeat rw[World.cell?_setCell_other _ _ _ _ (by first|(simp;done)|(simp;omega))])
  exact World.cell?_setCell_same' _ _ _ (by(repeat rw[World.cell?_setCell_other _ _ _ _ (by first|(simp;done)|(simp;omega))]);rw[h.er];rfl)
 ·simp only[World.frozen?_setCell];exact h.f0
 ·simp only[World.frozen?_setCell];exact h.f1
 ·simp only[World.frozen?_setCell];exact h.f2
 ·simp only[World.frozen?_setCell];exact h.f3
 ·simp only[World.frozen?_setCell];exact h.fe
theorem arU(v:Int):((UG v).map Ent.name).Nodup:=by
 unfold UG
 split
 ·decide +kernel
 ·decide +kernel
theorem atY(T:List Ent)(h:(T.map Ent.name).Nodup)(e:Ent)(he:e∈T):T.find? (fun x=>x.name==e.name)=some e:=by
 induction T with
 |nil=>cases he
 |cons a T ih=>
  rw[List.map_cons,List.nodup_cons]at h
  rcases List.mem_cons.1 he with rfl|he
  ·simp
  ·have hne:a.name≠e.name:=fun hc=>h.1 (by rw[hc];exact List.mem_map_of_mem he)
   rw[List.find?_cons_of_neg (by simpa using hne)]
   exact ih h.2 he
theorem asF{v:Int}{e:Ent}{u:List UInt8}(he:e∈UG v)(hn:e.name=u):acX (UG v) u=((e.ty:Int),(e.least:Int),(e.most:Int),(e.parts:Int)):=by
 unfold acX
 rw[←hn,atY _ (arU v) e he]
structure Dig(B:Nat)(e:Ent)(k:Nat)(w:World):Prop where
 c0:w.cell? ⟨B,0,none⟩=some (.int .i64 (if 0<k then e.ty else 0))
 c1:w.cell? ⟨B,1,none⟩=some (.int .i64 (if 1<k then e.least else 0))
 c2:w.cell? ⟨B,2,none⟩=some (.int .i64 (if 2<k then e.most else 0))
 c3:w.cell? ⟨B,3,none⟩=some (.int .i64 (if 3<k then e.parts else 0))
 f0:w.frozen? ⟨B,0,none⟩=false
 f1:w.frozen? ⟨B,1,none⟩=false
 f2:w.frozen? ⟨B,2,none⟩=false
 f3:w.frozen? ⟨B,3,none⟩=false
theorem Dig.grow{B:Nat}{e:Ent}{k:Nat}{w w':World}(h:Dig B e k w)(g:G w w'):Dig B e k w':=by
 have hb:B<w.heap.size:=World.block_lt_of_cell? _ _ h.c0
 exact⟨(g.cell hb).trans h.c0,(g.cell hb).trans h.c1,(g.cell hb).trans h.c2,(g.cell hb).trans h.c3,(g.below.frozen hb).trans h.f0,(g.below.frozen hb).trans h.f1,(g.below.frozen hb).trans h.f2,(g.below.frozen hb).trans h.f3⟩
theorem Dig.set{B:Nat}{e:Ent}{k:Nat}{w:World}(h:Dig B e k w)(hk:k<4):Dig B e (k+1) (w.setCell ⟨B,k,none⟩ (.int .i64 (match k with|0=>e.ty|1=>e.least|2=>e.most|_=>e.parts:Nat))):=by
 have h1:k=0∨k=1∨k=2∨k=3:=by omega
 obtain⟨a0,a1,a2,a3,b0,b1,b2,b3⟩:=h
 rcases h1 with rfl|rfl|rfl|rfl
 all_goals
  refine⟨?_,?_,?_,?_,?_,?_,?_,?_⟩
  all_goals first
   |(rw[World.frozen?_setCell];assumption)
   |(rw[World.cell?_setCell_other _ _ _ _ (by simp)];assumption)
   |(refine World.cell?_setCell_same' _ _ _ ?_;simp[*])
end Go.Proofs.YtmffejnigppbpaaGreatDoor

set_option maxHeartbeats 1000000
set_option maxRecDepth 100000
namespace Go.Proofs.YtmffejnigppbpaaGreatDoor
open Go.RowKit
theorem avr(l u:List UInt8)(w:World)(hs:l.length≤1000)(hu:Eg l=u) :
  Um 52 #[.string (S l)] w (.string (S u)):=by
 subst hu;exact afa l w (by omega)
theorem avs(l u:List UInt8)(w:World)(hs:l.length≤1000)(hu:ai2 l=u) :
  Um 69 #[.string (S l)] w (.string (S u)):=by
 subst hu;exact anX l w (by omega)
theorem avt(l:List UInt8)(u:Bool)(w:World)(hs:l.length≤1000)(hu:GH l=u) :
  adV 34 #[.string (S l)] w (.bool u):=by
 subst hu;exact ag8 l w (by omega)
theorem axb(a b:List UInt8)(u:Bool)(w:World)(ha:a.length≤1000)(hb:b.length≤1000)(hu:aeu a b=u) :
  Um 16 #[.string (S a),.string (S b)] w (.bool u):=by
 subst hu;exact ahN a b w (by omega) (by omega)
theorem aoF(w:World) :
  Um 33 #[] w (.bool true):=by
 go_enter Tryz.func33,Tryz.ntmps33
 go_wp2_with fail
 refine(avr [0x61,0x5a,0x2d,0x31,0xe9] [0x41,0x5a,0x2d,0x31,0xe9] _ (by simp) (by decide)).use ?_;intro w1 hb1
 go_wp2_with fail
 refine(avs [0x61,0x5a,0x2d,0x31] [0x61,0x7a,0x2d,0x31] _ (by simp) (by decide)).use ?_;intro w2 hb2
 go_wp2_with fail
 refine(avt [0x58,0x2d,0x61,0x31] true _ (by simp) (by decide)).use ?_
 go_wp2_with fail
 refine(avt [0x61,0x20,0x62] false _ (by simp) (by decide)).use ?_
 go_wp2_with fail
 refine(avt [] false _ (by simp) (by decide)).use ?_
 go_wp2_with fail
 refine(axb [0x61,0x42] [0x41,0x62] true _ (by simp) (by simp) (by decide)).use ?_;intro w4 hb4
 go_wp2_with fail
 go_ret
 exact⟨rfl,(hb1.trans hb2).trans hb4⟩
theorem aqe(l:List UInt8):Eg (Eg l)=Eg l:=by
 unfold Eg
 rw[List.map_map]
 exact List.map_congr_left fun c _=>of_decide_eq_true (aei (fun c=>decide ((ahM 97 122 (-32) ∘ ahM 97 122 (-32)) c=ahM 97 122 (-32) c)) (by decide +kernel) c)
end Go.Proofs.YtmffejnigppbpaaGreatDoor

namespace Go.Proofs.YtmffejnigppbpaaGreatDoor
open Go.ChangeShapes Go.WideShapes Go.RowKit
def aeT(h:Array Obj)(g:Nat)(cs:Array Value):Array Obj:=h.modify g fun
 |.cells _ t frozen=>.cells cs t frozen
 |o=>o
def ajx:DataW Unit→Array Value
 |.agg l=>(l.map fun
  |.lit (.int k z)=>Value.int k z
  |_=>undef).toArray
 |_=>#[]
def auZ:MemPlace→Nat
 |.cell b o=>Nat.add (Nat.mul b 4096) (Nat.add o 1)
 |.map _=>0
def al7:List Nat→Bool
 |[]=>true
 |x::l=>(l.all fun y=>!(Nat.beq x y))&&al7 l
theorem ajy:∀l:List Nat,al7 l=true→l.Nodup
 |[],_=>List.nodup_nil
 |x::l,h=>by
  simp only[al7,Bool.and_eq_true,List.all_eq_true]at h
  refine List.nodup_cons.2 ⟨fun hx=>?_,ajy l h.2⟩
  have:=h.1 x hx
  simp at this
theorem al8(ps:List MemPlace)(h:al7 (ps.map auZ)=true):ps.Nodup:=by
 have h3:=ajy _ h
 clear h
 induction ps with
 |nil=>exact List.nodup_nil
 |cons a ps ih=>
  rw[List.map_cons,List.nodup_cons]at h3
  refine List.nodup_cons.2 ⟨fun ha=>h3.1 (List.mem_map_of_mem ha),ih h3.2⟩
theorem afn{P:Program}{w:World}{l:List (String×DataW Unit)}(fuel:Nat)(h:(DataW.laidRun P w fuel (l.map (·.1))).map (·.1)=some l)(hf:(DataW.laidRun P w fuel (l.map (·.1))).map (fun x=>al7 (x.2.map auZ))=some true)(hr:(DataW.laidRun P w fuel (l.map (·.1))).map (fun x=>laidRowsB P w x.2)=some true):laidMet P l w:=by
 cases hx:DataW.laidRun P w fuel (l.map (·.1))with
 |none=>simp[hx]at h
 |some x=>
  obtain⟨l',ps⟩:=x
  simp only[hx,Option.map_some,Option.some.injEq]at h hf hr
  subst h
  exact laidMet_of_run fuel hx (decide_eq_true (al8 ps hf)) hr
noncomputable def aeK(os:Os):World:=
 let N:=17
 let bs:Array Obj:=#[]
 let wN:=N+bs.size
 let bs:=(bs.push (.cells (Lib.whiteT.map fun (z:Nat)=>Value.int .u16 (z:Int)).toArray 257)).push (.cells #[.slice (some ⟨wN,0,none⟩) 7 7,.slice none 0 0,.int .i64 2] 254)
 let eN:=N+bs.size
 let bs:=(bs.push (.cells #[.string ⟨#[105,110,118,97,108,105,100,32,115,121,110,116,97,120]⟩] 293)).push (.cells #[.string ⟨#[118,97,108,117,101,32,111,117,116,32,111,102,32,114,97,110,103,101]⟩] 293)
 let w0:=World.holding Tryz.prog os ⟨bs,#[],[]⟩
 let h0:=w0.heap
 let h0:=aeT h0 1 #[.iface 213 (.agg #[typeHandle Tryz.prog 28])]
 let h0:=aeT h0 6 (Lib.firstTab.map fun z=>Value.int .u8 z).toArray
 let h0:=aeT h0 7 ((List.range 16).flatMap fun i=>[Value.int .u8 (Lib.accLo i),Value.int .u8 (Lib.accHi i)]).toArray
 let h0:=aeT h0 0 (ajx Rows.laid_strings_asciiSpace)
 let h0:=aeT h0 8 (ajx Rows.laid_internal_strconv_uint64pow10)
 let h0:=aeT h0 9 (ajx Rows.laid_math_bits_deBruijn32tab)
 let h0:=aeT h0 10 (ajx Rows.laid_math_bits_deBruijn64tab)
 let h0:=aeT h0 2 #[.pointer (some ⟨wN+1,0,none⟩)]
 let h0:=aeT h0 3 #[.iface 291 (.pointer (some ⟨eN,0,none⟩))]
 let h0:=aeT h0 4 #[.iface 291 (.pointer (some ⟨eN+1,0,none⟩))]
 { w0 with heap:=h0 }
end Go.Proofs.YtmffejnigppbpaaGreatDoor

namespace Go.Proofs.YtmffejnigppbpaaGreatDoor
open Go.ChangeShapes Go.WideShapes Go.RowKit
theorem ahB{P:Program}{W:World}{name:String}{k:IntKind}{zs:List Int}{g:Nat}{t e:TypeId}{n:Nat}(hg:P.globalNamed name=some g)(hty:(P.globals[g]?).map (·.type)=some t)(ht:P.underlying t=some (.array n e))(he:P.underlying e=some (.int k))(hce:P.cellsOf e=1)(hct:P.cellsOf t=n)(h:Lib.VarReads P W name (Lib.tabData k zs)):Lib.TabIs P W name k zs:=by
 obtain⟨g',t',cs,fuel,p,hg',ht',hvar,hd⟩:=h
 obtain rfl:=Option.some.inj (hg.symm.trans hg')
 obtain rfl:=Option.some.inj (hty.symm.trans ht')
 unfold Lib.TabIs
 rw[hvar,←Lib.cells_of_tab ht he hce hct hd]
theorem anh{H:Type}{enc:TypeId×Value→H}{P:Program}{w:World}{base:Nat}{sp:Nat→Bool}{held:Bool}{fuel:Nat}{t:TypeId}{ms:Array (String×TypeId)}{cs:List Value}{d:DataW H}{p:List MemPlace}(ht:P.underlying t=some (.interface ms))(h:DataW.trod enc P w base sp held fuel t cs=some (d,p)):cs=[.nilIface]∨∃u v,cs=[.iface u v]:=by
 cases fuel with
 |zero=>simp[DataW.trod]at h
 |succ fuel=>
  unfold DataW.trod at h
  rw[ht]at h
  split at h<;>simp_all
theorem ajw{P:Program}{W:World}{name:String}{d:DataW Unit}{g:Nat}{t:TypeId}{ms:Array (String×TypeId)}(hg:P.globalNamed name=some g)(hty:(P.globals[g]?).map (·.type)=some t)(ht:P.underlying t=some (.interface ms))(h:Lib.VarReads P W name d) :
  ∃ev,W.cell? ⟨g,0,none⟩=some ev∧(ev=.nilIface∨∃te pe,ev=.iface te pe):=by
 obtain⟨g',t',cs,fuel,p,hg',ht',hvar,hd⟩:=h
 obtain rfl:=Option.some.inj (hg.symm.trans hg')
 obtain rfl:=Option.some.inj (hty.symm.trans ht')
 have hc:=World.var?_cell hg hvar 0
 rcases anh ht hd with e|⟨u,v,e⟩
 ·refine⟨.nilIface,?_,.inl rfl⟩
  obtain⟨l⟩:=cs
  simp only at e
  subst e
  simpa using hc
 ·refine⟨.iface u v,?_,.inr ⟨u,v,rfl⟩⟩
  obtain⟨l⟩:=cs
  simp only at e
  subst e
  simpa using hc
theorem auX:Rows.laid_internal_strconv_uint64pow10=(Lib.tabData .u64 Lib.pow10Tab:DataW Unit):=by kernel_rfl
theorem auY:Rows.laid_strings_asciiSpace=(Lib.tabData .u8 Lib.asciiSpaceTab:DataW Unit):=by kernel_rfl
theorem awE{W : World}{l : List (String × DataW Unit)}(hL : laidMet Tryz.prog l W)(hs : W.ShapedOpen Tryz.prog)(h1 : ("strings.asciiSpace", Rows.laid_strings_asciiSpace) ∈ l)(h2 : ("internal/strconv.uint64pow10", Rows.laid_internal_strconv_uint64pow10) ∈ l)(h3 : ("strconv.ErrSyntax", Rows.laid_strconv_ErrSyntax) ∈ l)(h4 : ("strconv.ErrRange", Rows.laid_strconv_ErrRange) ∈ l) : aeV W := by
 rw[auY]at h1
 rw[auX]at h2
 refine⟨ahB (g:=0) (t:=138) (e:=5) (n:=256) (by kernel_rfl) (by kernel_rfl) (by kernel_rfl) (by kernel_rfl) (by kernel_rfl) (by kernel_rfl) (Lib.laidMet.reads hL h1),ahB (g:=8) (t:=323) (e:=262) (n:=20) (by kernel_rfl) (by kernel_rfl) (by kernel_rfl) (by kernel_rfl) (by kernel_rfl) (by kernel_rfl) (Lib.laidMet.reads hL h2),⟨ajw (g:=3) (t:=28) (by kernel_rfl) (by kernel_rfl) Tryz.underlying28 (Lib.laidMet.reads hL h3),ajw (g:=4) (t:=28) (by kernel_rfl) (by kernel_rfl) Tryz.underlying28 (Lib.laidMet.reads hL h4)⟩,Tryz.laysM145.s1_3 W hs⟩
end Go.Proofs.YtmffejnigppbpaaGreatDoor
