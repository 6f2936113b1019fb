/-
  Texts merged into one: WhenShape, WhenLaws, WhenLaws2.
-/
import Derived.Test.YtmffejnigppbpaaGreatDoorDXMA70
import Derived.Laws.RangeAny
import Derived.Lib.MapLaws
import Derived.Lib.TrimAscii
import Derived.Test.YtmffejnigppbpaaGreatDoorDXMA59
import Derived.Test.YtmffejnigppbpaaGreatDoorDXMA52
import Derived.Lib.LastIndexByte
import Derived.Lib.IndexBytes
set_option linter.unusedVariables false
set_option linter.unusedSimpArgs false
namespace Go.Proofs.YtmffejnigppbpaaGreatDoor
open Go.RowKit
def shB(b:UInt8):UInt8:=if dgB b then 57 else b
theorem awd(b:UInt8)(h:b.toNat<128):Lib.encodeRune (shF (b.toNat:Int))=[shB b]:=by
 have key:∀i:Fin 128,Lib.encodeRune (shF (i.val:Int))=[shB (UInt8.ofNat i.val)]:=by decide +kernel
 have:=key ⟨b.toNat,h⟩
 simpa using this
theorem ayE(n:Nat):0≤shF (n:Int):=by unfold shF;split<;>omega
theorem aqR(b:UInt8)(t:List UInt8)(h:b.toNat<128):ac8 (b::t)=shB b::ac8 t:=by
 unfold ac8
 rw[Lib.mapD_step shF (b::t) (by simp),Lib.decodeL_ascii b t h]
 dsimp only
 rw[if_pos (ayE _),awd b h]
 simp
theorem acV:∀(l:List UInt8),(∀b∈l,b.toNat<128)→ac8 l=l.map shB
 |[],_=>rfl
 |b::t,h=>by
  rw[aqR b t (h b List.mem_cons_self),acV t fun x hx=>h x (List.mem_cons_of_mem _ hx)]
  rfl
def aeJ(s:List UInt8)(a b:Nat):Int:=(aug ((s.take b).drop a):Nat)
def dk0:List UInt8:=[]
def dk1:List UInt8:=[57,57,57,57]
def dk2:List UInt8:=[57,57,57,57,45,57,57]
def dk3:List UInt8:=[57,57,57,57,57,57,57,57]
def dk4:List UInt8:=[45,45,57,57]
def dk5:List UInt8:=[45,45,57,57,57,57]
def dk6:List UInt8:=[45,45,45,57,57]
def ck0:List UInt8:=[57,57]
def ck3:List UInt8:=[45,57,57]
def ck4:List UInt8:=[45,57,57,57,57]
def ck2:List UInt8:=[57,57,57,57,57,57]
def ale(s:List UInt8)(y m d:Int):Option (Int×Int×Int):=
 if ac8 s=dk0 then some (y,m,d)
 else if ac8 s=dk1 then some (aeJ s 0 4,m,d)
 else if ac8 s=dk2 then some (aeJ s 0 4,aeJ s 5 7,d)
 else if ac8 s=dk3 then some (aeJ s 0 4,aeJ s 4 6,aeJ s 6 8)
 else if ac8 s=dk4 then some (y,aeJ s 2 4,d)
 else if ac8 s=dk5 then some (y,aeJ s 2 4,aeJ s 4 6)
 else if ac8 s=dk6 then some (y,m,aeJ s 3 5)
 else none
def afl(s:List UInt8)(h n c:Int):Option (Int×Int×Int):=
 if ac8 s=ck0 then some (aeJ s 0 2,n,c)
 else if ac8 s=dk1 then some (aeJ s 0 2,aeJ s 2 4,c)
 else if ac8 s=ck2 then some (aeJ s 0 2,aeJ s 2 4,aeJ s 4 6)
 else if ac8 s=ck3 then some (h,aeJ s 1 3,c)
 else if ac8 s=ck4 then some (h,aeJ s 1 3,aeJ s 3 5)
 else if ac8 s=dk4 then some (h,n,aeJ s 2 4)
 else none
end Go.Proofs.YtmffejnigppbpaaGreatDoor

namespace Go.Proofs.YtmffejnigppbpaaGreatDoor
open Go.RowKit
def am4(x:St):St×Int:=if x.right=0 then(x,0)else(St0,x.right)
def kAt(t:List UInt8):Nat:=
  if 0≤Lib.indexAny t [90,43] then(Lib.indexAny t [90,43]).toNat
  else if 2≤Lib.lastIndexByte (S t) 45 then(Lib.lastIndexByte (S t) 45).toNat else t.length
def asa(y m d:Int)(t:List UInt8):St×Int:=
  match afl (t.take (kAt t)) (-1) (-1) (-1)with
  |none=>(St0,3)
  |some (h,n,c)=>
    if kAt t<t.length then
      (if (aji (t.drop (kAt t))).2=0 then am4 ⟨y,m,d,h,n,c,true,(aji (t.drop (kAt t))).1⟩else(St0,(aji (t.drop (kAt t))).2))
    else am4 ⟨y,m,d,h,n,c,false,0⟩
def afw(s:List UInt8):St×Int:=
  match ale (Lib.cut s [84]).1 (-1) (-1) (-1)with
  |none=>(St0,3)
  |some (y,m,d)=>
    if (Lib.cut s [84]).2.2=true then(if (Lib.cut s [84]).2.1=[] then(St0,3)else asa y m d (Lib.cut s [84]).2.1)
    else am4 ⟨y,m,d,-1,-1,-1,false,0⟩
theorem apd(t:List UInt8)(j:Nat)(h:j<t.length):(S t).data[j]! =t[j]:=
  getElem!_pos t.toArray j (by simpa using h)
theorem ayD{l:List UInt8}(h:(84:UInt8)∉l):Lib.cut l [84]=(l,[],false):=by
  unfold Lib.cut
  rw[Lib.index_one,agj l 84 h]
  rfl
theorem axF{a r:List UInt8}(h:(84:UInt8)∉a):Lib.cut (a++84::r) [84]=(a,r,true):=by
  unfold Lib.cut
  rw[Lib.index_one,ahT a r 84 h,if_pos (by omega)]
  simp
theorem aoc(n:Int):(UInt8.ofNat (48+n%10).toNat).toNat=(48+n%10).toNat:=by
  simp[UInt8.toNat_ofNat'];omega
theorem ade:∀(k:Nat) (n:Int),∀b∈Jb n k,dgB b=true
  |0,n,b,h=>by simp[Jb]at h
  |k+1,n,b,h=>by
    rw[Jb,List.mem_append]at h
    rcases h with h|h
    · exact ade k _ b h
    · simp only[List.mem_singleton]at h
      subst h
      unfold dgB
      rw[aoc]
      simp;omega
theorem aqP:∀(k:Nat) (n:Int),0≤n→n<10^k→((aug (Jb n k):Nat):Int)=n
  |0,n,h0,h1=>by
   simp at h1
   have:n=0:=by omega
   subst this
   rfl
  |k+1,n,h0,h1=>by
    have ih:=aqP k (n/10) (by omega) (by rw[Int.pow_succ]at h1;omega)
    rw[Jb,auh,aoc]
    omega
theorem ay4{l:List UInt8}(h:∀b∈l,dgB b=true):l.map shB=List.replicate l.length 57:=by
  have e:l.map shB=l.map fun _=>(57:UInt8):=List.map_congr_left fun b hb=>by unfold shB;rw[h b hb];rfl
  rw[e,List.map_const']
theorem asN{b:UInt8}(h:dgB b=true):48≤b.toNat∧b.toNat≤57:=by
  unfold dgB at h
  simpa using h
theorem ae2(n:Int)(k:Nat):(Jb n k).map shB=List.replicate k 57:=by
  rw[ay4 (ade k n),uS]
theorem aqQ(n:Int)(k:Nat):∀b∈Jb n k,b.toNat<128:=fun b hb=>by have:=asN (ade k n b hb);omega
def dd(b:UInt8):Prop:=dgB b=true∨b=45
theorem agH{b:UInt8}(h:dd b):b.toNat<128:=by
  rcases h with h|rfl
  · have:=asN h;omega
  · decide
theorem av7{b c:UInt8}(h:dd b)(hc:c=84∨c=90∨c=43):b≠c:=by
  rintro rfl
  rcases h with h|rfl
  · have:=asN h
    rcases hc with rfl|rfl|rfl<;>exact absurd this (by decide)
  · rcases hc with h|h|h<;>exact absurd h (by decide)
theorem aui(p q r:List UInt8)(a b:Nat)(ha:p.length=a)(hb:a+q.length=b):aeJ (p++(q++r)) a b=((aug q:Nat):Int):=by
  unfold aeJ
  subst ha;subst hb
  rw[←List.append_assoc,List.take_left' (by simp),List.drop_left' rfl]
theorem acQ(p:List UInt8)(n:Int)(k:Nat)(r:List UInt8)(a b:Nat)(ha:p.length=a)(hb:a+k=b)(h0:0≤n)(h1:n<10^k):aeJ (p++(Jb n k++r)) a b=n:=by
  rw[aui p (Jb n k) r a b ha (by rw[uS];exact hb),aqP k n h0 h1]
def aod(y m d:Int):Prop:=
  (y = -1∧m = -1∧d = -1)∨(y ≠ -1∧m = -1∧d = -1)∨(y ≠ -1∧m ≠ -1∧d = -1)∨(y ≠ -1∧m ≠ -1∧d ≠ -1)∨(y = -1∧m ≠ -1∧d = -1)∨(y = -1∧m ≠ -1∧d ≠ -1)∨(y = -1∧m = -1∧d ≠ -1)
theorem asb(n:Int):n = -1∧dgF n=45∨n ≠ -1∧dgF n=57:=by
  by_cases h:n = -1
  · exact .inl ⟨h,by rw[h];rfl⟩
  · exact .inr ⟨h,ac0 h⟩
theorem am5(D T:List UInt8):afz D T=ahn∧afA D T=ahn∨afz D T=apf∧afA D T=apg:=by
  unfold afz afA
  split
  · exact .inr ⟨rfl,rfl⟩
  · exact .inl ⟨rfl,rfl⟩
theorem alI{X:List UInt8}(hX:X=ahn∨X=apf∨X=apg){y m d:Int}(h:Lib.contains X (32::(uX y m d++[32]))=true):aod y m d:=by
  unfold uX at h
  unfold aod
  rcases asb y with⟨a,e1⟩|⟨a,e1⟩<;>rcases asb m with⟨b,e2⟩|⟨b,e2⟩<;>rcases asb d with⟨c,e3⟩|⟨c,e3⟩<;>rw[e1,e2,e3]at h
  · exact .inl ⟨a,b,c⟩
  · exact .inr (.inr (.inr (.inr (.inr (.inr ⟨a,b,c⟩)))))
  · exact .inr (.inr (.inr (.inr (.inl ⟨a,b,c⟩))))
  · exact .inr (.inr (.inr (.inr (.inr (.inl ⟨a,b,c⟩)))))
  · exact .inr (.inl ⟨a,b,c⟩)
  · rcases hX with rfl|rfl|rfl<;>exact absurd h (by decide +kernel)
  · exact .inr (.inr (.inl ⟨a,b,c⟩))
  · exact .inr (.inr (.inr (.inl ⟨a,b,c⟩)))
theorem aoe{t:St}(h:t.bad=false):¬(uX t.y t.m t.d=[45,45,45]∧uX t.h t.n t.s=[45,45,45])∧Lib.contains (afz (uX t.y t.m t.d) (uX t.h t.n t.s)) (32::(uX t.y t.m t.d++[32]))=true∧Lib.contains (afA (uX t.y t.m t.d) (uX t.h t.n t.s)) (32::(uX t.h t.n t.s++[32]))=true∧(t.zd=true→t.h ≠ -1)∧(t.zd=false→t.zn=0):=by
  unfold St.bad at h
  simp only[Bool.or_eq_false_iff,Bool.and_eq_false_iff,Bool.not_eq_false',decide_eq_false_iff_not,Bool.not_eq_eq_eq_not,Bool.not_false,Bool.not_true,decide_eq_true_eq]at h
  obtain⟨⟨⟨⟨h1,h2⟩,h3⟩,h4⟩,h5⟩:=h
  refine⟨fun ⟨a,b⟩=>by rcases h1 with h|h;exact h a;exact h b,h2,h3,?_,?_⟩
  · intro hz e
    rcases h4 with h|h
    · rw[hz]at h;cases h
    · exact h e
  · intro hz
    rcases h5 with h|h
    · rw[hz]at h;cases h
    · exact h
theorem aof{t:St}(h:t.bad=false):aod t.y t.m t.d∧aod t.h t.n t.s∧¬((t.y = -1∧t.m = -1∧t.d = -1)∧t.h = -1∧t.n = -1∧t.s = -1):=by
  obtain⟨h1,h2,h3,_,_⟩:=aoe h
  refine⟨?_,?_,?_⟩
  · rcases am5 (uX t.y t.m t.d) (uX t.h t.n t.s)with⟨a,b⟩|⟨a,b⟩
    · exact alI (.inl a) h2
    · exact alI (.inr (.inl a)) h2
  · rcases am5 (uX t.y t.m t.d) (uX t.h t.n t.s)with⟨a,b⟩|⟨a,b⟩
    · exact alI (.inl b) h3
    · exact alI (.inr (.inr b)) h3
  · rintro⟨⟨a,b,c⟩,d,e,f⟩
    exact h1 ⟨by rw[a,b,c];rfl,by rw[d,e,f];rfl⟩
theorem am6(x:St)(g:x.Good)(hf:aod x.y x.m x.d):ale x.date (-1) (-1) (-1)=some (x.y,x.m,x.d)∧∀b∈x.date,dd b:=by
  obtain⟨y,m,d,h,n,s,zd,zn⟩:=x
  obtain⟨gy,gm,gd,_,_,_,_⟩:=g
  simp only at gy gm gd hf⊢
  have p4:((10:Int)^4)=10000:=by decide
  have p2:((10:Int)^2)=100:=by decide
  rcases hf with⟨a,b,c⟩|⟨a,b,c⟩|⟨a,b,c⟩|⟨a,b,c⟩|⟨a,b,c⟩|⟨a,b,c⟩|⟨a,b,c⟩
  · subst a b c
    have e:(⟨-1,-1,-1,h,n,s,zd,zn⟩:St).date=[]:=by unfold St.date;simp
    rw[e]
    exact⟨by decide +kernel,by intro b hb;simp at hb⟩
  · subst b c
    have e:(⟨y,-1,-1,h,n,s,zd,zn⟩:St).date=[]++(Jb y 4++[]):=by unfold St.date;simp[a]
    have hs:ac8 ([]++(Jb y 4++[]))=dk1:=by
      rw[acV _ (by simpa using aqQ y 4)];simp[ae2,dk1]
    rw[e]
    refine⟨?_,fun b hb=>.inl (ade 4 y b (by simpa using hb))⟩
    unfold ale
    rw[hs,if_neg (by decide),if_pos rfl,acQ [] y 4 [] 0 4 rfl rfl (by omega) (by omega)]
  · subst c
    have e:(⟨y,m,-1,h,n,s,zd,zn⟩:St).date=[]++(Jb y 4++(45::(Jb m 2++[]))):=by unfold St.date;simp[a,b]
    have e2:[]++(Jb y 4++(45::(Jb m 2++[])))=(Jb y 4++[45])++(Jb m 2++[]):=by simp
    have hd:∀b∈[]++(Jb y 4++(45::(Jb m 2++[]))),dd b:=by
      intro b hb
      simp at hb
      rcases hb with hb|hb|hb
      · exact .inl (ade 4 y b hb)
      · exact .inr hb
      · exact .inl (ade 2 m b hb)
    have hs:ac8 ([]++(Jb y 4++(45::(Jb m 2++[]))))=dk2:=by
      rw[acV _ (fun b hb=>agH (hd b hb))];simp[ae2,dk2];decide
    rw[e]
    refine⟨?_,hd⟩
    unfold ale
    rw[hs,if_neg (by decide),if_neg (by decide),if_pos rfl,acQ [] y 4 _ 0 4 rfl rfl (by omega) (by omega),e2,acQ _ m 2 [] 5 7 (by simp[uS]) rfl (by omega) (by omega)]
  · have e:(⟨y,m,d,h,n,s,zd,zn⟩:St).date=[]++(Jb y 4++(Jb m 2++(Jb d 2++[]))):=by unfold St.date;simp[a,b,c]
    have e2:[]++(Jb y 4++(Jb m 2++(Jb d 2++[])))=Jb y 4++(Jb m 2++(Jb d 2++[])):=by simp
    have e3:Jb y 4++(Jb m 2++(Jb d 2++[]))=(Jb y 4++Jb m 2)++(Jb d 2++[]):=by simp
    have hd:∀b∈[]++(Jb y 4++(Jb m 2++(Jb d 2++[]))),dd b:=by
      intro b hb
      simp at hb
      rcases hb with hb|hb|hb
      · exact .inl (ade 4 y b hb)
      · exact .inl (ade 2 m b hb)
      · exact .inl (ade 2 d b hb)
    have hs:ac8 ([]++(Jb y 4++(Jb m 2++(Jb d 2++[]))))=dk3:=by
      rw[acV _ (fun b hb=>agH (hd b hb))];simp[ae2,dk3]
    rw[e]
    refine⟨?_,hd⟩
    unfold ale
    rw[hs,if_neg (by decide),if_neg (by decide),if_neg (by decide),if_pos rfl,acQ [] y 4 _ 0 4 rfl rfl (by omega) (by omega),e2,acQ _ m 2 _ 4 6 (by simp[uS]) rfl (by omega) (by omega),e3,acQ _ d 2 [] 6 8 (by simp[uS]) rfl (by omega) (by omega)]
  · subst a c
    have e:(⟨-1,m,-1,h,n,s,zd,zn⟩:St).date=[45,45]++(Jb m 2++[]):=by unfold St.date;simp[b]
    have hd:∀b∈[45,45]++(Jb m 2++[]),dd b:=by
      intro b hb
      simp at hb
      rcases hb with hb|hb
      · exact .inr hb
      · exact .inl (ade 2 m b hb)
    have hs:ac8 ([45,45]++(Jb m 2++[]))=dk4:=by
      rw[acV _ (fun b hb=>agH (hd b hb))];simp[ae2,dk4];decide
    rw[e]
    refine⟨?_,hd⟩
    unfold ale
    rw[hs,if_neg (by decide),if_neg (by decide),if_neg (by decide),if_neg (by decide),if_pos rfl,acQ _ m 2 [] 2 4 rfl rfl (by omega) (by omega)]
  · subst a
    have e:(⟨-1,m,d,h,n,s,zd,zn⟩:St).date=[45,45]++(Jb m 2++(Jb d 2++[])):=by unfold St.date;simp[b,c]
    have e2:[45,45]++(Jb m 2++(Jb d 2++[]))=([45,45]++Jb m 2)++(Jb d 2++[]):=by simp
    have hd:∀b∈[45,45]++(Jb m 2++(Jb d 2++[])),dd b:=by
      intro b hb
      simp at hb
      rcases hb with hb|hb|hb
      · exact .inr hb
      · exact .inl (ade 2 m b hb)
      · exact .inl (ade 2 d b hb)
    have hs:ac8 ([45,45]++(Jb m 2++(Jb d 2++[])))=dk5:=by
      rw[acV _ (fun b hb=>agH (hd b hb))];simp[ae2,dk5];decide
    rw[e]
    refine⟨?_,hd⟩
    unfold ale
    rw[hs,if_neg (by decide),if_neg (by decide),if_neg (by decide),if_neg (by decide),if_neg (by decide),if_pos rfl,acQ _ m 2 _ 2 4 rfl rfl (by omega) (by omega),e2,acQ _ d 2 [] 4 6 (by simp[uS]) rfl (by omega) (by omega)]
  · subst a b
    have e:(⟨-1,-1,d,h,n,s,zd,zn⟩:St).date=[45,45,45]++(Jb d 2++[]):=by unfold St.date;simp[c]
    have hd:∀b∈[45,45,45]++(Jb d 2++[]),dd b:=by
      intro b hb
      simp at hb
      rcases hb with hb|hb
      · exact .inr hb
      · exact .inl (ade 2 d b hb)
    have hs:ac8 ([45,45,45]++(Jb d 2++[]))=dk6:=by
      rw[acV _ (fun b hb=>agH (hd b hb))];simp[ae2,dk6];decide
    rw[e]
    refine⟨?_,hd⟩
    unfold ale
    rw[hs,if_neg (by decide),if_neg (by decide),if_neg (by decide),if_neg (by decide),if_neg (by decide),if_neg (by decide),if_pos rfl,acQ _ d 2 [] 3 5 rfl rfl (by omega) (by omega)]
end Go.Proofs.YtmffejnigppbpaaGreatDoor

namespace Go.Proofs.YtmffejnigppbpaaGreatDoor
open Go.RowKit
structure auj(x:St):Prop where
 read:afl x.clock (-1) (-1) (-1)=some (x.h,x.n,x.s)
 bytes:∀b∈x.clock,dd b
 dash:∀i (h:i<x.clock.length),x.clock[i]=45→i<2
 long:2≤x.clock.length∧x.clock.length≤6
 told:x.h ≠ -1→∀b∈x.clock,dgB b=true
theorem ait{p q:List UInt8}(hp:p.length≤2)(hq:∀b∈q,dgB b=true):∀i (h:i<(p++q).length),(p++q)[i]=45→i<2:=by
 intro i h e
 rcases Nat.lt_or_ge i p.length with hi|hi
 ·omega
 ·rw[List.getElem_append_right hi]at e
  have:=hq _ (List.getElem_mem (by simp at h;omega:i-p.length<q.length))
  rw[e]at this
  exact absurd this (by decide)
theorem am7(x:St)(g:x.Good)(hf:aod x.h x.n x.s)(ht:¬(x.h = -1∧x.n = -1∧x.s = -1)):auj x:=by
 obtain⟨y,m,d,h,n,s,zd,zn⟩:=x
 obtain⟨_,_,_,gh,gn,gs,_⟩:=g
 simp only at gh gn gs hf ht
 have p2:((10:Int)^2)=100:=by decide
 rcases hf with⟨a,b,c⟩|⟨a,b,c⟩|⟨a,b,c⟩|⟨a,b,c⟩|⟨a,b,c⟩|⟨a,b,c⟩|⟨a,b,c⟩
 ·exact absurd ⟨a,b,c⟩ ht
 ·subst b c
  have e:(⟨y,m,d,h,-1,-1,zd,zn⟩:St).clock=[]++(Jb h 2++[]):=by unfold St.clock;simp[a]
  have hq:∀b∈Jb h 2++[],dgB b=true:=fun b hb=>ade 2 h b (by simpa using hb)
  have hs:ac8 ([]++(Jb h 2++[]))=ck0:=by
   rw[acV _ (by simpa using aqQ h 2)];simp[ae2,ck0]
  refine⟨?_,?_,?_,?_,?_⟩
  ·show afl (St.clock _) _ _ _=_
   rw[e];unfold afl
   rw[hs,if_pos rfl,acQ [] h 2 [] 0 2 rfl rfl (by omega) (by omega)]
  ·rw[e];exact fun b hb=>.inl (hq b (by simpa using hb))
  ·rw[e];exact ait (by decide) hq
  ·rw[e];simp[uS]
  ·rw[e];exact fun _ b hb=>hq b (by simpa using hb)
 ·subst c
  have e:(⟨y,m,d,h,n,-1,zd,zn⟩:St).clock=[]++(Jb h 2++(Jb n 2++[])):=by unfold St.clock;simp[a,b]
  have e2:[]++(Jb h 2++(Jb n 2++[]))=Jb h 2++(Jb n 2++[]):=by simp
  have hq:∀b∈Jb h 2++(Jb n 2++[]),dgB b=true:=by
   intro b hb
   simp at hb
   rcases hb with hb|hb
   ·exact ade 2 h b hb
   ·exact ade 2 n b hb
  have hs:ac8 ([]++(Jb h 2++(Jb n 2++[])))=dk1:=by
   rw[acV _ (fun b hb=>agH (.inl (hq b (by simpa using hb))))];simp[ae2,dk1]
  refine⟨?_,?_,?_,?_,?_⟩
  ·show afl (St.clock _) _ _ _=_
   rw[e];unfold afl
   rw[hs,if_neg (by decide),if_pos rfl,acQ [] h 2 _ 0 2 rfl rfl (by omega) (by omega),e2,acQ _ n 2 [] 2 4 (by simp[uS]) rfl (by omega) (by omega)]
  ·rw[e];exact fun b hb=>.inl (hq b (by simpa using hb))
  ·rw[e];exact ait (by decide) hq
  ·rw[e];simp[uS]
  ·rw[e];exact fun _ b hb=>hq b (by simpa using hb)
 ·have e:(⟨y,m,d,h,n,s,zd,zn⟩:St).clock=[]++(Jb h 2++(Jb n 2++(Jb s 2++[]))):=by unfold St.clock;simp[a,b,c]
  have e2:[]++(Jb h 2++(Jb n 2++(Jb s 2++[])))=Jb h 2++(Jb n 2++(Jb s 2++[])):=by simp
  have e3:Jb h 2++(Jb n 2++(Jb s 2++[]))=(Jb h 2++Jb n 2)++(Jb s 2++[]):=by simp
  have hq:∀b∈Jb h 2++(Jb n 2++(Jb s 2++[])),dgB b=true:=by
   intro b hb
   simp at hb
   rcases hb with hb|hb|hb
   ·exact ade 2 h b hb
   ·exact ade 2 n b hb
   ·exact ade 2 s b hb
  have hs:ac8 ([]++(Jb h 2++(Jb n 2++(Jb s 2++[]))))=ck2:=by
   rw[acV _ (fun b hb=>agH (.inl (hq b (by simpa using hb))))];simp[ae2,ck2]
  refine⟨?_,?_,?_,?_,?_⟩
  ·show afl (St.clock _) _ _ _=_
   rw[e];unfold afl
   rw[hs,if_neg (by decide),if_neg (by decide),if_pos rfl,acQ [] h 2 _ 0 2 rfl rfl (by omega) (by omega),e2,acQ _ n 2 _ 2 4 (by simp[uS]) rfl (by omega) (by omega),e3,acQ _ s 2 [] 4 6 (by simp[uS]) rfl (by omega) (by omega)]
  ·rw[e];exact fun b hb=>.inl (hq b (by simpa using hb))
  ·rw[e];exact ait (by decide) hq
  ·rw[e];simp[uS]
  ·rw[e];exact fun _ b hb=>hq b (by simpa using hb)
 ·subst a c
  have e:(⟨y,m,d,-1,n,-1,zd,zn⟩:St).clock=[45]++(Jb n 2++[]):=by unfold St.clock;simp[b]
  have hq:∀b∈Jb n 2++[],dgB b=true:=fun b hb=>ade 2 n b (by simpa using hb)
  have hd:∀b∈[45]++(Jb n 2++[]),dd b:=by
   intro b hb
   rcases List.mem_append.1 hb with hb|hb
   ·exact .inr (by simpa using hb)
   ·exact .inl (hq b hb)
  have hs:ac8 ([45]++(Jb n 2++[]))=ck3:=by
   rw[acV _ (fun b hb=>agH (hd b hb))];simp[ae2,ck3];decide
  refine⟨?_,?_,?_,?_,?_⟩
  ·show afl (St.clock _) _ _ _=_
   rw[e];unfold afl
   rw[hs,if_neg (by decide),if_neg (by decide),if_neg (by decide),if_pos rfl,acQ _ n 2 [] 1 3 rfl rfl (by omega) (by omega)]
  ·rw[e];exact hd
  ·rw[e];exact ait (by decide) hq
  ·rw[e];simp[uS]
  ·exact fun h=>absurd rfl h
 ·subst a
  have e:(⟨y,m,d,-1,n,s,zd,zn⟩:St).clock=[45]++(Jb n 2++(Jb s 2++[])):=by unfold St.clock;simp[b,c]
  have e2:[45]++(Jb n 2++(Jb s 2++[]))=([45]++Jb n 2)++(Jb s 2++[]):=by simp
  have hq:∀b∈Jb n 2++(Jb s 2++[]),dgB b=true:=by
   intro b hb
   simp at hb
   rcases hb with hb|hb
   ·exact ade 2 n b hb
   ·exact ade 2 s b hb
  have hd:∀b∈[45]++(Jb n 2++(Jb s 2++[])),dd b:=by
   intro b hb
   rcases List.mem_append.1 hb with hb|hb
   ·exact .inr (by simpa using hb)
   ·exact .inl (hq b hb)
  have hs:ac8 ([45]++(Jb n 2++(Jb s 2++[])))=ck4:=by
   rw[acV _ (fun b hb=>agH (hd b hb))];simp[ae2,ck4];decide
  refine⟨?_,?_,?_,?_,?_⟩
  ·show afl (St.clock _) _ _ _=_
   rw[e];unfold afl
   rw[hs,if_neg (by decide),if_neg (by decide),if_neg (by decide),if_neg (by decide),if_pos rfl,acQ _ n 2 _ 1 3 rfl rfl (by omega) (by omega),e2,acQ _ s 2 [] 3 5 (by simp[uS]) rfl (by omega) (by omega)]
  ·rw[e];exact hd
  ·rw[e];exact ait (by decide) hq
  ·rw[e];simp[uS]
  ·exact fun h=>absurd rfl h
 ·subst a b
  have e:(⟨y,m,d,-1,-1,s,zd,zn⟩:St).clock=[45,45]++(Jb s 2++[]):=by unfold St.clock;simp[c]
  have hq:∀b∈Jb s 2++[],dgB b=true:=fun b hb=>ade 2 s b (by simpa using hb)
  have hd:∀b∈[45,45]++(Jb s 2++[]),dd b:=by
   intro b hb
   rcases List.mem_append.1 hb with hb|hb
   ·exact .inr (by simpa using hb)
   ·exact .inl (hq b hb)
  have hs:ac8 ([45,45]++(Jb s 2++[]))=dk4:=by
   rw[acV _ (fun b hb=>agH (hd b hb))];simp[ae2,dk4];decide
  refine⟨?_,?_,?_,?_,?_⟩
  ·show afl (St.clock _) _ _ _=_
   rw[e];unfold afl
   rw[hs,if_neg (by decide),if_neg (by decide),if_neg (by decide),if_neg (by decide),if_neg (by decide),if_pos rfl,acQ _ s 2 [] 2 4 rfl rfl (by omega) (by omega)]
  ·rw[e];exact hd
  ·rw[e];exact ait (by decide) hq
  ·rw[e];simp[uS]
  ·exact fun h=>absurd rfl h
theorem ah0{p:List UInt8}{c:UInt8}{r chars:List UInt8}(h:∀b∈p,chars.contains b=false)(hc:chars.contains c=true):Lib.indexAny (p++c::r) chars=p.length:=by
 induction p with
 |nil=>simp only[List.nil_append,Lib.indexAny,hc,if_true];rfl
 |cons b p ih=>
  have ih:=ih fun x hx=>h x (List.mem_cons_of_mem _ hx)
  rw[List.cons_append,Lib.indexAny,h b List.mem_cons_self,ih]
  have:(((p.length:Int)) == -1)=false:=beq_eq_false_iff_ne.2 (by omega)
  simp[this]
theorem ald{p chars:List UInt8}(h:∀b∈p,chars.contains b=false):Lib.indexAny p chars = -1:=by
 induction p with
 |nil=>rfl
 |cons b p ih=>
  rw[Lib.indexAny,h b List.mem_cons_self,ih fun x hx=>h x (List.mem_cons_of_mem _ hx)]
  rfl
theorem ax3{b:UInt8}(h:dd b):([90,43]:List UInt8).contains b=false:=by
 have h1:=av7 h (c:=90) (.inr (.inl rfl))
 have h2:=av7 h (c:=43) (.inr (.inr rfl))
 simp[h1,h2]
theorem axG{p:List UInt8}{r:List UInt8}(h:∀b∈r,b≠45):Lib.lastIndexByte (S (p++45::r)) 45=p.length:=by
 rcases Lib.lastIndexByte_spec (S (p++45::r)) 45 with⟨_,hn⟩|⟨i,hi,e,hc,hn⟩
 ·have:=hn p.length (by simp)
  rw[apd _ _ (by simp)]at this
  simp at this
 ·simp only[ahu]at hi hn
  rw[e]
  rcases Nat.lt_trichotomy i p.length with hl|hl|hl
  ·have:=hn p.length hl (by simp)
   rw[apd _ _ (by simp)]at this
   simp at this
  ·rw[hl]
  ·rw[apd _ _ hi,List.getElem_append_right (by omega)]at hc
   obtain⟨k,hk⟩:∃k,i-p.length=k+1:=⟨i-p.length-1,by omega⟩
   simp only[hk,List.getElem_cons_succ]at hc
   have hm:r[k]'(by simp at hi;omega)∈r:=List.getElem_mem _
   refine absurd ?_ (h _ hm)
   apply UInt8.toNat_inj.1
   have:(45:UInt8).toNat=45:=rfl
   omega
theorem asc{p:List UInt8}(h:∀i (h:i<p.length),p[i]=45→i<2):¬2≤Lib.lastIndexByte (S p) 45:=by
 rcases Lib.lastIndexByte_spec (S p) 45 with⟨e,hn⟩|⟨i,hi,e,hc,hn⟩
 ·rw[e];decide
 ·simp only[ahu]at hi
  rw[apd _ _ hi]at hc
  have:=h i hi (UInt8.toNat_inj.1 (by have:(45:UInt8).toNat=45:=rfl;omega))
  rw[e];omega
theorem asO{n:Int}(h0:0≤n)(h1:n≤99):∀b∈aiw n,b≠45∧([90,43]:List UInt8).contains b=false:=by
 intro b hb
 have key:∀k:Fin 100,(aiw (k.val:Int)).all (fun b=>decide (b≠45) && !([90,43]:List UInt8).contains b)=true:=by decide +kernel
 have h2:=key ⟨n.toNat,by omega⟩
 have e:((n.toNat:Nat):Int)=n:=by omega
 simp only[e]at h2
 have:=List.all_eq_true.1 h2 b hb
 simpa using this
theorem av8{p:List UInt8}(hd:∀b∈p,dd b)(h:∀i (h:i<p.length),p[i]=45→i<2):kAt p=p.length:=by
 unfold kAt
 rw[ald (fun b hb=>ax3 (hd b hb)),if_neg (by decide),if_neg (asc h)]
theorem av9{p:List UInt8}{z:Int}(hd:∀b∈p,dgB b=true)(hl:2≤p.length)(hz:adF z=true):kAt (p++adA z)=p.length∧p.length<(p++adA z).length:=by
 have hr : -840≤z∧z≤840:=by unfold adF at hz;simpa using hz
 have hzp:∀b∈p,([90,43]:List UInt8).contains b=false:=fun b hb=>ax3 (.inl (hd b hb))
 unfold adA
 split
 ·refine⟨?_,by simp⟩
  unfold kAt
  rw[ah0 hzp (by decide),if_pos (by omega)];rfl
 ·split
  ·refine⟨?_,by simp⟩
   have h1:=asO (n := -z/60) (by omega) (by omega)
   have h2:=asO (n := -z%60) (by omega) (by omega)
   unfold kAt
   rw[ald (p:=p++45::(aiw (-z/60)++aiw (-z%60))),if_neg (by decide),axG (by
    intro b hb
    rcases List.mem_append.1 hb with hb|hb
    ·exact(h1 b hb).1
    ·exact(h2 b hb).1),if_pos (by omega)]
   ·rfl
   ·intro b hb
    rcases List.mem_append.1 hb with hb|hb
    ·exact hzp b hb
    ·rcases List.mem_cons.1 hb with rfl|hb
     ·decide
     ·rcases List.mem_append.1 hb with hb|hb
      ·exact(h1 b hb).2
      ·exact(h2 b hb).2
  ·refine⟨?_,by simp⟩
   unfold kAt
   rw[ah0 hzp (by decide),if_pos (by omega)];rfl
theorem ase(x:St)(hr:x.right=0):afw x.text=(x,0):=by
 have g:=St.good hr
 have hb:=(St.right_zero hr).1
 obtain⟨f1,f2,f3⟩:=aof hb
 obtain⟨_,_,_,hz1,hz2⟩:=aoe hb
 obtain⟨hd,hdd⟩:=am6 x g f1
 have h84:(84:UInt8)∉x.date:=fun h=>av7 (hdd _ h) (.inl rfl) rfl
 unfold St.text afw
 by_cases ht:x.h = -1∧x.n = -1∧x.s = -1
 ·rw[if_pos ht,ayD h84]
  simp only[hd]
  have hzd:x.zd=false:=by
   cases e:x.zd with
   |false=>rfl
   |true=>exact absurd ht.1 (hz1 e)
  have:(⟨x.y,x.m,x.d,-1,-1,-1,false,0⟩:St)=x:=by
   obtain⟨a,b,c⟩:=ht
   have:=hz2 hzd
   obtain⟨y,m,d,h,n,s,zd,zn⟩:=x
   simp_all
  rw[this]
  simp[am4,hr]
 ·rw[if_neg ht,axF h84]
  simp only[hd,if_true]
  obtain⟨c1,c2,c3,c4,c5⟩:=am7 x g f2 ht
  have hne:∀z,x.clock++z≠[]:=fun z e=>by
   have:=congrArg List.length e
   simp at this;have:=c4.1;simp_all
  rw[if_neg (hne _)]
  unfold asa
  cases hzd:x.zd with
  |true=>
   obtain⟨k1,k2⟩:=av9 (c5 (hz1 hzd)) c4.1 g.z
   simp only[if_true]
   rw[k1,List.take_left' rfl,c1]
   simp only
   rw[if_pos k2,List.drop_left' rfl,alf _ g.z]
   simp only[if_true]
   have:(⟨x.y,x.m,x.d,x.h,x.n,x.s,true,x.zn⟩:St)=x:=by
    obtain⟨y,m,d,h,n,s,zd,zn⟩:=x
    simp_all
   rw[this]
   simp[am4,hr]
  |false=>
   have k1:=av8 c2 c3
   simp only[Bool.false_eq_true,if_false,List.append_nil]
   rw[k1,List.take_length,c1]
   simp only
   rw[if_neg (by omega)]
   have:(⟨x.y,x.m,x.d,x.h,x.n,x.s,false,0⟩:St)=x:=by
    have:=hz2 hzd
    obtain⟨y,m,d,h,n,s,zd,zn⟩:=x
    simp_all
   rw[this]
   simp[am4,hr]
theorem ape(s:List UInt8):(afw s).2=0∧(afw s).1.right=0∨(afw s).2≠0∧(afw s).1=St0:=by
 have fin:∀x,(am4 x).2=0∧(am4 x).1.right=0∨(am4 x).2≠0∧(am4 x).1=St0:=by
  intro x
  unfold am4
  split
  ·exact .inl ⟨rfl,by assumption⟩
  ·exact .inr ⟨by assumption,rfl⟩
 unfold afw
 split
 ·exact .inr ⟨by decide,rfl⟩
 ·split
  ·split
   ·exact .inr ⟨by decide,rfl⟩
   ·unfold asa
    split
    ·exact .inr ⟨by decide,rfl⟩
    ·split
     ·split
      ·exact fin _
      ·exact .inr ⟨by assumption,rfl⟩
     ·exact fin _
  ·exact fin _
end Go.Proofs.YtmffejnigppbpaaGreatDoor
