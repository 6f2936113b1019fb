/-
  Texts merged into one: Base, Row, Strs, IsStrs, IsLists, Name, Data, Err.
-/
import Derived.Test.YtmffejnigppbpaaGreatDoorRows
import Derived.WalkKit
import Derived.WalkSpells
import Derived.WalkLawsBesides
import Derived.SizedLaws
import Derived.Deep.QuietTactic
import Derived.BigQuiet
import Derived.Laws.BytesArg
import Derived.Lib.Bytealg
import Derived.OwnWalk
set_option linter.unusedVariables false
set_option linter.unusedSimpArgs false
namespace Go.Proofs.YtmffejnigppbpaaGreatDoor
open Go.RowKit
theorem hid{p:Prop}(h:p):Hid p:=h
theorem cO{a b:Bool}(h:a=b):Ending.returned (.bool a)=.returned (.bool b):=by rw[h]
theorem kX{k:IntKind}{a b:Int}(h:a=b):Ending.returned (.int k a)=.returned (.int k b):=by rw[h]
theorem FY{a b:Value}(h:a=b):Ending.returned a=.returned b:=by rw[h]
def G(w w':World):Prop:=Below w.heap.size w w'
theorem G.refl(w:World):G w w:=Below.refl _ _
theorem G.trans{a b c:World}(h:G a b)(k:G b c):G a c:=Below.trans h (Below.mono k h.size)
theorem G.drew{a b:World}(h:G a b):G a b.drew:=Below.drew h
theorem G.alloc{a b:World}(h:G a b)(o:Obj):G a (b.alloc o):=Below.alloc h h.size o
theorem G.size{a b:World}(h:G a b):a.heap.size≤b.heap.size:=Below.size h
theorem G.below{a b:World}(h:G a b):Below a.heap.size a b:=h
theorem G.cell{w w':World}(h:G w w'){p:Addr}(hp:p.block<w.heap.size):w'.cell? p=w.cell? p:=Below.cell h hp
def nT(f:FuncId)(args:Array Value)(w:World)(v:Value):Prop:=Calls Tryz.prog f args w fun e w'=>e=.returned v∧w=w'
theorem nT.use{f:FuncId}{args:Array Value}{w:World}{v:Value}(h:nT f args w v){R:Ending→World→Prop}(k:R (.returned v) w):Calls Tryz.prog f args w R:=
 Calls.mono h (by rintro e w' ⟨rfl,rfl⟩;exact k)
def dA(f:FuncId)(args:Array Value)(w:World)(v:Value):Prop:=Calls Tryz.prog f args w fun e w'=>e=.returned v∧G w w'
theorem dA.use{f:FuncId}{args:Array Value}{w:World}{v:Value}(h:dA f args w v){R:Ending→World→Prop}(k:∀w',G w w'→R (.returned v) w'):Calls Tryz.prog f args w R:=
 Calls.mono h (by rintro e w' ⟨rfl,hg⟩;exact k w' hg)
theorem nT.gives{f:FuncId}{args:Array Value}{w:World}{v:Value}(h:nT f args w v):dA f args w v:=
 Calls.mono h (by rintro e w' ⟨rfl,rfl⟩;exact⟨rfl,G.refl _⟩)
def dP(f:FuncId)(args:Array Value)(w:World)(Q:Value→World→Prop):Prop:=Calls Tryz.prog f args w fun e w'=>∃v,e=.returned v∧Q v w'∧G w w'
theorem dP.use{f:FuncId}{args:Array Value}{w:World}{Q:Value→World→Prop}(h:dP f args w Q){R:Ending→World→Prop}(k:∀v w',Q v w'→G w w'→R (.returned v) w'):Calls Tryz.prog f args w R:=
 Calls.mono h (by rintro e w' ⟨v,rfl,hq,hg⟩;exact k v w' hq hg)
theorem dP.mono{f:FuncId}{args:Array Value}{w:World}{Q Q':Value→World→Prop}(h:dP f args w Q)(k:∀v w',G w w'→Q v w'→Q' v w'):dP f args w Q':=
 Calls.mono h (by rintro e w' ⟨v,rfl,hq,hg⟩;exact⟨v,rfl,k v w' hg hq,hg⟩)
theorem G.drewN{a b:World}(h:G a b)(n:Nat):G a (b.drewN n):=below_drewN h n
theorem xx{id:Nat}{Q:Exit→Act→World→Prop}{a:Act}{w:World}{l:List Oper}(hm:Tryz.prog.follows .mixedOrders=true)(hB:Region.lexB .any l.toArray=true)(h:wpQuiet Tryz.prog l.toArray (fun w'=>G w w') (fun a'=>∀w',G w w'→Q .normal a' w') l a):(Code.region id l.toArray true).wp Tryz.prog Q a w:=
 wp_region_quiet (C:=fun w'=>G w w') hm hB ((G.refl w).drew) (by simpa using h)
theorem dA.gq{f:FuncId}{args:Array Value}{w w':World}{v:Value}(hg:G w w')(h:dA f args w' v):Calls Tryz.prog f args w' fun e w''=>e=.returned v∧G w w'':=
 Calls.mono h (by rintro e w2 ⟨rfl,h2⟩;exact⟨rfl,hg.trans h2⟩)
theorem nT.gq{f:FuncId}{args:Array Value}{w w':World}{v:Value}(hg:G w w')(h:nT f args w' v):Calls Tryz.prog f args w' fun e w''=>e=.returned v∧G w w'':=
 dA.gq hg h.gives
def S(l:List UInt8):ByteArray:=⟨l.toArray⟩
theorem acA(s:ByteArray):∃l,s=S l:=⟨s.data.toList,rfl⟩
@[simp,go_sem] theorem aaS(l:List UInt8):(S l).data.toList=l:=rfl
@[simp,go_sem] theorem xB(l:List UInt8):(S l).size=l.length:=by simp[S,ByteArray.size]
theorem Og(s:ByteArray):∀(n i:Nat) (r:List UInt8),s.size-i=n→ByteArray.toList.loop s i r=r.reverse++s.data.toList.drop i:=by
 intro n
 induction n with
 |zero=>
  intro i r h
  unfold ByteArray.toList.loop
  rw[if_neg (by omega)]
  rw[List.drop_eq_nil_of_le (by simp;show s.data.size≤i;have:s.size=s.data.size:=rfl;omega)]
  simp
 |succ n ih=>
  intro i r h
  unfold ByteArray.toList.loop
  have hi:i<s.data.size:=by have:s.size=s.data.size:=rfl;omega
  rw[if_pos (by omega),ih (i+1) _ (by omega)]
  rw[List.drop_eq_getElem_cons (i:=i) (by simpa using hi)]
  have hg:s.get! i=s.data[i]:=getElem!_pos s.data i hi
  rw[hg];simp
theorem Vw(s:ByteArray):s.toList=s.data.toList:=by
 unfold ByteArray.toList
 rw[Og s s.size 0 [] (by omega)]
 simp
@[simp,go_sem] theorem Xp(l:List UInt8):(S l).toList=l:=by rw[Vw];rfl
@[simp,go_sem] theorem Oi(a b:List UInt8):S a++S b=S (a++b):=by
 apply ByteArray.ext
 simp[S]
@[simp,go_sem] theorem Xq(l:List UInt8)(k:Nat)(h:k<(S l).size):(S l)[k]'h=l[k]'(by simpa using h):=rfl
theorem Dz(l:List UInt8)(a b:Nat):(S l).extract a b=S ((l.drop a).take (b-a)):=ByteArray.extract_mk l a b
@[simp,go_sem] theorem acB(l:List UInt8)(a:Nat):(S l).extract a l.length=S (l.drop a):=by
 rw[Dz,List.take_of_length_le (by simp)]
@[simp,go_sem] theorem acG(l:List UInt8)(b:Nat):(S l).extract 0 b=S (l.take b):=by
 rw[Dz];simp
@[simp,go_sem] theorem acF(l:List UInt8)(a b:Nat):(S l).extract a b=S ((l.take b).drop a):=by
 rw[Dz,List.drop_take]
theorem Xr{a b:List UInt8}:S a=S b↔a=b:=by
 constructor
 ·intro h
  have:=congrArg (fun s:ByteArray=>s.data.toList) h
  simpa using this
 ·intro h;rw[h]
@[go_sem] theorem aaC(a b:List UInt8):ByteArray.mk a.toArray++S b=S (a++b):=Oi a b
@[go_sem] theorem aaD(a b:List UInt8):S a++ByteArray.mk b.toArray=S (a++b):=Oi a b
@[go_sem] theorem abZ(l:List UInt8):(ByteArray.mk l.toArray).toList=l:=Xp l
@[go_sem] theorem acy(l:List UInt8):(ByteArray.mk l.toArray).size=l.length:=xB l
def Aa(w:World)(b:Nat)(l:List UInt8):Prop:=
 ∀j (h:j<l.length),w.cell? ⟨b,j,none⟩=some (.int .u8 (l[j].toNat:Int))∧w.frozen? ⟨b,j,none⟩=false
theorem Aa.drew{w:World}{b:Nat}{l:List UInt8}(h:Aa w b l):Aa w.drew b l:=fun j hj=>h j hj
theorem Aa.set{w:World}{b:Nat}{l:List UInt8}(h:Aa w b l)(k:Nat)(hk:k<l.length)(c:UInt8) :
  Aa (w.setCell ⟨b,k,none⟩ (.int .u8 (c.toNat:Int))) b (l.set k c):=by
 intro j hj
 have hj':j<l.length:=by simpa using hj
 obtain⟨h1,h2⟩:=h j hj'
 refine⟨?_,?_⟩
 ·by_cases e:j=k
  ·subst e
   rw[World.cell?_setCell_same _ _ _ h1]
   simp
  ·rw[World.cell?_setCell_other _ _ _ _ (by simp[Ne.symm e]),h1]
   simp[List.getElem_set,Ne.symm e]
 ·rw[World.frozen?_setCell,h2]
theorem Aa.of_bytes(w:World)(e:TypeId)(s:ByteArray) :
  Aa (w.drew.alloc (.cells (bytesRow s (grownCap w s.size 0 e)) e ((bytesRow s (grownCap w s.size 0 e)).size,(bytesRow s (grownCap w s.size 0 e)).size+1))) w.heap.size s.data.toList:=by
 intro j hj
 have hj':j<s.data.size:=by simpa using hj
 have hz:(bytesRow s (grownCap w s.size 0 e)).size=s.data.size+(grownCap w s.size 0 e-s.size):=by simp[bytesRow]
 have h1:=World.cell?_alloc_mark w.drew (bytesRow s (grownCap w s.size 0 e)) e ((bytesRow s (grownCap w s.size 0 e)).size,(bytesRow s (grownCap w s.size 0 e)).size+1) j
 have h2:=World.frozen?_alloc_mark w.drew (bytesRow s (grownCap w s.size 0 e)) e (bytesRow s (grownCap w s.size 0 e)).size ((bytesRow s (grownCap w s.size 0 e)).size+1) j
 refine⟨?_,?_⟩
 ·refine h1.trans ?_
  rw[bytesRow_at s _ j hj']
  simp
 ·refine h2.trans ?_
  simp;omega
theorem Aa.back{P:Program}{w:World}{b:Nat}{l:List UInt8}(h:Aa w b l)(src dst e:TypeId)(cap:Nat)(hs:P.underlying src=some (.slice e))(he:P.underlying e=some (.int .u8))(hd:P.underlying dst=some .string) :
  (convert src dst (.slice (some ⟨b,0,none⟩) l.length cap)).run P w=.ok (.string (S l)) w:=by
 refine run_convert_bytes_back w src dst e ⟨b,0,none⟩ cap l hs he hd (fun j hj=>?_)
 rw[←(h j hj).1]
 congr 1
 by_cases e:j=0
 ·subst e;rfl
 ·simp[Addr.add,e]
def FH(f:UInt8→UInt8)(k:Nat)(l:List UInt8):List UInt8:=(l.take k).map f++l.drop k
theorem xC(f:UInt8→UInt8)(k:Nat)(l:List UInt8):(FH f k l).length=l.length:=by
 unfold FH;simp;omega
theorem Oj(f:UInt8→UInt8)(l:List UInt8)(k:Nat)(h:l.length≤k):FH f k l=l.map f:=by
 unfold FH;rw[List.take_of_length_le h,List.drop_eq_nil_of_le h];simp
theorem Ul(f:UInt8→UInt8)(l:List UInt8)(k:Nat)(h:k<l.length):(FH f k l)[k]'(by rw[xC];exact h)=l[k]:=by
 unfold FH
 rw[List.getElem_append_right (by simp;omega)]
 simp[Nat.min_eq_left (Nat.le_of_lt h)]
theorem Ol(f:UInt8→UInt8)(l:List UInt8)(k:Nat)(h:k<l.length):(FH f k l).set k (f l[k])=FH f (k+1) l:=by
 unfold FH
 rw[List.set_append_right _ _ (by simp;omega)]
 simp only[List.length_map,List.length_take,Nat.min_eq_left (Nat.le_of_lt h),Nat.sub_self]
 rw[List.drop_eq_getElem_cons h,List.set_cons_zero,List.take_succ_eq_append_getElem h,List.map_append]
 simp
theorem Vx(f:UInt8→UInt8)(l:List UInt8)(k:Nat)(h:k<l.length)(hf:f l[k]=l[k]):FH f k l=FH f (k+1) l:=by
 rw[←Ol f l k h,hf]
 conv=>rhs;rw[←Ul f l k h]
 simp
theorem yI{P:Program}(w:World)(src dst e:TypeId)(ns:List Int)(hs:P.underlying src=some (.slice e))(he:P.underlying e=some (.int .u8))(hd:P.underlying dst=some .string) :
  (convert src dst (.slice (some ⟨w.heap.size,0,none⟩) ns.length ns.length)).run P (w.alloc (.cells (ns.map (Value.int .u8)).toArray e))=.ok (.string (S (ns.map fun n=>UInt8.ofNat n.toNat))) (w.alloc (.cells (ns.map (Value.int .u8)).toArray e)):=by
 have h:=run_convert_bytes_arg (P:=P) (w.alloc (.cells (ns.map (Value.int .u8)).toArray e)) src e hs he w.heap.size 0 ns.length ns.length ns rfl (fun i hi=>by
  rw[Nat.zero_add,World.cell?_alloc_new]
  simp[List.getElem?_eq_getElem hi]) dst hd
 exact h
@[go_sem] theorem ab1{P:Program}(w:World)(src dst e:TypeId)(a:Int)(hs:P.underlying src=some (.slice e))(he:P.underlying e=some (.int .u8))(hd:P.underlying dst=some .string) :
  (convert src dst (.slice (some ⟨w.heap.size,0,none⟩) 1 1)).run P (w.alloc (.cells #[.int .u8 a] e))=.ok (.string (S [UInt8.ofNat a.toNat])) (w.alloc (.cells #[.int .u8 a] e)):=
 yI w src dst e [a] hs he hd
@[go_sem] theorem ab2{P:Program}(w:World)(src dst e:TypeId)(a b:Int)(hs:P.underlying src=some (.slice e))(he:P.underlying e=some (.int .u8))(hd:P.underlying dst=some .string) :
  (convert src dst (.slice (some ⟨w.heap.size,0,none⟩) 2 2)).run P (w.alloc (.cells #[.int .u8 a,.int .u8 b] e))=.ok (.string (S [UInt8.ofNat a.toNat,UInt8.ofNat b.toNat])) (w.alloc (.cells #[.int .u8 a,.int .u8 b] e)):=
 yI w src dst e [a,b] hs he hd
@[go_sem] theorem ab3{P:Program}(w:World)(src dst e:TypeId)(a b c:Int)(hs:P.underlying src=some (.slice e))(he:P.underlying e=some (.int .u8))(hd:P.underlying dst=some .string) :
  (convert src dst (.slice (some ⟨w.heap.size,0,none⟩) 3 3)).run P (w.alloc (.cells #[.int .u8 a,.int .u8 b,.int .u8 c] e))=.ok (.string (S [UInt8.ofNat a.toNat,UInt8.ofNat b.toNat,UInt8.ofNat c.toNat])) (w.alloc (.cells #[.int .u8 a,.int .u8 b,.int .u8 c] e)):=
 yI w src dst e [a,b,c] hs he hd
@[go_sem] theorem ab4{P:Program}(w:World)(src dst e:TypeId)(a b c d:Int)(hs:P.underlying src=some (.slice e))(he:P.underlying e=some (.int .u8))(hd:P.underlying dst=some .string) :
  (convert src dst (.slice (some ⟨w.heap.size,0,none⟩) 4 4)).run P (w.alloc (.cells #[.int .u8 a,.int .u8 b,.int .u8 c,.int .u8 d] e))=.ok (.string (S [UInt8.ofNat a.toNat,UInt8.ofNat b.toNat,UInt8.ofNat c.toNat,UInt8.ofNat d.toNat])) (w.alloc (.cells #[.int .u8 a,.int .u8 b,.int .u8 c,.int .u8 d] e)):=
 yI w src dst e [a,b,c,d] hs he hd
theorem JZ(n:Int)(h₀:0≤n)(h₁:n<2^62):IntKind.i64.wrap n=n:=by rw[IntKind.wrap_i64];omega
theorem lK(i:Nat)(hi:i≤62)(x m:Int)(h₀:0≤x)(h₁:x<4611686018427387904)(hm:m=2^i-1):bits .and .i64 x m=x%2^i:=by
 subst hm;exact bits_mask .i64 62 (by decide) JZ i hi x h₀ h₁
theorem pg(i:Nat)(x y:Int)(hx₀:0≤x)(hx:x%2^i=0)(hx₁:x<4611686018427387904)(h₀:0≤y)(h₁:y<2^i)(hi:y<2^62):bits .or .i64 x y=x+y:=
 bits_join .i64 62 (by decide) JZ i x y hx₀ hx hx₁ h₀ h₁ hi
def dL(n:Int):UInt8:=UInt8.ofNat n.toNat
theorem lX{n:Int}{c:UInt8}(h:n=c.toNat):dL n=c:=by subst h;unfold dL;simp
@[simp] theorem aaE(c:UInt8):dL (c.toNat:Int)=c:=lX rfl
theorem dK{n:Int}(h0:0≤n)(h1:n<256):((dL n).toNat:Int)=n:=by unfold dL;simp;omega
@[simp] theorem ab5:dL 61=61:=by decide
theorem ou(p:UInt8→Bool)(h:(List.range 256).all (fun n=>p (UInt8.ofNat n))=true)(c:UInt8):p c=true:=by
 have:=List.all_eq_true.1 h c.toNat (by simp;exact c.toNat_lt)
 simpa using this
end Go.Proofs.YtmffejnigppbpaaGreatDoor

namespace Go.Proofs.YtmffejnigppbpaaGreatDoor
open Go.RowKit
def mi(k:Nat)(w:World)(v:Value)(n:Nat)(cs:List Value):Prop:=
 cs.length=n*k∧(∀u∈cs,u.oneCell'=true) ∧
 ((n=0∧(v=.slice none 0 0∨∃a c,v=.slice (some a) 0 c))∨∃b off cap,v=.slice (some ⟨b,off,none⟩) n cap∧b<w.heap.size∧0<n∧∀j (h:j<cs.length),w.cell? ⟨b,off+j,none⟩=some cs[j])
theorem mi.grow{k:Nat}{w w':World}{v:Value}{n:Nat}{cs:List Value}(h:mi k w v n cs)(g:G w w'):mi k w' v n cs:=by
 obtain⟨h1,h1c,h2⟩:=h
 refine⟨h1,h1c,?_⟩
 rcases h2 with h2|⟨b,off,cap,e,hb,h0,hc⟩
 ·exact .inl h2
 ·exact .inr ⟨b,off,cap,e,Nat.lt_of_lt_of_le hb g.size,h0,fun j hj=>by rw[g.cell hb];exact hc j hj⟩
theorem mi.len{k:Nat}{w:World}{v:Value}{n:Nat}{cs:List Value}(h:mi k w v n cs):∃a c,v=.slice a n c:=by
 rcases h.2.2 with⟨rfl,e|⟨a,c,e⟩⟩|⟨b,off,cap,e,_⟩
 ·exact⟨_,_,e⟩
 ·exact⟨_,_,e⟩
 ·exact⟨_,_,e⟩
end Go.Proofs.YtmffejnigppbpaaGreatDoor

set_option maxHeartbeats 400000
set_option maxRecDepth 100000
namespace Go.Proofs.YtmffejnigppbpaaGreatDoor
open Go.RowKit
theorem CV(l:List UInt8)(c:UInt8)(w:World):nT 123 #[.string (S l),.int .u8 (c.toNat:Int)] w (.int .i64 (Lib.indexByte l c)):=by
 go_enter Tryz.func123,Tryz.ntmps123
 go_wp2
 rw[run_callFunc_extern Tryz.func174 (by kernel_rfl) (by kernel_rfl) (by kernel_rfl) (e:=Extern.BytealgIndexByte.indexByte) (by kernel_rfl),Lib.run_indexByteString]
 simp only[Result.andThen]
 rw[Oper.upon_value]
 go_wp2
 go_ret
 exact⟨kX (by simp),rfl⟩
theorem qI(l:List UInt8)(c:UInt8)(w:World):nT 76 #[.string (S l),.int .u8 (c.toNat:Int)] w (.int .i64 (Lib.indexByte l c)):=by
 go_enter Tryz.func76,Tryz.ntmps76
 go_wp2_with fail
 refine(CV l c _).use ?_
 go_wp2
 go_ret
 exact⟨rfl,rfl⟩
theorem tK(l:List UInt8)(c:UInt8)(h:c∉l):Lib.indexByte l c = -1:=by
 induction l with
 |nil=>rfl
 |cons b l ih=>
  have h1:(b==c)=false:=beq_eq_false_iff_ne.2 fun e=>h (e▸List.mem_cons_self)
  rw[Lib.indexByte,ih fun m=>h (List.mem_cons_of_mem _ m)]
  simp[h1]
theorem yw(a r:List UInt8)(c:UInt8)(h:c∉a):Lib.indexByte (a++c::r) c=a.length:=by
 induction a with
 |nil=>simp[Lib.indexByte]
 |cons b l ih=>
  have h1:(b==c)=false:=beq_eq_false_iff_ne.2 fun e=>h (e▸List.mem_cons_self)
  rw[List.cons_append,Lib.indexByte,ih fun m=>h (List.mem_cons_of_mem _ m)]
  have h2:(((l.length:Int)) == -1)=false:=beq_eq_false_iff_ne.2 (by omega)
  simp[h1,h2]
end Go.Proofs.YtmffejnigppbpaaGreatDoor

namespace Go.Proofs.YtmffejnigppbpaaGreatDoor
open Go.RowKit
def O4:Value→Prop
 |.slice _ n c=>n≤c
 |_=>True
def di(w:World)(v:Value)(ls:List (List UInt8)):Prop:=mi 1 w v ls.length (ls.map fun l=>.string (S l))∧O4 v
theorem di.grow{w w':World}{v:Value}{ls:List (List UInt8)}(h:di w v ls)(g:G w w'):di w' v ls:=⟨mi.grow h.1 g,h.2⟩
theorem di.len{w:World}{v:Value}{ls:List (List UInt8)}(h:di w v ls):∃a c,v=.slice a ls.length c∧ls.length≤c:=by
 obtain⟨a,c,e⟩:=mi.len h.1
 exact⟨a,c,e,by have:=h.2;rw[e]at this;exact this⟩
theorem di.at_{w:World}{v:Value}{ls:List (List UInt8)}(h:di w v ls)(h0:ls≠[]):∃b off cap,v=.slice (some ⟨b,off,none⟩) ls.length cap∧ls.length≤cap∧b<w.heap.size∧∀(i:Nat) (l:List UInt8),ls[i]?=some l→w.cell? ⟨b,off+i,none⟩=some (.string (S l)):=by
 obtain⟨⟨h1,h2,h3⟩,hk⟩:=h
 rcases h3 with⟨h3,_⟩|⟨b,off,cap,e,hb,hn,hc⟩
 ·exact absurd (List.eq_nil_of_length_eq_zero h3) h0
 ·refine⟨b,off,cap,e,by rw[e]at hk;exact hk,hb,fun i l hl=>?_⟩
  have hi:i<ls.length:=by
   rcases Nat.lt_or_ge i ls.length with h|h
   ·exact h
   ·rw[List.getElem?_eq_none h]at hl;cases hl
  rw[hc i (by simpa using hi)]
  rw[List.getElem?_eq_getElem hi]at hl
  injection hl with hl
  simp[hl]
end Go.Proofs.YtmffejnigppbpaaGreatDoor

namespace Go.Proofs.YtmffejnigppbpaaGreatDoor
open Go.RowKit
def jF(ls:List (List UInt8)):Nat:=(ls.map fun l=>l.length+1).sum
theorem ql(l:List UInt8)(ls:List (List UInt8)):jF (l::ls)=l.length+1+jF ls:=by simp[jF]
theorem uu(a b:List (List UInt8)):jF (a++b)=jF a+jF b:=by simp[jF]
theorem xW(ls:List (List UInt8)):ls.length≤jF ls:=by
 induction ls with
 |nil=>simp
 |cons a ls ih=>rw[ql];simp;omega
theorem BI{ls:List (List UInt8)}{l:List UInt8}(h:l∈ls):l.length+1≤jF ls:=by
 induction ls with
 |nil=>cases h
 |cons a ls ih=>
  rw[ql]
  rcases List.mem_cons.1 h with rfl|h
  ·omega
  ·have:=ih h;omega
def fA(w:World)(v:Value)(ls:List (List (List UInt8))):Prop:=
 ∃cells,mi 1 w v ls.length cells∧O4 v∧∀(i:Nat) (l:List (List UInt8)),ls[i]?=some l→∃sv,cells[i]?=some sv∧di w sv l
theorem fA.grow{w w':World}{v:Value}{ls:List (List (List UInt8))}(h:fA w v ls)(g:G w w'):fA w' v ls:=by
 obtain⟨cells,h1,h2,h3⟩:=h
 refine⟨cells,h1.grow g,h2,fun i l hl=>?_⟩
 obtain⟨sv,h4,h5⟩:=h3 i l hl
 exact⟨sv,h4,h5.grow g⟩
theorem fA.len{w:World}{v:Value}{ls:List (List (List UInt8))}(h:fA w v ls):∃a c,v=.slice a ls.length c∧ls.length≤c:=by
 obtain⟨cells,h1,h2,h3⟩:=h
 obtain⟨a,c,e⟩:=mi.len h1
 exact⟨a,c,e,by rw[e]at h2;exact h2⟩
theorem fA.at_{w:World}{v:Value}{ls:List (List (List UInt8))}(h:fA w v ls)(h0:ls≠[]):∃b off cap,v=.slice (some ⟨b,off,none⟩) ls.length cap∧ls.length≤cap∧b<w.heap.size∧∀(i:Nat) (l:List (List UInt8)),ls[i]?=some l→∃sv,w.cell? ⟨b,off+i,none⟩=some sv∧di w sv l:=by
 obtain⟨cells,⟨h1,h2,h3⟩,hk,hc⟩:=h
 rcases h3 with⟨h3,_⟩|⟨b,off,cap,e,hb,hn,hcell⟩
 ·exact absurd (List.eq_nil_of_length_eq_zero h3) h0
 ·refine⟨b,off,cap,e,by rw[e]at hk;exact hk,hb,fun i l hl=>?_⟩
  obtain⟨sv,h4,h5⟩:=hc i l hl
  have hi:i<cells.length:=by
   rcases Nat.lt_or_ge i cells.length with h|h
   ·exact h
   ·rw[List.getElem?_eq_none h]at h4;cases h4
  refine⟨sv,?_,h5⟩
  rw[hcell i hi]
  rw[List.getElem?_eq_getElem hi]at h4
  exact h4
def iL(ls:List (List (List UInt8))):Nat:=(ls.map fun l=>jF l+1).sum
theorem sD(l:List (List UInt8))(ls:List (List (List UInt8))):iL (l::ls)=jF l+1+iL ls:=by simp[iL]
theorem xX(ls:List (List (List UInt8))):ls.length≤iL ls:=by
 induction ls with
 |nil=>simp
 |cons a ls ih=>rw[sD];simp;omega
theorem xY{ls:List (List (List UInt8))}{l:List (List UInt8)}(h:l∈ls):jF l+1≤iL ls:=by
 induction ls with
 |nil=>cases h
 |cons a ls ih=>
  rw[sD]
  rcases List.mem_cons.1 h with rfl|h
  ·omega
  ·have:=ih h;omega
end Go.Proofs.YtmffejnigppbpaaGreatDoor

set_option maxHeartbeats 400000
set_option maxRecDepth 100000
namespace Go.Proofs.YtmffejnigppbpaaGreatDoor
open Go.RowKit
def nG(c:Int):Bool:=decide ((97≤c∧c≤122)∨(65≤c∧c≤90)∨(48≤c∧c≤57)∨c=45)
def fH(l:List UInt8):Bool:=l.all (fun c=>nG c.toNat)&&(!l.isEmpty&&decide ((l.length:Int)≤40))
def yf(low high by_:Int)(c:UInt8):UInt8:=if low≤c.toNat∧c.toNat≤high then UInt8.ofNat ((c.toNat+by_)%256).toNat else c
def bU(l:List UInt8):List UInt8:=l.map (yf 97 122 (-32))
def uP(l:List UInt8):List UInt8:=l.map (yf 65 90 32)
def dC(a b:List UInt8):Bool:=bU a==bU b
theorem Wi{low high by_:Int}{c:UInt8}(h1:low≤c.toNat)(h2:(c.toNat:Int)≤high):((yf low high by_ c).toNat:Int)=(c.toNat+by_)%256:=by
 unfold yf
 rw[if_pos ⟨h1,h2⟩]
 simp;omega
theorem Yi{low high by_:Int}{c:UInt8}(h:(c.toNat:Int)<low∨high<c.toNat):yf low high by_ c=c:=by
 unfold yf;rw[if_neg (by omega)]
@[simp] theorem uQ(l:List UInt8):(bU l).length=l.length:=by simp[bU]
@[simp] theorem zQ(l:List UInt8):(uP l).length=l.length:=by simp[uP]
theorem Su(c:Int)(w:World) :
  nT 70 #[.int .u8 c] w (.bool (nG c)):=by
 go_enter Tryz.func70,Tryz.ntmps70
 go_wp2
 all_goals go_ret
 all_goals exact⟨cO (by unfold nG;rw[Bool.eq_iff_iff];simp;omega),rfl⟩
theorem JK(p:UInt8→Bool)(l:List UInt8)(k:Nat)(h:k<l.length):(l.take (k+1)).all p=((l.take k).all p&&p l[k]):=by
 rw[List.take_succ_eq_append_getElem h,List.all_append];simp
theorem Io(l:List UInt8)(w:World)(hs:l.length≤140737488355328) :
  nT 34 #[.string (S l)] w (.bool (fH l)):=by
 go_enter Tryz.func34,Tryz.ntmps34
 go_wp2
 go_loop [6] (fun i=>∃k:Nat,k≤l.length∧i=.int .i64 k∧(l.take k).all (fun c=>nG c.toNat)=true) (fun i=>l.length-(intOf i).toNat)
 case atStart=>exact⟨0,Nat.zero_le _,rfl,rfl⟩
 case round=>
  obtain⟨k,hk,rfl,hall⟩:=hrel
  have Hall:=hid hall;clear hall
  by_cases hlt:k<l.length
  ·have hsn:=JK (fun c=>nG c.toNat) l k hlt
   have Hsn:=hid hsn;clear hsn
   go_wp2_with (go_at_call 70;refine(Su _ _).use ?_)
   ·rename_i h
    go_ret
    refine⟨cO ?_,rfl⟩
    have h2:nG (l[k].toNat:Int)=false:=by simpa using h
    have:l.all (fun c=>nG c.toNat)=false:=by
     rw[List.all_eq_false]
     exact⟨l[k],List.getElem_mem hlt,by simpa using h2⟩
    simp[fH,this]
   ·rename_i h
    go_round
    case rel=>
     refine⟨k+1,by omega,by go_num,?_⟩
     rw[Hsn.out,Hall.out];simpa using h
    case measure=>simp[intOf];omega
  ·have hk':k=l.length:=by omega
   have ha:=Hall.out
   rw[List.take_of_length_le (by omega)]at ha
   have Ha:=hid ha
   clear ha hk' Hall
   go_wp2
   all_goals go_ret
   all_goals refine⟨cO ?_,rfl⟩
   all_goals unfold fH
   all_goals first|(simp;done)|(rw[Ha.out];simp[*])
theorem Pn(l:List UInt8)(low high by_:Int)(w:World)(hs:l.length≤140737488355328)(h3 : -256≤by_)(h4:by_≤256) :
  dA 96 #[.string (S l),.int .u8 low,.int .u8 high,.int .i64 by_] w (.string (S (l.map (yf low high by_)))):=by
 have hconv:=run_bytes_of_string (P:=Tryz.prog) w 9 122 5 (S l) Tryz.underlying9 Tryz.underlying122 Tryz.underlying5
 go_enter Tryz.func96,Tryz.ntmps96
 go_wp2
 have hown:=Aa.of_bytes w 5 (S l)
 rw[xB,aaS]at hown
 generalize hcap:grownCap w l.length 0 5=cap at hown⊢
 have hbel:Below w.heap.size w (w.alloc (.cells (bytesRow (S l) cap) 5 ((bytesRow (S l) cap).size,(bytesRow (S l) cap).size+1))).drew:=((Below.refl _ _).alloc (Nat.le_refl _) _).drew
 have hownH:=hid hown;clear hown
 clear hcap hconv
 go_loopw [16] (fun i wr=>∃k:Nat,k≤l.length∧i=.int .i64 k∧Aa wr w.heap.size (FH (yf low high by_) k l)∧Below w.heap.size w wr) (fun i _=>l.length-(intOf i).toNat)
 case atStart=>exact⟨0,Nat.zero_le _,rfl,hownH.out,hbel⟩
 case round=>
  obtain⟨k,hk,rfl,ho,hb⟩:=hrel
  clear hbel hownH
  by_cases hlt:k<l.length
  ·obtain⟨hc,hf⟩:=ho k (by rw[xC];exact hlt)
   rw[Ul _ _ _ hlt]at hc
   have ho':=hid ho;clear ho
   have hb1:l[k].toNat<256:=UInt8.toNat_lt _
   go_wp2
   all_goals go_roundw
   all_goals try (case measure=>simp[intOf];omega)
   case rel=>
    refine⟨k+1,by omega,by go_num,?_,hb.setCell (Nat.le_refl _) _⟩
    rw[←Wi (by assumption) (by assumption),←Ol _ _ _ hlt]
    exact ho'.out.set k (by rw[xC];exact hlt) _
   all_goals
    refine⟨k+1,by omega,by go_num,?_,hb⟩
    rw[←Vx _ _ _ hlt (Yi (by omega))]
    exact ho'.out
  ·have hback:=ho.back (P:=Tryz.prog) 122 9 5 cap Tryz.underlying122 Tryz.underlying5 Tryz.underlying9
   rw[Oj _ _ _ (by omega)]at hback
   rw[Oj _ _ _ (by omega)]at ho
   rw[List.length_map]at hback
   go_wp2
   go_ret
   exact⟨rfl,hb⟩
theorem kV(l:List UInt8)(w:World)(hs:l.length≤140737488355328) :
  dA 52 #[.string (S l)] w (.string (S (bU l))):=by
 go_enter Tryz.func52,Tryz.ntmps52
 go_wp2_with (go_at_call 96;refine(Pn l 97 122 (-32) _ hs (by omega) (by omega)).use ?_;intro w' hb)
 go_ret
 exact⟨rfl,hb⟩
theorem KG(l:List UInt8)(w:World)(hs:l.length≤140737488355328) :
  dA 69 #[.string (S l)] w (.string (S (uP l))):=by
 go_enter Tryz.func69,Tryz.ntmps69
 go_wp2_with (go_at_call 96;refine(Pn l 65 90 32 _ hs (by omega) (by omega)).use ?_;intro w' hb)
 go_ret
 exact⟨rfl,hb⟩
theorem kM(a b:List UInt8)(w:World)(ha:a.length≤140737488355328)(hb:b.length≤140737488355328) :
  dA 16 #[.string (S a),.string (S b)] w (.bool (dC a b)):=by
 go_enter Tryz.func16,Tryz.ntmps16
 go_wp2_with fail
 refine(kV a _ ha).use ?_;intro w1 hb1
 go_wp2_with fail
 refine(kV b _ hb).use ?_;intro w2 hb2
 go_wp2_with fail
 go_ret
 exact⟨cO rfl,hb1.trans hb2⟩
end Go.Proofs.YtmffejnigppbpaaGreatDoor

namespace Go.Proofs.YtmffejnigppbpaaGreatDoor
open Go.RowKit
structure St where
 y:Int
 m:Int
 d:Int
 h:Int
 n:Int
 s:Int
 zd:Bool
 zn:Int
def St.cells(t:St):Array Value:=#[.int .i64 t.y,.int .i64 t.m,.int .i64 t.d,.int .i64 t.h,.int .i64 t.n,.int .i64 t.s,.bool t.zd,.int .i64 t.zn]
def St.v(t:St):Value:=.agg #[.int .i64 t.y,.int .i64 t.m,.int .i64 t.d,.int .i64 t.h,.int .i64 t.n,.int .i64 t.s,.bool t.zd,.int .i64 t.zn]
def St0:St:=⟨0,0,0,0,0,0,false,0⟩
structure Vl where
 ty:Int
 tx:List UInt8
 ps:List (List (List UInt8))
 st:St
 n:Int
def Vl.v(x:Vl)(pv:Value):Value:=.agg #[.int .i64 x.ty,.string (S x.tx),pv,.int .i64 x.st.y,.int .i64 x.st.m,.int .i64 x.st.d,.int .i64 x.st.h,.int .i64 x.st.n,.int .i64 x.st.s,.bool x.st.zd,.int .i64 x.st.zn,.int .i64 x.n]
end Go.Proofs.YtmffejnigppbpaaGreatDoor

namespace Go.Proofs.YtmffejnigppbpaaGreatDoor
open Go.RowKit
@[go_sem] def eno(n:Int):Value:=.iface 58 (.int .i64 n)
def ji(w:World)(v:Value)(code place:Int):Prop:=∃b,v=.iface 80 (.pointer (some ⟨b,0,none⟩))∧w.cell? ⟨b,0,none⟩=some (.int .i64 code)∧w.cell? ⟨b,1,none⟩=some (.int .i64 place)∧b<w.heap.size
theorem ji.grow{w w':World}{v:Value}{code place:Int}(h:ji w v code place)(g:G w w'):ji w' v code place:=by
 obtain⟨b,h1,h2,h3,h4⟩:=h
 exact⟨b,h1,by rw[g.cell h4];exact h2,by rw[g.cell h4];exact h3,Nat.lt_of_lt_of_le h4 g.size⟩
theorem ji.new(w:World)(t:TypeId)(code place:Int):ji (w.alloc (.cells #[.int .i64 code,.int .i64 place] t)) (.iface 80 (.pointer (some ⟨w.heap.size,0,none⟩))) code place:=
 ⟨w.heap.size,rfl,by rw[World.cell?_alloc_new];rfl,by rw[World.cell?_alloc_new];rfl,by simp⟩
theorem ji.newAt(w:World)(t:TypeId)(code place:Int)(n:Nat)(h:n=w.heap.size):ji (w.alloc (.cells #[.int .i64 code,.int .i64 place] t)) (.iface 80 (.pointer (some ⟨n,0,none⟩))) code place:=by
 subst h;exact ji.new w t code place
end Go.Proofs.YtmffejnigppbpaaGreatDoor
