/-
  Texts merged into one: Base, ReplPlain, ReplLen, Once.
-/
import Derived.Test.YtmffejnigppbpaaGreatDoorRows
import Derived.WalkKit
import Derived.WalkSpells
import Derived.WalkLawsBesides
import Derived.SizedLaws
import Derived.Deep.QuietTactic
import Derived.BigQuiet
import Derived.Laws.BytesArg
import Derived.Defers
import Derived.Laws.Pointers
import Derived.Laws.LoneSync
import Derived.RegionTactic
import Derived.RegionCalls
import Derived.ChangeAlike
set_option linter.unusedVariables false
set_option linter.unusedSimpArgs false
namespace Go.Proofs.YtmffejnigppbpaaGreatDoor
open Go.RowKit
theorem hid{p:Prop}(h:p):Hid p:=h
theorem zF{a b:Bool}(h:a=b):Ending.returned (.bool a)=.returned (.bool b):=by rw[h]
theorem adZ{k:IntKind}{a b:Int}(h:a=b):Ending.returned (.int k a)=.returned (.int k b):=by rw[h]
theorem alu{a b:Value}(h:a=b):Ending.returned a=.returned b:=by rw[h]
def G(w w':World):Prop:=Below w.heap.size w w'
theorem G.refl(w:World):G w w:=Below.refl _ _
theorem G.trans{a b c:World}(h:G a b)(k:G b c):G a c:=Below.trans h (Below.mono k h.size)
theorem G.drew{a b:World}(h:G a b):G a b.drew:=Below.drew h
theorem G.alloc{a b:World}(h:G a b)(o:Obj):G a (b.alloc o):=Below.alloc h h.size o
theorem G.size{a b:World}(h:G a b):a.heap.size≤b.heap.size:=Below.size h
theorem G.below{a b:World}(h:G a b):Below a.heap.size a b:=h
theorem G.cell{w w':World}(h:G w w'){p:Addr}(hp:p.block<w.heap.size):w'.cell? p=w.cell? p:=Below.cell h hp
def adV(f:FuncId)(args:Array Value)(w:World)(v:Value):Prop:=Calls Tryz.prog f args w fun e w'=>e=.returned v∧w=w'
theorem adV.use{f:FuncId}{args:Array Value}{w:World}{v:Value}(h:adV f args w v){R:Ending→World→Prop}(k:R (.returned v) w):Calls Tryz.prog f args w R:=
 Calls.mono h (by rintro e w' ⟨rfl,rfl⟩;exact k)
def Um(f:FuncId)(args:Array Value)(w:World)(v:Value):Prop:=Calls Tryz.prog f args w fun e w'=>e=.returned v∧G w w'
theorem Um.use{f:FuncId}{args:Array Value}{w:World}{v:Value}(h:Um f args w v){R:Ending→World→Prop}(k:∀w',G w w'→R (.returned v) w'):Calls Tryz.prog f args w R:=
 Calls.mono h (by rintro e w' ⟨rfl,hg⟩;exact k w' hg)
theorem adV.gives{f:FuncId}{args:Array Value}{w:World}{v:Value}(h:adV f args w v):Um f args w v:=
 Calls.mono h (by rintro e w' ⟨rfl,rfl⟩;exact⟨rfl,G.refl _⟩)
def Uz(f:FuncId)(args:Array Value)(w:World)(Q:Value→World→Prop):Prop:=Calls Tryz.prog f args w fun e w'=>∃v,e=.returned v∧Q v w'∧G w w'
theorem Uz.use{f:FuncId}{args:Array Value}{w:World}{Q:Value→World→Prop}(h:Uz f args w Q){R:Ending→World→Prop}(k:∀v w',Q v w'→G w w'→R (.returned v) w'):Calls Tryz.prog f args w R:=
 Calls.mono h (by rintro e w' ⟨v,rfl,hq,hg⟩;exact k v w' hq hg)
theorem Uz.mono{f:FuncId}{args:Array Value}{w:World}{Q Q':Value→World→Prop}(h:Uz f args w Q)(k:∀v w',G w w'→Q v w'→Q' v w'):Uz f args w Q':=
 Calls.mono h (by rintro e w' ⟨v,rfl,hq,hg⟩;exact⟨v,rfl,k v w' hg hq,hg⟩)
theorem G.drewN{a b:World}(h:G a b)(n:Nat):G a (b.drewN n):=below_drewN h n
theorem aht{id:Nat}{Q:Exit→Act→World→Prop}{a:Act}{w:World}{l:List Oper}(hm:Tryz.prog.follows .mixedOrders=true)(hB:Region.lexB .any l.toArray=true)(h:wpQuiet Tryz.prog l.toArray (fun w'=>G w w') (fun a'=>∀w',G w w'→Q .normal a' w') l a):(Code.region id l.toArray true).wp Tryz.prog Q a w:=
 wp_region_quiet (C:=fun w'=>G w w') hm hB ((G.refl w).drew) (by simpa using h)
theorem Um.gq{f:FuncId}{args:Array Value}{w w':World}{v:Value}(hg:G w w')(h:Um f args w' v):Calls Tryz.prog f args w' fun e w''=>e=.returned v∧G w w'':=
 Calls.mono h (by rintro e w2 ⟨rfl,h2⟩;exact⟨rfl,hg.trans h2⟩)
theorem adV.gq{f:FuncId}{args:Array Value}{w w':World}{v:Value}(hg:G w w')(h:adV f args w' v):Calls Tryz.prog f args w' fun e w''=>e=.returned v∧G w w'':=
 Um.gq hg h.gives
theorem adV.quiet{f:FuncId}{args:Array Value}{w:World}{n:Nat}{v:Value}(h:adV f args (w.drewN n) v):Calls Tryz.prog f args (w.drewN n) fun e w''=>e=.returned v∧∃m,w''=w.drewN m:=
 Calls.mono h (by rintro e w2 ⟨rfl,rfl⟩;exact⟨rfl,n,rfl⟩)
def S(l:List UInt8):ByteArray:=⟨l.toArray⟩
theorem aza(s:ByteArray):∃l,s=S l:=⟨s.data.toList,rfl⟩
@[simp,go_sem] theorem ax7(l:List UInt8):(S l).data.toList=l:=rfl
@[simp,go_sem] theorem ahu(l:List UInt8):(S l).size=l.length:=by simp[S,ByteArray.size]
theorem apn(s:ByteArray):∀(n i:Nat) (r:List UInt8),s.size-i=n→ByteArray.toList.loop s i r=r.reverse++s.data.toList.drop i:=by
 intro n
 induction n with
 |zero=>
  intro i r h
  unfold ByteArray.toList.loop
  rw[if_neg (by omega)]
  rw[List.drop_eq_nil_of_le (by simp;show s.data.size≤i;have:s.size=s.data.size:=rfl;omega)]
  simp
 |succ n ih=>
  intro i r h
  unfold ByteArray.toList.loop
  have hi:i<s.data.size:=by have:s.size=s.data.size:=rfl;omega
  rw[if_pos (by omega),ih (i+1) _ (by omega)]
  rw[List.drop_eq_getElem_cons (i:=i) (by simpa using hi)]
  have hg:s.get! i=s.data[i]:=getElem!_pos s.data i hi
  rw[hg];simp
theorem asR(s:ByteArray):s.toList=s.data.toList:=by
 unfold ByteArray.toList
 rw[apn s s.size 0 [] (by omega)]
 simp
@[simp,go_sem] theorem aus(l:List UInt8):(S l).toList=l:=by rw[asR];rfl
@[simp,go_sem] theorem apo(a b:List UInt8):S a++S b=S (a++b):=by
 apply ByteArray.ext
 simp[S]
@[simp,go_sem] theorem axO(l:List UInt8)(k:Nat)(h:k<(S l).size):(S l)[k]'h=l[k]'(by simpa using h):=rfl
theorem akf(l:List UInt8)(a b:Nat):(S l).extract a b=S ((l.drop a).take (b-a)):=ByteArray.extract_mk l a b
@[simp,go_sem] theorem azb(l:List UInt8)(a:Nat):(S l).extract a l.length=S (l.drop a):=by
 rw[akf,List.take_of_length_le (by simp)]
@[simp,go_sem] theorem azf(l:List UInt8)(b:Nat):(S l).extract 0 b=S (l.take b):=by
 rw[akf];simp
@[simp,go_sem] theorem aze(l:List UInt8)(a b:Nat):(S l).extract a b=S ((l.take b).drop a):=by
 rw[akf,List.drop_take]
theorem axP{a b:List UInt8}:S a=S b↔a=b:=by
 constructor
 ·intro h
  have:=congrArg (fun s:ByteArray=>s.data.toList) h
  simpa using this
 ·intro h;rw[h]
@[go_sem] theorem axQ(a b:List UInt8):ByteArray.mk a.toArray++S b=S (a++b):=apo a b
@[go_sem] theorem axR(a b:List UInt8):S a++ByteArray.mk b.toArray=S (a++b):=apo a b
@[go_sem] theorem ayH(l:List UInt8):(ByteArray.mk l.toArray).toList=l:=aus l
@[go_sem] theorem ay8(l:List UInt8):(ByteArray.mk l.toArray).size=l.length:=ahu l
def aiT(w:World)(b:Nat)(l:List UInt8):Prop:=
 ∀j (h:j<l.length),w.cell? ⟨b,j,none⟩=some (.int .u8 (l[j].toNat:Int))∧w.frozen? ⟨b,j,none⟩=false
theorem aiT.drew{w:World}{b:Nat}{l:List UInt8}(h:aiT w b l):aiT w.drew b l:=fun j hj=>h j hj
theorem aiT.set{w:World}{b:Nat}{l:List UInt8}(h:aiT w b l)(k:Nat)(hk:k<l.length)(c:UInt8) :
  aiT (w.setCell ⟨b,k,none⟩ (.int .u8 (c.toNat:Int))) b (l.set k c):=by
 intro j hj
 have hj':j<l.length:=by simpa using hj
 obtain⟨h1,h2⟩:=h j hj'
 refine⟨?_,?_⟩
 ·by_cases e:j=k
  ·subst e
   rw[World.cell?_setCell_same _ _ _ h1]
   simp
  ·rw[World.cell?_setCell_other _ _ _ _ (by simp[Ne.symm e]),h1]
   simp[List.getElem_set,Ne.symm e]
 ·rw[World.frozen?_setCell,h2]
theorem aiT.of_bytes(w:World)(e:TypeId)(s:ByteArray) :
  aiT (w.drew.alloc (.cells (bytesRow s (grownCap w s.size 0 e)) e ((bytesRow s (grownCap w s.size 0 e)).size,(bytesRow s (grownCap w s.size 0 e)).size+1))) w.heap.size s.data.toList:=by
 intro j hj
 have hj':j<s.data.size:=by simpa using hj
 have hz:(bytesRow s (grownCap w s.size 0 e)).size=s.data.size+(grownCap w s.size 0 e-s.size):=by simp[bytesRow]
 have h1:=World.cell?_alloc_mark w.drew (bytesRow s (grownCap w s.size 0 e)) e ((bytesRow s (grownCap w s.size 0 e)).size,(bytesRow s (grownCap w s.size 0 e)).size+1) j
 have h2:=World.frozen?_alloc_mark w.drew (bytesRow s (grownCap w s.size 0 e)) e (bytesRow s (grownCap w s.size 0 e)).size ((bytesRow s (grownCap w s.size 0 e)).size+1) j
 refine⟨?_,?_⟩
 ·refine h1.trans ?_
  rw[bytesRow_at s _ j hj']
  simp
 ·refine h2.trans ?_
  simp;omega
theorem aiT.back{P:Program}{w:World}{b:Nat}{l:List UInt8}(h:aiT w b l)(src dst e:TypeId)(cap:Nat)(hs:P.underlying src=some (.slice e))(he:P.underlying e=some (.int .u8))(hd:P.underlying dst=some .string) :
  (convert src dst (.slice (some ⟨b,0,none⟩) l.length cap)).run P w=.ok (.string (S l)) w:=by
 refine run_convert_bytes_back w src dst e ⟨b,0,none⟩ cap l hs he hd (fun j hj=>?_)
 rw[←(h j hj).1]
 congr 1
 by_cases e:j=0
 ·subst e;rfl
 ·simp[Addr.add,e]
def alh(f:UInt8→UInt8)(k:Nat)(l:List UInt8):List UInt8:=(l.take k).map f++l.drop k
theorem ahv(f:UInt8→UInt8)(k:Nat)(l:List UInt8):(alh f k l).length=l.length:=by
 unfold alh;simp;omega
theorem apq(f:UInt8→UInt8)(l:List UInt8)(k:Nat)(h:l.length≤k):alh f k l=l.map f:=by
 unfold alh;rw[List.take_of_length_le h,List.drop_eq_nil_of_le h];simp
theorem ash(f:UInt8→UInt8)(l:List UInt8)(k:Nat)(h:k<l.length):(alh f k l)[k]'(by rw[ahv];exact h)=l[k]:=by
 unfold alh
 rw[List.getElem_append_right (by simp;omega)]
 simp[Nat.min_eq_left (Nat.le_of_lt h)]
theorem apr(f:UInt8→UInt8)(l:List UInt8)(k:Nat)(h:k<l.length):(alh f k l).set k (f l[k])=alh f (k+1) l:=by
 unfold alh
 rw[List.set_append_right _ _ (by simp;omega)]
 simp only[List.length_map,List.length_take,Nat.min_eq_left (Nat.le_of_lt h),Nat.sub_self]
 rw[List.drop_eq_getElem_cons h,List.set_cons_zero,List.take_succ_eq_append_getElem h,List.map_append]
 simp
theorem asT(f:UInt8→UInt8)(l:List UInt8)(k:Nat)(h:k<l.length)(hf:f l[k]=l[k]):alh f k l=alh f (k+1) l:=by
 rw[←apr f l k h,hf]
 conv=>rhs;rw[←ash f l k h]
 simp
theorem ah3{P:Program}(w:World)(src dst e:TypeId)(ns:List Int)(hs:P.underlying src=some (.slice e))(he:P.underlying e=some (.int .u8))(hd:P.underlying dst=some .string) :
  (convert src dst (.slice (some ⟨w.heap.size,0,none⟩) ns.length ns.length)).run P (w.alloc (.cells (ns.map (Value.int .u8)).toArray e))=.ok (.string (S (ns.map fun n=>UInt8.ofNat n.toNat))) (w.alloc (.cells (ns.map (Value.int .u8)).toArray e)):=by
 have h:=run_convert_bytes_arg (P:=P) (w.alloc (.cells (ns.map (Value.int .u8)).toArray e)) src e hs he w.heap.size 0 ns.length ns.length ns rfl (fun i hi=>by
  rw[Nat.zero_add,World.cell?_alloc_new]
  simp[List.getElem?_eq_getElem hi]) dst hd
 exact h
@[go_sem] theorem ayI{P:Program}(w:World)(src dst e:TypeId)(a:Int)(hs:P.underlying src=some (.slice e))(he:P.underlying e=some (.int .u8))(hd:P.underlying dst=some .string) :
  (convert src dst (.slice (some ⟨w.heap.size,0,none⟩) 1 1)).run P (w.alloc (.cells #[.int .u8 a] e))=.ok (.string (S [UInt8.ofNat a.toNat])) (w.alloc (.cells #[.int .u8 a] e)):=
 ah3 w src dst e [a] hs he hd
@[go_sem] theorem ayJ{P:Program}(w:World)(src dst e:TypeId)(a b:Int)(hs:P.underlying src=some (.slice e))(he:P.underlying e=some (.int .u8))(hd:P.underlying dst=some .string) :
  (convert src dst (.slice (some ⟨w.heap.size,0,none⟩) 2 2)).run P (w.alloc (.cells #[.int .u8 a,.int .u8 b] e))=.ok (.string (S [UInt8.ofNat a.toNat,UInt8.ofNat b.toNat])) (w.alloc (.cells #[.int .u8 a,.int .u8 b] e)):=
 ah3 w src dst e [a,b] hs he hd
@[go_sem] theorem ayK{P:Program}(w:World)(src dst e:TypeId)(a b c:Int)(hs:P.underlying src=some (.slice e))(he:P.underlying e=some (.int .u8))(hd:P.underlying dst=some .string) :
  (convert src dst (.slice (some ⟨w.heap.size,0,none⟩) 3 3)).run P (w.alloc (.cells #[.int .u8 a,.int .u8 b,.int .u8 c] e))=.ok (.string (S [UInt8.ofNat a.toNat,UInt8.ofNat b.toNat,UInt8.ofNat c.toNat])) (w.alloc (.cells #[.int .u8 a,.int .u8 b,.int .u8 c] e)):=
 ah3 w src dst e [a,b,c] hs he hd
@[go_sem] theorem ayL{P:Program}(w:World)(src dst e:TypeId)(a b c d:Int)(hs:P.underlying src=some (.slice e))(he:P.underlying e=some (.int .u8))(hd:P.underlying dst=some .string) :
  (convert src dst (.slice (some ⟨w.heap.size,0,none⟩) 4 4)).run P (w.alloc (.cells #[.int .u8 a,.int .u8 b,.int .u8 c,.int .u8 d] e))=.ok (.string (S [UInt8.ofNat a.toNat,UInt8.ofNat b.toNat,UInt8.ofNat c.toNat,UInt8.ofNat d.toNat])) (w.alloc (.cells #[.int .u8 a,.int .u8 b,.int .u8 c,.int .u8 d] e)):=
 ah3 w src dst e [a,b,c,d] hs he hd
theorem anC(n:Int)(h₀:0≤n)(h₁:n<2^62):IntKind.i64.wrap n=n:=by rw[IntKind.wrap_i64];omega
theorem alN(i:Nat)(hi:i≤62)(x m:Int)(h₀:0≤x)(h₁:x<4611686018427387904)(hm:m=2^i-1):bits .and .i64 x m=x%2^i:=by
 subst hm;exact bits_mask .i64 62 (by decide) anC i hi x h₀ h₁
theorem aut(i:Nat)(x y:Int)(hx₀:0≤x)(hx:x%2^i=0)(hx₁:x<4611686018427387904)(h₀:0≤y)(h₁:y<2^i)(hi:y<2^62):bits .or .i64 x y=x+y:=
 bits_join .i64 62 (by decide) anC i x y hx₀ hx hx₁ h₀ h₁ hi
def acR(n:Int):UInt8:=UInt8.ofNat n.toNat
theorem ad1{n:Int}{c:UInt8}(h:n=c.toNat):acR n=c:=by subst h;unfold acR;simp
@[simp] theorem aps(c:UInt8):acR (c.toNat:Int)=c:=ad1 rfl
theorem ac9{n:Int}(h0:0≤n)(h1:n<256):((acR n).toNat:Int)=n:=by unfold acR;simp;omega
@[simp] theorem ayM:acR 61=61:=by decide
theorem aei(p:UInt8→Bool)(h:(List.range 256).all (fun n=>p (UInt8.ofNat n))=true)(c:UInt8):p c=true:=by
 have:=List.all_eq_true.1 h c.toNat (by simp;exact c.toNat_lt)
 simpa using this
end Go.Proofs.YtmffejnigppbpaaGreatDoor

namespace Go.Proofs.YtmffejnigppbpaaGreatDoor
open Go.RowKit
def adC(f:UInt8→Option (List UInt8))(c:UInt8):List UInt8:=(f c).getD [c]
def UK(f:UInt8→Option (List UInt8))(s:List UInt8):List UInt8:=s.flatMap (adC f)
theorem ahg(f:UInt8→Option (List UInt8))(a b:List UInt8):UK f (a++b)=UK f a++UK f b:=by simp[UK]
theorem aja(f:UInt8→Option (List UInt8))(c:UInt8)(t:List UInt8):UK f (c::t)=adC f c++UK f t:=by simp[UK]
def afj(c:UInt8):Option (List UInt8):=if c=94 then some [94,94] else if c=10 then some [94,110] else if c=34 then some [94,39] else none
def aoP(s:List UInt8):List UInt8:=UK afj s
theorem aoQ(s:List UInt8):s.length≤(aoP s).length∧(aoP s).length≤2*s.length:=by
 have h:∀c:UInt8,1≤(adC afj c).length∧(adC afj c).length≤2:=fun c=>of_decide_eq_true (aei (fun c=>decide (1≤(adC afj c).length∧(adC afj c).length≤2)) (by decide +kernel) c)
 induction s with
 |nil=>exact⟨Nat.le_refl _,Nat.le_refl _⟩
 |cons c t ih=>
  have:=h c
  show(c::t).length≤(adC afj c++aoP t).length∧(adC afj c++aoP t).length≤_
  simp only[List.length_append,List.length_cons]
  omega
def agV(c:UInt8):Option (List UInt8):=if c=92 then some [92,92] else if c=44 then some [92,44] else if c=59 then some [92,59] else if c=10 then some [92,110] else none
def adK(s:List UInt8):List UInt8:=UK agV s
def avC(s:List UInt8):Nat:=(s.filter fun c=>([92,44,59,10]:List UInt8).contains c).length
theorem axl(s:List UInt8):(adK s).length=s.length+avC s:=by
 have h:∀c:UInt8,(adC agV c).length=1+if ([92,44,59,10]:List UInt8).contains c=true then 1 else 0:=fun c=>of_decide_eq_true (aei (fun c=>decide ((adC agV c).length=1+if ([92,44,59,10]:List UInt8).contains c=true then 1 else 0)) (by decide +kernel) c)
 induction s with
 |nil=>rfl
 |cons c t ih=>
  have e:(adK (c::t)).length=(adC agV c).length+(adK t).length:=by
   show(adC agV c++adK t).length=_
   rw[List.length_append]
  rw[e,h,ih]
  unfold avC
  rw[List.filter_cons]
  split<;>simp<;>omega
inductive adb where
 |good (texts:List (List UInt8)) (cuts:List UInt8)
 |bad (code:Int) (place:Nat)
def afs(c:UInt8):Option UInt8:=if c=92∨c=44∨c=59 then some c else if c=110∨c=78 then some 10 else none
def C9(at_:List UInt8):List UInt8→Nat→List UInt8→List (List UInt8)→List UInt8→adb
 |[],_,cur,texts,cuts=>.good (texts++[cur]) cuts
 |[c],k,cur,texts,cuts=>if c=92 then .bad 7 (k+1)else if at_.contains c=true then .good (texts++[cur]++[[]]) (cuts++[c])else .good (texts++[cur++[c]]) cuts
 |c::d::t,k,cur,texts,cuts=>
  if c=92 then
   match afs d with
   |some x=>C9 at_ t (k+2) (cur++[x]) texts cuts
   |none=>.bad 3 (k+1)
  else if at_.contains c=true then C9 at_ (d::t) (k+1) [] (texts++[cur]) (cuts++[c])
  else C9 at_ (d::t) (k+1) (cur++[c]) texts cuts
theorem adc(a:List UInt8)(k:Nat)(cur:List UInt8)(ts:List (List UInt8))(cs:List UInt8):C9 a [] k cur ts cs=.good (ts++[cur]) cs:=rfl
theorem agi(a:List UInt8)(k:Nat)(cur:List UInt8)(ts:List (List UInt8))(cs:List UInt8):C9 a [92] k cur ts cs=.bad 7 (k+1):=rfl
theorem ae4{a:List UInt8}{d x:UInt8}{t:List UInt8}{k:Nat}{cur:List UInt8}{ts:List (List UInt8)}{cs:List UInt8}(h:afs d=some x):C9 a (92::d::t) k cur ts cs=C9 a t (k+2) (cur++[x]) ts cs:=by
 show(if (92:UInt8)=92 then _ else _)=_
 rw[if_pos rfl,h]
theorem afI{a:List UInt8}{d:UInt8}{t:List UInt8}{k:Nat}{cur:List UInt8}{ts:List (List UInt8)}{cs:List UInt8}(h:afs d=none):C9 a (92::d::t) k cur ts cs=.bad 3 (k+1):=by
 show(if (92:UInt8)=92 then _ else _)=_
 rw[if_pos rfl,h]
theorem aeG{a:List UInt8}{c:UInt8}{t:List UInt8}{k:Nat}{cur:List UInt8}{ts:List (List UInt8)}{cs:List UInt8}(h1:c≠92)(h2:a.contains c=true):C9 a (c::t) k cur ts cs=C9 a t (k+1) [] (ts++[cur]) (cs++[c]):=by
 cases t with
 |nil=>show(if c=92 then _ else _)=_;rw[if_neg h1,if_pos h2];rfl
 |cons d t=>show(if c=92 then _ else _)=_;rw[if_neg h1,if_pos h2]
theorem ae5{a:List UInt8}{c:UInt8}{t:List UInt8}{k:Nat}{cur:List UInt8}{ts:List (List UInt8)}{cs:List UInt8}(h1:c≠92)(h2:a.contains c=false):C9 a (c::t) k cur ts cs=C9 a t (k+1) (cur++[c]) ts cs:=by
 cases t with
 |nil=>show(if c=92 then _ else _)=_;rw[if_neg h1,if_neg (by simpa using h2)];rfl
 |cons d t=>show(if c=92 then _ else _)=_;rw[if_neg h1,if_neg (by simpa using h2)]
theorem atQ(c:UInt8):(∃d,adC agV c=[92,d]∧afs d=some c)∨(adC agV c=[c]∧c≠92∧c≠44∧c≠59):=by
 by_cases h1:c=92
 ·subst h1;exact .inl ⟨92,rfl,rfl⟩
 by_cases h2:c=44
 ·subst h2;exact .inl ⟨44,rfl,rfl⟩
 by_cases h3:c=59
 ·subst h3;exact .inl ⟨59,rfl,rfl⟩
 by_cases h4:c=10
 ·subst h4;exact .inl ⟨110,rfl,rfl⟩
 ·right
  refine⟨?_,h1,h2,h3⟩
  unfold adC agV
  rw[if_neg h1,if_neg h2,if_neg h3,if_neg h4];rfl
theorem ahS(a:List UInt8)(ha:∀c∈a,c=44∨c=59)(s:List UInt8):∀(r:List UInt8) (k:Nat) (cur:List UInt8) (ts:List (List UInt8)) (cs:List UInt8),C9 a (adK s++r) k cur ts cs=C9 a r (k+(adK s).length) (cur++s) ts cs:=by
 induction s with
 |nil=>intro r k cur ts cs;simp[adK,UK]
 |cons c t ih=>
  intro r k cur ts cs
  have e:adK (c::t)=adC agV c++adK t:=rfl
  rcases atQ c with⟨d,h1,h2⟩|⟨h1,h2,h3,h4⟩
  ·rw[e,h1]
   show C9 a (92::d::(adK t++r)) k cur ts cs=_
   rw[ae4 h2,ih]
   simp;congr 1;omega
  ·rw[e,h1]
   show C9 a (c::(adK t++r)) k cur ts cs=_
   rw[ae5 h2 (by
    cases hc:a.contains c with
    |false=>rfl
    |true=>rcases ha c (by simpa using hc)with h|h;exact absurd h h3;exact absurd h h4),ih]
   simp;congr 1;omega
end Go.Proofs.YtmffejnigppbpaaGreatDoor

namespace Go.Proofs.YtmffejnigppbpaaGreatDoor
open Go.RowKit
structure ahe(f:UInt8→Option (List UInt8))(keys:List UInt8):Prop where
 nodup:keys.Nodup
 iff:∀c,f c=none↔c∉keys
 pos:∀c l,f c=some l→1≤l.length
 small:∀c l,f c=some l→l.length≤10
def amG(f:UInt8→Option (List UInt8))(c:UInt8):Nat:=(adC f c).length-1
def ahR(f:UInt8→Option (List UInt8))(s:List UInt8)(keys:List UInt8):Nat:=(keys.map fun k=>s.count k*amG f k).sum
theorem atP(f:UInt8→Option (List UInt8))(c:UInt8)(t:List UInt8)(keys:List UInt8)(hn:keys.Nodup):ahR f (c::t) keys=ahR f t keys+if c∈keys then amG f c else 0:=by
 induction keys with
 |nil=>simp[ahR]
 |cons k ks ih=>
  obtain⟨h1,h2⟩:=List.nodup_cons.1 hn
  have ih:=ih h2
  have e:∀l,ahR f l (k::ks)=l.count k*amG f k+ahR f l ks:=fun l=>by simp[ahR]
  rw[e,e,ih,List.count_cons]
  by_cases hc:c=k
  ·subst hc
   simp[h1,Nat.add_mul];omega
  ·have hck:(c==k)=false:=beq_eq_false_iff_ne.2 hc
   simp[hc,hck]
   omega
theorem aqs{f:UInt8→Option (List UInt8)}{keys:List UInt8}(h:ahe f keys)(s:List UInt8):(UK f s).length=s.length+ahR f s keys:=by
 induction s with
 |nil=>
  have h0:∀l:List UInt8,(l.map fun _=>0).sum=0:=fun l=>by induction l with
   |nil=>rfl
   |cons _ _ ih=>simpa using ih
  simp[UK,ahR,h0]
 |cons c t ih=>
  rw[aja,List.length_append,ih,atP f c t keys h.nodup]
  have hr:(adC f c).length=1+if c∈keys then amG f c else 0:=by
   unfold amG
   by_cases hc:c∈keys
   ·rw[if_pos hc]
    cases hf:f c with
    |none=>exact absurd hc ((h.iff c).1 hf)
    |some l=>
     have:=h.pos c l hf
     simp[adC,hf];omega
   ·rw[if_neg hc]
    have:=(h.iff c).2 hc
    simp[adC,this]
  rw[hr];simp;omega
theorem an2{f:UInt8→Option (List UInt8)}(s:List UInt8)(h:∀c∈s,f c=none):UK f s=s:=by
 induction s with
 |nil=>rfl
 |cons c t ih=>
  rw[aja,ih fun d hd=>h d (List.mem_cons_of_mem _ hd)]
  simp[adC,h c List.mem_cons_self]
theorem adP(f:UInt8→Option (List UInt8))(s:List UInt8)(k:Nat)(h:k<s.length):UK f (s.take (k+1))=UK f (s.take k)++adC f s[k]:=by
 rw[List.take_succ_eq_append_getElem h,ahg];simp[UK]
theorem asD{f:UInt8→Option (List UInt8)}{keys:List UInt8}(h:ahe f keys)(s:List UInt8):s.length≤(UK f s).length∧(UK f s).length≤10*s.length:=by
 have h1:∀c,1≤(adC f c).length∧(adC f c).length≤10:=by
  intro c
  cases hf:f c with
  |none=>simp[adC,hf]
  |some l=>have:=h.pos c l hf;have:=h.small c l hf;simp[adC,hf];omega
 induction s with
 |nil=>simp[UK]
 |cons c t ih=>
  have:=h1 c
  rw[aja];simp only[List.length_append,List.length_cons];omega
theorem ahf(f:UInt8→Option (List UInt8))(s:List UInt8)(k:Nat):(UK f (s.take k)).length≤(UK f s).length:=by
 conv=>rhs;rw[←List.take_append_drop k s,ahg]
 simp
end Go.Proofs.YtmffejnigppbpaaGreatDoor

set_option maxHeartbeats 4000000
set_option maxRecDepth 100000
namespace Go.Proofs.YtmffejnigppbpaaGreatDoor
open Go.RowKit
theorem ajP(w:World):(callFunc 258 #[]).run Tryz.prog w=.ok (.value (.tuple #[])) w:=run_call_mark0 Tryz.func258 (by kernel_rfl) (by kernel_rfl) (by kernel_rfl) .disable (by kernel_rfl) w
theorem akY(w:World):(callFunc 260 #[]).run Tryz.prog w=.ok (.value (.tuple #[])) w:=run_call_mark0 Tryz.func260 (by kernel_rfl) (by kernel_rfl) (by kernel_rfl) .enable (by kernel_rfl) w
theorem aoH(a:Addr)(w:World):(callFunc 261 #[.pointer (some a)]).run Tryz.prog w=.ok (.value (.tuple #[])) w:=run_call_marked Tryz.func261 (by kernel_rfl) (by kernel_rfl) (by kernel_rfl) .acquire (by kernel_rfl) a w
theorem ajQ(a:Addr)(w:World):(callFunc 263 #[.pointer (some a)]).run Tryz.prog w=.ok (.value (.tuple #[])) w:=run_call_marked Tryz.func263 (by kernel_rfl) (by kernel_rfl) (by kernel_rfl) .releaseMerge (by kernel_rfl) a w
theorem amx(a:Addr)(x:Value)(u:FrameMode)(w:World)(hc:w.cell? a=some x)(hz:w.frozen? a=false) :
  CallsD Tryz.prog 229 #[.pointer (some a),.bool true] u w fun e u' w'=>u'=u∧(e=.returned (.tuple #[])∧w'=w.drew.setCell a (.int .u32 1)):=by
 have hc':w.drew.cell? a=some x:=by go_simp
 have hz':w.drew.frozen? a=false:=by go_simp
 have hst:=run_call_store (P:=Tryz.prog) Tryz.func246 (by kernel_rfl) (by kernel_rfl) (by kernel_rfl) (by kernel_rfl) (k:=.u32) (y:=1) hc' hz'
 go_enter_d Tryz.func229,Tryz.ntmps229
 go_wp2
 go_region_calls
 all_goals (go_end0;exact⟨rfl,rfl⟩)
theorem alp(a:Addr)(u:FrameMode)(w:World)(hc:w.cell? a=some (.int .i32 1))(hz:w.frozen? a=false) :
  CallsD Tryz.prog 228 #[.pointer (some a)] u w fun e u' w'=>u'=u∧(e=.returned (.tuple #[])∧w'=w.setCell a (.int .i32 0)):=by
 have hd:=ajP
 have he:=akY
 have hr:=ajQ
 have hadd:=run_call_add (P:=Tryz.prog) Tryz.func264 (by kernel_rfl) (by kernel_rfl) (by kernel_rfl) .i32 (by kernel_rfl) (y := -1) (s:=0) hc hz (by simp[go_sem];rfl)
 have hcv:=run_convert_to_unsafe (P:=Tryz.prog) (src:=355) (dst:=155) Tryz.underlying355 Tryz.underlying155 (by kernel_rfl) hc
 go_enter_d Tryz.func228,Tryz.ntmps228
 go_wp2
 go_end0
 go_wp2
 go_end0
 exact⟨rfl,rfl⟩
theorem atI(a:Addr)(w:World)(hc:w.cell? a=some (.int .i32 0))(hz:w.frozen? a=false) :
  Calls Tryz.prog 227 #[.pointer (some a)] w fun e w'=>e=.returned (.tuple #[])∧w'=w.setCell a (.int .i32 1):=by
 have hd:=ajP
 have he:=akY
 have ha:=aoH
 have hcas:=run_call_cas_hit (P:=Tryz.prog) Tryz.func259 (by kernel_rfl) (by kernel_rfl) (by kernel_rfl) .i32 (by kernel_rfl) (y:=1) hc hz
 have hc':(w.setCell a (.int .i32 1)).cell? a=some (.int .i32 1):=World.cell?_setCell_same w a _ hc
 have hcv:=run_convert_to_unsafe (P:=Tryz.prog) (src:=355) (dst:=155) Tryz.underlying355 Tryz.underlying155 (by kernel_rfl) hc'
 go_enter Tryz.func227,Tryz.ntmps227
 go_wp2
 first|go_end0|(simp only[Exit.inBlock,Exit.then];refine bodyPost_ret (results_none rfl _ _ _) rfl ?_)|refine bodyPost_ret (results_none rfl _ _ _) rfl ?_
 go_wp2
 go_end0
 exact⟨rfl,rfl⟩
theorem aiK(a:Addr)(w:World)(h:w.cell? a=some (.int .u32 0)):adV 203 #[.pointer (some a)] w (.bool false):=by
 have hl:=run_call_load (P:=Tryz.prog) Tryz.func226 (by kernel_rfl) (by kernel_rfl) (by kernel_rfl) .u32 (by kernel_rfl) h
 go_enter Tryz.func203,Tryz.ntmps203
 go_wp2
 go_ret
 exact⟨rfl,rfl⟩
def axX(w:World)(b off:Nat)(e:Ending)(w':World)(R:World→Prop):Prop:=
 e=.returned (.tuple #[])∧R w'∧w'.cell? ⟨b,off,none⟩=some (.int .u32 0)∧w'.frozen? ⟨b,off,none⟩=false∧w'.cell? ⟨b,off+1,none⟩=some (.int .i32 1)∧w'.frozen? ⟨b,off+1,none⟩=false
theorem avu(p:Value)(b off:Nat)(w:World)(R:World→Prop)(h0:w.cell? ⟨b,off,none⟩=some (.int .u32 0))(h1:w.cell? ⟨b,off+1,none⟩=some (.int .i32 0))(f0:w.frozen? ⟨b,off,none⟩=false)(f1:w.frozen? ⟨b,off+1,none⟩=false)(hf:Calls Tryz.prog 172 #[p] (w.setCell ⟨b,off+1,none⟩ (.int .i32 1)) fun e w'=>axX w b off e w' R) :
  Calls Tryz.prog 204 #[.pointer (some ⟨b,off,none⟩),.func (.func 172) #[p] #[]] w fun e w'=>e=.returned (.tuple #[])∧∃w1,R w1∧w'=(w1.drew.setCell ⟨b,off,none⟩ (.int .u32 1)).setCell ⟨b,off+1,none⟩ (.int .i32 0):=by
 have l0:(w.setCell ⟨b,off+1,none⟩ (.int .i32 1)).cell? ⟨b,off,none⟩=some (.int .u32 0):=(World.cell?_setCell_other _ ⟨b,off+1,none⟩ ⟨b,off,none⟩ _ (by simp)).trans h0
 have hnot:∀(x:Bool) (w:World),(Op.unary .not (.bool x)).run Tryz.prog w=.ok (.bool (!x)) w:=fun _ _=>rfl
 go_enter_defers Tryz.func204,Tryz.ntmps204
 go_wp2_with (go_at_call 227;refine(atI ⟨b,off+1,none⟩ _ (by go_simp) (by go_simp)).mono ?_;rintro e w' ⟨rfl,rfl⟩)
 refine(aiK ⟨b,off,none⟩ _ l0).use ?_
 go_wp2_with fail
 refine Calls.mono hf ?_
 rintro e w1 ⟨rfl,hr,a0,z0,a1,z1⟩
 go_wp2_with fail
 refine leaves_cons (f:=229) (args:=#[.pointer (some ⟨b,off,none⟩),.bool true]) (by simp) (by simp[go_sem]) ?_
 refine(amx ⟨b,off,none⟩ (.int .u32 0) .returning _ a0 z0).mono ?_
 rintro e u' w2 ⟨rfl,rfl,rfl⟩
 refine leaves_cons (f:=228) (args:=#[.pointer (some ⟨b,off+1,none⟩)]) (by simp[settle]) (by simp[go_sem]) ?_
 refine(alp ⟨b,off+1,none⟩ _ _ ?_ (by simp[z1])).mono ?_
 ·refine(World.cell?_setCell_other _ ⟨b,off,none⟩ ⟨b,off+1,none⟩ _ (by simp)).trans ?_
  rw[World.cell?_drew]
  exact a1
 rintro e u' w2 ⟨rfl,rfl,rfl⟩
 simp[Leaves,settle,results,Tryz.results204]
 exact⟨w1,hr,rfl⟩
theorem arI(p:Value)(b off:Nat)(w:World)(R:World→Prop)(h0:w.cell? ⟨b,off,none⟩=some (.int .u32 0))(h1:w.cell? ⟨b,off+1,none⟩=some (.int .i32 0))(f0:w.frozen? ⟨b,off,none⟩=false)(f1:w.frozen? ⟨b,off+1,none⟩=false)(hf:Calls Tryz.prog 172 #[p] (w.setCell ⟨b,off+1,none⟩ (.int .i32 1)) fun e w'=>axX w b off e w' R) :
  Calls Tryz.prog 171 #[.pointer (some ⟨b,off,none⟩),.func (.func 172) #[p] #[]] w fun e w'=>e=.returned (.tuple #[])∧∃w1,R w1∧w'=(w1.drew.setCell ⟨b,off,none⟩ (.int .u32 1)).setCell ⟨b,off+1,none⟩ (.int .i32 0):=by
 have hnot:∀(x:Bool) (w:World),(Op.unary .not (.bool x)).run Tryz.prog w=.ok (.bool (!x)) w:=fun _ _=>rfl
 go_enter Tryz.func171,Tryz.ntmps171
 go_wp2_with fail
 refine(aiK ⟨b,off,none⟩ _ h0).use ?_
 go_wp2_with fail
 refine Calls.mono (avu p b off w R h0 h1 f0 f1 hf) ?_
 rintro e w' ⟨rfl,hr⟩
 go_wp2_with fail
 go_end0
 exact⟨rfl,hr⟩
end Go.Proofs.YtmffejnigppbpaaGreatDoor
