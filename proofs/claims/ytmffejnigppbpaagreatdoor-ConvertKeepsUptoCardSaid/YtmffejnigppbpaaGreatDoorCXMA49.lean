/-
  Texts merged into one: Split, Stab, SortRow, Atoi, HasM, SeqOwn.
-/
import Derived.Test.YtmffejnigppbpaaGreatDoorCXShelf
import Derived.Test.YtmffejnigppbpaaGreatDoorCXMA59
import Derived.Lib.SplitLaws
import Derived.Lib.CountLaws
import Derived.Test.YtmffejnigppbpaaGreatDoorCXMA52
import Derived.Lib.AtoiErrMem
import Derived.Lib.AtoiAllCases
import Derived.Lib.AppendIntMem
import Derived.RangeFuncWrites
import Derived.RangeFuncLeaves
set_option linter.unusedVariables false
set_option linter.unusedSimpArgs false
namespace Go.Proofs.YtmffejnigppbpaaGreatDoor
open Go.RowKit
def gp(sep:List UInt8)(p:List UInt8):List (List UInt8)→List UInt8
 |[]=>p
 |q::ps=>p++(sep++gp sep q ps)
theorem zU(w:World)(t:TypeId)(ls:List (List UInt8))(h:ls≠[]):di (w.alloc (.cells ((ls.map S).map Value.string).toArray t)) (.slice (some ⟨w.heap.size,0,none⟩) ls.length ls.length) ls:=by
 refine⟨⟨by simp,?_,.inr ⟨w.heap.size,0,ls.length,rfl,by simp,?_,fun j hj=>?_⟩⟩,Nat.le_refl _⟩
 ·intro u hu
  obtain⟨l,_,rfl⟩:=List.mem_map.1 hu
  rfl
 ·cases ls with
  |nil=>exact absurd rfl h
  |cons _ _=>simp
 ·rw[Nat.zero_add,World.cell?_alloc_new]
  simp at hj
  simp[List.getElem?_eq_getElem hj]
end Go.Proofs.YtmffejnigppbpaaGreatDoor

namespace Go.Proofs.YtmffejnigppbpaaGreatDoor.Stab
def L(k:Int→Int)(x y:Int):Prop:=k x<k y∨(k x=k y∧x<y)
theorem L.trans{k:Int→Int}{x y z:Int}(h:L k x y)(g:L k y z):L k x z:=by
 unfold L at *;omega
abbrev Srt(k:Int→Int)(l:List Int):Prop:=l.Pairwise (L k)
def Bef(u v:List Int):Prop:=∀x∈u,∀y∈v,x<y
def Lj(n:Nat):List (List Int)→Prop
 |[]=>True
 |[c]=>0<c.length∧c.length≤n
 |c::d::r=>c.length=n∧Lj n (d::r)
def Tz(k:Int→Int)(n:Nat)(D E:List (List Int)):Prop:=(∀d∈D,d.length=2*n)∧Lj n E∧(D++E).Pairwise Bef∧∀c∈D++E,Srt k c
theorem Tz.bef{k:Int→Int}{n:Nat}{D r:List (List Int)}{c d:List Int}(h:Tz k n D (c::d::r)):Bef c d∧Srt k c∧Srt k d∧c.length=n:=by
 obtain⟨-,h1,h2,h3⟩:=h
 have h4:=(List.pairwise_append.1 h2).2.1
 exact⟨(List.pairwise_cons.1 h4).1 d (by simp),h3 c (by simp),h3 d (by simp),h1.1⟩
theorem Tz.pair{k:Int→Int}{n:Nat}{D r:List (List Int)}{c d s:List Int}(h:Tz k n D (c::d::r))(hp:s.Perm (c++d))(hs:Srt k s):(D++s::r).Pairwise Bef∧∀x∈D++s::r,Srt k x:=by
 obtain⟨-,-,h2,h3⟩:=h
 obtain⟨a1,a2,a3⟩:=List.pairwise_append.1 h2
 obtain⟨b1,b2⟩:=List.pairwise_cons.1 a2
 obtain⟨c1,c2⟩:=List.pairwise_cons.1 b2
 refine⟨List.pairwise_append.2 ⟨a1,List.pairwise_cons.2 ⟨fun x hx y hy z hz=>?_,c2⟩,fun x hx y hy z hz w hw=>?_⟩,fun x hx=>?_⟩
 ·rcases List.mem_append.1 (hp.mem_iff.1 hy)with hy|hy
  ·exact b1 x (by simp[hx]) y hy z hz
  ·exact c1 x hx y hy z hz
 ·rcases List.mem_cons.1 hy with rfl|hy
  ·rcases List.mem_append.1 (hp.mem_iff.1 hw)with hw|hw
   ·exact a3 x hx c (by simp) z hz w hw
   ·exact a3 x hx d (by simp) z hz w hw
  ·exact a3 x hx y (by simp[hy]) z hz w hw
 ·rcases List.mem_append.1 hx with hx|hx
  ·exact h3 x (by simp[hx])
  ·rcases List.mem_cons.1 hx with rfl|hx
   ·exact hs
   ·exact h3 x (by simp[hx])
theorem Lj.tail{n:Nat}{c:List Int}{r:List (List Int)}(h:Lj n (c::r)):Lj n r:=by
 cases r with
 |nil=>trivial
 |cons d r=>exact h.2
theorem Tz.step{k:Int→Int}{n:Nat}{D r:List (List Int)}{c d s:List Int}(h:Tz k n D (c::d::r))(hd:d.length=n)(hp:s.Perm (c++d))(hs:Srt k s):Tz k n (D++[s]) r:=by
 obtain⟨p1,p2⟩:=h.pair hp hs
 refine⟨fun x hx=>?_,(h.2.1.tail).tail,by simpa using p1,by simpa using p2⟩
 rcases List.mem_append.1 hx with hx|hx
 ·exact h.1 x hx
 ·simp at hx;subst hx
  have:=hp.length_eq
  rw[List.length_append,hd,h.bef.2.2.2]at this;omega
def YH(k:Int→Int)(n:Nat)(D:List (List Int))(t:List Int):Prop:=(∀d∈D,d.length=n)∧(D++[t]).Pairwise Bef∧(∀c∈D,Srt k c)∧t.Pairwise (· < ·)
theorem YH.step{k:Int→Int}{n:Nat}{D:List (List Int)}{t1 t2 s:List Int}(h:YH k n D (t1++t2))(hl:t1.length=n)(hp:s.Perm t1)(hs:Srt k s):YH k n (D++[s]) t2:=by
 obtain⟨h1,h2,h3,h4⟩:=h
 obtain⟨a1,-,a3⟩:=List.pairwise_append.1 h2
 obtain⟨b1,b2,b3⟩:=List.pairwise_append.1 h4
 refine⟨fun d hd=>?_,?_,fun c hc=>?_,b2⟩
 ·rcases List.mem_append.1 hd with hd|hd
  ·exact h1 d hd
  ·simp at hd;subst hd;rw[hp.length_eq];exact hl
 ·rw[List.append_assoc]
  refine List.pairwise_append.2 ⟨a1,?_,fun x hx y hy z hz w hw=>?_⟩
  ·simp only[List.singleton_append,List.pairwise_cons,List.mem_singleton]
   exact⟨fun y hy=>by subst hy;exact fun x hx z hz=>b3 x (hp.mem_iff.1 hx) z hz,fun y hy=>absurd hy List.not_mem_nil,List.Pairwise.nil⟩
  ·simp at hy
   have key:=a3 x hx (t1++t2) (List.mem_singleton.2 rfl) z hz w
   rcases hy with hy|hy
   ·rw[hy]at hw;exact key (List.mem_append.2 (.inl (hp.mem_iff.1 hw)))
   ·rw[hy]at hw;exact key (List.mem_append.2 (.inr hw))
 ·rcases List.mem_append.1 hc with hc|hc
  ·exact h3 c hc
  ·simp at hc;subst hc;exact hs
end Go.Proofs.YtmffejnigppbpaaGreatDoor.Stab

namespace Go.Proofs.YtmffejnigppbpaaGreatDoor
open Go.RowKit
structure SR(w0:World)(B off:Nat)(l:List Int)(W:World):Prop where
 mv:w0.grownBy W (some B)
 lt:B<W.heap.size
 cell:∀(i:Nat) (x:Int),l[i]?=some x→W.cell? ⟨B,off+i,none⟩=some (.int .i64 x)∧W.frozen? ⟨B,off+i,none⟩=false
 blk:∀cur T fr,w0.heap[B]?=some (.cells cur T fr)→∃cur',W.heap[B]?=some (.cells cur' T fr)∧cur'.size=cur.size
variable {w0 W W':World} {B off:Nat} {l:List Int}
theorem SR.grow(h:SR w0 B off l W)(g:G W W'):SR w0 B off l W':=
 ⟨Wy h.mv g,Nat.lt_of_lt_of_le h.lt g.size,fun i x hx=>⟨by rw[g.cell h.lt];exact(h.cell i x hx).1,by rw[g.below.frozen h.lt];exact(h.cell i x hx).2⟩,fun cur T fr e=>by rw[g.below.block B h.lt];exact h.blk cur T fr e⟩
theorem SR.drew(h:SR w0 B off l W):SR w0 B off l W.drew:=h.grow ((G.refl _).drew)
end Go.Proofs.YtmffejnigppbpaaGreatDoor

namespace Go.Proofs.YtmffejnigppbpaaGreatDoor
open Go.RowKit
def Dx(W:World):Prop:=(∃ev,W.cell? ⟨3,0,none⟩=some ev∧(ev=.nilIface∨∃te pe,ev=.iface te pe))∧(∃ev,W.cell? ⟨4,0,none⟩=some ev∧(ev=.nilIface∨∃te pe,ev=.iface te pe))
theorem Dx.grow{w w':World}(h:Dx w)(g:G w w'):Dx w':=by
 obtain⟨⟨e1,h1,k1⟩,⟨e2,h2,k2⟩⟩:=h
 exact⟨⟨e1,(g.cell (World.block_lt_of_cell? _ _ h1)).trans h1,k1⟩,⟨e2,(g.cell (World.block_lt_of_cell? _ _ h2)).trans h2,k2⟩⟩
theorem QG(s:List UInt8):(S s).data.toList=s:=by simp[S]
theorem Ug(s:List UInt8)(n:Int)(w:World)(hs:s.length≤1000000)(h:Lib.atoiAll s=.ok n):dA 59 #[.string (S s)] w (.tuple #[.int .i64 n,.nilIface]):=by
 refine(Tryz.strconv_Atoi_ok (S s) (by simp;omega) n (by rw[QG];exact h) w).mono ?_
 rintro e w' ⟨rfl,hw⟩
 refine⟨rfl,?_⟩
 rcases hw with rfl|⟨t,rfl⟩
 ·exact G.refl _
 ·exact Lib.bytesWorld_below _ _ _
theorem Oc:∀n:Nat,n<10→Lib.atoiAll [UInt8.ofNat (48+n)]=.ok (n:Int):=by
 intro n hn
 have:n=0∨n=1∨n=2∨n=3∨n=4∨n=5∨n=6∨n=7∨n=8∨n=9:=by omega
 rcases this with rfl|rfl|rfl|rfl|rfl|rfl|rfl|rfl|rfl|rfl<;>rfl
theorem jS(n:Nat)(w:World)(h:n<10):dA 59 #[.string (S [UInt8.ofNat (48+n)])] w (.tuple #[.int .i64 n,.nilIface]):=Ug _ _ w (by simp) (Oc n h)
theorem Zo(s:List UInt8)(w:World)(hs:s.length≤1000000)(h:∀n,Lib.atoiAll s≠.ok n)(hE:Dx w):dP 59 #[.string (S s)] w fun v _=>∃(n:Int) (N:Nat),v=.tuple #[.int .i64 n,.iface 198 (.pointer (some ⟨N,0,none⟩))]:=by
 obtain⟨⟨e1,h1,k1⟩,⟨e2,h2,k2⟩⟩:=hE
 rcases hc:Lib.atoiAll s with n|_|_
 ·exact absurd hc (h n)
 ·refine(Any.strconv_Atoi_syntax Tryz.laysC172 (S s) (by simp;omega) (by rw[QG];exact hc) e1 w h1 k1).mono ?_
  rintro e w' ⟨N,rfl,_,_,g⟩
  exact⟨_,rfl,⟨_,_,rfl⟩,g⟩
 ·refine(Tryz.strconv_Atoi_range (S s) (by simp;omega) (by rw[QG];exact hc) e2 w h2 k2).mono ?_
  rintro e w' ⟨N,rfl,_,_,g⟩
  exact⟨_,rfl,⟨_,_,rfl⟩,g⟩
theorem Xi(n : Int)(w : World)(h0 : -9223372036854775808 ≤ n)(h1 : n ≤ 9223372036854775807)(htab : Lib.TabIs Tryz.prog w "internal/strconv.uint64pow10" .u64 Lib.pow10Tab) : dA 82 #[.int .i64 n] w (.string (S (Lib.itoa n))) := by
 refine(Tryz.strconv_Itoa n h0 h1 w htab).mono ?_
 rintro e w' ⟨rfl,k,os,rfl⟩
 exact⟨rfl,Lib.below_grow _ w (Nat.le_refl _) k os⟩
end Go.Proofs.YtmffejnigppbpaaGreatDoor

namespace Go.Proofs.YtmffejnigppbpaaGreatDoor
open Go.RowKit
def nJ(w:World):Prop:=∃m,w.cell? ⟨5,0,none⟩=some (.int .i64 m)
theorem nJ.grow{w w':World}(h:nJ w)(g:G w w'):nJ w':=by
 obtain⟨m,h⟩:=h
 exact⟨m,by rw[g.cell (p:=⟨5,0,none⟩) (World.block_lt_of_cell? w _ h)];exact h⟩
theorem sW(s sep:List UInt8)(w:World)(hm:nJ w)(hs:s.length≤1000000):dA 109 #[.string (S s),.string (S sep)] w (.tuple #[.string (S (Lib.cut s sep).1),.string (S (Lib.cut s sep).2.1),.bool (Lib.cut s sep).2.2]):=by
 obtain⟨m,hm⟩:=hm
 refine(Tryz.strings_Cut (S s) (S sep) m w (by simp;omega) hm).mono ?_
 rintro e w' ⟨rfl,q,rfl⟩
 exact⟨rfl,(G.refl w).drewN q⟩
end Go.Proofs.YtmffejnigppbpaaGreatDoor

namespace Go.Proofs.YtmffejnigppbpaaGreatDoor
open Go.RowKit
variable {F:Fence} {n:Nat} {P:Program}
def IR{β:Type}(B:Nat)(J:β→World→Prop):Prop:=∀s W v,J s W→J s (W.setCell ⟨B,0,none⟩ v)
def IV(B:Nat){α:Type}(F:Fence)(n:Nat)(P:Program)(g:Nat)(lb:Array Value)(encs:α→Array Value)(Kp:World→World→Prop)(xs:List α)(w:World):Prop:=
 ∀(l:Nat) (J Jx:List α→World→Prop) (W:World),Below w.heap.size w W→AbidesFrom W.heap.size J→AbidesFrom W.heap.size Jx→IR B J →
  (∀pre x W1,J pre W1→pre++[x] <+: xs→YieldAt F (n-1) P l (encs x) W1 fun e W'=>
   (e=.returned (.bool true)∧J (pre++[x]) W'∧Kp W1 W')∨(e=.returned (.bool false)∧Jx (pre++[x]) W')) →
  J [] W →
  CallsIn F n P g (#[.func (.yield l) #[] #[]]++lb) W fun e W'=>(∃v,e=.returned v)∧(J xs W'∨∃pre,pre <+: xs∧Jx pre W')
theorem lQ{B:Nat}{α:Type}{g:Operand}{ps:Array Tmp}{assign body:Code}{Q:Exit→Act→World→Prop}{a:Act}{w:World}(hB:B<w.heap.size)(hro:F.round=none)(h1:1≤n){gf:Nat}{lb:Array Value}(hg:a.eval g=.func (.func gf) #[] lb)(hFg:F.fn gf)(eg:∀args w,(callFunc gf args).run P w=.ok (.enter gf args) w){encs:α→Array Value}{Kp:World→World→Prop}{xs:List α}{w0:World}(hseq:IV B F (n-1) P gf lb encs Kp xs w0)(hKt:∀ {X Y Z:World},Kp X Y→Kp Y Z→Kp X Z)(hKb:∀(W:World) (l:Nat) (o o':Obj),w.heap.size≤l→W.heap[l]?=some o→o.isCells=false→o.isWalk=false→Kp W (W.putObj l o'))(hb0:Below w0.heap.size w0 w)(hps:∀x,(encs x).size=ps.size)(I:List α→World→Prop)(Ix:Code→List α→World→Prop)(hI:OwnFrom w.heap.size I)(hIB:IR B I)(hIx:∀c,OwnFrom w.heap.size (Ix c))(h0:I [] w)(a₁:α→Act)(hassign:∀(l:Nat) (x:α) (W:World) (K:Act→World→Prop),K (a₁ x) W →
   assign.wpIn (F.inRound l) (n-1-1) P (Exit.then K (fun _ _ _=>False)) { tmps:=(ps.zip (encs x)).foldl (fun t (p,v)=>t.setIfInBounds p v) a.tmps,defers:=[] } W)(hbody:∀(l:Nat) (pre:List α) (x:α) (W:World),I pre W→pre++[x] <+: xs→body.wpIn (F.inRound l) (n-1-1) P (ownPostG w.heap.size Kp I Ix (pre++[x]) W) (a₁ x) W)(hdone:∀(D:Nat) (W:World),w.heap.size≤D→I xs W→W.heap[D]?=some (.deferred (some []))→Q .normal { a with defers:={ target:=.collected D,args:=#[] }::a.defers } W)(hstop:∀(D:Nat) (c:Code) (pre:List α) (W:World),w.heap.size≤D→pre <+: xs→Ix c pre W→W.heap[D]?=some (.deferred (some []))→c.wpIn F n P Q { a with defers:={ target:=.collected D,args:=#[] }::a.defers } W) :
  (Code.rangeFunc g ps assign body).wpIn F n P Q a w:=by
 refine wpIn_rangeFunc ?_
 intro fn hfn
 rw[hro]
 obtain⟨rec,hrec⟩:∃rec:LoopState→Option Code→Loop,rec=fun st pe=>{ state:=st,pending:=pe,fn,tmps:=a.tmps,params:=ps,assign,body,defers:=w.heap.size }:=⟨_,rfl⟩
 obtain⟨W1,hW1⟩:∃W1,(w.alloc (.deferred (some []))).alloc (.loop (rec .ready none))=W1:=⟨_,rfl⟩
 have hL1:W1.heap[w.heap.size+1]?=some (.loop (rec .ready none)):=by
  rw[←hW1];have:=World.alloc_heap_new (w.alloc (.deferred (some []))) (.loop (rec .ready none));rwa [World.size_alloc]at this
 have hK1:W1.heap[w.heap.size]?=some (.deferred (some [])):=by
  rw[←hW1];exact(Below.heap_alloc _ _ _ (by simp)).trans (World.alloc_heap_new w _)
 have hI1:I [] W1:=by rw[←hW1];exact hI.alloc _ (hI.alloc _ h0)
 have hb1:Below w0.heap.size w0 W1:=by
  rw[←hW1];exact hb0.trans ((((Below.refl _ w).alloc (Nat.le_refl _) _).alloc (by simp) _).mono hb0.size)
 have hs1:W1.heap.size=w.heap.size+2:=by rw[←hW1];simp
 refine⟨w.heap.size+1,[{ target:=.collected w.heap.size,args:=#[] }],W1,{ target:=.fn (.func gf) lb,args:=#[.func (.yield (w.heap.size+1)) #[] #[]] },W1,gf,
  #[.func (.yield (w.heap.size+1)) #[] #[]]++lb,W1,?_,?_,?_,?_,fun _=>h1,?_⟩
 ·rw[←hW1,hrec];exact run_enterLoop_outer _ _ _ _ _
 ·simp only[resolve,hg]
  simp[go_sem]
 ·intro f' hf';simp[Target.leads]at hf';subst hf';exact hFg
 ·simp[invoke,go_sem,eg]
 have walkRow:∀ {X:World} {row:Option Nat},(∀r,row=some r→W1.heap.size≤r∧∃o:Obj,X.heap[r]?=some o∧o.isWalk=true)→(∀r,row=some r→w.heap.size≤r∧∃o:Obj,X.heap[r]?=some o∧o.isCells=false):=
  fun hr r e=>by obtain⟨hb,o,ho,hw⟩:=hr r e;exact⟨by omega,o,ho,Obj.not_cells_of_walk hw⟩
 have stay:∀ {X Y:World} {row:Option Nat} {k:Nat} {o:Obj},X.grownBy Y row→(∀r,row=some r→w.heap.size≤r∧∃o:Obj,X.heap[r]?=some o∧o.isWalk=true)→X.heap[k]?=some o→o.isWalk=false→Y.heap[k]?=some o:=
  fun hg' hr hk ho=>(grownBy_keeps hg' (fun r e=>(hr r e).2) hk ho).trans hk
 have atB:∀ {X:World} {k:Nat} {o:Obj} (v:Value),w.heap.size≤k→X.heap[k]?=some o→(X.setCell ⟨B,0,none⟩ v).heap[k]?=some o:=
  fun v hk ho=>by rw[Below.heap_setCell _ _ _ _ (by simp;omega)];exact ho
 refine(hseq (w.heap.size+1)
  (fun pre W=>I pre W∧W.heap[w.heap.size+1]?=some (.loop (rec .ready none))∧W.heap[w.heap.size]?=some (.deferred (some [])))
  (fun pre W=>∃c,Ix c pre W∧W.heap[w.heap.size+1]?=some (.loop (rec .done (some c)))∧W.heap[w.heap.size]?=some (.deferred (some [])))
  W1 hb1
  (fun s X Y row hs hg' hr=>⟨hI s X Y row hs.1 hg' (walkRow hr),stay hg' (fun r e=>⟨by have:=(hr r e).1;omega,(hr r e).2⟩) hs.2.1 rfl,stay hg' (fun r e=>⟨by have:=(hr r e).1;omega,(hr r e).2⟩) hs.2.2 rfl⟩)
  (fun s X Y row hs hg' hr=>by
   obtain⟨c,hc,hl,hk⟩:=hs
   exact⟨c,hIx c s X Y row hc hg' (walkRow hr),stay hg' (fun r e=>⟨by have:=(hr r e).1;omega,(hr r e).2⟩) hl rfl,stay hg' (fun r e=>⟨by have:=(hr r e).1;omega,(hr r e).2⟩) hk rfl⟩)
  (fun s X v hs=>⟨hIB s X v hs.1,atB v (by omega) hs.2.1,atB v (Nat.le_refl _) hs.2.2⟩)
  ?_ ⟨hI1,hL1,hK1⟩).mono ?_
 ·rintro pre x W ⟨hi,hl,hk⟩ hlen
  have hlt:w.heap.size+1<W.heap.size:=(Array.getElem?_eq_some_iff.1 hl).1
  have hy:=run_yield (P:=P) (args:=encs x) hl (by rw[hrec];exact hps x)
  rw[hrec]at hy
  refine⟨fn,_,assign,body,hy,roundIn_of_wpIn hfn (hassign _ x W _ ⟨_,run_beginRound hl (by rw[hrec]),?_⟩)⟩
  obtain⟨Wb,hWb⟩:∃Wb,W.putObj (w.heap.size+1) (.loop { rec .ready none with state:=.busy })=Wb:=⟨_,rfl⟩
  have hl2:Wb.heap[w.heap.size+1]?=some (.loop { rec .ready none with state:=.busy }):=by rw[←hWb];exact World.putObj_heap_same hlt
  have hk2:Wb.heap[w.heap.size]?=some (.deferred (some [])):=by rw[←hWb];exact(World.putObj_heap_other (by omega)).trans hk
  have hw2:Kp W Wb:=by rw[←hWb];exact hKb _ _ _ _ (by omega) hl rfl rfl
  have hi2:I pre Wb:=by rw[←hWb];exact hI.putObj _ hi (by omega) hl rfl
  rw[hWb]
  refine wpIn_mono (hbody _ pre x _ hi2 hlen) ?_
  have fin:∀(jump:Option Code) (W3:World),KeepsFrom w.heap.size Wb W3 →
    (Instr.endRound (w.heap.size+1) jump).run P W3=.ok (.bool jump.isNone) (W3.putObj (w.heap.size+1) (.loop (rec (if jump.isNone then .ready else .done) jump))) ∧
    W3.heap[w.heap.size+1]?=some (.loop { rec .ready none with state:=.busy }) ∧
    (W3.putObj (w.heap.size+1) (.loop (rec (if jump.isNone then .ready else .done) jump))).heap[w.heap.size+1]?=some (.loop (rec (if jump.isNone then .ready else .done) jump)) ∧
    (W3.putObj (w.heap.size+1) (.loop (rec (if jump.isNone then .ready else .done) jump))).heap[w.heap.size]?=some (.deferred (some [])):=fun jump W3 hk3=>by
   have hl3:=hk3.same _ _ (by omega) hl2 rfl
   have:=run_endRound (P:=P) jump hl3
   rw[hrec]at this⊢
   exact⟨this,by rw[hrec]at hl3;exact hl3,World.putObj_heap_same (Array.getElem?_eq_some_iff.1 hl3).1,(World.putObj_heap_other (by omega)).trans (hk3.same _ _ (Nat.le_refl _) hk2 rfl)⟩
  rintro e a3 W3 hp
  cases e with
  |normal=>
   obtain⟨hk3,hkp3,hi3⟩:=hp
   obtain⟨hr,hl3,hl4,hk4⟩:=fin none W3 hk3
   exact⟨_,_,hr,.inl ⟨rfl,⟨hI.putObj _ hi3 (by omega) hl3 rfl,hl4,hk4⟩,hKt (hKt hw2 hkp3) (hKb _ _ _ _ (by omega) hl3 rfl rfl)⟩⟩
  |ret=>
   obtain⟨hr,hl3,hl4,hk4⟩:=fin (some .ret) W3 hp.1
   exact⟨_,_,hr,.inr ⟨rfl,.ret,(hIx _).putObj _ hp.2 (by omega) hl3 rfl,hl4,hk4⟩⟩
  |exit id=>
   obtain⟨hr,hl3,hl4,hk4⟩:=fin (some (.exit id)) W3 hp.1
   exact⟨_,_,hr,.inr ⟨rfl,.exit id,(hIx _).putObj _ hp.2 (by omega) hl3 rfl,hl4,hk4⟩⟩
  |goto t=>
   obtain⟨hr,hl3,hl4,hk4⟩:=fin (some (.goto t)) W3 hp.1
   exact⟨_,_,hr,.inr ⟨rfl,.goto t,(hIx _).putObj _ hp.2 (by omega) hl3 rfl,hl4,hk4⟩⟩
  |panic ch=>exact hp.elim
  |outgrown=>exact hp.elim
 ·rintro e W2 ⟨⟨v,rfl⟩,(⟨hi,hl,hk⟩|⟨pre,hSp,c,hi,hl,hk⟩)⟩
  ·exact⟨none,_,by have:=run_endLoop (P:=P) hl (by rw[hrec];simp);rw[hrec]at this;exact this,hdone _ _ (Nat.le_refl _) (hI.putObj _ hi (by omega) hl rfl) ((World.putObj_heap_other (by omega)).trans hk)⟩
  ·exact⟨some c,_,by have:=run_endLoop (P:=P) hl (by rw[hrec];simp);rw[hrec]at this;exact this,hstop _ c pre _ (Nat.le_refl _) hSp ((hIx c).putObj _ hi (by omega) hl rfl) ((World.putObj_heap_other (by omega)).trans hk)⟩
end Go.Proofs.YtmffejnigppbpaaGreatDoor
