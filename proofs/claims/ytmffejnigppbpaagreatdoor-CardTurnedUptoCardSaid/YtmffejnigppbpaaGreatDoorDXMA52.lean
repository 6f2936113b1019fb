/-
  Texts merged into one: Row, IsStrs, Split, Data, SeqOwn.
-/
import Derived.Test.YtmffejnigppbpaaGreatDoorDXMA69
import Derived.Test.YtmffejnigppbpaaGreatDoorDXMA59
import Derived.Test.YtmffejnigppbpaaGreatDoorDXShelf
import Derived.Lib.SplitLaws
import Derived.Lib.CountLaws
import Derived.RangeFuncWrites
import Derived.RangeFuncLeaves
set_option linter.unusedVariables false
set_option linter.unusedSimpArgs false
namespace Go.Proofs.YtmffejnigppbpaaGreatDoor
open Go.RowKit
def afJ(k:Nat)(w:World)(v:Value)(n:Nat)(cs:List Value):Prop:=
 cs.length=n*k∧(∀u∈cs,u.oneCell'=true) ∧
 ((n=0∧(v=.slice none 0 0∨∃a c,v=.slice (some a) 0 c))∨∃b off cap,v=.slice (some ⟨b,off,none⟩) n cap∧b<w.heap.size∧0<n∧∀j (h:j<cs.length),w.cell? ⟨b,off+j,none⟩=some cs[j])
theorem afJ.grow{k:Nat}{w w':World}{v:Value}{n:Nat}{cs:List Value}(h:afJ k w v n cs)(g:G w w'):afJ k w' v n cs:=by
 obtain⟨h1,h1c,h2⟩:=h
 refine⟨h1,h1c,?_⟩
 rcases h2 with h2|⟨b,off,cap,e,hb,h0,hc⟩
 ·exact .inl h2
 ·exact .inr ⟨b,off,cap,e,Nat.lt_of_lt_of_le hb g.size,h0,fun j hj=>by rw[g.cell hb];exact hc j hj⟩
theorem afJ.len{k:Nat}{w:World}{v:Value}{n:Nat}{cs:List Value}(h:afJ k w v n cs):∃a c,v=.slice a n c:=by
 rcases h.2.2 with⟨rfl,e|⟨a,c,e⟩⟩|⟨b,off,cap,e,_⟩
 ·exact⟨_,_,e⟩
 ·exact⟨_,_,e⟩
 ·exact⟨_,_,e⟩
end Go.Proofs.YtmffejnigppbpaaGreatDoor

namespace Go.Proofs.YtmffejnigppbpaaGreatDoor
open Go.RowKit
def ap0:Value→Prop
 |.slice _ n c=>n≤c
 |_=>True
def Ux(w:World)(v:Value)(ls:List (List UInt8)):Prop:=afJ 1 w v ls.length (ls.map fun l=>.string (S l))∧ap0 v
theorem Ux.grow{w w':World}{v:Value}{ls:List (List UInt8)}(h:Ux w v ls)(g:G w w'):Ux w' v ls:=⟨afJ.grow h.1 g,h.2⟩
theorem Ux.len{w:World}{v:Value}{ls:List (List UInt8)}(h:Ux w v ls):∃a c,v=.slice a ls.length c∧ls.length≤c:=by
 obtain⟨a,c,e⟩:=afJ.len h.1
 exact⟨a,c,e,by have:=h.2;rw[e]at this;exact this⟩
theorem Ux.at_{w:World}{v:Value}{ls:List (List UInt8)}(h:Ux w v ls)(h0:ls≠[]):∃b off cap,v=.slice (some ⟨b,off,none⟩) ls.length cap∧ls.length≤cap∧b<w.heap.size∧∀(i:Nat) (l:List UInt8),ls[i]?=some l→w.cell? ⟨b,off+i,none⟩=some (.string (S l)):=by
 obtain⟨⟨h1,h2,h3⟩,hk⟩:=h
 rcases h3 with⟨h3,_⟩|⟨b,off,cap,e,hb,hn,hc⟩
 ·exact absurd (List.eq_nil_of_length_eq_zero h3) h0
 ·refine⟨b,off,cap,e,by rw[e]at hk;exact hk,hb,fun i l hl=>?_⟩
  have hi:i<ls.length:=by
   rcases Nat.lt_or_ge i ls.length with h|h
   ·exact h
   ·rw[List.getElem?_eq_none h]at hl;cases hl
  rw[hc i (by simpa using hi)]
  rw[List.getElem?_eq_getElem hi]at hl
  injection hl with hl
  simp[hl]
end Go.Proofs.YtmffejnigppbpaaGreatDoor

namespace Go.Proofs.YtmffejnigppbpaaGreatDoor
open Go.RowKit
def Uu(sep:List UInt8)(p:List UInt8):List (List UInt8)→List UInt8
 |[]=>p
 |q::ps=>p++(sep++Uu sep q ps)
theorem ak6(c:UInt8)(t p r:List UInt8)(h:c∉p):Lib.index (p++((c::t)++r)) (c::t)=p.length:=by
 refine Lib.index_hit ?_ (by simp;try omega) ?_
 ·intro j hj
  unfold Lib.occAt
  rw[List.drop_append_of_le_length (by omega),List.drop_eq_getElem_cons hj,List.cons_append]
  have h13:(c==p[j])=false:=beq_eq_false_iff_ne.2 (fun e=>h (e▸List.getElem_mem hj))
  simp[List.isPrefixOf,h13]
 ·unfold Lib.occAt
  rw[List.drop_left]
  exact List.isPrefixOf_iff_prefix.2 (List.prefix_append _ _)
theorem aoX(c:UInt8)(t p:List UInt8)(h:c∉p):Lib.index p (c::t) = -1:=by
 refine Lib.index_past (i:=p.length) (by simp) ?_ (by simp)
 intro j hj
 unfold Lib.occAt
 rw[List.drop_eq_getElem_cons hj]
 have h13:(c==p[j])=false:=beq_eq_false_iff_ne.2 (fun e=>h (e▸List.getElem_mem hj))
 simp[List.isPrefixOf,h13]
theorem aqx(c:UInt8)(t:List UInt8)(ps:List (List UInt8)):∀p:List UInt8,c∉p→(∀q∈ps,c∉q)→Lib.count (Uu (c::t) p ps) (c::t)=ps.length:=by
 induction ps with
 |nil=>intro p hp _;exact Lib.count_miss (aoX c t p hp)
 |cons q ps ih=>
  intro p hp hq
  show Lib.count (p++((c::t)++Uu (c::t) q ps)) _=_
  rw[Lib.count_hit (by simp) (ak6 c t p _ hp)]
  have:(p++((c::t)++Uu (c::t) q ps)).drop (p.length+(c::t).length)=Uu (c::t) q ps:=by
   rw[←List.append_assoc,←List.length_append,List.drop_left]
  rw[this,ih q (hq q List.mem_cons_self) fun q' hq'=>hq q' (List.mem_cons_of_mem _ hq')]
  simp;omega
theorem aqy(c:UInt8)(t:List UInt8)(ps:List (List UInt8)):∀p:List UInt8,c∉p→(∀q∈ps,c∉q)→Lib.splitK (c::t) 0 ps.length (Uu (c::t) p ps)=p::ps:=by
 induction ps with
 |nil=>intro p hp _;rfl
 |cons q ps ih=>
  intro p hp hq
  have hi:=ak6 c t p (Uu (c::t) q ps) hp
  have e:Lib.splitK (c::t) 0 (ps.length+1) (p++((c::t)++Uu (c::t) q ps))=p::Lib.splitK (c::t) 0 ps.length (Uu (c::t) q ps):=by
   rw[Lib.splitK,hi,if_neg (by simp)]
   have e1:(p++((c::t)++Uu (c::t) q ps)).take ((p.length:Int).toNat+0)=p:=by simp
   have e2:(p++((c::t)++Uu (c::t) q ps)).drop ((p.length:Int).toNat+(c::t).length)=Uu (c::t) q ps:=by
    rw[Int.toNat_natCast,←List.append_assoc,←List.length_append,List.drop_left]
   rw[e1,e2]
  show Lib.splitK (c::t) 0 (ps.length+1) (p++((c::t)++Uu (c::t) q ps))=_
  rw[e,ih q (hq q List.mem_cons_self) fun q' hq'=>hq q' (List.mem_cons_of_mem _ hq')]
theorem aiO(w:World)(t:TypeId)(ls:List (List UInt8))(h:ls≠[]):Ux (w.alloc (.cells ((ls.map S).map Value.string).toArray t)) (.slice (some ⟨w.heap.size,0,none⟩) ls.length ls.length) ls:=by
 refine⟨⟨by simp,?_,.inr ⟨w.heap.size,0,ls.length,rfl,by simp,?_,fun j hj=>?_⟩⟩,Nat.le_refl _⟩
 ·intro u hu
  obtain⟨l,_,rfl⟩:=List.mem_map.1 hu
  rfl
 ·cases ls with
  |nil=>exact absurd rfl h
  |cons _ _=>simp
 ·rw[Nat.zero_add,World.cell?_alloc_new]
  simp at hj
  simp[List.getElem?_eq_getElem hj]
theorem arW(l:List ByteArray)(xs:List (List UInt8))(h:l.map (·.data.toList)=xs):l=xs.map S:=by
 subst h
 rw[List.map_map]
 conv=>lhs;rw[←List.map_id l]
 exact List.map_congr_left fun s _=>rfl
theorem arX(c:UInt8)(t p:List UInt8)(ps:List (List UInt8))(m:Int)(w:World)(hp:c∉p)(hq:∀q∈ps,c∉q)(hl:(Uu (c::t) p ps).length≤1000000)(hm:w.cell? ⟨5,0,none⟩=some (.int .i64 m)) :
  Uz 47 #[.string (S (Uu (c::t) p ps)),.string (S (c::t))] w (fun v w'=>Ux w' v (p::ps)):=by
 have hcount:Lib.countB (S (Uu (c::t) p ps)) (S (c::t))=ps.length:=aqx c t ps p hp hq
 have hsplit:Lib.splitB (S (c::t)) 0 ps.length (S (Uu (c::t) p ps))=(p::ps).map S:=by
  refine arW _ _ ?_
  rw[Lib.splitB_data]
  exact aqy c t ps p hp hq
 refine(Tryz.strings_Split (S (Uu (c::t) p ps)) (S (c::t)) m w (by simp;omega) hm (by simp)).mono ?_
 rintro e w' ⟨rfl,rfl⟩
 rw[hcount,hsplit]
 exact⟨_,rfl,aiO w _ (p::ps) (by simp),(G.refl _).alloc _⟩
end Go.Proofs.YtmffejnigppbpaaGreatDoor

namespace Go.Proofs.YtmffejnigppbpaaGreatDoor
open Go.RowKit
structure St where
 y:Int
 m:Int
 d:Int
 h:Int
 n:Int
 s:Int
 zd:Bool
 zn:Int
def St.cells(t:St):Array Value:=#[.int .i64 t.y,.int .i64 t.m,.int .i64 t.d,.int .i64 t.h,.int .i64 t.n,.int .i64 t.s,.bool t.zd,.int .i64 t.zn]
def St.v(t:St):Value:=.agg #[.int .i64 t.y,.int .i64 t.m,.int .i64 t.d,.int .i64 t.h,.int .i64 t.n,.int .i64 t.s,.bool t.zd,.int .i64 t.zn]
def St0:St:=⟨0,0,0,0,0,0,false,0⟩
structure Vl where
 ty:Int
 tx:List UInt8
 ps:List (List (List UInt8))
 st:St
 n:Int
def Vl.v(x:Vl)(pv:Value):Value:=.agg #[.int .i64 x.ty,.string (S x.tx),pv,.int .i64 x.st.y,.int .i64 x.st.m,.int .i64 x.st.d,.int .i64 x.st.h,.int .i64 x.st.n,.int .i64 x.st.s,.bool x.st.zd,.int .i64 x.st.zn,.int .i64 x.n]
end Go.Proofs.YtmffejnigppbpaaGreatDoor

namespace Go.Proofs.YtmffejnigppbpaaGreatDoor
open Go.RowKit
variable {F:Fence} {n:Nat} {P:Program}
def amN{β:Type}(B:Nat)(J:β→World→Prop):Prop:=∀s W v,J s W→J s (W.setCell ⟨B,0,none⟩ v)
def amO(B:Nat){α:Type}(F:Fence)(n:Nat)(P:Program)(g:Nat)(lb:Array Value)(encs:α→Array Value)(Kp:World→World→Prop)(xs:List α)(w:World):Prop:=
 ∀(l:Nat) (J Jx:List α→World→Prop) (W:World),Below w.heap.size w W→AbidesFrom W.heap.size J→AbidesFrom W.heap.size Jx→amN B J →
  (∀pre x W1,J pre W1→pre++[x] <+: xs→YieldAt F (n-1) P l (encs x) W1 fun e W'=>
   (e=.returned (.bool true)∧J (pre++[x]) W'∧Kp W1 W')∨(e=.returned (.bool false)∧Jx (pre++[x]) W')) →
  J [] W →
  CallsIn F n P g (#[.func (.yield l) #[] #[]]++lb) W fun e W'=>(∃v,e=.returned v)∧(J xs W'∨∃pre,pre <+: xs∧Jx pre W')
theorem adT{B:Nat}{α:Type}{g:Operand}{ps:Array Tmp}{assign body:Code}{Q:Exit→Act→World→Prop}{a:Act}{w:World}(hB:B<w.heap.size)(hro:F.round=none)(h1:1≤n){gf:Nat}{lb:Array Value}(hg:a.eval g=.func (.func gf) #[] lb)(hFg:F.fn gf)(eg:∀args w,(callFunc gf args).run P w=.ok (.enter gf args) w){encs:α→Array Value}{Kp:World→World→Prop}{xs:List α}{w0:World}(hseq:amO B F (n-1) P gf lb encs Kp xs w0)(hKt:∀ {X Y Z:World},Kp X Y→Kp Y Z→Kp X Z)(hKb:∀(W:World) (l:Nat) (o o':Obj),w.heap.size≤l→W.heap[l]?=some o→o.isCells=false→o.isWalk=false→Kp W (W.putObj l o'))(hb0:Below w0.heap.size w0 w)(hps:∀x,(encs x).size=ps.size)(I:List α→World→Prop)(Ix:Code→List α→World→Prop)(hI:OwnFrom w.heap.size I)(hIB:amN B I)(hIx:∀c,OwnFrom w.heap.size (Ix c))(h0:I [] w)(a₁:α→Act)(hassign:∀(l:Nat) (x:α) (W:World) (K:Act→World→Prop),K (a₁ x) W →
   assign.wpIn (F.inRound l) (n-1-1) P (Exit.then K (fun _ _ _=>False)) { tmps:=(ps.zip (encs x)).foldl (fun t (p,v)=>t.setIfInBounds p v) a.tmps,defers:=[] } W)(hbody:∀(l:Nat) (pre:List α) (x:α) (W:World),I pre W→pre++[x] <+: xs→body.wpIn (F.inRound l) (n-1-1) P (ownPostG w.heap.size Kp I Ix (pre++[x]) W) (a₁ x) W)(hdone:∀(D:Nat) (W:World),w.heap.size≤D→I xs W→W.heap[D]?=some (.deferred (some []))→Q .normal { a with defers:={ target:=.collected D,args:=#[] }::a.defers } W)(hstop:∀(D:Nat) (c:Code) (pre:List α) (W:World),w.heap.size≤D→pre <+: xs→Ix c pre W→W.heap[D]?=some (.deferred (some []))→c.wpIn F n P Q { a with defers:={ target:=.collected D,args:=#[] }::a.defers } W) :
  (Code.rangeFunc g ps assign body).wpIn F n P Q a w:=by
 refine wpIn_rangeFunc ?_
 intro fn hfn
 rw[hro]
 obtain⟨rec,hrec⟩:∃rec:LoopState→Option Code→Loop,rec=fun st pe=>{ state:=st,pending:=pe,fn,tmps:=a.tmps,params:=ps,assign,body,defers:=w.heap.size }:=⟨_,rfl⟩
 obtain⟨W1,hW1⟩:∃W1,(w.alloc (.deferred (some []))).alloc (.loop (rec .ready none))=W1:=⟨_,rfl⟩
 have hL1:W1.heap[w.heap.size+1]?=some (.loop (rec .ready none)):=by
  rw[←hW1];have:=World.alloc_heap_new (w.alloc (.deferred (some []))) (.loop (rec .ready none));rwa [World.size_alloc]at this
 have hK1:W1.heap[w.heap.size]?=some (.deferred (some [])):=by
  rw[←hW1];exact(Below.heap_alloc _ _ _ (by simp)).trans (World.alloc_heap_new w _)
 have hI1:I [] W1:=by rw[←hW1];exact hI.alloc _ (hI.alloc _ h0)
 have hb1:Below w0.heap.size w0 W1:=by
  rw[←hW1];exact hb0.trans ((((Below.refl _ w).alloc (Nat.le_refl _) _).alloc (by simp) _).mono hb0.size)
 have hs1:W1.heap.size=w.heap.size+2:=by rw[←hW1];simp
 refine⟨w.heap.size+1,[{ target:=.collected w.heap.size,args:=#[] }],W1,{ target:=.fn (.func gf) lb,args:=#[.func (.yield (w.heap.size+1)) #[] #[]] },W1,gf,
  #[.func (.yield (w.heap.size+1)) #[] #[]]++lb,W1,?_,?_,?_,?_,fun _=>h1,?_⟩
 ·rw[←hW1,hrec];exact run_enterLoop_outer _ _ _ _ _
 ·simp only[resolve,hg]
  simp[go_sem]
 ·intro f' hf';simp[Target.leads]at hf';subst hf';exact hFg
 ·simp[invoke,go_sem,eg]
 have walkRow:∀ {X:World} {row:Option Nat},(∀r,row=some r→W1.heap.size≤r∧∃o:Obj,X.heap[r]?=some o∧o.isWalk=true)→(∀r,row=some r→w.heap.size≤r∧∃o:Obj,X.heap[r]?=some o∧o.isCells=false):=
  fun hr r e=>by obtain⟨hb,o,ho,hw⟩:=hr r e;exact⟨by omega,o,ho,Obj.not_cells_of_walk hw⟩
 have stay:∀ {X Y:World} {row:Option Nat} {k:Nat} {o:Obj},X.grownBy Y row→(∀r,row=some r→w.heap.size≤r∧∃o:Obj,X.heap[r]?=some o∧o.isWalk=true)→X.heap[k]?=some o→o.isWalk=false→Y.heap[k]?=some o:=
  fun hg' hr hk ho=>(grownBy_keeps hg' (fun r e=>(hr r e).2) hk ho).trans hk
 have atB:∀ {X:World} {k:Nat} {o:Obj} (v:Value),w.heap.size≤k→X.heap[k]?=some o→(X.setCell ⟨B,0,none⟩ v).heap[k]?=some o:=
  fun v hk ho=>by rw[Below.heap_setCell _ _ _ _ (by simp;omega)];exact ho
 refine(hseq (w.heap.size+1)
  (fun pre W=>I pre W∧W.heap[w.heap.size+1]?=some (.loop (rec .ready none))∧W.heap[w.heap.size]?=some (.deferred (some [])))
  (fun pre W=>∃c,Ix c pre W∧W.heap[w.heap.size+1]?=some (.loop (rec .done (some c)))∧W.heap[w.heap.size]?=some (.deferred (some [])))
  W1 hb1
  (fun s X Y row hs hg' hr=>⟨hI s X Y row hs.1 hg' (walkRow hr),stay hg' (fun r e=>⟨by have:=(hr r e).1;omega,(hr r e).2⟩) hs.2.1 rfl,stay hg' (fun r e=>⟨by have:=(hr r e).1;omega,(hr r e).2⟩) hs.2.2 rfl⟩)
  (fun s X Y row hs hg' hr=>by
   obtain⟨c,hc,hl,hk⟩:=hs
   exact⟨c,hIx c s X Y row hc hg' (walkRow hr),stay hg' (fun r e=>⟨by have:=(hr r e).1;omega,(hr r e).2⟩) hl rfl,stay hg' (fun r e=>⟨by have:=(hr r e).1;omega,(hr r e).2⟩) hk rfl⟩)
  (fun s X v hs=>⟨hIB s X v hs.1,atB v (by omega) hs.2.1,atB v (Nat.le_refl _) hs.2.2⟩)
  ?_ ⟨hI1,hL1,hK1⟩).mono ?_
 ·rintro pre x W ⟨hi,hl,hk⟩ hlen
  have hlt:w.heap.size+1<W.heap.size:=(Array.getElem?_eq_some_iff.1 hl).1
  have hy:=run_yield (P:=P) (args:=encs x) hl (by rw[hrec];exact hps x)
  rw[hrec]at hy
  refine⟨fn,_,assign,body,hy,roundIn_of_wpIn hfn (hassign _ x W _ ⟨_,run_beginRound hl (by rw[hrec]),?_⟩)⟩
  obtain⟨Wb,hWb⟩:∃Wb,W.putObj (w.heap.size+1) (.loop { rec .ready none with state:=.busy })=Wb:=⟨_,rfl⟩
  have hl2:Wb.heap[w.heap.size+1]?=some (.loop { rec .ready none with state:=.busy }):=by rw[←hWb];exact World.putObj_heap_same hlt
  have hk2:Wb.heap[w.heap.size]?=some (.deferred (some [])):=by rw[←hWb];exact(World.putObj_heap_other (by omega)).trans hk
  have hw2:Kp W Wb:=by rw[←hWb];exact hKb _ _ _ _ (by omega) hl rfl rfl
  have hi2:I pre Wb:=by rw[←hWb];exact hI.putObj _ hi (by omega) hl rfl
  rw[hWb]
  refine wpIn_mono (hbody _ pre x _ hi2 hlen) ?_
  have fin:∀(jump:Option Code) (W3:World),KeepsFrom w.heap.size Wb W3 →
    (Instr.endRound (w.heap.size+1) jump).run P W3=.ok (.bool jump.isNone) (W3.putObj (w.heap.size+1) (.loop (rec (if jump.isNone then .ready else .done) jump))) ∧
    W3.heap[w.heap.size+1]?=some (.loop { rec .ready none with state:=.busy }) ∧
    (W3.putObj (w.heap.size+1) (.loop (rec (if jump.isNone then .ready else .done) jump))).heap[w.heap.size+1]?=some (.loop (rec (if jump.isNone then .ready else .done) jump)) ∧
    (W3.putObj (w.heap.size+1) (.loop (rec (if jump.isNone then .ready else .done) jump))).heap[w.heap.size]?=some (.deferred (some [])):=fun jump W3 hk3=>by
   have hl3:=hk3.same _ _ (by omega) hl2 rfl
   have:=run_endRound (P:=P) jump hl3
   rw[hrec]at this⊢
   exact⟨this,by rw[hrec]at hl3;exact hl3,World.putObj_heap_same (Array.getElem?_eq_some_iff.1 hl3).1,(World.putObj_heap_other (by omega)).trans (hk3.same _ _ (Nat.le_refl _) hk2 rfl)⟩
  rintro e a3 W3 hp
  cases e with
  |normal=>
   obtain⟨hk3,hkp3,hi3⟩:=hp
   obtain⟨hr,hl3,hl4,hk4⟩:=fin none W3 hk3
   exact⟨_,_,hr,.inl ⟨rfl,⟨hI.putObj _ hi3 (by omega) hl3 rfl,hl4,hk4⟩,hKt (hKt hw2 hkp3) (hKb _ _ _ _ (by omega) hl3 rfl rfl)⟩⟩
  |ret=>
   obtain⟨hr,hl3,hl4,hk4⟩:=fin (some .ret) W3 hp.1
   exact⟨_,_,hr,.inr ⟨rfl,.ret,(hIx _).putObj _ hp.2 (by omega) hl3 rfl,hl4,hk4⟩⟩
  |exit id=>
   obtain⟨hr,hl3,hl4,hk4⟩:=fin (some (.exit id)) W3 hp.1
   exact⟨_,_,hr,.inr ⟨rfl,.exit id,(hIx _).putObj _ hp.2 (by omega) hl3 rfl,hl4,hk4⟩⟩
  |goto t=>
   obtain⟨hr,hl3,hl4,hk4⟩:=fin (some (.goto t)) W3 hp.1
   exact⟨_,_,hr,.inr ⟨rfl,.goto t,(hIx _).putObj _ hp.2 (by omega) hl3 rfl,hl4,hk4⟩⟩
  |panic ch=>exact hp.elim
  |outgrown=>exact hp.elim
 ·rintro e W2 ⟨⟨v,rfl⟩,(⟨hi,hl,hk⟩|⟨pre,hSp,c,hi,hl,hk⟩)⟩
  ·exact⟨none,_,by have:=run_endLoop (P:=P) hl (by rw[hrec];simp);rw[hrec]at this;exact this,hdone _ _ (Nat.le_refl _) (hI.putObj _ hi (by omega) hl rfl) ((World.putObj_heap_other (by omega)).trans hk)⟩
  ·exact⟨some c,_,by have:=run_endLoop (P:=P) hl (by rw[hrec];simp);rw[hrec]at this;exact this,hstop _ c pre _ (Nat.le_refl _) hSp ((hIx c).putObj _ hi (by omega) hl rfl) ((World.putObj_heap_other (by omega)).trans hk)⟩
end Go.Proofs.YtmffejnigppbpaaGreatDoor
