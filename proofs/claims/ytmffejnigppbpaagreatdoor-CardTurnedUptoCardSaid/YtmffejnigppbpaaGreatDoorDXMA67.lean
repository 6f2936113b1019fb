/-
  Texts merged into one: CardLemmas, IntsEq, CardSmall, CountMap, RulesNames, SameTwo, SameItem, CardCount.
-/
import Derived.Test.YtmffejnigppbpaaGreatDoorDXMA72
import Derived.Test.YtmffejnigppbpaaGreatDoorDXMUtf
import Derived.Test.YtmffejnigppbpaaGreatDoorDXMA63
import Derived.Test.YtmffejnigppbpaaGreatDoorDXMA65
import Derived.Test.YtmffejnigppbpaaGreatDoorDXMA71
import Derived.Test.YtmffejnigppbpaaGreatDoorDXMA77
import Derived.Test.YtmffejnigppbpaaGreatDoorDXMA52
import Derived.Test.YtmffejnigppbpaaGreatDoorDXValRight
import Derived.Test.YtmffejnigppbpaaGreatDoorDXMA75
import Derived.Test.YtmffejnigppbpaaGreatDoorDXMA70
set_option linter.unusedVariables false
set_option linter.unusedSimpArgs false
namespace Go.Proofs.YtmffejnigppbpaaGreatDoor
open Go.RowKit
theorem adn{v:Int}{xs:List It}:acN v xs=true↔(v=3∨v=4)∧xs.length≤60∧(∀x∈xs,adY v x=true)∧afQ v (xs.map It.n)=true∧aki v (xs.map It.n)=true:=by
 unfold acN
 simp only[Bool.and_eq_true,decide_eq_true_eq,List.all_eq_true,and_assoc]
def anF(cf:Bool)(x:It):Bool:=GH x.n&&(x.g.isEmpty||GH x.g)&&decide (x.ps.length≤20)&&x.ps.all (pmR cf)
theorem akh{cf:Bool}{x:It}{t:List UInt8}:agE cf (lnX x t)=(anF cf x&&Af t false):=rfl
theorem anG{cf:Bool}{x:It}{t:List UInt8}:acL cf (lnX x t)=none↔anF cf x=true∧Af t false=true:=by
 rw[ap8,akh,Bool.and_eq_true]
theorem anH{v:Int}{x:It}:aee v x=true↔anF (v==4) x=true∧agp x.n=false∧ajs x.ps=true∧typeOf (acM v x.n).1 x.ps=x.v.ty:=by
 unfold aee
 simp only[Bool.and_eq_true,Option.isNone_iff_eq_none,anG,beq_iff_eq,Bool.not_eq_true',and_assoc]
 exact⟨fun ⟨a,_,b⟩=>⟨a,b⟩,fun ⟨a,b⟩=>⟨a,ah6 false,b⟩⟩
theorem ag2{v:Int}{x:It}(h:anF (v==4) x=true)(ho:x.v.ok=true):acL (v==4) (lnX x x.v.text)=none∧aey v x=aeC (v==4) (lnX x x.v.text):=by
 have e:=anG.2 ⟨h,(aka x.v ho).2⟩
 refine⟨e,?_⟩
 unfold aey
 rw[if_pos e]
theorem ajq{v:Int}{x:It}:adY v x=true↔anF (v==4) x=true∧agp x.n=false∧ajs x.ps=true∧typeOf (acM v x.n).1 x.ps=x.v.ty∧x.v.ok=true∧¬(x.v.ty=3∧0<(acM v x.n).2.2.2∧(x.v.ps.length:Int)≠(acM v x.n).2.2.2)∧(aeC (v==4) (lnX x x.v.text)).length≤1500:=by
 unfold adY akL
 simp only[Bool.and_eq_true,anH,Bool.not_eq_true',decide_eq_false_iff_not,decide_eq_true_eq,and_assoc]
 constructor
 ·rintro⟨a,b,c,d,e,f,g⟩
  rw[(ag2 a e).2]at g
  exact⟨a,b,c,d,e,f,g⟩
 ·rintro⟨a,b,c,d,e,f,g⟩
  rw[(ag2 a e).2]
  exact⟨a,b,c,d,e,f,g⟩
end Go.Proofs.YtmffejnigppbpaaGreatDoor

namespace Go.Proofs.YtmffejnigppbpaaGreatDoor
open Go.RowKit
theorem adh.len{w:World}{v:Value}{xs:List Int}(h:adh w v xs):∃a cap,v=.slice a xs.length cap:=by
 rcases h with⟨h1,h2⟩|⟨b,cap,h1,_⟩
 ·subst h2;exact⟨none,0,h1⟩
 ·exact⟨_,_,h1⟩
end Go.Proofs.YtmffejnigppbpaaGreatDoor

set_option maxHeartbeats 2000000
set_option maxRecDepth 100000
namespace Go.Proofs.YtmffejnigppbpaaGreatDoor
open Go.RowKit
theorem uU{w w':World}{b:Nat}{o:Obj}(h:w.heap[b]?=some o)(g:G w w'):w'.heap[b]?=some o:=(g.below.block b (Array.getElem?_eq_some_iff.1 h).1).trans h
theorem UM{w:World}{b:Nat}{x:It}{pv lv:Value}{t:TypeId}(h:w.heap[b]?=some (.cells (x.cells pv lv).toArray t (0,0))):w.cell? ⟨b,0,none⟩=some (.string (S x.g))∧w.cell? ⟨b,1,none⟩=some (.string (S x.n))∧w.cell? ⟨b,2,none⟩=some pv∧w.cell? ⟨b,3,none⟩=some (.int .i64 x.v.ty)∧w.cell? ⟨b,4,none⟩=some (.string (S x.v.tx))∧w.cell? ⟨b,5,none⟩=some lv∧w.cell? ⟨b,6,none⟩=some (.int .i64 x.v.st.y)∧w.cell? ⟨b,7,none⟩=some (.int .i64 x.v.st.m)∧w.cell? ⟨b,8,none⟩=some (.int .i64 x.v.st.d)∧w.cell? ⟨b,9,none⟩=some (.int .i64 x.v.st.h)∧w.cell? ⟨b,10,none⟩=some (.int .i64 x.v.st.n)∧w.cell? ⟨b,11,none⟩=some (.int .i64 x.v.st.s)∧w.cell? ⟨b,12,none⟩=some (.bool x.v.st.zd)∧w.cell? ⟨b,13,none⟩=some (.int .i64 x.v.st.zn)∧w.cell? ⟨b,14,none⟩=some (.int .i64 x.v.n):=by
 refine⟨?_,?_,?_,?_,?_,?_,?_,?_,?_,?_,?_,?_,?_,?_,?_⟩<;>(rw[cell_of_row w b _ _ _ _ h];rfl)
theorem apK(w:World)(o p:Obj):((w.alloc o).alloc p).heap[w.heap.size+1]?=some p:=by have:=heap_alloc_new (w.alloc o) p;simpa using this
theorem axU{W:World}{X:Nat}{a0 a1 a2 a3 b0 b1 b2 b3:Value}{T:TypeId}(h:W.heap[X]?=some (.cells #[a0,a1,a2,a3] T (0,0))) :
  ((((W.setCell ⟨X,0,none⟩ b0).setCell ⟨X,1,none⟩ b1).setCell ⟨X,2,none⟩ b2).setCell ⟨X,3,none⟩ b3).heap[X]?=some (.cells #[b0,b1,b2,b3] T (0,0)):=by
 simp[World.setCell,Array.getElem?_modify,h]
theorem aeb{w W:World}{X i:Nat}{v:Value}(h:G w W)(hX:w.heap.size≤X):G w (W.setCell ⟨X,i,none⟩ v):=Below.setCell h (by simpa using hX) _
theorem ahy{w:World}{b:Nat}{a0 a1 a2 a3:Value}{t:TypeId}(h:w.heap[b]?=some (.cells #[a0,a1,a2,a3] t (0,0))):w.cell? ⟨b,0,none⟩=some a0∧w.cell? ⟨b,1,none⟩=some a1∧w.cell? ⟨b,2,none⟩=some a2∧w.cell? ⟨b,3,none⟩=some a3:=by
 refine⟨?_,?_,?_,?_⟩<;>(rw[cell_of_row w b _ _ _ _ h];rfl)
theorem adu.grow{cf:Bool}{p:Ln}{v:Value}{w w':World}(h:adu cf p v w)(g:G w w'):adu cf p v w':=by
 unfold adu at h⊢
 cases he:acL cf p with
 |none=>rw[he]at h;exact h
 |some o=>
  rw[he]at h
  obtain⟨e,h1,h2,h3⟩:=h
  exact⟨e,h1,h2.grow g,h3⟩
theorem af6(ver:Int)(w:World):Um 73 #[.int .i64 ver] w (.bool (ver==4)):=by
 go_enter Tryz.func73,Tryz.ntmps73
 go_wp2_with fail
 go_ret
 exact⟨rfl,G.refl _⟩
theorem aq6(n:List UInt8)(w:World)(h:n.length≤1000000):Um 111 #[.string (S n)] w (.bool (agp n)):=by
 obtain⟨u,hu⟩:∃u,u=Eg n:=⟨_,rfl⟩
 have hf:agp n=(u==aq5||u==aya||u==alV):=by rw[hu];rfl
 have up:=afa n w (by omega)
 rw[←hu]at up
 have UP:=hid up
 rw[hf]
 clear hf hu up
 unfold aq5 aya alV
 go_enter Tryz.func111,Tryz.ntmps111
 cases h1:u==[66,69,71,73,78]with
 |true=>
  go_wp2_with fail
  refine UP.out.use ?_
  intro w1 g1
  go_wp2_with fail
  go_ret
  exact⟨zF (by simp[h1]),g1⟩
 |false=>
  cases h2:u==[69,78,68]with
  |true=>
   go_wp2_with fail
   refine UP.out.use ?_
   intro w1 g1
   go_wp2_with fail
   go_ret
   exact⟨zF (by simp[h1,h2]),g1⟩
  |false=>
   go_wp2_with fail
   refine UP.out.use ?_
   intro w1 g1
   go_wp2_with fail
   go_ret
   exact⟨zF (by simp[h1,h2]),g1⟩
theorem alY(x:It)(pv lv:Value)(ver:Int)(w:World)(h:adE w x pv lv)(hs:Sml x)(hM:aer w)(hE:UO w)(ho:x.v.ok=true):Um 71 #[x.val pv lv,.int .i64 ver] w (.tuple #[.agg #[.string (S x.g),.string (S x.n),pv,.string (S x.v.text)],.nilIface]):=by
 have VW:∀W,G w W→Um 118 #[x.v.v lv] W (.tuple #[.string (S x.v.text),.nilIface]):=fun W g=>by
  refine Calls.mono (ar9 x.v lv W (h.l.grow g) hs.bounds.2.2.2.1 hs.bounds.2.2.2.2.1 h.y (hM.grow g) (hE.grow g)) ?_
  rintro e w' ⟨r,rfl,hr,hg⟩
  unfold adz at hr
  rw[if_pos ho]at hr
  subst hr
  exact⟨rfl,hg⟩
 unfold Vl.v at VW
 have HVW:=hid VW
 obtain⟨pa,pc,rfl⟩:=h.pv
 obtain⟨la,lc,rfl⟩:=h.lv
 clear VW h hs hM hE ho
 go_enter Tryz.func71,Tryz.ntmps71
 go_wp2_with fail
 generalize hw1:(w.alloc _).alloc _=w1
 have G1:=hid (show G w w1 by rw[←hw1];exact((G.refl w).alloc _).alloc _)
 have HB:=hid (show w1.heap[w.heap.size]?=some (.cells (x.cells (.slice pa x.ps.length pc) (.slice la x.v.ps.length lc)).toArray 38 (0,0)) by rw[←hw1,Lib.alloc_old _ _ _ (by simp)];exact heap_alloc_new w _)
 have HP:=hid (show w1.heap[w.heap.size+1]?=some (.cells #[.string ⟨#[]⟩,.string ⟨#[]⟩,.slice none 0 0,.string ⟨#[]⟩] 109 (0,0)) by rw[←hw1];exact apK _ _ _)
 clear hw1
 obtain⟨q0,q1,q2,q3,q4,q5,q6,q7,q8,q9,q10,q11,q12,q13,q14⟩:=UM HB.out
 go_wp2_with fail
 refine(HVW.out _ G1.out).use ?_
 intro w2 g2
 have G2:=hid (G1.out.trans g2)
 have HP2:=hid (uU HP.out g2)
 have HB2:=hid (uU HB.out g2)
 clear q0 q1 q2 q3 q4 q5 q6 q7 q8 q9 q10 q11 q12 q13 q14 g2
 obtain⟨q0,q1,q2,_⟩:=UM HB2.out
 obtain⟨c0,c1,c2,c3⟩:=ahy HP2.out
 have f0:=Lib.frozen_of_heap HP2.out 0
 have f1:=Lib.frozen_of_heap HP2.out 1
 have f2:=Lib.frozen_of_heap HP2.out 2
 have f3:=Lib.frozen_of_heap HP2.out 3
 go_wp2_with fail
 have hfin:=axU (b0:=.string (S x.g)) (b1:=.string (S x.n)) (b2:=.slice pa x.ps.length pc) (b3:=.string (S x.v.text)) HP2.out
 obtain⟨e0,e1,e2,e3⟩:=ahy hfin
 refine bodyPost_ret (v:=.tuple #[.agg #[.string (S x.g),.string (S x.n),.slice pa x.ps.length pc,.string (S x.v.text)],.nilIface]) ?_ rfl ⟨rfl,?_⟩
 ·simp only[results,Tryz.f71]
  go_simp
 ·exact aeb (aeb (aeb (aeb G2.out (by omega)) (by omega)) (by omega)) (by omega)
end Go.Proofs.YtmffejnigppbpaaGreatDoor

namespace Go.Proofs.YtmffejnigppbpaaGreatDoor
open Go.RowKit Go.MapKept
structure ahA(es:Array MapEntry)(c:Nat)(f:List UInt8→Int):Prop where
 st:Stamped es c
 en:∀e∈es.toList,∃k,e.key=.string (S k)∧e.val=.int .i64 (f k)
 al:∀k,f k≠0→∃e∈es.toList,e.key=.string (S k)
theorem auS{a b:List UInt8}(h:Value.string (S a)=.string (S b)):a=b:=by
 injection h with h
 exact axP.1 h
theorem awz(c:Nat):ahA #[] c (fun _=>0):=⟨stamped_empty c,by simp,fun k h=>absurd rfl h⟩
theorem ahA.isKey{es:Array MapEntry}{c:Nat}{f:List UInt8→Int}(h:ahA es c f):∀x∈es.toList,IsKey .string x.key:=fun e he=>by
 obtain⟨x,hx,_⟩:=h.en e he
 rw[hx];trivial
theorem ahA.find{es:Array MapEntry}{c:Nat}{f:List UInt8→Int}(h:ahA es c f)(k:List UInt8):(f k=0∧Instr.findNow .string (.string (S k)) es.toList 0=some none∧∀x∈es.toList,x.key≠.string (S k))∨∃i e,Instr.findNow .string (.string (S k)) es.toList 0=some (some (i,.int .i64 (f k)))∧es[i]?=some e∧e.key=.string (S k):=by
 rcases findNow_spec (d:=.string) (k:=.string (S k)) trivial es.toList 0 h.isKey with⟨h1,h2⟩|⟨j,e,h1,h2,h3⟩
 ·refine .inl ⟨?_,h1,h2⟩
  by_cases h0:f k=0
  ·exact h0
  ·obtain⟨e,he,hk⟩:=h.al k h0
   exact absurd hk (h2 e he)
 ·obtain⟨x,hx,hv⟩:=h.en e (List.mem_of_getElem? h2)
  have e1:x=k:=auS (hx.symm.trans h3)
  refine .inr ⟨j,e,?_,by simpa using h2,h3⟩
  rw[h1,hv,e1,Nat.zero_add]
section
variable {W:World} {b:Nat} {es:Array MapEntry} {c:Nat} {f:List UInt8→Int} {k:List UInt8}
theorem al5(hb:W.heap[b]?=some (.map es c))(h:ahA es c f)(k:List UInt8):(Instr.lookup 104 (.map (some b)) (.string (S k)) false).run Tryz.prog W=.ok (.int .i64 (f k)) W:=by
 have hc:∀e,(Instr.checkKey e 10000 9 (.string (S k))).run Tryz.prog W=.ok () W:=fun e=>MapKept.run_checkKey (d:=.string) (k:=.string (S k)) Tryz.underlying9 trivial e 9999
 have hz:(zeroValue 3).run Tryz.prog W=.ok (.int .i64 0) W:=by kernel_rfl
 rcases h.find k with⟨h1,h2,_⟩|⟨i,e,h2,_⟩
 ·simp[Instr.lookup,run_underlying Tryz.underlying104,MapKept.run_getObj_map hb,hc,MapKept.run_findKey Tryz.underlying9 h2,Result.andThen,h1,hz]
 ·simp[Instr.lookup,run_underlying Tryz.underlying104,MapKept.run_getObj_map hb,hc,MapKept.run_findKey Tryz.underlying9 h2,Result.andThen]
theorem awC(hb:W.heap[b]?=some (.map es c))(h:ahA es c f)(k:List UInt8)(v:Int):∃es' c',(Instr.mapUpdate 104 (.map (some b)) (.string (S k)) (.int .i64 v)).run Tryz.prog W=.ok () { W with heap:=W.heap.setIfInBounds b (.map es' c') }∧ahA es' c' (fun x=>if x=k then v else f x):=by
 have hc:(Instr.checkKey false 10000 9 (.string (S k))).run Tryz.prog W=.ok () W:=MapKept.run_checkKey (d:=.string) (k:=.string (S k)) Tryz.underlying9 trivial false 9999
 rcases h.find k with⟨h1,h2,h3⟩|⟨i,e,h2,h3,h4⟩
 ·refine⟨es.push { key:=.string (S k),val:=.int .i64 v,born:=c },c+1,?_,?_,?_,?_⟩
  ·exact arF W _ _ _ _ Tryz.underlying104 Tryz.underlying9 b es c _ _ hb trivial h2
  ·exact stamped_push h.st h3
  ·intro e he
   simp only[Array.toList_push,List.mem_append,List.mem_singleton]at he
   rcases he with he|rfl
   ·obtain⟨x,hx,hv⟩:=h.en e he
    refine⟨x,hx,?_⟩
    have:x≠k:=fun q=>h3 e he (by rw[hx,q])
    rw[hv];simp only[if_neg this]
   ·exact⟨k,rfl,by simp⟩
  ·intro x hx
   by_cases e:x=k
   ·subst e;exact⟨{ key:=.string (S x),val:=.int .i64 v,born:=c },by simp,rfl⟩
   ·simp only[if_neg e]at hx
    obtain⟨y,hy,hk⟩:=h.al x hx
    exact⟨y,by simp[hy],hk⟩
 ·obtain⟨g,hg⟩:∃g:MapEntry→MapEntry,g=fun e=>{ e with key:=.string (S k),val:=.int .i64 v }:=⟨_,rfl⟩
  have hkey:∀e',es[i]?=some e'→(g e').key=e'.key:=fun e' he'=>by rw[h3]at he';cases he';rw[hg];exact h4.symm
  refine⟨es.modify i g,c,?_,?_,?_,?_⟩
  ·subst hg
   simp[Instr.mapUpdate,run_underlying Tryz.underlying104,MapKept.run_getObj_map hb,hc,MapKept.run_findKey Tryz.underlying9 h2,h3,h4,MapKept.run_keyThatStays (d:=.string) (k:=.string (S k)) trivial,MapKept.run_setObj_map _ hb,Result.andThen]
  ·exact stamped_modify h.st _ _ (fun _ _=>by rw[hg]) (fun e' _ he'=>hkey e' he')
  ·intro e' he'
   obtain⟨j,hj,hje⟩:=List.getElem_of_mem he'
   have hj':j<es.size:=by simpa using hj
   have h5:e'=if i=j then g es[j] else es[j]:=by
    rw[←hje];simp[List.getElem_modify]
   by_cases q:i=j
   ·rw[if_pos q]at h5
    exact⟨k,by rw[h5,hg],by rw[h5,hg];simp⟩
   ·rw[if_neg q]at h5
    obtain⟨x,hx,hv⟩:=h.en es[j] (by simp)
    refine⟨x,by rw[h5,hx],?_⟩
    have:x≠k:=fun q2=>by
     have hp:=((stamped_iff _ _).1 h.st).2.2
     have hi:i<es.size:=(Array.getElem?_eq_some_iff.1 h3).1
     have hei:es[i]=e:=(Array.getElem?_eq_some_iff.1 h3).2
     rw[List.pairwise_iff_getElem]at hp
     rcases Nat.lt_or_gt_of_ne q with l|l
     ·exact hp i j (by simpa using hi) (by simpa using hj') l (by simp only[Array.getElem_toList];rw[hei,h4,hx,q2])
     ·exact hp j i (by simpa using hj') (by simpa using hi) l (by simp only[Array.getElem_toList];rw[hei,h4,hx,q2])
    rw[h5,hv];simp only[if_neg this]
  ·intro x hx
   have hkeys:=modify_keys (es:=es) i g hkey
   have hin:∀y∈es.toList,∃z∈(es.modify i g).toList,z.key=y.key:=fun y hy=>by
    have:y.key∈(es.modify i g).toList.map (·.key):=by rw[hkeys];exact List.mem_map_of_mem hy
    obtain⟨z,hz,e⟩:=List.mem_map.1 this
    exact⟨z,hz,e⟩
   by_cases e0:x=k
   ·obtain⟨z,hz,hk⟩:=hin e (List.mem_of_getElem? (by simpa using h3))
    exact⟨z,hz,by rw[hk,h4,e0]⟩
   ·simp only[if_neg e0]at hx
    obtain⟨y,hy,hk⟩:=h.al x hx
    obtain⟨z,hz,hkz⟩:=hin y hy
    exact⟨z,hz,hkz.trans hk⟩
theorem atf(W:World)(b:Nat)(o:Obj):W.grownBy { W with heap:=W.heap.setIfInBounds b o } (some b):=
 ⟨rfl,rfl,rfl,by simp,fun i hi hne=>by
  have:b≠i:=fun e=>hne (by rw[e])
  simp[Array.getElem?_setIfInBounds,this]⟩
theorem auT(hb:W.heap[b]?=some (.map es c))(o:Obj):({ W with heap:=W.heap.setIfInBounds b o }:World).heap[b]?=some o:=(MapKept.heap_set hb).1
end
end Go.Proofs.YtmffejnigppbpaaGreatDoor

namespace Go.Proofs.YtmffejnigppbpaaGreatDoor
open Go.RowKit
theorem atV(v:Int)(w:World)(hv:v=3∨v=4)(hM:aeV w) :
  Calls Tryz.prog 66 #[.int .i64 v] w fun e w'=>∃u,e=.returned (.tuple #[u,.nilIface])∧w'.ownsRow w.heap.size 9 1 u (UG v).length ((UG v).map fun e=>.string (S e.name))∧Below w.heap.size w w':=by
 rcases hv with rfl|rfl
 ·exact(callsIn_wide (n:=6)).1 (atW w hM.hm)
 ·exact(callsIn_wide (n:=6)).1 (atX w hM.hm)
def axY(e:Ent):Bool:=GH e.name&&(Eg e.name==e.name&&(decide (1≤e.ty∧e.ty<9∧(0<e.most→e.least≤e.most)∧(0<e.parts→e.ty=3)∧e.name.length≤100)))
theorem avJ(v:Int):(∀e∈UG v,axY e=true)∧25<(UG v).length:=by
 unfold UG
 split
 ·decide +kernel
 ·decide +kernel
end Go.Proofs.YtmffejnigppbpaaGreatDoor

set_option maxHeartbeats 4000000
set_option maxRecDepth 100000
namespace Go.Proofs.YtmffejnigppbpaaGreatDoor
open Go.RowKit
theorem ak5{ps:List Pm}{n:Nat}(h:adm ps≤n)(hn:n≤1000000):ail ps∧ps.length≤1000000:=by
 refine⟨fun p hp=>?_,by unfold adm at h;omega⟩
 have h1:ac5 p≤(ps.map ac5).sum:=aeg (List.mem_map_of_mem hp)
 have h2:ac5 p=p.1.length+p.2.length+(p.2.map List.length).sum:=rfl
 unfold adm at h
 constructor<;>omega
theorem anv(x y:Vl)(a b:Option Addr)(ca cb:Nat)(w:World)(ha:Uw w (.slice a x.ps.length ca) x.ps)(hb:Uw w (.slice b y.ps.length cb) y.ps)(hs:acY x.ps≤1000000)(hs2:acY y.ps≤1000000):Uz 63 #[x.v (.slice a x.ps.length ca),y.v (.slice b y.ps.length cb)] w (fun r _=>∃t,r=.bool t∧(x=y→t=true)):=by
 obtain⟨ty,tx,ps,⟨y1,m,d,h,nn,s,zd,zn⟩,n⟩:=x
 obtain⟨ty',tx',ps',⟨y1',m',d',h',nn',s',zd',zn'⟩,n'⟩:=y
 simp only at ha hb hs hs2
 have SL:=hid (fun W (g:G w W)=>anl (ha.grow g) (hb.grow g) hs hs2)
 clear ha hb hs hs2
 obtain⟨bl,hbl⟩:∃bl,decide (ps=ps')=bl:=⟨_,rfl⟩
 rw[hbl]at SL
 have HBL:=hid hbl
 clear hbl
 simp only[Vl.v]
 cases h1:(ty==ty')with
 |false=>
  go_enter Tryz.func63,Tryz.ntmps63
  go_wp2_with fail
  go_ret
  exact⟨_,rfl,⟨_,rfl,fun e=>by injection e with e1;rw[e1]at h1;simp at h1⟩,(by repeat (first|exact G.refl _|assumption|apply G.drew|apply G.drewN|apply G.alloc|refine G.trans ?_ (by assumption)))⟩
 |true=>
 cases h2:(tx==tx')with
 |false=>
  go_enter Tryz.func63,Tryz.ntmps63
  go_wp2_with fail
  go_ret
  exact⟨_,rfl,⟨_,rfl,fun e=>by injection e with e1 e2;rw[e2]at h2;simp at h2⟩,(by repeat (first|exact G.refl _|assumption|apply G.drew|apply G.drewN|apply G.alloc|refine G.trans ?_ (by assumption)))⟩
 |true=>
  go_enter Tryz.func63,Tryz.ntmps63
  go_wp2_with fail
  refine(SL.out _ (((G.refl w).alloc _).alloc _)).use ?_
  intro w3 g3
  have ra:=hid (amH g3)
  have rb:=hid (amI g3)
  have G3:Hid (G w w3):=hid ((((G.refl w).alloc _).alloc _).trans g3)
  clear g3
  cases bl with
  |false=>
   go_wp2_with fail
   go_ret
   exact⟨_,rfl,⟨_,rfl,fun e=>by injection e with e1 e2 e3;have:=HBL.out;rw[e3]at this;simp at this⟩,G3.out⟩
  |true=>
   obtain⟨d0,d1,d2,d3,d4,d5,d6,d7,d8,d9,d10,d11⟩:=adl ra.out
   obtain⟨e0,e1,e2,e3,e4,e5,e6,e7,e8,e9,e10,e11⟩:=adl rb.out
   go_wp2_with fail
   all_goals
    go_ret
    exact⟨_,rfl,⟨_,rfl,fun e=>by
     injection e with q1 q2 q3 q4 q5
     injection q4 with r1 r2 r3 r4 r5 r6 r7 r8
     first|exact absurd r1 (by assumption)|exact absurd r2 (by assumption)|exact absurd r3 (by assumption)|exact absurd r4 (by assumption)|exact absurd r5 (by assumption)|exact absurd r6 (by assumption)|exact absurd r7 (by assumption)|exact absurd r8 (by assumption)|(subst q5;simp)⟩,by repeat (first|exact G3.out|apply G.drew)⟩
theorem aoW(x y:It)(pa la pb lb:Value)(w:World)(ha:adE w x pa la)(hb:adE w y pb lb)(hs:Sml x)(hs2:Sml y):Uz 27 #[x.val pa la,y.val pb lb] w (fun r _=>∃t,r=.bool t∧(x=y→t=true)):=by
 obtain⟨hsm,hps⟩:=ak5 hs.bounds.2.2.1 (by omega)
 obtain⟨hsm2,hps2⟩:=ak5 hs2.bounds.2.2.1 (by omega)
 have SP:=hid (fun W (g:G w W)=>amM (ha.p.grow g) (hb.p.grow g) hps hps2 hsm hsm2)
 have LA:=hid ha.l
 have LB:=hid hb.l
 have HS:=hid (show acY x.v.ps≤1000000 by have:=hs.bounds.2.2.2.2.1;omega)
 have HS2:=hid (show acY y.v.ps≤1000000 by have:=hs2.bounds.2.2.2.2.1;omega)
 obtain⟨a1,c1,rfl⟩:=ha.pv
 obtain⟨a2,c2,rfl⟩:=ha.lv
 obtain⟨a3,c3,rfl⟩:=hb.pv
 obtain⟨a4,c4,rfl⟩:=hb.lv
 have SV:=hid (fun W (g:G w W)=>anv x.v y.v a2 a4 c2 c4 W (LA.out.grow g) (LB.out.grow g) HS.out HS2.out)
 simp only[Vl.v]at SV
 obtain⟨bp,hbp⟩:∃bp,decide (x.ps=y.ps)=bp:=⟨_,rfl⟩
 rw[hbp]at SP
 have HBP:=hid hbp
 clear ha hb hs hs2 hsm hps hsm2 hps2 LA LB HS HS2 hbp
 cases h1:(x.g==y.g)with
 |false=>
  go_enter Tryz.func27,Tryz.ntmps27
  go_wp2_with fail
  go_ret
  exact⟨_,rfl,⟨_,rfl,fun e=>by rw[e]at h1;simp at h1⟩,(by repeat (first|exact G.refl _|assumption|apply G.drew|apply G.drewN|apply G.alloc|refine G.trans ?_ (by assumption)))⟩
 |true=>
 cases h2:(x.n==y.n)with
 |false=>
  go_enter Tryz.func27,Tryz.ntmps27
  go_wp2_with fail
  go_ret
  exact⟨_,rfl,⟨_,rfl,fun e=>by rw[e]at h2;simp at h2⟩,(by repeat (first|exact G.refl _|assumption|apply G.drew|apply G.drewN|apply G.alloc|refine G.trans ?_ (by assumption)))⟩
 |true=>
  go_enter Tryz.func27,Tryz.ntmps27
  go_wp2_with fail
  generalize hw0:(w.alloc _).alloc _=w0
  have HB0:=hid (show w0.heap[w.heap.size]?=some (.cells (x.cells (.slice a1 x.ps.length c1) (.slice a2 x.v.ps.length c2)).toArray 38 (0,0)) by rw[←hw0,Lib.alloc_old _ _ _ (by simp)];exact heap_alloc_new w _)
  have HX0:=hid (show w0.heap[w.heap.size+1]?=some (.cells (y.cells (.slice a3 y.ps.length c3) (.slice a4 y.v.ps.length c4)).toArray 38 (0,0)) by rw[←hw0];exact apK _ _ _)
  have G0:=hid (show G w w0 by rw[←hw0];exact((G.refl w).alloc _).alloc _)
  clear hw0
  obtain⟨p0,p1,p2,p3,p4,p5,p6,p7,p8,p9,p10,p11,p12,p13,p14⟩:=UM HB0.out
  obtain⟨q0,q1,q2,q3,q4,q5,q6,q7,q8,q9,q10,q11,q12,q13,q14⟩:=UM HX0.out
  go_wp2_with fail
  refine(SP.out w0 G0.out).use ?_
  intro w1 g1
  clear p0 p1 p2 p3 p4 p5 p6 p7 p8 p9 p10 p11 p12 p13 p14 q0 q1 q2 q3 q4 q5 q6 q7 q8 q9 q10 q11 q12 q13 q14
  have HB1:=hid (uU HB0.out g1)
  have HX1:=hid (uU HX0.out g1)
  have G1:=hid (G0.out.trans g1)
  clear g1
  cases bp with
  |false=>
   go_wp2_with fail
   go_ret
   exact⟨_,rfl,⟨_,rfl,fun e=>by have:=HBP.out;rw[e]at this;simp at this⟩,G1.out⟩
  |true=>
   obtain⟨p0,p1,p2,p3,p4,p5,p6,p7,p8,p9,p10,p11,p12,p13,p14⟩:=UM HB1.out
   obtain⟨q0,q1,q2,q3,q4,q5,q6,q7,q8,q9,q10,q11,q12,q13,q14⟩:=UM HX1.out
   go_wp2_with fail
   refine(SV.out w1 G1.out).use ?_
   rintro r w2 ⟨t,rfl,ht⟩ g2
   clear p0 p1 p2 p3 p4 p5 p6 p7 p8 p9 p10 p11 p12 p13 p14 q0 q1 q2 q3 q4 q5 q6 q7 q8 q9 q10 q11 q12 q13 q14
   have HT:=hid ht
   clear ht
   go_wp2_with fail
   go_ret
   exact⟨_,rfl,⟨_,rfl,fun e=>HT.out (by rw[e])⟩,G1.out.trans g2⟩
end Go.Proofs.YtmffejnigppbpaaGreatDoor

namespace Go.Proofs.YtmffejnigppbpaaGreatDoor
open Go.RowKit
theorem anu(x:It)(pa la pb lb:Value)(w:World)(ha:adE w x pa la)(hb:adE w x pb lb)(hs:Sml x):Um 27 #[x.val pa la,x.val pb lb] w (.bool true):=by
 refine Calls.mono (aoW x x pa la pb lb w ha hb hs hs) ?_
 rintro e w' ⟨r,rfl,⟨t,rfl,ht⟩,g⟩
 rw[ht rfl]
 exact⟨rfl,g⟩
end Go.Proofs.YtmffejnigppbpaaGreatDoor

namespace Go.Proofs.YtmffejnigppbpaaGreatDoor
open Go.RowKit
def agm(v:Int)(u:List UInt8):Int:=(acX (UG v) u).2.2.1
theorem ahw(u:List UInt8)(a b:List (List UInt8)):aek u (a++b)=aek u a+aek u b:=by
 unfold aek;rw[List.filter_append,List.length_append]
theorem alQ(u n:List UInt8):aek u [n]=if Eg n=u then 1 else 0:=by
 unfold aek
 by_cases h:Eg n=u
 ·rw[if_pos h,List.filter_cons,if_pos (by simpa using h)];rfl
 ·rw[if_neg h,List.filter_cons,if_neg (by simpa using h)];rfl
theorem alR{v:Int}{ns:List (List UInt8)}{i:Nat}(n:List UInt8)(h:i<ns.length):aeR v (ns++[n]) i=aeR v ns i:=by
 unfold aeR
 rw[List.getElem?_append_left h,List.take_append_of_le_length (by omega)]
theorem aqZ{v:Int}{ns:List (List UInt8)}{n:List UInt8}:afQ v (ns++[n])=true↔afQ v ns=true∧(0<agm v (Eg n)→(aek (Eg n) (ns++[n]):Int)≤agm v (Eg n)):=by
 unfold afQ
 rw[List.length_append,List.length_singleton,List.range_succ,List.all_append,Bool.and_eq_true]
 refine and_congr ?_ ?_
 ·rw[List.all_eq_true,List.all_eq_true]
  refine forall_congr' fun i=>?_
  constructor
  ·intro h hi;rw[←alR n (List.mem_range.1 hi)];exact h hi
  ·intro h hi;rw[alR n (List.mem_range.1 hi)];exact h hi
 ·rw[List.all_cons,List.all_nil,Bool.and_true]
  unfold aeR
  rw[List.getElem?_append_right (Nat.le_refl _),Nat.sub_self,List.getElem?_cons_zero]
  simp only
  rw[List.take_of_length_le (by simp),Bool.not_eq_true',decide_eq_false_iff_not]
  show ¬(0<agm v (Eg n)∧agm v (Eg n) < _)↔_
  constructor
  ·intro h h0
   have:¬agm v (Eg n)<(aek (Eg n) (ns++[n]):Int):=fun h1=>h ⟨h0,h1⟩
   omega
  ·rintro h ⟨h0,h1⟩
   have:=h h0
   omega
theorem asU{v:Int}{ns:List (List UInt8)}{n:List UInt8}(ih:afQ v ns=true↔∀u,0<agm v u→(aek u ns:Int)≤agm v u):afQ v (ns++[n])=true↔∀u,0<agm v u→(aek u (ns++[n]):Int)≤agm v u:=by
 rw[aqZ,ih]
 constructor
 ·rintro⟨h1,h2⟩ u hu
  by_cases e:Eg n=u
  ·subst e;exact h2 hu
  ·have:=h1 u hu
   rw[ahw,alQ,if_neg e];exact this
 ·intro h
  refine⟨fun u hu=>?_,fun h0=>h _ h0⟩
  have:=h u hu
  rw[ahw]at this
  omega
theorem anE{v:Int}{ns:List (List UInt8)}:afQ v ns=true↔∀u,0<agm v u→(aek u ns:Int)≤agm v u:=by
 have key:∀ms:List (List UInt8),afQ v ms.reverse=true↔∀u,0<agm v u→(aek u ms.reverse:Int)≤agm v u:=by
  intro ms
  induction ms with
  |nil=>
   constructor
   ·intro _ u h;show((0:Nat):Int)≤_;omega
   ·intro _;rfl
  |cons n ms ih=>rw[List.reverse_cons];exact asU ih
 have:=key ns.reverse
 rwa [List.reverse_reverse]at this
theorem aq0{v:Int}{ns:List (List UInt8)}:aki v ns=true↔∀e∈UG v,(acM v e.name).2.1≤(aek e.name ns:Int):=by
 unfold aki
 rw[List.all_eq_true]
 refine forall_congr' fun e=>forall_congr' fun _=>?_
 rw[Bool.not_eq_true',decide_eq_false_iff_not]
 omega
theorem aed{v:Int}{xs:List It}:acN v xs=true↔(v=3∨v=4)∧xs.length≤60∧(∀x∈xs,adY v x=true)∧(∀u,0<agm v u→(aek u (xs.map It.n):Int)≤agm v u)∧(∀e∈UG v,(acM v e.name).2.1≤(aek e.name (xs.map It.n):Int)):=by
 rw[adn,anE,aq0]
theorem aoj{v:Int}{xs ys:List It}(h:xs.map It.n=ys.map It.n)(hy:∀y∈ys,adY v y=true)(hr:acN v xs=true):acN v ys=true:=by
 rw[aed]at hr⊢
 have hl:xs.length=ys.length:=by have:=congrArg List.length h;simpa using this
 obtain⟨h1,h2,h3,h4,h5⟩:=hr
 rw[h]at h4 h5
 exact⟨h1,by omega,hy,h4,h5⟩
end Go.Proofs.YtmffejnigppbpaaGreatDoor
