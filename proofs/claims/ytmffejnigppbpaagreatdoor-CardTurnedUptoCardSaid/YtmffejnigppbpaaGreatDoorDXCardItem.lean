/-
 CONTRACT of card.Item: what a line is.
-/
import Derived.Test.YtmffejnigppbpaaGreatDoorDXMA68
import Derived.Test.YtmffejnigppbpaaGreatDoorDXMA56
import Derived.Test.YtmffejnigppbpaaGreatDoorDXMA62
import Derived.Test.YtmffejnigppbpaaGreatDoorDXMA74
import Derived.Test.YtmffejnigppbpaaGreatDoorDXMParse
import Derived.Test.YtmffejnigppbpaaGreatDoorDXMA71
import Derived.Test.YtmffejnigppbpaaGreatDoorDXMTell
set_option linter.unusedVariables false
set_option linter.unusedSimpArgs false
set_option maxHeartbeats 16000000
set_option maxRecDepth 100000
namespace Go.Proofs.YtmffejnigppbpaaGreatDoor
open Go.RowKit
abbrev akI(l:FLn)(fv:Value):Value:=.agg #[.string (S l.text),.int .i64 (l.pos:Int),fv]
def It0:It:=⟨[],[],[],Vl0⟩
def IsP(n:Nat)(w:World)(e:Value):Prop:=∃c:Int,e=eno c∨∃k:Nat,k≤n∧UE w e c k
theorem IsP.grow{n:Nat}{w w':World}{e:Value}(h:IsP n w e)(g:G w w'):IsP n w' e:=by
 obtain⟨c,h|⟨k,hk,h⟩⟩:=h
 ·exact⟨c,.inl h⟩
 ·exact⟨c,.inr ⟨k,hk,h.grow g⟩⟩
theorem IsP.iface{n:Nat}{w:World}{e:Value}(h:IsP n w e):∃t u,e=.iface t u:=by
 obtain⟨c,h|⟨k,hk,b,h,_⟩⟩:=h
 ·exact⟨_,_,h⟩
 ·exact⟨_,_,h⟩
def afB(v:Int)(l:FLn)(n:Nat)(r:Value)(w:World):Prop:=
 match adG v l.text with
 |some x=>∃pv lv b1 b2,r=.tuple #[x.val pv lv,.nilIface]∧n≤b1∧n≤b2∧ad5 w b1 pv x.ps∧adM w b2 lv x.v.ps
 |none=>∃e,r=.tuple #[It0.val (.slice none 0 0) (.slice none 0 0),e]∧IsP (l.pos+l.text.length+3*l.folds.length) w e
theorem afB.no{v:Int}{l:FLn}{n:Nat}{e:Value}{w:World}(h:adG v l.text=none)(he:IsP (l.pos+l.text.length+3*l.folds.length) w e):afB v l n (.tuple #[It0.val (.slice none 0 0) (.slice none 0 0),e]) w:=by unfold afB;rw[h];exact⟨e,rfl,he⟩
theorem afB.yes{v:Int}{l:FLn}{n b1 b2:Nat}{x:It}{pv lv:Value}{w:World}(h:adG v l.text=some x)(h1:n≤b1)(h2:n≤b2)(hp:ad5 w b1 pv x.ps)(hl:adM w b2 lv x.v.ps):afB v l n (.tuple #[x.val pv lv,.nilIface]) w:=by unfold afB;rw[h];exact⟨pv,lv,b1,b2,rfl,h1,h2,hp,hl⟩
theorem auz{s:List UInt8}{k:Int}{y:Vl}(h:ady s k=some y):y.ty=k∧1≤k∧k<9:=by
 unfold ady at h
 split at h
 ·cases h
 rename_i hk
 have hk2:1≤k∧k<9:=Classical.not_not.1 hk
 split at h
 ·cases h
 split at h
 ·rename_i e
  split at h
  ·cases h;exact⟨e.symm,hk2⟩
  ·cases h
 split at h
 ·rename_i e
  split at h
  ·cases h;exact⟨e.symm,hk2⟩
  ·cases h
 split at h
 ·rename_i e
  split at h
  ·cases h;exact⟨e.symm,hk2⟩
  ·cases h
 split at h
 ·rename_i e
  split at h
  ·cases h;exact⟨e.symm,hk2⟩
  ·cases h
 split at h
 ·rename_i e
  split at h
  ·cases h;exact⟨e.symm,hk2⟩
  ·cases h
 split at h
 ·rename_i e
  split at h
  ·cases h;exact⟨e.symm,hk2⟩
  ·cases h
 split at h
 ·rename_i e
  split at h
  ·cases h;exact⟨e.symm,hk2⟩
  ·cases h
 ·cases h
  exact⟨by show(8:Int)=k;omega,hk2⟩
theorem apz{v:Int}{t:List UInt8}{x:It}(h:adG v t=some x):(-9223372036854775808≤x.v.st.y∧x.v.st.y≤9223372036854775807)∧(-9223372036854775808≤x.v.ty∧x.v.ty≤9223372036854775807):=by
 unfold adG at h
 split at h
 ·cases h
 ·split at h
  ·cases h
  ·rename_i y hy
   cases h
   obtain⟨e,h1,h2⟩:=auz hy
   exact⟨(am1 hy).y,by dsimp only;omega,by dsimp only;omega⟩
theorem ad5.form{w:World}{base:Nat}{v:Value}{ps:List Pm}(h:ad5 w base v ps):v=.slice none 0 0∨∃a n c,v=.slice (some a) n c:=by
 obtain⟨vs,_,_,h⟩:=h
 rcases h.2 with⟨e,_⟩|⟨g,cap,cur,e,_⟩
 ·exact .inl e
 ·exact .inr ⟨_,_,_,e⟩
theorem ad5.len{w:World}{base:Nat}{v:Value}{ps:List Pm}(h:ad5 w base v ps):∃a c,v=.slice a ps.length c:=by
 obtain⟨vs,_,_,h⟩:=h
 exact agO h
theorem adM.len{w:World}{base:Nat}{v:Value}{ls:List (List (List UInt8))}(h:adM w base v ls):∃a c,v=.slice a ls.length c:=by
 obtain⟨vs,_,_,h⟩:=h
 exact agO h
theorem ad5.at_{w w':World}{base B:Nat}{v:Value}{ps:List Pm}{cs:Array Value}{t:TypeId}{fr:Nat×Nat}(h:ad5 w base v ps)(g:w.grownBy w' (some B))(hB:w.heap[B]?=some (.cells cs t fr))(h1:41≠t)(h2:9≠t):ad5 w' base v ps:=by
 obtain⟨vs,e,hs,hr⟩:=h
 exact⟨vs,e,fun i p u hp hu=>World.ownsRow.kept (hs i p u hp hu) g (ai6 (hs i p u hp hu) hB h2),hr.kept g (ai6 hr hB h1)⟩
theorem auA{w:World}{b:Nat}{a0 a1 a2:Value}{t:TypeId}(h:w.heap[b]?=some (.cells #[a0,a1,a2] t (0,0))):w.cell? ⟨b,0,none⟩=some a0∧w.cell? ⟨b,1,none⟩=some a1∧w.cell? ⟨b,2,none⟩=some a2:=by
 refine⟨?_,?_,?_⟩<;>(rw[cell_of_row w b _ _ _ _ h];rfl)
theorem atc{w:World}{t:TypeId}{b:Nat}{c k:Int}(h:UE w (.iface t (.pointer (some ⟨b,0,none⟩))) c k):w.cell? ⟨b,0,none⟩=some (.int .i64 c)∧w.cell? ⟨b,1,none⟩=some (.int .i64 k):=by
 obtain⟨b',e,h0,h1,_⟩:=h
 cases e
 exact⟨h0,h1⟩
def awo(W:World)(P:Nat):Prop:=W.heap[P]?=some (.cells #[.string ⟨#[]⟩,.string ⟨#[]⟩,.slice none 0 0,.string ⟨#[]⟩] 109 (0,0))
theorem UE.at_{w w':World}{v:Value}{c k:Int}{B:Nat}(h:UE w v c k)(g:w.grownBy w' (some B))(hz:awo w B):UE w' v c k:=by
 obtain⟨b,e,h0,h1,h2⟩:=h
 have hne:b≠B:=by
  rintro rfl
  rw[cell_of_row w b 0 _ _ _ hz]at h0
  cases h0
 have hb:w'.heap[b]?=w.heap[b]?:=g.block b h2 (fun e=>hne (Option.some.inj e))
 exact⟨b,e,by rw[World.cell?_of_block hb];exact h0,by rw[World.cell?_of_block hb];exact h1,Nat.lt_of_lt_of_le h2 g.size⟩
theorem UH.at_{n B:Nat}{x:Except Er Ln}{v:Value}{w w':World}(h:UH n x v w)(g:w.grownBy w' (some B))(hz:awo w B):UH n x v w':=by
 unfold UH at h⊢
 split at h
 ·obtain⟨pv,base,e,hb,ho⟩:=h
  exact⟨pv,base,e,hb,ho.at_ g hz (by decide) (by decide)⟩
 ·obtain⟨e,h1,h2⟩:=h
  exact⟨e,h1,h2.at_ g hz⟩
theorem UH.grow{n:Nat}{x:Except Er Ln}{v:Value}{w w':World}(h:UH n x v w)(g:G w w'):UH n x v w':=by
 unfold UH at h⊢
 split at h
 ·obtain⟨pv,base,e,hb,ho⟩:=h
  exact⟨pv,base,e,hb,ho.grow g⟩
 ·obtain⟨e,h1,h2⟩:=h
  exact⟨e,h1,h2.grow g⟩
theorem UH.mono{n m:Nat}{x:Except Er Ln}{v:Value}{w:World}(h:UH n x v w)(hm:m≤n):UH m x v w:=by
 unfold UH at h⊢
 split at h
 ·obtain⟨pv,base,e,hb,ho⟩:=h
  exact⟨pv,base,e,Nat.le_trans hm hb,ho⟩
 ·exact h
theorem UH.two{n:Nat}{x:Except Er Ln}{v:Value}{w:World}(h:UH n x v w):∃g m a len cap u e,v=.tuple #[.agg #[.string (S g),.string (S m),.slice a len cap,.string (S u)],e]:=by
 unfold UH at h
 split at h
 ·obtain⟨pv,base,e,_,ho⟩:=h
  obtain⟨vs,_,_,ho⟩:=ho
  obtain⟨a,c,rfl⟩:=agO ho
  exact⟨_,_,_,_,_,_,_,e⟩
 ·obtain⟨e,h1,h2⟩:=h
  exact⟨_,_,_,_,_,_,_,h1⟩
theorem ajn{a b c d:Value}(h:Value.tuple #[a,b]=.tuple #[c,d]):a=c∧b=d:=by
 injection h with h
 simpa using h
@[go_sem] theorem ayQ(v:Value)(w:World):(Instr.typeAssert (.iface 80 v) 28 80 true).run Tryz.prog w=.ok (.tuple #[v,.bool true]) w:=by kernel_rfl
@[go_sem] theorem ayR(v:Value)(w:World):(Instr.typeAssert (.iface 58 v) 28 80 true).run Tryz.prog w=.ok (.tuple #[.pointer none,.bool false]) w:=by kernel_rfl
theorem aiU{W:World}{X:Nat}{T:TypeId}(hz:W.heap[X]?=some (.cells (It0.cells (.slice none 0 0) (.slice none 0 0)).toArray T (0,0))):(((((((((((((((W.setCell ⟨X,0,none⟩ (.string (S []))).setCell ⟨X,1,none⟩ (.string (S []))).setCell ⟨X,2,none⟩ (.slice none 0 0)).setCell ⟨X,3,none⟩ (.int .i64 0)).setCell ⟨X,4,none⟩ (.string (S []))).setCell ⟨X,5,none⟩ (.slice none 0 0)).setCell ⟨X,6,none⟩ (.int .i64 0)).setCell ⟨X,7,none⟩ (.int .i64 0)).setCell ⟨X,8,none⟩ (.int .i64 0)).setCell ⟨X,9,none⟩ (.int .i64 0)).setCell ⟨X,10,none⟩ (.int .i64 0)).setCell ⟨X,11,none⟩ (.int .i64 0)).setCell ⟨X,12,none⟩ (.bool false)).setCell ⟨X,13,none⟩ (.int .i64 0)).setCell ⟨X,14,none⟩ (.int .i64 0))=W:=
 ayf hz
def asj(hs:Nat)(x y:World):Prop:=Below hs x y∧∀(n:Nat) (s:Except Er Ln) (v:Value),UH n s v x→UH n s v y
theorem asj.refl(hs:Nat)(x:World):asj hs x x:=⟨Below.refl _ _,fun _ _ _ h=>h⟩
def ax8(hs B:Nat)(t:List UInt8)(ver:Int)(b:Bool)(k:Nat)(vals:Nat→Value)(W:World):Prop:=
 match k with
 |0=>vals 0=.pointer (some ⟨B,0,none⟩)
 |1=>vals 1=.string (S t)
 |2=>vals 2=.int .i64 ver
 |3=>vals 3=.bool (ver==4)
 |4=>UH hs (acZ (ver==4) t) (vals 4) W
 |5=>UH hs (acZ (ver==4) t) (vals 5) W
 |6=>∃e,UH hs (acZ (ver==4) t) (.tuple #[vals 6,e]) W
 |7=>∃x,UH hs (acZ (ver==4) t) (.tuple #[x,vals 7]) W
 |8=>∃P,vals 8=.pointer (some ⟨P,0,none⟩)∧hs≤P∧(b=false→awo W P)
 |9=>b=true→∃P c0 c1 c2 c3,vals 8=.pointer (some ⟨P,0,none⟩)∧hs≤P∧vals 6=.agg #[c0,c1,c2,c3]∧W.heap[P]?=some (.cells #[c0,c1,c2,c3] 109 (0,0))
 |_=>True
def asl(l:FLn)(fv:Value)(ab:Nat)(c:Int)(q:Nat)(k:Nat)(v:Value)(W:World):Prop:=
 match k with
 |0=>v=It0.val (.slice none 0 0) (.slice none 0 0)
 |1=>v=.pointer (some ⟨ab,0,none⟩)
 |2=>v=.pointer (some ⟨ab,0,none⟩)
 |3=>v=.pointer (some ⟨ab,0,none⟩)
 |4=>v=.int .i64 c
 |5=>v=akI l fv
 |6=>v=.pointer (some ⟨ab,0,none⟩)
 |7=>v=.pointer (some ⟨ab,0,none⟩)
 |8=>v=.pointer (some ⟨ab,1,none⟩)
 |9=>v=.int .i64 (q:Int)
 |10=>v=.int .i64 ((ad4 l q:Nat):Int)
 |11=>v=.agg #[.int .i64 c,.int .i64 ((ad4 l q:Nat):Int)]
 |12=>∃b,v=.pointer (some ⟨b,0,none⟩)∧b<W.heap.size∧W.cell? ⟨b,0,none⟩=some (.int .i64 c)∧W.cell? ⟨b,1,none⟩=some (.int .i64 ((ad4 l q:Nat):Int))
 |13=>UE W v c ((ad4 l q:Nat):Int)
 |14=>True
 |_=>True
def ajo(l:FLn)(fv:Value)(er:Value)(zq c:Int)(q:Nat)(k:Nat)(v:Value)(W:World):Prop:=
 match k with
 |0=>v=It0.val (.slice none 0 0) (.slice none 0 0)
 |1=>v=er
 |2=>v=.int .i64 c
 |3=>v=akI l fv
 |4=>v=.int .i64 zq
 |5=>v=.int .i64 ((ad4 l q:Nat):Int)
 |6=>v=.agg #[.int .i64 c,.int .i64 ((ad4 l q:Nat):Int)]
 |7=>∃b,v=.pointer (some ⟨b,0,none⟩)∧b<W.heap.size∧W.cell? ⟨b,0,none⟩=some (.int .i64 c)∧W.cell? ⟨b,1,none⟩=some (.int .i64 ((ad4 l q:Nat):Int))
 |8=>UE W v c ((ad4 l q:Nat):Int)
 |9=>True
 |_=>True
theorem auB(l:FLn)(fv:Value)(i:Nat)(z:Int)(w:World)(hz:z=(i:Int))(hf:adh w fv (adX l.folds))(h1:l.pos≤1000000)(h2:i≤1000000)(h3:l.folds.length≤1000000):Um 193 #[akI l fv,.int .i64 z] w (.int .i64 ((ad4 l i:Nat):Int)):=by
 subst hz;exact atm l fv i w hf h1 h2 h3
theorem ajp(ver:Int)(hv:ver=3∨ver=4)(l:FLn)(fv:Value)(w:World)(hf:adh w fv (adX l.folds))(h1:l.pos≤100000)(h2:l.text.length≤1500)(h3:l.folds.length≤100000)(hR:aeV w)(hE:UO w)(hLP:∀W,G w W→Calls Tryz.prog 192 #[.string (S l.text),.bool (ver==4)] W (avf (UH W.heap.size (acZ (ver==4) l.text)) W))(hVR:∀(p:Ln),acZ (ver==4) l.text=.ok p→∀W,G w W→Uz 194 #[.string (S p.value),.int .i64 (typeOf (acM ver p.hd.name).1 p.hd.params)] W (ahU p.value.length W.heap.size (ady p.value (typeOf (acM ver p.hd.name).1 p.hd.params)))):Uz 156 #[akI l fv,.int .i64 ver] w (fun r w'=>afB ver l w.heap.size r w'):=by
 have PLG:=hid (fun (i:Nat) (z:Int) (hz:z=(i:Int)) W (g:G w W) (hi:i≤l.text.length)=>auB l fv i z W hz (hf.grow g) (by omega) (by omega) (by omega))
 have LPG:=hid hLP
 have TYG:=hid (fun (p:Ln) pv W (g:G w W) (hp:acZ (ver==4) l.text=.ok p) (ho:UN W pv p.hd.params)=>by
  have hs:=ahK hp
  unfold ap9 at hs
  obtain⟨hsm,hlen⟩:=arC (ps:=p.hd.params) (n:=1500) (by omega) (by omega)
  exact amL p.hd.name pv p.hd.params ver W hv (by omega) ho (by omega) (fun q hq=>(hsm q hq).1) (fun q hq u hu=>by
   have h1:=aeg (List.mem_map_of_mem (f:=ac5) hq)
   have h2:u.length≤(q.2.map List.length).sum:=aeg (List.mem_map_of_mem hu)
   have h3:adm p.hd.params=p.hd.params.length+(p.hd.params.map ac5).sum:=rfl
   have h4:ac5 q=q.1.length+q.2.length+(q.2.map List.length).sum:=rfl
   omega) (hR.grow g))
 have VRG:=hid hVR
 have HE:=hid hE
 have ways:(ver != 3)=false∨((ver != 3)=true∧(ver != 4)=false):=by rcases hv with rfl|rfl<;>simp
 clear hv hf hR hE hLP hVR
 go_enter Tryz.func156,Tryz.ntmps156
 go_upto_region 1 with fail
 generalize hw1:(w.alloc _).alloc _=w1
 have HB:=hid (show w1.heap[w.heap.size]?=some (.cells #[.string (S l.text),.int .i64 (l.pos:Int),fv] 205 (0,0)) by rw[←hw1,Lib.alloc_old _ _ _ (by simp)];exact heap_alloc_new w _)
 have HX:=hid (show w1.heap[w.heap.size+1]?=some (.cells (It0.cells (.slice none 0 0) (.slice none 0 0)).toArray 38 (0,0)) by rw[←hw1];exact apK _ _ _)
 have G1:=hid (show G w w1 by rw[←hw1];exact((G.refl w).alloc _).alloc _)
 have hsz1:w1.heap.size=w.heap.size+2:=by rw[←hw1];simp
 clear hw1
 go_cut [21] from 16 to 21 (fun v wx=>v=.bool false∧w1=wx)
 case first=>
  rcases ways with b3|⟨b3,b4⟩
  all_goals
   go_wp2_with fail
   go_meet
   exact⟨rfl,rfl⟩
 case rest=>
  obtain⟨rfl,rfl⟩:=hcut
  clear ways
  go_upto_region 3 with fail
  refine wp_region_any (by kernel_rfl) ?_
  refine aoE (E:=#[false,false,false,false,false,false,false,false,false,false,false]) (fun _ _ W=>G w1 W) G (asj w1.heap.size) 9 10 (fun k=>if k=9 then[8,6] else[]) (ax8 w1.heap.size w.heap.size l.text ver) [some [],some [(0,25)],some [],some [(2,27)],some [(1,26),(3,28),(3,28)],some [(4,29)],some [(5,24)],some [(5,24)],some [],some [(8,6),(6,30),(6,30),(8,6)],none] [(0,25),(1,26),(2,27),(3,28),(4,29),(5,24),(6,30),(7,31),(8,6)] _ (by kernel_rfl) (by kernel_rfl) rfl (by decide) (by kernel_rfl) (by kernel_rfl) rfl G.refl (asj.refl _) (fun _ _ _ _=>G.trans) (fun _ _ _ h k=>Below.trans h k.1) (by kernel_rfl) ?_ (w0:=w1) ((G.refl w1).drew) ?_ ?_ ?_ ?_
  ·intro b k vals vals' W e0 es h
   match k,e0,es,h with
   |0,e0,es,h=>exact e0.symm.trans h
   |1,e0,es,h=>exact e0.symm.trans h
   |2,e0,es,h=>exact e0.symm.trans h
   |3,e0,es,h=>exact e0.symm.trans h
   |4,e0,es,h=>show UH _ _ (vals' 4) W;rw[←e0];exact h
   |5,e0,es,h=>show UH _ _ (vals' 5) W;rw[←e0];exact h
   |6,e0,es,h=>show ∃e,UH _ _ (.tuple #[vals' 6,e]) W;rw[←e0];exact h
   |7,e0,es,h=>show ∃x,UH _ _ (.tuple #[x,vals' 7]) W;rw[←e0];exact h
   |8,e0,es,h=>show ∃P,vals' 8=.pointer (some ⟨P,0,none⟩)∧_∧(b=false→awo W P);rw[←e0];exact h
   |9,e0,es,h=>
    have e8:=es 8 (by simp)
    have e6:=es 6 (by simp)
    show b=true→∃P c0 c1 c2 c3,vals' 8=.pointer (some ⟨P,0,none⟩)∧_∧vals' 6=.agg #[c0,c1,c2,c3]∧_
    rw[←e8,←e6];exact h
   |n+10,e0,es,h=>trivial
  ·intro b k vals W W' g h
   match k,h with
   |0,h=>exact h
   |1,h=>exact h
   |2,h=>exact h
   |3,h=>exact h
   |4,h=>exact UH.grow h g
   |5,h=>exact UH.grow h g
   |6,h=>obtain⟨e,h⟩:=h;exact⟨e,h.grow g⟩
   |7,h=>obtain⟨e,h⟩:=h;exact⟨e,h.grow g⟩
   |8,h=>obtain⟨P,h1,h2,h3⟩:=h;exact⟨P,h1,h2,fun e=>uU (h3 e) g⟩
   |9,h=>exact fun e=>by obtain⟨P,c0,c1,c2,c3,h1,h2,h3,h4⟩:=h e;exact⟨P,c0,c1,c2,c3,h1,h2,h3,uU h4 g⟩
   |n+10,h=>trivial
  ·intro k vals W W' hk g h
   match k,hk,h with
   |0,_,h=>exact h
   |1,_,h=>exact h
   |2,_,h=>exact h
   |3,_,h=>exact h
   |4,_,h=>exact g.2 _ _ _ h
   |5,_,h=>exact g.2 _ _ _ h
   |6,_,h=>obtain⟨e,h⟩:=h;exact⟨e,g.2 _ _ _ h⟩
   |7,_,h=>obtain⟨e,h⟩:=h;exact⟨e,g.2 _ _ _ h⟩
   |8,_,h=>obtain⟨P,h1,h2,h3⟩:=h;exact⟨P,h1,h2,fun e=>by cases e⟩
   |9,hk,h=>exact absurd rfl hk
   |n+10,_,h=>trivial
  ·refine aeE (by decide) (fun b vals W g d=>?_)<|aeE (by decide) (fun b vals W g d=>?_)<|aeE (by decide) (fun b vals W g d=>?_)<|aeE (by decide) (fun b vals W g d=>?_)<|aeE (by decide) (fun b vals W g d=>?_)<|aeE (by decide) (fun b vals W g d=>?_)<|aeE (by decide) (fun b vals W g d=>?_)<|aeE (by decide) (fun b vals W g d=>?_)<|aqa (by decide) (by kernel_rfl) (fun vals W g d=>?_)<|arD rfl (fun vals W g d=>?_)<|arE atF
   ·refine nX rfl rfl rfl fun K hK=>?_
    simp only[gFr]at hK⊢
    go_simp
    exact hK _ _ (G.refl _) rfl
   ·obtain⟨d0,_⟩:=d
    change vals 0=_ at d0
    refine nX rfl rfl rfl fun K hK=>?_
    simp only[gFr,d0]at hK⊢
    obtain⟨b0,b1,b2⟩:=auA (uU HB.out g)
    go_simp
    exact hK _ _ (G.refl _) rfl
   ·refine nX rfl rfl rfl fun K hK=>?_
    simp only[gFr]at hK⊢
    go_simp
    exact hK _ _ (G.refl _) rfl
   ·obtain⟨d2,_⟩:=d
    change vals 2=_ at d2
    refine nX rfl rfl rfl fun K hK=>?_
    simp only[gFr,d2]at hK⊢
    go_simp
    refine(af6 ver W).use ?_
    intro W' hg
    exact hK _ _ hg rfl
   ·obtain⟨d1,d3,_⟩:=d
    change vals 1=_ at d1
    change vals 3=_ at d3
    refine nX rfl rfl rfl fun K hK=>?_
    simp only[gFr,d1,d3]at hK⊢
    go_simp
    refine(LPG.out W (G1.out.trans g)).mono ?_
    rintro e W' ⟨v,rfl,hv,hg⟩
    exact hK _ _ hg (hv.mono g.size)
   ·obtain⟨d4,_⟩:=d
    change UH _ _ (vals 4) W at d4
    obtain⟨g4,n4,a4,l4,k4,u4,e,e4⟩:=d4.two
    refine nX rfl rfl rfl fun K hK=>?_
    simp only[gFr,e4]at hK⊢
    go_simp
    exact hK _ _ (G.refl _) (by rw[e4]at d4;exact d4)
   ·obtain⟨d5,_⟩:=d
    change UH _ _ (vals 5) W at d5
    obtain⟨g5,n5,a5,l5,k5,u5,e,e5⟩:=d5.two
    refine nX rfl rfl rfl fun K hK=>?_
    simp only[gFr,e5]at hK⊢
    go_simp
    exact hK _ _ (G.refl _) ⟨e,by rw[e5]at d5;exact d5⟩
   ·obtain⟨d5,_⟩:=d
    change UH _ _ (vals 5) W at d5
    obtain⟨g5,n5,a5,l5,k5,u5,e,e5⟩:=d5.two
    refine nX rfl rfl rfl fun K hK=>?_
    simp only[gFr,e5]at hK⊢
    go_simp
    exact hK _ _ (G.refl _) ⟨.agg #[.string (S g5),.string (S n5),.slice a5 l5 k5,.string (S u5)],by rw[e5]at d5;exact d5⟩
   ·refine nX rfl rfl rfl fun K hK=>?_
    simp only[gFr]at hK⊢
    go_simp
    exact hK _ _ ((G.refl _).alloc _) ⟨W.heap.size,rfl,g.size,fun _=>heap_alloc_new W _⟩
   ·refine ahX.out ?_
    obtain⟨d8,d6,_⟩:=d
    obtain⟨P,e8,hP,hz⟩:=d8
    obtain⟨e,d6⟩:=d6
    obtain⟨g6,n6,a6,l6,k6,u6,_,e6⟩:=d6.two
    have e6b:=(ajn e6).1
    have hz:=hz rfl
    obtain⟨z0,z1,z2,z3⟩:=ahy hz
    have fz:=fun i=>Lib.frozen_of_heap hz i
    refine⟨?_⟩
    refine afb rfl rfl fun K hK=>?_
    simp only[gFr,e8,e6b]at hK⊢
    go_simp
    refine hK _ ⟨Below.setCell (Below.setCell (Below.setCell (Below.setCell (Below.refl _ _) hP _) hP _) hP _) hP _,fun n s v h=>h.at_ (ad9 (ad9 (ad9 (afi _ _ _ _)))) hz⟩ (fun _=>⟨P,_,_,_,_,?_,hP,?_,axU hz⟩)
    ·unfold ahL;rw[if_neg (by decide)];exact e8
    ·unfold ahL;rw[if_neg (by decide)];exact e6b
  intro vals W g hx
  have d6:=hx 6 (by decide) rfl
  have d7:=hx 7 (by decide) rfl
  obtain⟨P,c0,c1,c2,c3,e8,hP,e6,hrow⟩:=hx 9 (by decide) rfl rfl
  clear hx
  have GW:=hid (G1.out.trans g)
  have HB2:=hid (uU HB.out g)
  have HX2:=hid (uU HX.out g)
  have HPL:=hid hrow
  clear g hrow
  cases hp:acZ (ver==4) l.text with
  |error o=>
   obtain⟨c,k⟩:=o
   obtain⟨x,d7⟩:=d7
   rw[hp]at d7
   obtain⟨e,e7,hat⟩:=d7
   have e7b:vals 7=e:=(ajn e7).2
   have hat2:=hat
   obtain⟨ab,rfl,_⟩:=hat2
   have HAT:=hid hat
   have HBAD:=hid (show adG ver l.text=none by unfold adG;rw[hp])
   have hkl:k≤l.text.length:=aqn hp
   clear d6 e7 hat hp x
   refine⟨?_⟩
   show wpList _ _ _ [_] _ _
   simp only[gFr,e8,e7b]
   clear e6 e7b
   obtain⟨q,hq⟩:∃q,q=k:=⟨_,rfl⟩
   rw[←hq]at HAT hkl
   clear hq
   go_upto_region 8 with fail
   have HB5:=HB2
   have HX5:=HX2
   have GW8:=GW
   have HQL:=hid hkl
   have PL:=hid (fun W' (g:G W W')=>PLG.out q _ rfl W' (GW.out.trans g) hkl)
   refine wp_region_any (by kernel_rfl) ?_
   refine acJ (E:=#[false,false,false,false,false,false,false,false,false,false,false,false,false,false,false,false]) G 15 (asl l fv ab c q) [some [],some [],some [(1,44)],some [(2,45)],some [(3,46)],some [],some [],some [(6,49)],some [(7,50)],some [(8,51)],some [(5,48),(9,52)],some [(4,47),(10,53)],some [(11,54)],some [(12,55)],some [(0,43),(0,43)],none] [(0,43),(1,44),(2,45),(3,46),(4,47),(5,48),(6,49),(7,50),(8,51),(9,52),(10,53),(11,54),(12,55),(13,56)] _ (by kernel_rfl) (by decide) (by kernel_rfl) (by kernel_rfl) rfl G.refl (fun _ _ _=>G.trans) (w0:=W) ((G.refl W).drew) ?_ ?_ ?_
   ·intro k v W W' g h
    match k,h with
    |0,h=>exact h
    |1,h=>exact h
    |2,h=>exact h
    |3,h=>exact h
    |4,h=>exact h
    |5,h=>exact h
    |6,h=>exact h
    |7,h=>exact h
    |8,h=>exact h
    |9,h=>exact h
    |10,h=>exact h
    |11,h=>exact h
    |12,h=>exact by obtain⟨b,h1,h2,h3,h4⟩:=h;exact⟨b,h1,Nat.lt_of_lt_of_le h2 g.size,by rw[g.cell h2];exact h3,by rw[g.cell h2];exact h4⟩
    |13,h=>exact UE.grow h g
    |14,h=>exact h
    |n+15,h=>trivial
   ·refine lW (fun vals W g d=>?_)<|lW (fun vals W g d=>?_)<|lW (fun vals W g d=>?_)<|lW (fun vals W g d=>?_)<|lW (fun vals W g d=>?_)<|lW (fun vals W g d=>?_)<|lW (fun vals W g d=>?_)<|lW (fun vals W g d=>?_)<|lW (fun vals W g d=>?_)<|lW (fun vals W g d=>?_)<|lW (fun vals W g d=>?_)<|lW (fun vals W g d=>?_)<|lW (fun vals W g d=>?_)<|lW (fun vals W g d=>?_)<|lW (fun vals W g d=>?_)<|UB adJ
    ·refine nX rfl rfl rfl fun K hK=>?_
     simp only[gFr]at hK⊢
     go_simp
     exact hK _ _ (G.refl _) rfl
    ·refine nX rfl rfl rfl fun K hK=>?_
     simp only[gFr]at hK⊢
     go_simp
     exact hK _ _ (G.refl _) rfl
    ·obtain⟨d1,_⟩:=d
     change vals 1=_ at d1
     refine nX rfl rfl rfl fun K hK=>?_
     simp only[gFr,d1]at hK⊢
     go_simp
     exact hK _ _ (G.refl _) rfl
    ·obtain⟨d2,_⟩:=d
     change vals 2=_ at d2
     refine nX rfl rfl rfl fun K hK=>?_
     simp only[gFr,d2]at hK⊢
     go_simp
     exact hK _ _ (G.refl _) rfl
    ·obtain⟨d3,_⟩:=d
     change vals 3=_ at d3
     refine nX rfl rfl rfl fun K hK=>?_
     simp only[gFr,d3]at hK⊢
     obtain⟨a0,a1⟩:=atc (HAT.out.grow g)
     go_simp
     exact hK _ _ (G.refl _) rfl
    ·refine nX rfl rfl rfl fun K hK=>?_
     simp only[gFr]at hK⊢
     obtain⟨b0,b1,b2⟩:=auA (uU HB5.out g)
     go_simp
     exact hK _ _ (G.refl _) rfl
    ·refine nX rfl rfl rfl fun K hK=>?_
     simp only[gFr]at hK⊢
     go_simp
     exact hK _ _ (G.refl _) rfl
    ·obtain⟨d6,_⟩:=d
     change vals 6=_ at d6
     refine nX rfl rfl rfl fun K hK=>?_
     simp only[gFr,d6]at hK⊢
     go_simp
     exact hK _ _ (G.refl _) rfl
    ·obtain⟨d7,_⟩:=d
     change vals 7=_ at d7
     refine nX rfl rfl rfl fun K hK=>?_
     simp only[gFr,d7]at hK⊢
     go_simp
     exact hK _ _ (G.refl _) rfl
    ·obtain⟨d8,_⟩:=d
     change vals 8=_ at d8
     refine nX rfl rfl rfl fun K hK=>?_
     simp only[gFr,d8]at hK⊢
     obtain⟨a0,a1⟩:=atc (HAT.out.grow g)
     go_simp
     exact hK _ _ (G.refl _) rfl
    ·obtain⟨d5,d9,_⟩:=d
     change vals 5=_ at d5
     change vals 9=_ at d9
     refine nX rfl rfl rfl fun K hK=>?_
     simp only[gFr,d5,d9]at hK⊢
     go_simp
     refine(PL.out W g).use ?_
     intro W' hg
     exact hK _ _ hg rfl
    ·obtain⟨d4,d10,_⟩:=d
     change vals 4=_ at d4
     change vals 10=_ at d10
     refine nX rfl rfl rfl fun K hK=>?_
     simp only[gFr,d4,d10]at hK⊢
     go_simp
     exact hK _ _ (G.refl _) rfl
    ·obtain⟨d11,_⟩:=d
     change vals 11=_ at d11
     refine nX rfl rfl rfl fun K hK=>?_
     simp only[gFr,d11]at hK⊢
     go_simp
     exact hK _ _ ((G.refl _).alloc _) ⟨W.heap.size,rfl,by simp,by rw[World.cell?_alloc_new];rfl,by rw[World.cell?_alloc_new];rfl⟩
    ·obtain⟨d12,_⟩:=d
     refine ahX.out ?_
     obtain⟨b,d12,h2,h3,h4⟩:=d12
     have hia:=(show UE W (.iface 80 (.pointer (some ⟨b,0,none⟩))) c ((ad4 l q:Nat):Int)from⟨b,rfl,h3,h4,h2⟩)
     refine⟨?_⟩
     refine nX rfl rfl rfl fun K hK=>?_
     simp only[gFr,d12]at hK⊢
     go_simp
     refine hK _ _ (G.refl _) ?_
     unfold asl
     exact hia
    ·obtain⟨d0,_,_⟩:=d
     change vals 0=_ at d0
     refine ahX.out ?_
     have hz:=uU HX5.out g
     obtain⟨z0,z1,z2,z3,z4,z5,z6,z7,z8,z9,z10,z11,z12,z13,z14⟩:=UM hz
     have fz:=fun i=>Lib.frozen_of_heap hz i
     simp only[It0,Vl0,St0]at z0 z1 z2 z3 z4 z5 z6 z7 z8 z9 z10 z11 z12 z13 z14
     refine⟨?_⟩
     refine afb rfl rfl fun K hK=>?_
     simp only[gFr,d0]at hK⊢
     simp only[It0,Vl0,St0]at hK⊢
     go_simp
     refine hK _ ?_ trivial
     rw[aiU hz]
     exact G.refl _
   ·intro vals W g d
    simp only[acS,ac1]at d
    obtain⟨d0,d1,d2,d3,d4,d5,d6,d7,d8,d9,d10,d11,d12,d13,_⟩:=d
    change vals 0=_ at d0
    change vals 1=_ at d1
    change vals 2=_ at d2
    change vals 3=_ at d3
    change vals 4=_ at d4
    change vals 5=_ at d5
    change vals 6=_ at d6
    change vals 7=_ at d7
    change vals 8=_ at d8
    change vals 9=_ at d9
    change vals 10=_ at d10
    change vals 11=_ at d11
    refine⟨?_⟩
    show wpList _ _ _ [_] _ _
    simp only[gFr,d0,d1,d2,d3,d4,d5,d6,d7,d8,d9,d10,d11]
    clear d0 d1 d2 d3 d4 d5 d6 d7 d8 d9 d10 d11
    have G8:=hid (GW8.out.trans g)
    have HX8:=hid (uU HX5.out g)
    clear g
    go_wp2_with fail
    exact ajH rfl rfl rfl rfl HX8.out ⟨_,rfl,afB.no HBAD.out ⟨_,.inr ⟨_,Nat.le_trans (amA l HQL.out) (Nat.le_refl _),d13⟩⟩,G8.out⟩
  |ok p=>
   obtain⟨e,d6⟩:=d6
   rw[hp]at d6
   obtain⟨pv,base,e6c,hbase,hown⟩:=d6
   have ez:vals 6=lnV p pv:=(ajn e6c).1
   obtain⟨x,d7⟩:=d7
   rw[hp]at d7
   obtain⟨pv2,_,e7c,_,_⟩:=d7
   have e7:vals 7=.nilIface:=(ajn e7c).2
   unfold lnV at ez
   rw[ez]at e6
   simp only[Value.agg.injEq,Array.mk.injEq,List.cons.injEq,and_true]at e6
   obtain⟨rfl,rfl,rfl,rfl⟩:=e6
   have HOW:=hid hown
   have HBS:=hid (show w.heap.size+2≤base by omega)
   have HOKP:=hid hp
   obtain⟨pa,pc,rfl⟩:=hown.len
   have hps:=ahK hp
   unfold ap9 at hps
   have hvl:p.value.length≤l.text.length:=by omega
   have TY:=hid (fun W' (g:G W W')=>TYG.out p (.slice pa p.hd.params.length pc) W' (GW.out.trans g) hp (hown.grow g).params)
   obtain⟨kd,hkd⟩:∃kd,typeOf (acX (UG ver) (Eg p.hd.name)).1 p.hd.params=kd:=⟨_,rfl⟩
   rw[hkd]at TY
   have HKD:=hid hkd
   have VR:=hid (fun W' (g:G W W')=>VRG.out p hp W' (GW.out.trans g))
   rw[show typeOf (acM ver p.hd.name).1 p.hd.params=kd from hkd]at VR
   clear hps hown hkd hp e6c e7c ez hbase x e
   refine⟨?_⟩
   show wpList _ _ _ [_] _ _
   simp only[gFr,e8,e7]
   clear e8 e7
   obtain⟨p0,p1,p2,p3⟩:=ahy HPL.out
   go_wp2_with fail
   refine(TY.out W (G.refl _)).use ?_
   intro w3 g3
   have GT:=hid g3
   clear p0 p1 p2 p3 g3
   obtain⟨p0,p1,p2,p3⟩:=ahy (uU HPL.out GT.out)
   go_wp2_with fail
   refine(VR.out w3 GT.out).use ?_
   rintro r w4 hr g4
   have G4:=hid (GT.out.trans g4)
   have HPW:=hid (fun (W':World) (g:G w4 W')=>uU HPL.out (G4.out.trans g))
   clear g4 p0 p1 p2 p3 VR TY
   cases hrv:ady p.value kd with
   |none=>
    rw[hrv]at hr
    obtain⟨e,rfl,he⟩:=hr
    have HBAD:=hid (show adG ver l.text=none by
     have e1:typeOf (acM ver p.hd.name).1 p.hd.params=kd:=HKD.out
     unfold adG;rw[HOKP.out];simp only;rw[e1,hrv])
    clear hrv
    obtain⟨c,hc,he⟩:=he
    have GA:=hid ((G.refl w4).alloc (.cells #[.int .i64 0,.string ⟨#[]⟩,.slice none 0 0,.int .i64 0,.int .i64 0,.int .i64 0,.int .i64 0,.int .i64 0,.int .i64 0,.bool false,.int .i64 0,.int .i64 0] 36))
    have GA2:=hid ((G.refl w4).alloc (.cells #[.int .i64 0,.string (S []),.slice none 0 0,.int .i64 0,.int .i64 0,.int .i64 0,.int .i64 0,.int .i64 0,.int .i64 0,.bool false,.int .i64 0,.int .i64 0] 36))
    obtain⟨p0,p1,p2,p3⟩:=ahy (HPW.out _ GA2.out)
    obtain⟨b0,b1,b2⟩:=auA (uU HB2.out (G4.out.trans GA2.out))
    have hsub:(p.value.length:Int)≤(l.text.length:Int):=by omega
    rcases he with rfl|⟨k,hk,hat⟩
    ·unfold Vl.v Vl0 St0
     clear hc
     go_upto_region 16 with fail
     generalize hw5:w4.alloc _=w5
     have G5:=hid (show G W w5 by rw[←hw5];exact G4.out.trans GA2.out)
     clear hw5 p0 p1 p2 p3 b0 b1 b2
     have HB5:=hid (uU HB2.out G5.out)
     have HX5:=hid (uU HX2.out G5.out)
     obtain⟨q,hq⟩:∃q:Nat,q=l.text.length-p.value.length:=⟨_,rfl⟩
     have hzq:(l.text.length:Int)-(p.value.length:Int)=(q:Int):=by omega
     have HQL:=hid (show q≤l.text.length by omega)
     have PL:=hid (fun W' (g:G w5 W')=>PLG.out q _ hzq W' (GW.out.trans (G5.out.trans g)) HQL.out)
     have TL:=hid (fun W' (g:G w5 W')=>agX c W' (HE.out.grow (GW.out.trans (G5.out.trans g))))
     have GW8:=hid (GW.out.trans G5.out)
     clear hq hzq
     refine wp_region_any (by kernel_rfl) ?_
     refine acJ (E:=#[false,false,false,false,false,false,false,false,false,false,false]) G 10 (ajo l fv (eno c) ((l.text.length:Int)-(p.value.length:Int)) c q) [some [],some [],some [(1,95)],some [],some [],some [(3,97),(4,98)],some [(2,96),(5,99)],some [(6,100)],some [(7,101)],some [(0,94),(0,94)],none] [(0,94),(1,95),(2,96),(3,97),(4,98),(5,99),(6,100),(7,101),(8,102)] _ (by kernel_rfl) (by decide) (by kernel_rfl) (by kernel_rfl) rfl G.refl (fun _ _ _=>G.trans) (w0:=w5) ((G.refl w5).drew) ?_ ?_ ?_
     ·intro k v W W' g h
      match k,h with
      |0,h=>exact h
      |1,h=>exact h
      |2,h=>exact h
      |3,h=>exact h
      |4,h=>exact h
      |5,h=>exact h
      |6,h=>exact h
      |7,h=>exact by obtain⟨b,h1,h2,h3,h4⟩:=h;exact⟨b,h1,Nat.lt_of_lt_of_le h2 g.size,by rw[g.cell h2];exact h3,by rw[g.cell h2];exact h4⟩
      |8,h=>exact UE.grow h g
      |9,h=>exact h
      |n+10,h=>trivial
     ·refine lW (fun vals W g d=>?_)<|lW (fun vals W g d=>?_)<|lW (fun vals W g d=>?_)<|lW (fun vals W g d=>?_)<|lW (fun vals W g d=>?_)<|lW (fun vals W g d=>?_)<|lW (fun vals W g d=>?_)<|lW (fun vals W g d=>?_)<|lW (fun vals W g d=>?_)<|lW (fun vals W g d=>?_)<|UB adJ
      ·refine nX rfl rfl rfl fun K hK=>?_
       simp only[gFr]at hK⊢
       go_simp
       exact hK _ _ (G.refl _) rfl
      ·refine nX rfl rfl rfl fun K hK=>?_
       simp only[gFr]at hK⊢
       go_simp
       exact hK _ _ (G.refl _) rfl
      ·obtain⟨d1,_⟩:=d
       change vals 1=_ at d1
       refine nX rfl rfl rfl fun K hK=>?_
       simp only[gFr,d1]at hK⊢
       go_simp
       refine(TL.out W g).use ?_
       intro W' hg
       exact hK _ _ hg rfl
      ·refine nX rfl rfl rfl fun K hK=>?_
       simp only[gFr]at hK⊢
       obtain⟨b0,b1,b2⟩:=auA (uU HB5.out g)
       go_simp
       exact hK _ _ (G.refl _) rfl
      ·refine nX rfl rfl rfl fun K hK=>?_
       simp only[gFr]at hK⊢
       go_simp
       exact hK _ _ (G.refl _) rfl
      ·obtain⟨d3,d4,_⟩:=d
       change vals 3=_ at d3
       change vals 4=_ at d4
       refine nX rfl rfl rfl fun K hK=>?_
       simp only[gFr,d3,d4]at hK⊢
       go_simp
       refine(PL.out W g).use ?_
       intro W' hg
       exact hK _ _ hg rfl
      ·obtain⟨d2,d5,_⟩:=d
       change vals 2=_ at d2
       change vals 5=_ at d5
       refine nX rfl rfl rfl fun K hK=>?_
       simp only[gFr,d2,d5]at hK⊢
       go_simp
       exact hK _ _ (G.refl _) rfl
      ·obtain⟨d6,_⟩:=d
       change vals 6=_ at d6
       refine nX rfl rfl rfl fun K hK=>?_
       simp only[gFr,d6]at hK⊢
       go_simp
       exact hK _ _ ((G.refl _).alloc _) ⟨W.heap.size,rfl,by simp,by rw[World.cell?_alloc_new];rfl,by rw[World.cell?_alloc_new];rfl⟩
      ·obtain⟨d7,_⟩:=d
       refine ahX.out ?_
       obtain⟨b,d7,h2,h3,h4⟩:=d7
       have hia:=(show UE W (.iface 80 (.pointer (some ⟨b,0,none⟩))) c ((ad4 l q:Nat):Int)from⟨b,rfl,h3,h4,h2⟩)
       refine⟨?_⟩
       refine nX rfl rfl rfl fun K hK=>?_
       simp only[gFr,d7]at hK⊢
       go_simp
       refine hK _ _ (G.refl _) ?_
       unfold ajo
       exact hia
      ·obtain⟨d0,_,_⟩:=d
       change vals 0=_ at d0
       refine ahX.out ?_
       have hz:=uU HX5.out g
       obtain⟨z0,z1,z2,z3,z4,z5,z6,z7,z8,z9,z10,z11,z12,z13,z14⟩:=UM hz
       have fz:=fun i=>Lib.frozen_of_heap hz i
       simp only[It0,Vl0,St0]at z0 z1 z2 z3 z4 z5 z6 z7 z8 z9 z10 z11 z12 z13 z14
       refine⟨?_⟩
       refine afb rfl rfl fun K hK=>?_
       simp only[gFr,d0]at hK⊢
       simp only[It0,Vl0,St0]at hK⊢
       go_simp
       refine hK _ ?_ trivial
       rw[aiU hz]
       exact G.refl _
     ·intro vals W g d
      simp only[acS,ac1]at d
      obtain⟨d0,d1,d2,d3,d4,d5,d6,d7,d8,_⟩:=d
      change vals 0=_ at d0
      change vals 1=_ at d1
      change vals 2=_ at d2
      change vals 3=_ at d3
      change vals 4=_ at d4
      change vals 5=_ at d5
      change vals 6=_ at d6
      refine⟨?_⟩
      show wpList _ _ _ [_] _ _
      simp only[gFr,d0,d1,d2,d3,d4,d5,d6]
      clear d0 d1 d2 d3 d4 d5 d6
      have G8:=hid (GW8.out.trans g)
      have HX8:=hid (uU HX5.out g)
      clear g
      go_wp2_with fail
      exact ajH rfl rfl rfl rfl HX8.out ⟨_,rfl,afB.no HBAD.out ⟨_,.inr ⟨_,Nat.le_trans (amA l HQL.out) (Nat.le_refl _),d8⟩⟩,G8.out⟩
    ·obtain⟨ab,rfl,_⟩:=id hat
     have HAT:=hid hat
     clear hc hat
     unfold Vl.v Vl0 St0
     obtain⟨a0,a1⟩:=atc (HAT.out.grow GA2.out)
     go_upto_region 16 with fail
     generalize hw5:w4.alloc _=w5
     have G5:=hid (show G W w5 by rw[←hw5];exact G4.out.trans GA2.out)
     have HA5:=hid (show UE w5 (.iface 80 (.pointer (some ⟨ab,0,none⟩))) c (k:Int) by rw[←hw5];exact HAT.out.grow GA2.out)
     clear hw5 p0 p1 p2 p3 b0 b1 b2 a0 a1
     have HB5:=hid (uU HB2.out G5.out)
     have HX5:=hid (uU HX2.out G5.out)
     obtain⟨q,hq⟩:∃q:Nat,q=l.text.length-p.value.length+k:=⟨_,rfl⟩
     have hzq:(l.text.length:Int)-(p.value.length:Int)+(k:Int)=(q:Int):=by omega
     have HQL:=hid (show q≤l.text.length by omega)
     have PL:=hid (fun W' (g:G w5 W')=>PLG.out q _ hzq W' (GW.out.trans (G5.out.trans g)) HQL.out)
     have TL:=hid (fun W' (g:G w5 W')=>alA c k _ W' (HE.out.grow (GW.out.trans (G5.out.trans g))) (HA5.out.grow g))
     have GW8:=hid (GW.out.trans G5.out)
     clear hq hzq
     refine wp_region_any (by kernel_rfl) ?_
     refine acJ (E:=#[false,false,false,false,false,false,false,false,false,false,false]) G 10 (ajo l fv (.iface 80 (.pointer (some ⟨ab,0,none⟩))) ((l.text.length:Int)-(p.value.length:Int)+(k:Int)) c q) [some [],some [],some [(1,95)],some [],some [],some [(3,97),(4,98)],some [(2,96),(5,99)],some [(6,100)],some [(7,101)],some [(0,94),(0,94)],none] [(0,94),(1,95),(2,96),(3,97),(4,98),(5,99),(6,100),(7,101),(8,102)] _ (by kernel_rfl) (by decide) (by kernel_rfl) (by kernel_rfl) rfl G.refl (fun _ _ _=>G.trans) (w0:=w5) ((G.refl w5).drew) ?_ ?_ ?_
     ·intro k v W W' g h
      match k,h with
      |0,h=>exact h
      |1,h=>exact h
      |2,h=>exact h
      |3,h=>exact h
      |4,h=>exact h
      |5,h=>exact h
      |6,h=>exact h
      |7,h=>exact by obtain⟨b,h1,h2,h3,h4⟩:=h;exact⟨b,h1,Nat.lt_of_lt_of_le h2 g.size,by rw[g.cell h2];exact h3,by rw[g.cell h2];exact h4⟩
      |8,h=>exact UE.grow h g
      |9,h=>exact h
      |n+10,h=>trivial
     ·refine lW (fun vals W g d=>?_)<|lW (fun vals W g d=>?_)<|lW (fun vals W g d=>?_)<|lW (fun vals W g d=>?_)<|lW (fun vals W g d=>?_)<|lW (fun vals W g d=>?_)<|lW (fun vals W g d=>?_)<|lW (fun vals W g d=>?_)<|lW (fun vals W g d=>?_)<|lW (fun vals W g d=>?_)<|UB adJ
      ·refine nX rfl rfl rfl fun K hK=>?_
       simp only[gFr]at hK⊢
       go_simp
       exact hK _ _ (G.refl _) rfl
      ·refine nX rfl rfl rfl fun K hK=>?_
       simp only[gFr]at hK⊢
       go_simp
       exact hK _ _ (G.refl _) rfl
      ·obtain⟨d1,_⟩:=d
       change vals 1=_ at d1
       refine nX rfl rfl rfl fun K hK=>?_
       simp only[gFr,d1]at hK⊢
       go_simp
       refine(TL.out W g).use ?_
       intro W' hg
       exact hK _ _ hg rfl
      ·refine nX rfl rfl rfl fun K hK=>?_
       simp only[gFr]at hK⊢
       obtain⟨b0,b1,b2⟩:=auA (uU HB5.out g)
       go_simp
       exact hK _ _ (G.refl _) rfl
      ·refine nX rfl rfl rfl fun K hK=>?_
       simp only[gFr]at hK⊢
       go_simp
       exact hK _ _ (G.refl _) rfl
      ·obtain⟨d3,d4,_⟩:=d
       change vals 3=_ at d3
       change vals 4=_ at d4
       refine nX rfl rfl rfl fun K hK=>?_
       simp only[gFr,d3,d4]at hK⊢
       go_simp
       refine(PL.out W g).use ?_
       intro W' hg
       exact hK _ _ hg rfl
      ·obtain⟨d2,d5,_⟩:=d
       change vals 2=_ at d2
       change vals 5=_ at d5
       refine nX rfl rfl rfl fun K hK=>?_
       simp only[gFr,d2,d5]at hK⊢
       go_simp
       exact hK _ _ (G.refl _) rfl
      ·obtain⟨d6,_⟩:=d
       change vals 6=_ at d6
       refine nX rfl rfl rfl fun K hK=>?_
       simp only[gFr,d6]at hK⊢
       go_simp
       exact hK _ _ ((G.refl _).alloc _) ⟨W.heap.size,rfl,by simp,by rw[World.cell?_alloc_new];rfl,by rw[World.cell?_alloc_new];rfl⟩
      ·obtain⟨d7,_⟩:=d
       refine ahX.out ?_
       obtain⟨b,d7,h2,h3,h4⟩:=d7
       have hia:=(show UE W (.iface 80 (.pointer (some ⟨b,0,none⟩))) c ((ad4 l q:Nat):Int)from⟨b,rfl,h3,h4,h2⟩)
       refine⟨?_⟩
       refine nX rfl rfl rfl fun K hK=>?_
       simp only[gFr,d7]at hK⊢
       go_simp
       refine hK _ _ (G.refl _) ?_
       unfold ajo
       exact hia
      ·obtain⟨d0,_,_⟩:=d
       change vals 0=_ at d0
       refine ahX.out ?_
       have hz:=uU HX5.out g
       obtain⟨z0,z1,z2,z3,z4,z5,z6,z7,z8,z9,z10,z11,z12,z13,z14⟩:=UM hz
       have fz:=fun i=>Lib.frozen_of_heap hz i
       simp only[It0,Vl0,St0]at z0 z1 z2 z3 z4 z5 z6 z7 z8 z9 z10 z11 z12 z13 z14
       refine⟨?_⟩
       refine afb rfl rfl fun K hK=>?_
       simp only[gFr,d0]at hK⊢
       simp only[It0,Vl0,St0]at hK⊢
       go_simp
       refine hK _ ?_ trivial
       rw[aiU hz]
       exact G.refl _
     ·intro vals W g d
      simp only[acS,ac1]at d
      obtain⟨d0,d1,d2,d3,d4,d5,d6,d7,d8,_⟩:=d
      change vals 0=_ at d0
      change vals 1=_ at d1
      change vals 2=_ at d2
      change vals 3=_ at d3
      change vals 4=_ at d4
      change vals 5=_ at d5
      change vals 6=_ at d6
      refine⟨?_⟩
      show wpList _ _ _ [_] _ _
      simp only[gFr,d0,d1,d2,d3,d4,d5,d6]
      clear d0 d1 d2 d3 d4 d5 d6
      have G8:=hid (GW8.out.trans g)
      have HX8:=hid (uU HX5.out g)
      clear g
      go_wp2_with fail
      exact ajH rfl rfl rfl rfl HX8.out ⟨_,rfl,afB.no HBAD.out ⟨_,.inr ⟨_,Nat.le_trans (amA l HQL.out) (Nat.le_refl _),d8⟩⟩,G8.out⟩
   |some y=>
    rw[hrv]at hr
    obtain⟨lv,base2,rfl,hb2,hol⟩:=hr
    obtain⟨la,lc,rfl⟩:=hol.len
    have HGOOD:=hid (show adG ver l.text=some ⟨p.hd.group,p.hd.name,p.hd.params,y⟩ by
     have e1:typeOf (acM ver p.hd.name).1 p.hd.params=kd:=HKD.out
     unfold adG;rw[HOKP.out];simp only;rw[e1,hrv])
    have HOL:=hid hol
    clear hrv hol
    have GA:=hid ((G.refl w4).alloc (.cells #[.int .i64 y.ty,.string (S y.tx),.slice la y.ps.length lc,.int .i64 y.st.y,.int .i64 y.st.m,.int .i64 y.st.d,.int .i64 y.st.h,.int .i64 y.st.n,.int .i64 y.st.s,.bool y.st.zd,.int .i64 y.st.zn,.int .i64 y.n] 36))
    obtain⟨p0,p1,p2,p3⟩:=ahy (HPW.out _ GA.out)
    have HXA:=hid (uU HX2.out (G4.out.trans GA.out))
    obtain⟨c0,c1,c2,c3,c4,c5,c6,c7,c8,c9,c10,c11,c12,c13,c14⟩:=UM HXA.out
    have fx:=fun i=>Lib.frozen_of_heap HXA.out i
    have hb1':=HBS.out
    have hb2':w.heap.size+2≤base2:=by have:=GW.out.size;have:=GT.out.size;have:=UI HX2.out;omega
    unfold Vl.v
    go_wp2_with fail
    refine ajH (y:=⟨p.hd.group,p.hd.name,p.hd.params,y⟩) (pv:=.slice pa p.hd.params.length pc) (lv:=.slice la y.ps.length lc) rfl rfl rfl rfl ?_ ?_
    ·exact axV HXA.out _ _ _ _ _ _ _ _ _ _ _ _ _ _ _
    refine⟨_,rfl,afB.yes (b1:=base) (b2:=base2) HGOOD.out (by omega) (by omega) ?_ ?_,g15 (by omega) (GW.out.trans (G4.out.trans GA.out)) _ _ _ _ _ _ _ _ _ _ _ _ _ _ _⟩
    ·exact((HOW.out.grow G4.out).grow GA.out).kept (ayV _ _ _ _ _ _ _ _ _ _ _ _ _ _ _ _ _) (by omega)
    ·exact(HOL.out.grow GA.out).kept (ayV _ _ _ _ _ _ _ _ _ _ _ _ _ _ _ _ _) (by omega)
end Go.Proofs.YtmffejnigppbpaaGreatDoor
