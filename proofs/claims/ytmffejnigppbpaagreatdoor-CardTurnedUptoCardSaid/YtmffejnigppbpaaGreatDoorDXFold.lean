/-
 CONTRACT of fold.Lines: for all texts of at most 20000 bytes.
-/
import Derived.Test.YtmffejnigppbpaaGreatDoorDXMA64
import Derived.Test.YtmffejnigppbpaaGreatDoorDXMA71
import Derived.Test.YtmffejnigppbpaaGreatDoorDXMA59
import Derived.Test.YtmffejnigppbpaaGreatDoorDXMA67
import Derived.Deep.AppendLies
import Derived.Deep.RegionLaw
set_option linter.unusedVariables false
set_option linter.unusedSimpArgs false
set_option maxHeartbeats 4000000
set_option maxRecDepth 100000
namespace Go.Proofs.YtmffejnigppbpaaGreatDoor
open Go.RowKit
theorem atj:(Tryz.prog.info? 205).map (fun i=>(i.zero,i.size,i.bytes))=some (some (.agg #[.string ⟨#[]⟩,.int .i64 0,.slice none 0 0]),3,48):=by kernel_rfl
theorem aye(b j:Nat):(⟨b,0,none⟩:Addr).add j=⟨b,j,none⟩:=by unfold Addr.add;split<;>simp_all
theorem au1(w:World)(v:Value)(e:TypeId):∀(j:Nat) (u:Value),[v][j]?=some u→(w.alloc (.cells #[v] e)).cell? ((⟨w.heap.size,0,none⟩:Addr).add j)=some u:=by
 intro j u hj
 rw[aye]
 match j,hj with
 |0,hj=>simp at hj;subst hj;simp
theorem au2(k:IntKind)(n:Int):∀u∈[Value.int k n],u.oneCell'=true:=by intro u hu;simp at hu;subst hu;rfl
theorem ast{w:World}{b:Nat}{o:Obj}(h:w.heap[b]?=some o):b<w.heap.size:=by
 rcases Nat.lt_or_ge b w.heap.size with h'|h'
 ·exact h'
 ·rw[Array.getElem?_eq_none h']at h;cases h
theorem apO{w w':World}{b:Nat}(h:b<w.heap.size)(hb:w'.heap[b]?=w.heap[b]?):b<w'.heap.size:=by
 rw[Array.getElem?_eq_getElem h]at hb
 exact ast hb
theorem adh.kept{w w':World}{v:Value}{xs:List Int}(h:adh w v xs)(hb:∀k,k<w.heap.size→v.ownBlock=some k→w'.heap[k]?=w.heap[k]?):adh w' v xs:=by
 rcases h with h|⟨b,cap,rfl,h2,h4,h3⟩
 ·exact Or.inl h
 ·have e:=hb b h2 rfl
  refine Or.inr ⟨b,cap,rfl,apO h2 e,h4,fun j hj=>?_⟩
  rw[World.cell?_of_block (w:=w) e];exact h3 j hj
theorem aeL{w w':World}{base:Nat}{e:TypeId}{size:Nat}{v:Value}{n:Nat}{xs:List Value}(h:w.ownsRow base e size v n xs)(hb:∀k,k<w.heap.size→v.ownBlock=some k→w'.heap[k]?=w.heap[k]?):w'.ownsRow base e size v n xs:=by
 refine⟨h.1,?_⟩
 rcases h.2 with hn|⟨g,cap,cur,rfl,hbg,hgg,rest⟩
 ·exact .inl hn
 ·exact .inr ⟨g,cap,cur,rfl,hbg,by rw[hb g (ast hgg) rfl];exact hgg,rest⟩
def acO(l:FLn)(fv:Value):List Value:=[.string (S l.text),.int .i64 l.pos,fv]
def aef(ls:List (FLn×Value)):List Value:=ls.flatMap fun p=>acO p.1 p.2
theorem aos(ls:List (FLn×Value)):(aef ls).length=ls.length*3:=by
 unfold aef
 induction ls with
 |nil=>rfl
 |cons a ls ih=>rw[List.flatMap_cons,List.length_append,ih];simp[acO];omega
theorem ag4(a b:List (FLn×Value)):aef (a++b)=aef a++aef b:=by simp[aef]
theorem ah7(l:FLn)(fv:Value):aef [(l,fv)]=acO l fv:=by simp[aef]
theorem anN{ls:List (FLn×Value)}{i:Nat}{p:FLn×Value}(h:ls[i]?=some p):(aef ls)[3*i]?=some (.string (S p.1.text))∧(aef ls)[3*i+1]?=some (.int .i64 p.1.pos)∧(aef ls)[3*i+2]?=some p.2:=by
 induction ls generalizing i with
 |nil=>simp at h
 |cons a ls ih=>
  have e:aef (a::ls)=acO a.1 a.2++aef ls:=by simp[aef]
  cases i with
  |zero=>simp at h;subst h;rw[e];simp[acO]
  |succ i=>
   have:=ih (i:=i) (by simpa using h)
   rw[e]
   have e1:3*(i+1)=3+3*i:=by omega
   have e2:3*(i+1)+1=3+(3*i+1):=by omega
   have e3:3*(i+1)+2=3+(3*i+2):=by omega
   refine⟨?_,?_,?_⟩
   ·rw[e1,List.getElem?_append_right (by simp[acO])];simpa[acO]using this.1
   ·rw[e2,List.getElem?_append_right (by simp[acO])];simpa[acO]using this.2.1
   ·rw[e3,List.getElem?_append_right (by simp[acO])];simpa[acO]using this.2.2
def adX(l:List Nat):List Int:=l.map Int.ofNat
def adk(w0 w:World)(v:Value)(ls:List FLn):Prop:=
 (ls=[]∧v=.slice none 0 0) ∨
 ∃(done:List (FLn×Value)) (l:FLn) (fv:Value),ls=done.map (·.1)++[l]∧w.ownsRow w0.heap.size 205 3 v (done.length+1) (aef (done++[(l,fv)]))
  ∧ w.ownsRow w0.heap.size 3 1 fv l.folds.length ((adX l.folds).map (Value.int .i64))∧(l.folds=[]→fv=.slice none 0 0)
  ∧ (fv.ownBlock=none∨fv.ownBlock≠v.ownBlock)
  ∧ (∀d∈done,adh w d.2 (adX d.1.folds)∧(d.2.ownBlock=none∨(d.2.ownBlock≠v.ownBlock∧d.2.ownBlock≠fv.ownBlock)))
def aeM(w:World)(v:Value)(ls:List FLn):Prop:=
 (ls=[]∧v=.slice none 0 0) ∨
 ∃b cap,v=.slice (some ⟨b,0,none⟩) ls.length cap∧b<w.heap.size∧ls≠[]∧∀(i:Nat) (l:FLn),ls[i]?=some l→w.cell? ⟨b,3*i,none⟩=some (.string (S l.text))∧w.cell? ⟨b,3*i+1,none⟩=some (.int .i64 l.pos)∧∃fv,w.cell? ⟨b,3*i+2,none⟩=some fv∧adh w fv (adX l.folds)
theorem aeM.grow{w w':World}{v:Value}{ls:List FLn}(h:aeM w v ls)(g:G w w'):aeM w' v ls:=by
 rcases h with h|⟨b,cap,h1,h2,h3,h4⟩
 ·exact .inl h
 ·refine .inr ⟨b,cap,h1,Nat.lt_of_lt_of_le h2 g.size,h3,fun i l hl=>?_⟩
  obtain⟨c1,c2,fv,c3,c4⟩:=h4 i l hl
  exact⟨by rw[g.cell h2];exact c1,by rw[g.cell h2];exact c2,fv,by rw[g.cell h2];exact c3,c4.grow g⟩
theorem aeM.len{w:World}{v:Value}{ls:List FLn}(h:aeM w v ls):∃a cap,v=.slice a ls.length cap:=by
 rcases h with⟨rfl,rfl⟩|⟨b,cap,rfl,_⟩
 ·exact⟨_,_,rfl⟩
 ·exact⟨_,_,rfl⟩
theorem adk.lines{w0 w:World}{v:Value}{ls:List FLn}(h:adk w0 w v ls):aeM w v ls:=by
 rcases h with h|⟨done,l,fv,rfl,h1,h2,h3,h4,h5⟩
 ·exact .inl h
 ·right
  obtain⟨g,cap,rfl,hb,hlt⟩:=h1.form (by omega)
  have hf:adh w fv (adX l.folds):=by
   by_cases hx:adX l.folds=[]
   ·have:l.folds=[]:=by simpa[adX]using hx
    exact Or.inl ⟨h3 this,hx⟩
   ·refine adh.own (w:=w0) (by simpa[adX]using h2) (fun h=>absurd h hx)
  refine⟨g,cap,by simp,hlt,by simp,fun i l' hl=>?_⟩
  have hi:i<done.length+1:=by
   rcases Nat.lt_or_ge i (done.length+1)with h|h
   ·exact h
   ·rw[List.getElem?_eq_none (by simpa using h)]at hl;cases hl
  have hp:∃fv',(done++[(l,fv)])[i]?=some (l',fv')∧adh w fv' (adX l'.folds):=by
   by_cases hid:i<done.length
   ·rw[List.getElem?_append_left (by simpa using hid),List.getElem?_map,List.getElem?_eq_getElem hid]at hl
    simp at hl
    refine⟨done[i].2,?_,?_⟩
    ·rw[List.getElem?_append_left hid,List.getElem?_eq_getElem hid,←hl]
    ·rw[←hl];exact(h5 _ (List.getElem_mem hid)).1
   ·obtain rfl:i=done.length:=by omega
    rw[List.getElem?_append_right (by simp)]at hl
    simp at hl
    subst hl
    exact⟨fv,by simp,hf⟩
  obtain⟨fv',hp1,hp2⟩:=hp
  obtain⟨c1,c2,c3⟩:=anN hp1
  have hc:=fun j (hj:j<(done.length+1)*3)=>h1.cellAt j hj
  exact⟨by rw[hc _ (by omega)];exact c1,by rw[hc _ (by omega)];exact c2,fv',by rw[hc _ (by omega)];exact c3,hp2⟩
theorem adk.keep{w0 w w':World}{v:Value}{ls:List FLn}(h:adk w0 w v ls)(hb:∀k,k<w.heap.size→w'.heap[k]?=w.heap[k]?):adk w0 w' v ls:=by
 rcases h with h|⟨done,l,fv,h0,h1,h2,h3,h4,h5⟩
 ·exact .inl h
 ·exact .inr ⟨done,l,fv,h0,aeL h1 fun k hk _=>hb k hk,aeL h2 fun k hk _=>hb k hk,h3,h4,fun d hd=>⟨(h5 d hd).1.kept fun k hk _=>hb k hk,(h5 d hd).2⟩⟩
theorem adk.pushes{w0 w:World}{v:Value}{ls:List FLn}(h:adk w0 w v ls):∃xs,w.ownsRow w0.heap.size 205 3 v ls.length xs∧∀(l:FLn) (g cap:Nat) (w':World),l.folds=[] →
  w'.ownsRow w0.heap.size 205 3 (.slice (some ⟨g,0,none⟩) (ls.length+1) cap) (ls.length+1) (xs++acO l (.slice none 0 0))→(∀k,k<w.heap.size→some k≠v.ownBlock→w'.heap[k]?=w.heap[k]?)→(v.ownBlock=some g∨w.heap.size≤g) →
  adk w0 w' (.slice (some ⟨g,0,none⟩) (ls.length+1) cap) (ls++[l]):=by
 rcases h with⟨rfl,rfl⟩|⟨done,l0,fv,rfl,h1,h2,h3,h4,h5⟩
 ·refine⟨[],World.ownsRow_nil _ _ _ _,fun l g cap w' hl ho hk hat=>.inr ⟨[],l,.slice none 0 0,by simp,by simpa[ah7]using ho,?_,fun _=>rfl,.inl rfl,by simp⟩⟩
  rw[hl];exact World.ownsRow_nil _ _ _ _
 ·refine⟨aef (done++[(l0,fv)]),by simpa using h1,fun l g cap w' hl ho hk hat=>.inr ⟨done++[(l0,fv)],l,.slice none 0 0,by simp,?_,?_,fun _=>rfl,.inl rfl,?_⟩⟩
  ·rw[ag4 (done++[(l0,fv)]),ah7];simpa using ho
  ·rw[hl];exact World.ownsRow_nil _ _ _ _
  ·have hg:∀u:Value,(u.ownBlock=none∨u.ownBlock≠v.ownBlock)→(∀k,u.ownBlock=some k→k<w.heap.size)→u.ownBlock=none∨(u.ownBlock≠some g∧u.ownBlock≠none):=by
    intro u hu hlt
    cases e:u.ownBlock with
    |none=>exact .inl rfl
    |some k=>
     right
     refine⟨fun e2=>?_,by simp⟩
     injection e2 with e2
     subst e2
     rcases hat with hat|hat
     ·rcases hu with hu|hu
      ·rw[e]at hu;cases hu
      ·exact hu (by rw[e,hat])
     ·have:=hlt k e;omega
   intro d hd
   rcases List.mem_append.1 hd with hd|hd
   ·obtain⟨i1,i2⟩:=h5 d hd
    have hne:d.2.ownBlock=none∨d.2.ownBlock≠v.ownBlock:=by rcases i2 with i2|i2;exact .inl i2;exact .inr i2.1
    refine⟨i1.kept fun k hk2 hk3=>hk k hk2 (by rcases hne with h|h;rw[h]at hk3;cases hk3;rw[←hk3];exact h),hg d.2 hne fun k hk2=>?_⟩
    rcases i1 with⟨e,_⟩|⟨b,c,e,hb,_⟩
    ·rw[e]at hk2;cases hk2
    ·rw[e]at hk2;simp[Value.ownBlock]at hk2;omega
   ·have:d=(l0,fv):=List.mem_singleton.1 hd
    subst this
    refine⟨?_,hg fv h4 fun k hk2=>(h2.lt k hk2).2⟩
    have hf:adh w fv (adX l0.folds):=by
     by_cases hx:adX l0.folds=[]
     ·have:l0.folds=[]:=by simpa[adX]using hx
      exact Or.inl ⟨h3 this,hx⟩
     ·refine adh.own (w:=w0) (by simpa[adX]using h2) (fun h=>absurd h hx)
    exact hf.kept fun k hk2 hk3=>hk k hk2 (by rcases h4 with h|h;rw[h]at hk3;cases hk3;rw[←hk3];exact h)
theorem arb(done:List (FLn×Value))(l l':FLn)(fv u:Value)(hp:l'.pos=l.pos) :
  ((aef (done++[(l,fv)])).set (3*done.length+2) u).set (3*done.length) (.string (S l'.text))=aef (done++[(l',u)]):=by
 rw[ag4,ag4,ah7,ah7]
 have e:(aef done).length=3*done.length:=by rw[aos];omega
 rw[List.set_append_right _ _ (by omega),List.set_append_right _ _ (by omega),e]
 have e2:3*done.length+2-3*done.length=2:=by omega
 rw[e2,Nat.sub_self]
 simp[acO,hp]
theorem adk.folded{w0 w:World}{v:Value}{init:List FLn}{l:FLn}(h:adk w0 w v (init++[l])):∃q cap fv,v=.slice (some ⟨q,0,none⟩) (init.length+1) cap∧w0.heap.size≤q∧q<w.heap.size
  ∧ w.cell? ⟨q,init.length*3,none⟩=some (.string (S l.text))∧w.cell? ⟨q,init.length*3+1,none⟩=some (.int .i64 l.pos)∧w.cell? ⟨q,init.length*3+2,none⟩=some fv∧(∀j,w.frozen? ⟨q,j,none⟩=false)
  ∧ w.ownsRow w0.heap.size 3 1 fv l.folds.length ((adX l.folds).map (Value.int .i64))∧fv.ownBlock≠some q
  ∧ ∀(g fcap m:Nat) (w':World) (s':List UInt8),w'.ownsRow w0.heap.size 3 1 (.slice (some ⟨g,0,none⟩) (l.folds.length+1) fcap) (l.folds.length+1) ((adX l.folds).map (Value.int .i64)++[.int .i64 m]) →
   (∀k,k<w.heap.size→some k≠fv.ownBlock→w'.heap[k]?=w.heap[k]?)→(fv.ownBlock=some g∨w.heap.size≤g) →
   adk w0 ((w'.setCell ⟨q,init.length*3+2,none⟩ (.slice (some ⟨g,0,none⟩) (l.folds.length+1) fcap)).setCell ⟨q,init.length*3,none⟩ (.string (S s'))) v (init++[⟨s',l.pos,l.folds++[m]⟩]):=by
 rcases h with⟨h,_⟩|⟨done,l0,fv,he,h1,h2,h3,h4,h5⟩
 ·simp at h
 ·obtain⟨rfl,hl⟩:=List.append_inj' he (by simp)
  simp at hl
  subst hl
  obtain⟨q,cap,rfl,hb,hlt⟩:=h1.form (by omega)
  have hc:=fun j (hj:j<(done.length+1)*3)=>h1.cellAt j hj
  obtain⟨c1,c2,c3⟩:=anN (ls:=done++[(l,fv)]) (i:=done.length) (p:=(l,fv)) (by simp)
  have hfq:fv.ownBlock≠some q:=by
   rcases h4 with h4|h4
   ·rw[h4];simp
   ·exact h4
  rw[List.length_map,Nat.mul_comm done.length 3]
  refine⟨q,cap,fv,rfl,hb,hlt,by rw[hc _ (by omega)];exact c1,by rw[hc _ (by omega)];exact c2,by rw[hc _ (by omega)];exact c3,fun j=>h1.frozenAt j,h2,hfq,fun g fcap m w' s' ho hk hat=>.inr ⟨done,⟨s',l.pos,l.folds++[m]⟩,.slice (some ⟨g,0,none⟩) (l.folds.length+1) fcap,by simp,?_,?_,by simp,?_,?_⟩⟩
  ·have r1:=aeL h1 (w':=w') (fun k hk1 hk2=>hk k hk1 (by rw[←hk2];exact fun e=>hfq e.symm))
   have r2:=(r1.stored (3*done.length+2) (.slice (some ⟨g,0,none⟩) (l.folds.length+1) fcap)).1
   have r3:=(r2.stored (3*done.length) (.string (S s'))).1
   rw[arb done l ⟨s',l.pos,l.folds++[m]⟩ fv _ rfl]at r3
   exact r3
  ·have hgq:g≠q:=by
    rintro rfl
    rcases hat with hat|hat
    ·exact hfq hat
    ·omega
   have r:=aeL ho (w':=(w'.setCell ⟨q,3*done.length+2,none⟩ (.slice (some ⟨g,0,none⟩) (l.folds.length+1) fcap)).setCell ⟨q,3*done.length,none⟩ (.string (S s'))) (fun k hk1 hk2=>by
    have:k=g:=by simpa[Value.ownBlock]using hk2.symm
    subst this
    rw[Below.heap_setCell _ _ _ _ (by simpa using hgq),Below.heap_setCell _ _ _ _ (by simpa using hgq)])
   simpa[adX]using r
  ·right
   intro e
   have e2:g=q:=by simpa[Value.ownBlock]using e
   subst e2
   rcases hat with hat|hat
   ·exact hfq hat
   ·omega
  ·intro d hd
   obtain⟨i1,i2⟩:=h5 d hd
   have hlt2:∀k,d.2.ownBlock=some k→k<w.heap.size:=fun k hk2=>by
    rcases i1 with⟨e,_⟩|⟨b,c,e,hb,_⟩
    ·rw[e]at hk2;cases hk2
    ·rw[e]at hk2;simp[Value.ownBlock]at hk2;omega
   refine⟨i1.kept fun k hk1 hk2=>?_,?_⟩
   ·rcases i2 with i2|i2
    ·rw[i2]at hk2;cases hk2
    ·have hkq:k≠q:=by rintro rfl;exact i2.1 hk2
     rw[Below.heap_setCell _ _ _ _ (by simpa using hkq),Below.heap_setCell _ _ _ _ (by simpa using hkq)]
     exact hk k hk1 (by rw[←hk2];exact i2.2)
   ·rcases i2 with i2|i2
    ·exact .inl i2
    ·refine .inr ⟨i2.1,fun e=>?_⟩
     have e':d.2.ownBlock=some g:=e
     rcases hat with hat|hat
     ·exact i2.2 (by rw[e',hat])
     ·have:=hlt2 g e';omega
def ah8(r:ahD)(v:Value)(w':World):Prop:=
 match r with
 |.good ls=>∃s,v=.tuple #[s,.nilIface]∧aeM w' s ls
 |.bad c p=>∃e,v=.tuple #[.slice none 0 0,e]∧UE w' e c p
theorem ah8.good{r:ahD}{ls:List FLn}{s:Value}{w':World}(h:r=.good ls)(hs:aeM w' s ls):ah8 r (.tuple #[s,.nilIface]) w':=by subst h;exact⟨s,rfl,hs⟩
theorem ah8.bad{r:ahD}{c:Int}{p:Nat}{e:Value}{w':World}(h:r=.bad c p)(he:UE w' e c p):ah8 r (.tuple #[.slice none 0 0,e]) w':=by subst h;exact⟨e,rfl,he⟩
def au3(t:List UInt8)(w wr:World)(k:Nat)(v:Value)(out:List FLn):Prop:=
 k≤t.length∧Us t 0 []=Us (t.drop k) k out∧adk w wr v out∧G w wr∧out.length≤k∧∀l∈out,l.folds.length≤k∧l.text.length≤1500
theorem aot(l:List UInt8):Lib.indexAny l [13,10]=if aeO l=l.length then -1 else(aeO l:Int):=by
 have hc:∀c:UInt8,[13,10].contains c=nlB c:=fun c=>of_decide_eq_true (aei (fun c=>decide (([13,10]:List UInt8).contains c=nlB c)) (by decide +kernel) c)
 by_cases h:aeO l=l.length
 ·rw[if_pos h]
  refine ag0 fun c hm=>?_
  rw[hc]
  have:=List.findIdx_eq_length.1 h
  exact by simpa using this c hm
 ·rw[if_neg h]
  have hle:=ajB l
  refine ajk (by omega) (fun i hi=>?_) ?_
  ·rw[hc];exact akP hi
  ·rw[hc];exact awF (by omega)
theorem amd:adO [13,10]:=by intro c hc;simp at hc;rcases hc with rfl|rfl<;>decide
theorem ame(l:List UInt8)(v:Int)(w:World)(hl:l.length≤1000000)(h:Lib.indexAny l [13,10]=v):Um 88 #[.string (S l),.string (S [13,10])] w (.int .i64 v):=by
 subst h;exact ajj l [13,10] w hl (by simp) (by simp) amd
def af8(r:ahD)(v:Value)(w':World):Prop:=
 match r with
 |.good ls=>∃s,v=.tuple #[s,.nilIface]∧aeM w' s ls∧(∀a n c,s=.slice a n c→n≤c)
 |.bad c p=>∃e,v=.tuple #[.slice none 0 0,e]∧UE w' e c p
theorem adk.cap{w0 w:World}{v:Value}{ls:List FLn}(h:adk w0 w v ls):∀a n c,v=.slice a n c→n≤c:=by
 intro a n c e
 rcases h with⟨_,rfl⟩|⟨done,l,fv,_,h1,_⟩
 ·cases e;exact Nat.le_refl _
 ·rcases h1.2 with⟨e2,_⟩|⟨g,cap,cur,e2,_,_,hn,_⟩
  ·rw[e2]at e;cases e;exact Nat.le_refl _
  ·rw[e2]at e;cases e;exact hn
theorem af8.good{r:ahD}{ls:List FLn}{s:Value}{w' w0:World}(h:r=.good ls)(hs:adk w0 w' s ls):af8 r (.tuple #[s,.nilIface]) w':=by subst h;exact⟨s,rfl,hs.lines,hs.cap⟩
theorem af8.bad{r:ahD}{c:Int}{p:Nat}{e:Value}{w':World}(h:r=.bad c p)(he:UE w' e c p):af8 r (.tuple #[.slice none 0 0,e]) w':=by subst h;exact⟨e,rfl,he⟩
theorem atl(t:List UInt8)(w:World)(ht:t.length≤20000):Uz 106 #[.string (S t)] w (af8 (Us t 0 [])):=by
 obtain⟨i0,hi,hz0,hz1,hz2⟩:=info_parts atj
 have hb20:decide (20000<(t.length:Int))=false:=decide_eq_false (by omega)
 go_enter Tryz.func106,Tryz.ntmps106
 go_wp2
 go_loopw [4,5] (fun v i wr=>∃k out,i=.int .i64 (k:Nat)∧au3 t w wr k v out) (fun _ i _=>t.length-(intOf i).toNat)
 case atStart=>exact⟨0,[],rfl,Nat.zero_le _,by simp,.inl ⟨rfl,rfl⟩,G.refl _,by simp,by simp⟩
 case round=>
  obtain⟨k,out,rfl,hk,hgo,hown,hg,hlen,hall⟩:=hrel
  have HGO:=hid hgo
  have HALL:=hid hall
  have HOWN:=hid hown
  have HG:=hid hg
  clear hgo hall hown hg
  by_cases hlt:k<t.length
  ·obtain⟨r,hr⟩:∃r,t.drop k=r:=⟨_,rfl⟩
   have hrl:r.length=t.length-k:=by rw[←hr];simp
   have hne:r≠[]:=by intro e;rw[e]at hrl;simp at hrl;omega
   obtain⟨n,hn⟩:∃n,aeO r=n:=⟨_,rfl⟩
   have hnle:n≤r.length:=by rw[←hn];exact ajB r
   by_cases ha:n=r.length
   ·have hx:Hid (Lib.indexAny r [13,10] = -1):=hid (by rw[aot,if_pos (by omega)])
    have HR:Hid (Us t 0 []=.bad 7 (t.length:Nat)):=hid (by
     rw[HGO.out,hr,Us,dif_neg hne,if_pos (by omega)]
     congr 1;omega)
    clear hn hne
    go_wp2_with fail
    refine(ame r (-1) _ (by omega) hx.out).use ?_;intro w1 g1
    go_wp2_with fail
    go_ret2
    exact⟨_,rfl,af8.bad HR.out (UE.new _ _ _ _),(HG.out.trans g1).alloc _⟩
   have hx:Hid (Lib.indexAny r [13,10]=(n:Int)):=hid (by rw[aot,if_neg (by omega),hn])
   cases hp:alq (r.drop n) [13,10]with
   |false=>
    have HR:Hid (Us t 0 []=.bad 3 (k+n:Nat)):=hid (by
     rw[HGO.out,hr,Us,dif_neg hne,if_neg (by omega),hn,if_pos hp])
    have hd:t.drop (k+n)=r.drop n:=by rw[←hr,List.drop_drop]
    have Hp:=hid hp
    clear hn hne hp
    go_wp2_with fail
    refine(ame r n _ (by omega) hx.out).use ?_;intro w1 g1
    go_wp2_with fail
    refine(aeX (r.drop n) [13,10] _).use ?_
    rw[Hp.out]
    go_wp2_with fail
    go_ret2
    exact⟨_,rfl,af8.bad HR.out (UE.new _ _ _ _),(HG.out.trans g1).alloc _⟩
   |true=>
    have hn2:=asH hp
    simp at hn2
    obtain⟨p,hpp⟩:∃p,r.take n=p:=⟨_,rfl⟩
    have hpl:p.length=n:=by rw[←hpp];simp;omega
    have hsl:(t.take (k+n)).drop k=p:=by rw[←hpp,←hr,List.drop_take];congr 1;omega
    have hd:t.drop (k+n)=r.drop n:=by rw[←hr,List.drop_drop]
    have HR:Hid (Us t 0 []=match acU p k out with|.bad c q=>.bad c q|.good out'=>Us (t.drop (k+n+2)) (k+n+2) out'):=hid (by
     rw[HGO.out,hr,Us,dif_neg hne,if_neg (by omega),hn,if_neg (by simp[hp]),hpp]
     have:r.drop (n+2)=t.drop (k+n+2):=by rw[←hr,List.drop_drop];congr 1
     rw[this]
     cases acU p k out<;>rfl)
    have Hp:=hid hp
    have hb1:k+n+2≤t.length:=by omega
    have hr1:r.length≤20000:=by omega
    have HPL:=hid hpl
    have hp1:p.length≤20000:=by omega
    clear hn hne hp hpp hrl hn2 hpl hnle ha
    cases hbl:ae3 p with
    |false=>
     obtain⟨xs,hrow,hpush⟩:=HOWN.out.pushes
     have HPUSH:=hid hpush
     have HADD:Hid (acU p k out=if 1500<p.length then .bad 4 k else .good (out++[⟨p,k,[]⟩])):=hid (by unfold acU;rw[if_neg (by simp[hbl])])
     clear hpush
     have hrowl:xs.length=out.length*3:=hrow.1
     rcases p with _|⟨c,p'⟩
     ·have HHH:True:=trivial
      go_wp2_with fail
      refine(ame r n _ (by omega) hx.out).use ?_;intro w1 g1
      go_wp2_with fail
      refine(aeX (r.drop n) [13,10] _).use ?_
      rw[Hp.out]
      have hrow1:Hid (w1.ownsRow w.heap.size 205 3 _ out.length xs):=hid (aeL hrow fun k hk _=>g1.below.block k hk)
      clear hrow
      have G1:Hid (G w w1):=hid (HG.out.trans g1)
      have G01:=hid g1
      have hw1:w.heap.size≤w1.heap.size:=G1.out.size
      clear g1
      go_wp2_with (at_builtin;refine wpList_append_lies _ rfl _ _ 146 rfl w.heap.size 205 i0 _ 3 48 Tryz.underlying146 hi hz0 hz1 hz2 rfl (by decide) _ _ _ rfl (hrow1.out.alloc _) ⟨w1.heap.size,0,none⟩ 1 1 (acO ⟨[],k,[]⟩ (.slice none 0 0)) rfl rfl ?c1 ?c2 (by omega) ?c3 ?c4 ?c5 _ rfl ?_)
      case c1=>
       intro j u hj
       rw[aye]
       match j,hj with
       |0,hj=>simp[acO]at hj;subst hj;simp
       |1,hj=>simp[acO]at hj;subst hj;simp
       |2,hj=>simp[acO]at hj;subst hj;simp
      case c2=>intro u hu;simp[acO]at hu;rcases hu with rfl|rfl|rfl<;>rfl
      case c3=>unfold maxLen;omega
      case c4=>omega
      case c5=>simp;omega
      intro g cap w2 hown2 hgrow hat hlt2
      have hca:=fun j (hj:j<(out.length+1)*3)=>hown2.cellAt j hj
      have d0:w2.cell? ⟨g,out.length*3,none⟩=some (.string (S ([]))):=by rw[hca _ (by omega),List.getElem?_append_right (by omega),hrowl];simp[acO]
      have d1:w2.cell? ⟨g,out.length*3+1,none⟩=some (.int .i64 k):=by rw[hca _ (by omega),List.getElem?_append_right (by omega),hrowl];simp[acO]
      have d2:w2.cell? ⟨g,out.length*3+2,none⟩=some (.slice none 0 0):=by rw[hca _ (by omega),List.getElem?_append_right (by omega),hrowl];simp[acO]
      have HOL:Hid (adk w w2 (.slice (some ⟨g,0,none⟩) (out.length+1) cap) (out++[⟨[],k,[]⟩])):=hid (by
       refine HPUSH.out _ g cap w2 rfl hown2 ?_ ?_
       ·intro j hj hne
        have e1:=hgrow.block j (by have:=G01.out.size;simp;omega) hne
        rw[e1,Lib.alloc_old w1 _ j (by have:=G01.out.size;omega)]
        exact G01.out.below.block j hj
       ·rcases hat with h|h
        ·exact .inl h
        ·right;have:=G01.out.size;rw[h];simp;omega)
      have HG2:Hid (G w w2):=hid ((G1.out.alloc _).below.grown hgrow (by simp;omega) (fun j hj=>(hrow1.out.lt j hj).1))
      clear hca hown2 hgrow hat
      go_wp2_with fail
      go_roundw
      case rel=>
       refine⟨k+n+2,_,by go_num,by omega,?_,HOL.out.keep (fun j hj=>Lib.alloc_old w2 _ j hj),HG2.out.alloc _,by simp;omega,?_⟩
       ·rw[HR.out,HADD.out,if_neg (by simp)]
       ·intro l hl
        rcases List.mem_append.1 hl with hl|hl
        ·have:=HALL.out l hl;omega
        ·have:l=_:=List.mem_singleton.1 hl
         subst this;simp
      case measure=>simp[intOf];omega
     ·have hbl2:(c==32||c==9)=false:=hbl
      rw[Bool.or_eq_false_iff]at hbl2
      have q1:((c.toNat:Int)==32)=false:=beq_eq_false_iff_ne.2 (fun e=>by have:=beq_eq_false_iff_ne.1 hbl2.1;exact this (UInt8.toNat_inj.1 (by show c.toNat=32;omega)))
      have q2:((c.toNat:Int)==9)=false:=beq_eq_false_iff_ne.2 (fun e=>by have:=beq_eq_false_iff_ne.1 hbl2.2;exact this (UInt8.toNat_inj.1 (by show c.toNat=9;omega)))
      clear hbl hbl2
      go_wp2_with fail
      refine(ame r n _ (by omega) hx.out).use ?_;intro w1 g1
      go_wp2_with fail
      refine(aeX (r.drop n) [13,10] _).use ?_
      rw[Hp.out]
      have hrow1:Hid (w1.ownsRow w.heap.size 205 3 _ out.length xs):=hid (aeL hrow fun k hk _=>g1.below.block k hk)
      clear hrow
      have G1:Hid (G w w1):=hid (HG.out.trans g1)
      have G01:=hid g1
      have hw1:w.heap.size≤w1.heap.size:=G1.out.size
      clear g1
      go_wp2_with (at_builtin;refine wpList_append_lies _ rfl _ _ 146 rfl w.heap.size 205 i0 _ 3 48 Tryz.underlying146 hi hz0 hz1 hz2 rfl (by decide) _ _ _ rfl (hrow1.out.alloc _) ⟨w1.heap.size,0,none⟩ 1 1 (acO ⟨c::p',k,[]⟩ (.slice none 0 0)) rfl rfl ?c1 ?c2 (by omega) ?c3 ?c4 ?c5 _ rfl ?_)
      case c1=>
       intro j u hj
       rw[aye]
       match j,hj with
       |0,hj=>simp[acO]at hj;subst hj;simp
       |1,hj=>simp[acO]at hj;subst hj;simp
       |2,hj=>simp[acO]at hj;subst hj;simp
      case c2=>intro u hu;simp[acO]at hu;rcases hu with rfl|rfl|rfl<;>rfl
      case c3=>unfold maxLen;omega
      case c4=>omega
      case c5=>simp;omega
      intro g cap w2 hown2 hgrow hat hlt2
      have hca:=fun j (hj:j<(out.length+1)*3)=>hown2.cellAt j hj
      have d0:w2.cell? ⟨g,out.length*3,none⟩=some (.string (S (c::p'))):=by rw[hca _ (by omega),List.getElem?_append_right (by omega),hrowl];simp[acO]
      have d1:w2.cell? ⟨g,out.length*3+1,none⟩=some (.int .i64 k):=by rw[hca _ (by omega),List.getElem?_append_right (by omega),hrowl];simp[acO]
      have d2:w2.cell? ⟨g,out.length*3+2,none⟩=some (.slice none 0 0):=by rw[hca _ (by omega),List.getElem?_append_right (by omega),hrowl];simp[acO]
      have HOL:Hid (adk w w2 (.slice (some ⟨g,0,none⟩) (out.length+1) cap) (out++[⟨c::p',k,[]⟩])):=hid (by
       refine HPUSH.out _ g cap w2 rfl hown2 ?_ ?_
       ·intro j hj hne
        have e1:=hgrow.block j (by have:=G01.out.size;simp;omega) hne
        rw[e1,Lib.alloc_old w1 _ j (by have:=G01.out.size;omega)]
        exact G01.out.below.block j hj
       ·rcases hat with h|h
        ·exact .inl h
        ·right;have:=G01.out.size;rw[h];simp;omega)
      have HG2:Hid (G w w2):=hid ((G1.out.alloc _).below.grown hgrow (by simp;omega) (fun j hj=>(hrow1.out.lt j hj).1))
      clear hca hown2 hgrow hat
      by_cases hbig:1500<p'.length+1
      ·go_wp2_with fail
       go_region
       go_wp2_with fail
       go_ret2
       exact⟨_,rfl,af8.bad (by rw[HR.out,HADD.out,if_pos (by simpa using hbig)]) ((UE.newAt _ _ _ _ _ (by simp)).grow (G.refl _).drew),((HG2.out.alloc _).alloc _).drew⟩
      ·go_wp2_with fail
       go_roundw
       case rel=>
        refine⟨k+n+2,_,by go_num,by omega,?_,HOL.out.keep (fun j hj=>Lib.alloc_old w2 _ j hj),HG2.out.alloc _,by simp;omega,?_⟩
        ·rw[HR.out,HADD.out,if_neg (by simpa using hbig)]
        ·intro l hl
         rcases List.mem_append.1 hl with hl|hl
         ·have:=HALL.out l hl;omega
         ·have:l=_:=List.mem_singleton.1 hl
          subst this;simp at hbig⊢;omega
       case measure=>simp[intOf];omega
    |true=>
     obtain⟨c,p',rfl⟩:∃c p',p=c::p':=by
      cases p with
      |nil=>simp[ae3]at hbl
      |cons c p'=>exact⟨c,p',rfl⟩
     have hc:c=32∨c=9:=by simpa[ae3]using hbl
     have HBL:=hid hbl
     clear hbl
     have hw0:Hid (Us t 0 []=Us (t.drop k) k out):=HGO
     rcases List.eq_nil_or_concat out with rfl|⟨init,l,he⟩
     ·have hv:=HOWN.out
      have hv2:u4=.slice none 0 0:=by
       rcases hv with⟨_,h⟩|⟨done,l,fv,h,_⟩
       ·exact h
       ·simp at h
      subst hv2
      clear hv
      have HADD:Hid (acU (c::p') k []=.bad 10 0):=hid (by unfold acU;rw[if_pos HBL.out];rfl)
      rcases hc with rfl|rfl
      all_goals
       go_wp2_with fail
       refine(ame r n _ (by omega) hx.out).use ?_;intro w1 g1
       go_wp2_with fail
       refine(aeX (r.drop n) [13,10] _).use ?_
       rw[Hp.out]
       go_wp2_with fail
       go_ret2
       exact⟨_,rfl,af8.bad (by rw[HR.out,HADD.out]) (UE.new _ _ _ _),(HG.out.trans g1).alloc _⟩
     ·rw[List.concat_eq_append]at he
      subst he
      obtain⟨i1,hi1,hz10,hz11,hz12⟩:=info_parts av2
      have HADD:Hid (acU (c::p') k (init++[l])=if 1500<l.text.length+p'.length then .bad 4 l.pos else .good (init++[⟨l.text++p',l.pos,l.folds++[l.text.length]⟩])):=hid (by
       unfold acU
       rw[if_pos HBL.out,List.getLast?_concat,List.dropLast_concat]
       simp)
      have hl0:=HALL.out l (by simp)
      have hil:init.length≤20000:=by simp at hlen;omega
      have hp2:p'.length≤20000:=by simp at hp1;omega
      have hl1:l.folds.length≤20000:=by omega
      have hl2:l.text.length≤1500:=hl0.2
      clear hl0
      rcases hc with rfl|rfl
      all_goals
       go_wp2_with fail
       refine(ame r n _ (by omega) hx.out).use ?_;intro w1 g1
       go_wp2_with fail
       refine(aeX (r.drop n) [13,10] _).use ?_
       rw[Hp.out]
       obtain⟨q,cap,fv,hv,hq0,hq1,e0,e1,e2,hfz,hfr,hfq,hfold⟩:=(HOWN.out.keep (fun j hj=>g1.below.block j hj)).folded
       subst hv
       have HFOLD:=hid hfold
       have HFR:=hid hfr
       have HFQ:=hid hfq
       have HFZ:=hid hfz
       have G1:Hid (G w w1):=hid (HG.out.trans g1)
       have f0:=hfz (init.length*3)
       have f2:=hfz (init.length*3+2)
       clear hfold hfr hfq hfz g1
       go_wp2_with fail
       have m3:Hid (l.folds.length+1≤maxLen):=hid (by unfold maxLen;omega)
       have m4:Hid ((l.folds.length+1)*8≤140737488355328):=hid (by omega)
       have m5:Hid (∀o,w.heap.size≤(w1.alloc o).heap.size):=hid (fun o=>by simp;omega)
       have HZ:Hid (∀(o:Obj) (W w2:World),W.grownBy w2 fv.ownBlock→W.heap=(w1.alloc o).heap→w2.heap[q]?=w1.heap[q]?):=hid (fun o W w2 hgr hW=>by
        rw[hgr.block q (by rw[hW];simp;omega) (fun e=>HFQ.out e.symm),hW,Lib.alloc_old w1 _ q (by omega)])
       go_region_law (refine step_append_lies _ rfl (.tmp 77) (.tmp 83) 203 rfl w.heap.size 3 i1 _ 1 8 Tryz.underlying203 hi1 hz10 hz11 hz12 rfl (by decide) fv l.folds.length _ (by simp[Act.eval,Act.put]) (HFR.out.alloc (.cells #[.int .i64 l.text.length] 3)) ⟨w1.heap.size,0,none⟩ 1 1 [.int .i64 l.text.length] (by simp[Act.eval,Act.put]) rfl (au1 w1 (.int .i64 l.text.length) 3) (au2 .i64 l.text.length) (by omega) m3.out m4.out (m5.out (.cells #[.int .i64 l.text.length] 3)) _ rfl ?_;intro g fcap w2 hown2 hgrow hat hlt2;have z0:=(World.cell?_of_block (a:=⟨q,init.length*3,none⟩) (HZ.out (.cells #[.int .i64 l.text.length] 3) _ w2 hgrow rfl)).trans e0;have z1:=(World.cell?_of_block (a:=⟨q,init.length*3+1,none⟩) (HZ.out (.cells #[.int .i64 l.text.length] 3) _ w2 hgrow rfl)).trans e1;have z2:=(World.cell?_of_block (a:=⟨q,init.length*3+2,none⟩) (HZ.out (.cells #[.int .i64 l.text.length] 3) _ w2 hgrow rfl)).trans e2;have y0:=(World.frozen?_of_block (a:=⟨q,init.length*3,none⟩) (HZ.out (.cells #[.int .i64 l.text.length] 3) _ w2 hgrow rfl)).trans f0;have y2:=(World.frozen?_of_block (a:=⟨q,init.length*3+2,none⟩) (HZ.out (.cells #[.int .i64 l.text.length] 3) _ w2 hgrow rfl)).trans f2;have HO2:=hid hown2;have HGR:=hid hgrow;have HAT:=hid hat;clear hown2 hgrow hat)
       all_goals
        have x0:(w2.setCell ⟨q,init.length*3+2,none⟩ (.slice (some ⟨g,0,none⟩) (l.folds.length+1) fcap)).cell? ⟨q,init.length*3,none⟩=some (.string (S l.text)):=by rw[World.cell?_setCell_other _ _ _ _ (by simp)];exact z0
        have x1:(w2.setCell ⟨q,init.length*3+2,none⟩ (.slice (some ⟨g,0,none⟩) (l.folds.length+1) fcap)).cell? ⟨q,init.length*3+1,none⟩=some (.int .i64 l.pos):=by rw[World.cell?_setCell_other _ _ _ _ (by simp)];exact z1
        have x2:(w2.setCell ⟨q,init.length*3+2,none⟩ (.slice (some ⟨g,0,none⟩) (l.folds.length+1) fcap)).cell? ⟨q,init.length*3+2,none⟩=some (.slice (some ⟨g,0,none⟩) (l.folds.length+1) fcap):=World.cell?_setCell_same _ _ _ z2
        have k0:((w2.setCell ⟨q,init.length*3+2,none⟩ (.slice (some ⟨g,0,none⟩) (l.folds.length+1) fcap)).setCell ⟨q,init.length*3,none⟩ (.string (S (l.text++p')))).cell? ⟨q,init.length*3,none⟩=some (.string (S (l.text++p'))):=World.cell?_setCell_same _ _ _ x0
        have k1:((w2.setCell ⟨q,init.length*3+2,none⟩ (.slice (some ⟨g,0,none⟩) (l.folds.length+1) fcap)).setCell ⟨q,init.length*3,none⟩ (.string (S (l.text++p')))).cell? ⟨q,init.length*3+1,none⟩=some (.int .i64 l.pos):=by rw[World.cell?_setCell_other _ _ _ _ (by simp)];exact x1
        have k2:((w2.setCell ⟨q,init.length*3+2,none⟩ (.slice (some ⟨g,0,none⟩) (l.folds.length+1) fcap)).setCell ⟨q,init.length*3,none⟩ (.string (S (l.text++p')))).cell? ⟨q,init.length*3+2,none⟩=some (.slice (some ⟨g,0,none⟩) (l.folds.length+1) fcap):=by rw[World.cell?_setCell_other _ _ _ _ (by simp)];exact x2
        have y1:(w2.setCell ⟨q,init.length*3+2,none⟩ (.slice (some ⟨g,0,none⟩) (l.folds.length+1) fcap)).frozen? ⟨q,init.length*3,none⟩=false:=by rw[World.frozen?_setCell];exact y0
        clear z0 z1 z2 y0 y2 e0 e1 e2 f0 f2
        go_wp2_with fail
        go_region
       all_goals
        have HGW:Hid (G w ((w2.setCell ⟨q,init.length*3+2,none⟩ (.slice (some ⟨g,0,none⟩) (l.folds.length+1) fcap)).setCell ⟨q,init.length*3,none⟩ (.string (S (l.text++p'))))):=hid (by
         have x1:=((G1.out.alloc (.cells #[.int .i64 l.text.length] 3)).drew).below.grown HGR.out (m5.out _) (fun j hj=>(HFR.out.lt j hj).1)
         exact(x1.setCell (p:=⟨q,init.length*3+2,none⟩) hq0 _).setCell (p:=⟨q,init.length*3,none⟩) hq0 _)
        have HOL:Hid (adk w ((w2.setCell ⟨q,init.length*3+2,none⟩ (.slice (some ⟨g,0,none⟩) (l.folds.length+1) fcap)).setCell ⟨q,init.length*3,none⟩ (.string (S (l.text++p')))) (.slice (some ⟨q,0,none⟩) (init.length+1) cap) (init++[⟨l.text++p',l.pos,l.folds++[l.text.length]⟩])):=hid (by
         refine HFOLD.out g fcap l.text.length w2 (l.text++p') HO2.out ?_ ?_
         ·intro j hj hne
          have e1:=HGR.out.block j (by show j<(w1.alloc _).heap.size;simp;omega) hne
          rw[e1]
          exact Lib.alloc_old w1 _ j hj
         ·rcases HAT.out with h|h
          ·exact .inl h
          ·right
           have:(w1.alloc (.cells #[.int .i64 l.text.length] 3)).drew.heap.size=w1.heap.size+1:=by show(w1.alloc _).heap.size=_;simp
           omega)
        by_cases hbig:1500<l.text.length+p'.length
        ·go_wp2_with fail
         go_region
         go_wp2_with fail
         go_ret2
         refine⟨_,rfl,af8.bad (by rw[HR.out,HADD.out,if_pos hbig]) ?_,(by repeat (first|exact HGW.out|apply G.drew|apply G.alloc))⟩
         exact(UE.newAt _ _ _ _ _ (by simp[go_sem])).grow (((G.refl _).drew).drew)
        ·go_wp2_with fail
         go_roundw
         case rel=>
          refine⟨k+n+2,_,by go_num,by omega,?_,HOL.out.keep (fun j hj=>Lib.alloc_old _ _ j hj),(HGW.out.alloc _).drew,by simp at hlen⊢;omega,?_⟩
          ·rw[HR.out,HADD.out,if_neg hbig]
          ·intro l' hl'
           rcases List.mem_append.1 hl' with hl'|hl'
           ·have:=HALL.out l' (List.mem_append_left _ hl');omega
           ·have:l'=_:=List.mem_singleton.1 hl'
            subst this
            have:=HALL.out l (by simp)
            simp;omega
         case measure=>simp[intOf];omega
  ·go_wp2
   go_ret2
   obtain rfl:k=t.length:=by omega
   refine⟨_,rfl,af8.good ?_ HOWN.out,HG.out⟩
   rw[HGO.out,List.drop_length,ae8]
end Go.Proofs.YtmffejnigppbpaaGreatDoor
