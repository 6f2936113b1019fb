/-
 CONTRACT of text.Parts. (written by gen_parts.py)
-/
import Derived.Test.YtmffejnigppbpaaGreatDoorDXMA75
import Derived.Test.YtmffejnigppbpaaGreatDoorDXMA65
import Derived.IntWalk
set_option linter.unusedVariables false
set_option linter.unusedSimpArgs false
set_option maxHeartbeats 4000000
set_option maxRecDepth 100000
namespace Go.Proofs.YtmffejnigppbpaaGreatDoor
open Go.RowKit
theorem axh:(Tryz.prog.info? 39).map (fun i=>(i.zero,i.size,i.bytes))=some (some (.slice none 0 0),1,24):=by kernel_rfl
structure ac3(w0 w:World)(v:Value)(done:List (List (List UInt8)×Value))(last:List (List UInt8))(fv:Value):Prop where
 row:w.ownsRow w0.heap.size 39 1 v (done.length+1) (done.map (·.2)++[fv])
 own:w.ownsRow w0.heap.size 9 1 fv last.length (last.map fun l=>.string (S l))
 old:∀d∈done,w.ownsRow w0.heap.size 9 1 d.2 d.1.length (d.1.map fun l=>.string (S l))∧(d.2.ownBlock=none∨d.2.ownBlock≠fv.ownBlock)
theorem ahP{w:World}{base base':Nat}{s s':Nat}{e e':TypeId}{tv cv:Value}{n m:Nat}{xs ys:List Value}(hne:e≠e')(ht:w.ownsRow base e s tv n xs)(hc:w.ownsRow base' e' s' cv m ys)(q:Nat)(hq:tv.ownBlock=some q):cv.ownBlock≠some q:=by
 intro e
 rcases ht.2 with⟨rfl,_⟩|⟨g1,c1,u1,rfl,_,h1,_⟩
 ·cases hq
 ·rcases hc.2 with⟨rfl,_⟩|⟨g2,c2,u2,rfl,_,h2,_⟩
  ·cases e
  ·simp only[Value.ownBlock,Option.some.injEq]at hq e
   subst hq
   subst e
   rw[h1]at h2
   injection h2 with h2
   injection h2 with _ h2 _
   exact hne h2
theorem ai7:39≠9:=by decide
theorem ac3.keep{w0 w w':World}{v:Value}{done:List (List (List UInt8)×Value)}{last:List (List UInt8)}{fv:Value}(h:ac3 w0 w v done last fv)(hb:∀k,k<w.heap.size→w'.heap[k]?=w.heap[k]?):ac3 w0 w' v done last fv:=
 ⟨Uy h.row fun k _ hk=>hb k hk,Uy h.own fun k _ hk=>hb k hk,fun d hd=>⟨Uy (h.old d hd).1 fun k _ hk=>hb k hk,(h.old d hd).2⟩⟩
theorem ac3.lists{w0 w:World}{v:Value}{done:List (List (List UInt8)×Value)}{last:List (List UInt8)}{fv:Value}(h:ac3 w0 w v done last fv):Uw w v (done.map (·.1)++[last]):=by
 have hcap:=ahb h.row
 obtain⟨q,cap,rfl,_,hlt⟩:=h.row.form (by omega)
 refine⟨done.map (·.2)++[fv],⟨by simp,?_,.inr ⟨q,0,cap,by simp,hlt,by simp,fun j hj=>?_⟩⟩,hcap,fun i l hl=>?_⟩
 ·intro u hu
  rcases List.mem_append.1 hu with hu|hu
  ·obtain⟨d,hd,rfl⟩:=List.mem_map.1 hu
   rcases(h.old d hd).1.2 with⟨e,_⟩|⟨g,cap,cur,e,_⟩
   ·rw[e];rfl
   ·rw[e];rfl
  ·have:u=fv:=List.mem_singleton.1 hu
   subst this
   rcases h.own.2 with⟨e,_⟩|⟨g,cap,cur,e,_⟩
   ·rw[e];rfl
   ·rw[e];rfl
 ·have:=h.row.cells (g:=q) rfl j _ (List.getElem?_eq_getElem hj)
  rw[Nat.zero_add]
  have e:(⟨q,0,none⟩:Addr).add j=⟨q,j,none⟩:=by unfold Addr.add;split<;>simp_all
  rw[e]at this;exact this
 ·rcases Nat.lt_or_ge i done.length with hi|hi
  ·rw[List.getElem?_append_left (by simpa using hi),List.getElem?_map,List.getElem?_eq_getElem hi]at hl
   injection hl with hl
   refine⟨done[i].2,by rw[List.getElem?_append_left (by simpa using hi),List.getElem?_map,List.getElem?_eq_getElem hi];rfl,?_⟩
   rw[←hl]
   exact aeF (h.old _ (List.getElem_mem hi)).1
  ·rw[List.getElem?_append_right (by simpa using hi)]at hl
   simp at hl
   have hi0:i-done.length=0:=by
    rcases Nat.eq_zero_or_pos (i-done.length)with h|h
    ·exact h
    ·obtain⟨n,hn⟩:∃n,i-done.length=n+1:=⟨i-done.length-1,by omega⟩
     rw[hn]at hl;simp at hl
   rw[hi0]at hl
   simp at hl
   subst hl
   exact⟨fv,by rw[List.getElem?_append_right (by simpa using hi)];simp[hi0],aeF h.own⟩
theorem ac3.begins{w0 w w':World}{v:Value}{done:List (List (List UInt8)×Value)}{last:List (List UInt8)}{fv:Value}{g cap:Nat}(h:ac3 w0 w v done last fv)(ho:w'.ownsRow w0.heap.size 39 1 (.slice (some ⟨g,0,none⟩) (done.length+1+1) cap) (done.length+1+1) (done.map (·.2)++[fv]++[.slice none 0 0]))(hg:w.grownBy w' v.ownBlock) :
  ac3 w0 w' (.slice (some ⟨g,0,none⟩) (done.length+1+1) cap) (done++[(last,fv)]) [] (.slice none 0 0):=by
 have key:∀ {u:Value} {n:Nat} {xs:List Value},w.ownsRow w0.heap.size 9 1 u n xs→w'.ownsRow w0.heap.size 9 1 u n xs:=fun hu=>
  Uy hu fun k hv hk=>agh hg hk fun e=>ahP ai7 h.row hu k e hv
 refine⟨by simpa using ho,World.ownsRow_nil _ _ _ _,fun d hd=>?_⟩
 rcases List.mem_append.1 hd with hd|hd
 ·refine⟨key (h.old d hd).1,?_⟩
  cases e:d.2.ownBlock with
  |none=>exact .inl rfl
  |some k=>exact .inr (by simp[Value.ownBlock])
 ·have:d=(last,fv):=List.mem_singleton.1 hd
  subst this
  refine⟨key h.own,?_⟩
  show fv.ownBlock=none∨fv.ownBlock≠_
  cases e:fv.ownBlock with
  |none=>exact .inl rfl
  |some k=>exact .inr (by simp[Value.ownBlock])
theorem ac3.room{w0 w:World}{v:Value}{done:List (List (List UInt8)×Value)}{last:List (List UInt8)}{fv:Value}(h:ac3 w0 w v done last fv):∃q cap,v=.slice (some ⟨q,0,none⟩) (done.length+1) cap∧done.length+1≤cap∧w0.heap.size≤q∧q<w.heap.size
  ∧ w.cell? ⟨q,done.length,none⟩=some fv∧w.frozen? ⟨q,done.length,none⟩=false∧fv.ownBlock≠some q
  ∧ ∀(g fcap:Nat) (w':World) (t:List UInt8),w'.ownsRow w0.heap.size 9 1 (.slice (some ⟨g,0,none⟩) (last.length+1) fcap) (last.length+1) ((last.map fun l=>Value.string (S l))++[.string (S t)]) →
   (∀k,k<w.heap.size→some k≠fv.ownBlock→w'.heap[k]?=w.heap[k]?)→(fv.ownBlock=some g∨w.heap.size≤g) →
   ac3 w0 (w'.setCell ⟨q,done.length,none⟩ (.slice (some ⟨g,0,none⟩) (last.length+1) fcap)) v done (last++[t]) (.slice (some ⟨g,0,none⟩) (last.length+1) fcap):=by
 have hcap:=ahb h.row
 obtain⟨q,cap,rfl,hb,hlt⟩:=h.row.form (by omega)
 have hfq:fv.ownBlock≠some q:=ahP ai7 h.row h.own q rfl
 have hc:=fun j (hj:j<done.length+1)=>h.row.cellAt j (by omega)
 refine⟨q,cap,rfl,hcap,hb,hlt,by rw[hc _ (by omega),List.getElem?_append_right (by simp)];simp,h.row.frozenAt _,hfq,fun g fcap w' t ho hk hat=>?_⟩
 have hgq:g≠q:=by
  rintro rfl
  rcases hat with hat|hat
  ·exact hfq hat
  ·omega
 have r1:=Uy h.row (w':=w') (fun k hk2 hk1=>hk k hk1 (by
  have:k=q:=by simpa[Value.ownBlock]using hk2.symm
  rw[this];exact fun e=>hfq e.symm))
 have r2:=(r1.stored done.length (.slice (some ⟨g,0,none⟩) (last.length+1) fcap)).1
 refine⟨?_,?_,fun d hd=>⟨?_,?_⟩⟩
 ·rw[List.set_append_right _ _ (by simp)]at r2
  simpa using r2
 ·have r:=Uy ho (w':=w'.setCell ⟨q,done.length,none⟩ (.slice (some ⟨g,0,none⟩) (last.length+1) fcap)) (fun k hk2 hk1=>by
   have:k=g:=by simpa[Value.ownBlock]using hk2.symm
   subst this
   rw[Below.heap_setCell _ _ _ _ (by simpa using hgq)])
  simpa using r
 ·obtain⟨i1,i2⟩:=h.old d hd
  refine Uy i1 fun k hk2 hk1=>?_
  have hkq:k≠q:=by rintro rfl;exact ahP ai7 h.row i1 k rfl hk2
  rw[Below.heap_setCell _ _ _ _ (by simpa using hkq)]
  refine hk k hk1 ?_
  rcases i2 with i2|i2
  ·rw[i2]at hk2;cases hk2
  ·rw[←hk2];exact i2
 ·obtain⟨i1,i2⟩:=h.old d hd
  rcases i2 with i2|i2
  ·exact .inl i2
  ·right
   intro e
   have e':d.2.ownBlock=some g:=e
   rcases hat with hat|hat
   ·exact i2 (by rw[e',hat])
   ·have:=(i1.lt g e').2;omega
theorem ac3.new(w:World)(t:List UInt8):ac3 w ((w.alloc (.cells #[.string (S t)] 9)).alloc (.cells #[.slice (some ⟨w.heap.size,0,none⟩) 1 1] 39)) (.slice (some ⟨w.heap.size+1,0,none⟩) 1 1) [] [t] (.slice (some ⟨w.heap.size,0,none⟩) 1 1):=by
 refine⟨⟨rfl,.inr ⟨w.heap.size+1,1,#[.slice (some ⟨w.heap.size,0,none⟩) 1 1],rfl,by omega,?_,Nat.le_refl _,by unfold maxLen;omega,rfl,rfl⟩⟩,⟨rfl,.inr ⟨w.heap.size,1,#[.string (S t)],rfl,Nat.le_refl _,?_,Nat.le_refl _,by unfold maxLen;omega,rfl,rfl⟩⟩,by simp⟩
 ·have:=heap_alloc_new (w.alloc (.cells #[.string (S t)] 9)) (.cells #[.slice (some ⟨w.heap.size,0,none⟩) 1 1] 39)
  simpa using this
 ·rw[Lib.alloc_old _ _ _ (by simp)]
  exact heap_alloc_new w _
def adM(w:World)(base:Nat)(v:Value)(ls:List (List (List UInt8))):Prop:=∃vs:List Value,vs.length=ls.length∧(∀(i:Nat) (l:List (List UInt8)) (u:Value),ls[i]?=some l→vs[i]?=some u→w.ownsRow base 9 1 u l.length (l.map fun x=>.string (S x)))∧w.ownsRow base 39 1 v ls.length vs
theorem atL(w:World)(base:Nat):adM w base (.slice none 0 0) []:=⟨[],rfl,fun i l u h=>by simp at h,World.ownsRow_nil _ _ _ _⟩
theorem adM.lists{w:World}{base:Nat}{v:Value}{ls:List (List (List UInt8))}(h:adM w base v ls):Uw w v ls:=by
 obtain⟨vs,h1,h2,h3⟩:=h
 refine⟨vs,ai5 h3 (fun u hu=>?_),ahb h3,fun i l hl=>?_⟩
 ·obtain⟨i,hi,rfl⟩:=List.getElem_of_mem hu
  have hl:i<ls.length:=by omega
  rcases(h2 i ls[i] vs[i] (List.getElem?_eq_getElem hl) (List.getElem?_eq_getElem hi)).2 with⟨e,_⟩|⟨g,cap,cur,e,_⟩
  ·rw[e];rfl
  ·rw[e];rfl
 ·have hi:i<vs.length:=by have:=(List.getElem?_eq_some_iff.1 hl).1;omega
  exact⟨vs[i],List.getElem?_eq_getElem hi,aeF (h2 i l vs[i] hl (List.getElem?_eq_getElem hi))⟩
theorem adM.kept{w w':World}{base:Nat}{v:Value}{ls:List (List (List UInt8))}{k:Nat}(h:adM w base v ls)(g:w.grownBy w' (some k))(hk:k<base):adM w' base v ls:=by
 obtain⟨vs,h1,h2,h3⟩:=h
 exact⟨vs,h1,fun i l u hl hu=>(h2 i l u hl hu).kept g (af2 (h2 i l u hl hu) hk),h3.kept g (af2 h3 hk)⟩
theorem adM.put{w:World}{base:Nat}{v:Value}{ls:List (List (List UInt8))}{k i:Nat}{x:Value}(h:adM w base v ls)(hk:k<base):adM (w.setCell ⟨k,i,none⟩ x) base v ls:=h.kept (afi w k i x) hk
theorem adM.grow{w w':World}{base:Nat}{v:Value}{ls:List (List (List UInt8))}(h:adM w base v ls)(g:G w w'):adM w' base v ls:=by
 have e:∀v:Value,v.ownBlock=none∨v.ownBlock≠none:=fun v=>by cases v.ownBlock with|none=>exact .inl rfl|some _=>exact .inr (by simp)
 obtain⟨vs,h1,h2,h3⟩:=h
 exact⟨vs,h1,fun i l u hl hu=>(h2 i l u hl hu).kept (ak2 none g) (e _),h3.kept (ak2 none g) (e _)⟩
theorem adM.one{w:World}{base:Nat}{u:Value}{l:List (List UInt8)}(h:w.ownsRow base 9 1 u l.length (l.map fun x=>.string (S x)))(hb:base≤w.heap.size):adM (w.alloc (.cells #[u] 39)) base (.slice (some ⟨w.heap.size,0,none⟩) 1 1) [l]:=by
 refine⟨[u],rfl,fun i l' u' hl hu=>?_,rfl,.inr ⟨w.heap.size,1,#[u],rfl,hb,heap_alloc_new w _,Nat.le_refl _,by unfold maxLen;omega,rfl,rfl⟩⟩
 match i,hl,hu with
 |0,hl,hu=>cases hl;cases hu;exact Uy h fun k _ hk=>Lib.alloc_old w _ k hk
theorem ac3.owns{w0 w:World}{v:Value}{done:List (List (List UInt8)×Value)}{last:List (List UInt8)}{fv:Value}(h:ac3 w0 w v done last fv):adM w w0.heap.size v (done.map (·.1)++[last]):=by
 refine⟨done.map (·.2)++[fv],by simp,fun i l u hl hu=>?_,by have:=h.row;simpa using this⟩
 rcases Nat.lt_or_ge i done.length with hi|hi
 ·rw[List.getElem?_append_left (by simpa using hi),List.getElem?_map,List.getElem?_eq_getElem hi]at hl hu
  cases hl;cases hu
  exact(h.old _ (List.getElem_mem hi)).1
 ·rw[List.getElem?_append_right (by simpa using hi)]at hl hu
  have e0:i-done.length=0:=by
   have:=(List.getElem?_eq_some_iff.1 hl).1
   simp at this;omega
  simp[e0]at hl hu
  subst hl;subst hu
  exact h.own
def ai8(n:Nat)(r:adb)(v:Value)(w':World):Prop:=
 match r with
 |.good ts cs=>∃tv base,n≤base∧v=.tuple #[tv,.nilIface]∧adM w' base tv (UD [ts.headD []] cs ts.tail)
 |.bad c p=>∃e,v=.tuple #[.slice none 0 0,e]∧UE w' e c p
theorem ai8.good{n base:Nat}{r:adb}{t:List UInt8}{ts:List (List UInt8)}{cs:List UInt8}{tv:Value}{w':World}(h:r=.good (t::ts) cs)(hb:n≤base)(h1:adM w' base tv (UD [t] cs ts)):ai8 n r (.tuple #[tv,.nilIface]) w':=by subst h;exact⟨_,base,hb,rfl,h1⟩
theorem ai8.bad{n:Nat}{r:adb}{c:Int}{p:Nat}{e:Value}{w':World}(h:r=.bad c p)(he:UE w' e c p):ai8 n r (.tuple #[.slice none 0 0,e]) w':=by subst h;exact⟨e,rfl,he⟩
def aoL(r:adb)(v:Value)(w':World):Prop:=
 match r with
 |.good ts cs=>∃tv,v=.tuple #[tv,.nilIface]∧Uw w' tv (UD [ts.headD []] cs ts.tail)
 |.bad c p=>∃e,v=.tuple #[.slice none 0 0,e]∧UE w' e c p
theorem aoL.good{r:adb}{t:List UInt8}{ts:List (List UInt8)}{cs:List UInt8}{tv:Value}{w':World}(h:r=.good (t::ts) cs)(h1:Uw w' tv (UD [t] cs ts)):aoL r (.tuple #[tv,.nilIface]) w':=by subst h;exact⟨_,rfl,h1⟩
theorem aoL.bad{r:adb}{c:Int}{p:Nat}{e:Value}{w':World}(h:r=.bad c p)(he:UE w' e c p):aoL r (.tuple #[.slice none 0 0,e]) w':=by subst h;exact⟨e,rfl,he⟩
theorem afX(cur:List (List UInt8))(c:UInt8)(cs:List UInt8)(t:List UInt8)(ts:List (List UInt8)):UD cur (c::cs) (t::ts)=if c=59 then cur::UD [t] cs ts else UD (cur++[t]) cs ts:=rfl
theorem ahd.at_{w:World}{v:Value}{l:List UInt8}(h:ahd w v l)(h0:l≠[]):∃b off cap,v=.slice (some ⟨b,off,none⟩) l.length cap∧b<w.heap.size∧∀(i:Nat) (c:UInt8),l[i]?=some c→w.cell? ⟨b,off+i,none⟩=some (.int .u8 (c.toNat:Int)):=by
 obtain⟨h1,h2,h3⟩:=h
 rcases h3 with⟨h3,_⟩|⟨b,off,cap,e,hb,hn,hc⟩
 ·exact absurd (List.eq_nil_of_length_eq_zero h3) h0
 ·refine⟨b,off,cap,e,hb,fun i c hl=>?_⟩
  have hi:i<l.length:=by
   rcases Nat.lt_or_ge i l.length with h|h
   ·exact h
   ·rw[List.getElem?_eq_none h]at hl;cases hl
  rw[hc i (by simpa using hi)]
  rw[List.getElem?_eq_getElem hi]at hl
  injection hl with hl
  simp[hl]
def avx(C:List UInt8)(T:List (List UInt8))(t0:List UInt8)(w1 wr:World)(k:Nat)(v:Value):Prop:=
 ∃done last fv,ac3 w1 wr v done last fv∧G w1 wr∧done.length≤k∧last.length≤k+1∧UD [t0] C T=done.map (·.1)++UD last (C.drop k) (T.drop k)
theorem aoM(a:List UInt8){s:List UInt8}{T:List (List UInt8)}{C:List UInt8}:∀(n:Nat) (s:List UInt8),s.length≤n→∀(k:Nat) (cur:List UInt8) (ts:List (List UInt8)) (cs:List UInt8) (T:List (List UInt8)) (C:List UInt8),C9 a s k cur ts cs=.good T C→C.length≤cs.length+s.length:=by
 intro n
 induction n with
 |zero=>
  intro s hs k cur ts cs T C h
  have:s=[]:=List.eq_nil_of_length_eq_zero (by omega)
  subst this
  rw[adc]at h
  injection h with h1 h2
  subst h2;simp
 |succ n ih=>
  intro s hs k cur ts cs T C h
  match s,hs,h with
  |[],_,h=>
   rw[adc]at h
   injection h with h1 h2
   subst h2;simp
  |c::t,hs,h=>
   by_cases h92:c=92
   ·subst h92
    match t,hs,h with
    |[],_,h=>rw[agi]at h;cases h
    |d::t,hs,h=>
     cases hu:afs d with
     |none=>rw[afI hu]at h;cases h
     |some x=>
      rw[ae4 hu]at h
      have:=ih t (by simp at hs;omega) _ _ _ _ _ _ h
      simp;omega
   ·cases hc:a.contains c with
    |true=>
     rw[aeG h92 hc]at h
     have:=ih t (by simp at hs;omega) _ _ _ _ _ _ h
     simp at this⊢;omega
    |false=>
     rw[ae5 h92 hc]at h
     have:=ih t (by simp at hs;omega) _ _ _ _ _ _ h
     simp;omega
theorem atM(s:List UInt8)(w:World)(hs:s.length≤100000):Uz 222 #[.string (S s)] w (ai8 w.heap.size (C9 [44,59] s 0 [] [] [])):=by
 obtain⟨i0,hi,hz0,hz1,hz2⟩:=info_parts ajT
 obtain⟨i1,hi1,hz10,hz11,hz12⟩:=info_parts axh
 obtain⟨r,hr⟩:∃r,C9 [44,59] s 0 [] [] []=r:=⟨_,rfl⟩
 have hp:=amE s [44,59] w hs (by simp)
 rw[hr]at hp⊢
 cases r with
 |bad c p=>
  clear hr
  go_enter Tryz.func222,Tryz.ntmps222
  go_wp2_with fail
  refine hp.use ?_
  rintro v w1 ⟨e,rfl,he⟩ g1
  have HE:=hid he
  obtain⟨b,rfl,h1,h2,h3⟩:=he
  clear h1 h2
  go_wp2_with fail
  go_ret2
  exact⟨_,rfl,ai8.bad rfl HE.out,g1⟩
 |good TT C=>
  have hne:=agY hr
  have hshort:=aoM [44,59] (s:=[]) (T:=[]) (C:=[]) s.length s (Nat.le_refl _) _ _ _ _ _ _ hr
  simp at hne hshort
  clear hr
  obtain⟨t0,T,rfl⟩:∃t T',TT=t::T':=by cases TT with|nil=>simp at hne|cons t T'=>exact⟨t,T',rfl⟩
  have hTC:T.length=C.length:=by simpa using hne
  have HTC:=hid hTC
  have hTl:T.length≤100000:=by omega
  have hCl:C.length≤100000:=by omega
  clear hne hTC
  go_enter Tryz.func222,Tryz.ntmps222
  go_wp2_with fail
  refine hp.use ?_
  rintro v w1 ⟨tv,cv,rfl,h1,h2⟩ g1
  have HG1:=hid g1
  obtain⟨b,off,cap,rfl,hc,hb,hcell⟩:=h1.at_ (by simp)
  have c0:=hcell 0 t0 rfl
  rw[Nat.add_zero]at c0
  have HTV:=hid hcell
  have H2:=hid h2
  obtain⟨ca,cn,hcv⟩:=afJ.len h2
  subst hcv
  clear hcell h1 h2 g1
  go_wp2_with fail
  go_loopw [7,27] (fun v i wr=>∃k:Nat,k≤C.length∧i=.int .i64 k∧avx C T t0 w1 wr k v) (fun _ i _=>C.length-(intOf i).toNat)
  case atStart=>exact⟨0,Nat.zero_le _,rfl,[],[t0],_,ac3.new w1 t0,((G.refl _).alloc _).alloc _,Nat.le_refl _,Nat.le_refl _,by simp⟩
  case round=>
   obtain⟨k,hk,rfl,done,last,fv,hown,hg,hl1,hl2,hparts⟩:=hrel
   have HOWN:=hid hown
   have HG:=hid hg
   have HP:=hid hparts
   clear hown hg hparts
   by_cases hlt:k<C.length
   ·obtain⟨cb,co,ccap,hca,hcb,hccell⟩:=H2.out.at_ (by intro e;rw[e]at hlt;simp at hlt)
    simp only[Value.slice.injEq,true_and]at hca
    obtain⟨hca,hcn⟩:=hca
    subst hcn
    subst hca
    obtain⟨c,hcc⟩:∃c,C[k]?=some c:=⟨_,List.getElem?_eq_getElem hlt⟩
    have hkT:k<T.length:=by rw[HTC.out];exact hlt
    obtain⟨t,ht⟩:∃t,T[k]?=some t:=⟨_,List.getElem?_eq_getElem hkT⟩
    have d0:wr.cell? ⟨cb,co+k,none⟩=some (.int .u8 (c.toNat:Int)):=by rw[HG.out.cell (p:=⟨cb,co+k,none⟩) hcb];exact hccell k c hcc
    have HT0:Hid (w1.cell? ⟨b,off+(k+1),none⟩=some (.string (S t))):=hid (HTV.out (k+1) t (by simpa using ht))
    have HDC:Hid (C.drop k=c::C.drop (k+1)):=hid (by rw[List.drop_eq_getElem_cons hlt];rw[List.getElem?_eq_getElem hlt]at hcc;injection hcc with hcc;rw[hcc])
    have HDT:Hid (T.drop k=t::T.drop (k+1)):=hid (by rw[List.drop_eq_getElem_cons hkT];rw[List.getElem?_eq_getElem hkT]at ht;injection ht with ht;rw[ht])
    have hbi:b<wr.heap.size:=Nat.lt_of_lt_of_le hb HG.out.size
    clear hccell hcc ht
    by_cases h59:c=59
    ·subst h59
     have HROW:Hid (wr.ownsRow w1.heap.size 39 1 u7 (done.length+1) (done.map (·.2)++[fv])):=hid HOWN.out.row
     go_wp2_with (at_builtin;refine wpList_append_lies _ rfl (.tmp 34) (.tmp 35) 32 rfl w1.heap.size 39 i1 _ 1 24 Tryz.underlying32 hi1 hz10 hz11 hz12 rfl (by decide) _ _ _ rfl (HROW.out.alloc _) ⟨wr.heap.size,0,none⟩ 1 1 [.slice none 0 0] rfl rfl (aiL _ _ _) (aiM _ rfl) (by omega) ?c3 ?c4 ?c5 _ rfl ?_)
     case c3=>unfold maxLen;omega
     case c4=>omega
     case c5=>have:=HG.out.size;simp;omega
     intro g1 cap1 w2 hown2 hgrow2 hat2 hlt2
     obtain⟨lst,hlast⟩:∃l:List (List UInt8),l=[]:=⟨_,rfl⟩
     have HO2:Hid (ac3 w1 w2 (.slice (some ⟨g1,0,none⟩) (done.length+1+1) cap1) (done++[(last,fv)]) lst (.slice none 0 0)):=hid (by rw[hlast];exact(HOWN.out.keep (fun j hj=>Lib.alloc_old wr (.cells #[.slice none 0 0] 39) j hj)).begins (by simpa using hown2) hgrow2)
     have HG2:Hid (G w1 w2):=hid ((HG.out.alloc _).below.grown hgrow2 (by have:=HG.out.size;simp;omega) (fun j hj=>(HROW.out.lt j hj).1))
     have HPX:Hid (UD [t0] C T=(done++[(last,fv)]).map (·.1)++UD (lst++[t]) (C.drop (k+1)) (T.drop (k+1))):=hid (by rw[hlast,HP.out,HDC.out,HDT.out,afX,if_pos rfl];simp)
     have hbi2:b<w2.heap.size:=Nat.lt_of_lt_of_le hb HG2.out.size
     clear hown2 hgrow2 hat2 HOWN HG HP d0 hbi
     have hl2:lst.length≤k+1:=by rw[hlast];simp
     clear hlast hlt2
     obtain⟨q,qcap,hvq,hqc,hq0,hq1,e0,f0,hfq,hroom⟩:=HO2.out.room
     simp only[Value.slice.injEq,Option.some.injEq,Addr.mk.injEq,and_true,true_and]at hvq
     have hvq1:q=g1:=hvq.1.symm
     have hvq2:qcap=cap1:=hvq.2.2.symm
     clear hvq
     subst hvq1
     subst hvq2
     simp only[List.length_append,List.length_cons,List.length_nil,Nat.zero_add]at e0 f0 hroom hqc
     have HROOM:=hid hroom
     have HFQ:=hid hfq
     have HOWN1:=hid HO2.out.own
     have c1:w2.cell? ⟨b,off+(k+1),none⟩=some (.string (S t)):=by rw[HG2.out.cell (p:=⟨b,off+(k+1),none⟩) hb];exact HT0.out
     have m3:Hid (lst.length+1≤maxLen):=hid (by unfold maxLen;omega)
     have m4:Hid ((lst.length+1)*16≤140737488355328):=hid (by omega)
     have m5:Hid (∀o,w1.heap.size≤(w2.alloc o).heap.size):=hid (fun o=>by have:=HG2.out.size;simp;omega)
     have HZ:Hid (∀(o:Obj) (Wx wx:World),Wx.grownBy wx (Value.ownBlock (.slice none 0 0))→Wx.heap=(w2.alloc o).heap→wx.heap[q]?=w2.heap[q]?):=hid (fun o Wx wx hgr hW=>by
      rw[hgr.block q (by rw[hW];simp;omega) (fun e=>HFQ.out e.symm),hW,Lib.alloc_old w2 _ q (by omega)])
     clear hroom hfq
     have y1:(0:Int)≤(done.length:Int)+1:=by omega
     have y2:(done.length:Int)<(done.length:Int)+1:=by omega
     have y3:(0:Int)≤(k:Int)+1:=by omega
     have y4:(k:Int)+1<(T.length:Int)+1:=by omega
     have y5:((k:Int)+1).toNat=k+1:=by omega
     have y6:IntKind.i64.wrap ((k:Int)+1)=(k:Int)+1:=IntWalk.i64_in _ (by omega)
     go_wp2_with fail
     go_region_law (refine step_append_lies _ rfl (.tmp 45) (.tmp 51) 39 rfl w1.heap.size 9 i0 _ 1 16 Tryz.underlying39 hi hz0 hz1 hz2 rfl (by decide) (.slice none 0 0) lst.length _ (by simp[Act.eval,Act.put]) (HOWN1.out.alloc (.cells #[.string (S t)] 9)) ⟨w2.heap.size,0,none⟩ 1 1 [.string (S t)] (by simp[Act.eval,Act.put]) rfl (aiL w2 (.string (S t)) 9) (aiM _ rfl) Nat.one_pos m3.out m4.out (m5.out (.cells #[.string (S t)] 9)) _ rfl ?_;intro g fcap w3 hown3 hgrow hat hlt3;have z0:=(World.cell?_of_block (a:=⟨q,(done.length+1),none⟩) (HZ.out (.cells #[.string (S t)] 9) _ w3 hgrow rfl)).trans e0;have y0:=(World.frozen?_of_block (a:=⟨q,(done.length+1),none⟩) (HZ.out (.cells #[.string (S t)] 9) _ w3 hgrow rfl)).trans f0;have HO3:=hid hown3;have HGR:=hid hgrow;have HAT:=hid hat;clear hown3 hgrow hat)
     all_goals
      clear y1 y2 y3 y4 y5 y6
      have HGW:Hid (G w1 (w3.setCell ⟨q,(done.length+1),none⟩ (.slice (some ⟨g,0,none⟩) (lst.length+1) fcap))):=hid (by
       have x1:=((HG2.out.alloc (.cells #[.string (S t)] 9)).drew).below.grown HGR.out (m5.out _) (fun j hj=>(HOWN1.out.lt j hj).1)
       exact x1.setCell (p:=⟨q,(done.length+1),none⟩) hq0 _)
      have HOL:Hid (ac3 w1 (w3.setCell ⟨q,(done.length+1),none⟩ (.slice (some ⟨g,0,none⟩) (lst.length+1) fcap)) (.slice (some ⟨q,0,none⟩) ((done.length+1)+1) qcap) (done++[(last,fv)]) (lst++[t]) (.slice (some ⟨g,0,none⟩) (lst.length+1) fcap)):=hid (by
       have hx:=HROOM.out g fcap w3 t HO3.out ?_ ?_
       ·simpa using hx
       ·intro j hj hne
        have e1:=HGR.out.block j (by show j<(w2.alloc _).heap.size;simp;omega) hne
        rw[e1]
        exact Lib.alloc_old w2 _ j hj
       ·rcases HAT.out with h|h
        ·exact .inl h
        ·right
         have:(w2.alloc (.cells #[.string (S t)] 9)).drew.heap.size=w2.heap.size+1:=by show(w2.alloc _).heap.size=_;simp
         omega)
      clear z0 y0 e0 f0 c1
      go_wp2_with fail
      go_roundw
      case rel=>exact⟨k+1,by omega,by go_num,done++[(last,fv)],lst++[t],_,HOL.out,HGW.out,by first|(simp;omega)|omega,by first|(simp;omega)|omega,HPX.out⟩
      case measure=>simp[intOf];omega
    ·have h59':((c.toNat:Int)==59)=false:=beq_eq_false_iff_ne.2 (fun e=>h59 (UInt8.toNat_inj.1 (by show c.toNat=59;omega)))
     have HPX:Hid (UD [t0] C T=done.map (·.1)++UD (last++[t]) (C.drop (k+1)) (T.drop (k+1))):=hid (by rw[HP.out,HDC.out,HDT.out,afX,if_neg h59])
     clear h59 HP
     obtain⟨q,qcap,hvq,hqc,hq0,hq1,e0,f0,hfq,hroom⟩:=HOWN.out.room
     subst hvq
     have HROOM:=hid hroom
     have HFQ:=hid hfq
     have HOWN1:=hid HOWN.out.own
     have c1:wr.cell? ⟨b,off+(k+1),none⟩=some (.string (S t)):=by rw[HG.out.cell (p:=⟨b,off+(k+1),none⟩) hb];exact HT0.out
     have m3:Hid (last.length+1≤maxLen):=hid (by unfold maxLen;omega)
     have m4:Hid ((last.length+1)*16≤140737488355328):=hid (by omega)
     have m5:Hid (∀o,w1.heap.size≤(wr.alloc o).heap.size):=hid (fun o=>by have:=HG.out.size;simp;omega)
     have HZ:Hid (∀(o:Obj) (Wx wx:World),Wx.grownBy wx (Value.ownBlock fv)→Wx.heap=(wr.alloc o).heap→wx.heap[q]?=wr.heap[q]?):=hid (fun o Wx wx hgr hW=>by
      rw[hgr.block q (by rw[hW];simp;omega) (fun e=>HFQ.out e.symm),hW,Lib.alloc_old wr _ q (by omega)])
     clear hroom hfq
     have y1:(0:Int)≤(done.length:Int)+1:=by omega
     have y2:(done.length:Int)<(done.length:Int)+1:=by omega
     have y3:(0:Int)≤(k:Int)+1:=by omega
     have y4:(k:Int)+1<(T.length:Int)+1:=by omega
     have y5:((k:Int)+1).toNat=k+1:=by omega
     have y6:IntKind.i64.wrap ((k:Int)+1)=(k:Int)+1:=IntWalk.i64_in _ (by omega)
     go_wp2_with fail
     go_region_law (refine step_append_lies _ rfl (.tmp 45) (.tmp 51) 39 rfl w1.heap.size 9 i0 _ 1 16 Tryz.underlying39 hi hz0 hz1 hz2 rfl (by decide) fv last.length _ (by simp[Act.eval,Act.put]) (HOWN1.out.alloc (.cells #[.string (S t)] 9)) ⟨wr.heap.size,0,none⟩ 1 1 [.string (S t)] (by simp[Act.eval,Act.put]) rfl (aiL wr (.string (S t)) 9) (aiM _ rfl) Nat.one_pos m3.out m4.out (m5.out (.cells #[.string (S t)] 9)) _ rfl ?_;intro g fcap w3 hown3 hgrow hat hlt3;have z0:=(World.cell?_of_block (a:=⟨q,done.length,none⟩) (HZ.out (.cells #[.string (S t)] 9) _ w3 hgrow rfl)).trans e0;have y0:=(World.frozen?_of_block (a:=⟨q,done.length,none⟩) (HZ.out (.cells #[.string (S t)] 9) _ w3 hgrow rfl)).trans f0;have HO3:=hid hown3;have HGR:=hid hgrow;have HAT:=hid hat;clear hown3 hgrow hat)
     all_goals
      clear y1 y2 y3 y4 y5 y6
      have HGW:Hid (G w1 (w3.setCell ⟨q,done.length,none⟩ (.slice (some ⟨g,0,none⟩) (last.length+1) fcap))):=hid (by
       have x1:=((HG.out.alloc (.cells #[.string (S t)] 9)).drew).below.grown HGR.out (m5.out _) (fun j hj=>(HOWN1.out.lt j hj).1)
       exact x1.setCell (p:=⟨q,done.length,none⟩) hq0 _)
      have HOL:Hid (ac3 w1 (w3.setCell ⟨q,done.length,none⟩ (.slice (some ⟨g,0,none⟩) (last.length+1) fcap)) (.slice (some ⟨q,0,none⟩) (done.length+1) qcap) (done) (last++[t]) (.slice (some ⟨g,0,none⟩) (last.length+1) fcap)):=hid (by
       have hx:=HROOM.out g fcap w3 t HO3.out ?_ ?_
       ·simpa using hx
       ·intro j hj hne
        have e1:=HGR.out.block j (by show j<(wr.alloc _).heap.size;simp;omega) hne
        rw[e1]
        exact Lib.alloc_old wr _ j hj
       ·rcases HAT.out with h|h
        ·exact .inl h
        ·right
         have:(wr.alloc (.cells #[.string (S t)] 9)).drew.heap.size=wr.heap.size+1:=by show(wr.alloc _).heap.size=_;simp
         omega)
      clear z0 y0 e0 f0 c1
      go_wp2_with fail
      go_roundw
      case rel=>exact⟨k+1,by omega,by go_num,done,last++[t],_,HOL.out,HGW.out,by first|(simp;omega)|omega,by first|(simp;omega)|omega,HPX.out⟩
      case measure=>simp[intOf];omega
   ·obtain rfl:k=C.length:=by omega
    go_wp2_with fail
    go_ret2
    refine⟨_,rfl,ai8.good rfl HG1.out.size ?_,HG1.out.trans HG.out⟩
    rw[HP.out,List.drop_length]
    have e:UD last [] (T.drop C.length)=[last]:=by cases (T.drop C.length)<;>rfl
    rw[e]
    exact HOWN.out.owns
end Go.Proofs.YtmffejnigppbpaaGreatDoor
