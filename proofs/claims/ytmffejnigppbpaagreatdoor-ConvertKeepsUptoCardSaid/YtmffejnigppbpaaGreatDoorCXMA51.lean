/-
  Texts merged into one: Big, ConvLabels, UpBox, CardLine.
-/
import Derived.Test.YtmffejnigppbpaaGreatDoorCXMA70
import Derived.Test.YtmffejnigppbpaaGreatDoorCXMA54
import Derived.Test.YtmffejnigppbpaaGreatDoorCXMA50
import Derived.Test.YtmffejnigppbpaaGreatDoorCXMA71
import Derived.Test.YtmffejnigppbpaaGreatDoorCXMA56
import Derived.Test.YtmffejnigppbpaaGreatDoorCXMA67
import Derived.Test.YtmffejnigppbpaaGreatDoorCXMA73
import Derived.Deep.AppendLies
import Derived.Test.YtmffejnigppbpaaGreatDoorCXCardOne
set_option linter.unusedVariables false
set_option linter.unusedSimpArgs false
set_option maxHeartbeats 4000000
set_option maxRecDepth 100000
namespace Go.Proofs.YtmffejnigppbpaaGreatDoor
open Go.RowKit
def aaT(x:It):Bool:=decide (2500<fK x.ps+x.g.length+x.n.length+0)
def aaU(x:It):Bool:=decide (1500<x.v.tx.length∨1500<iL x.v.ps)
def FI(x:It):Bool:=aaT x||aaU x
def Gm(xs:List It):Bool:=decide (40<xs.length)||xs.any FI
structure Lim(x:It):Prop where
 g:x.g.length≤1048576
 n:x.n.length≤1048576
 p:fK x.ps≤1048576
 t:x.v.tx.length≤1048576
 l:iL x.v.ps≤1048576
theorem Zp(ver:Int)(iv:Value)(xs:List It)(w:World)(h:dX w iv xs)(hL:∀x∈xs,Lim x)(hl:xs.length≤1048576) :
  dA 40 #[gY ver iv] w (.bool (Gm xs)):=by
 obtain⟨w1,hw1⟩:∃w1,w.alloc (.cells #[.int .i64 ver,iv] 24)=w1:=⟨_,rfl⟩
 have hC:wJ w1 w.heap.size ver iv xs:=by rw[←hw1];exact wJ.new h
 have HG1:=hid (show G w w1 by rw[←hw1];exact(G.refl w).alloc _)
 have HIT:=hid hC.it
 have HN:=hid hL
 have hc1:=hC.c1
 have hlt:=hC.lt
 obtain⟨ia,ic,rfl,hcap⟩:=h.len
 have hll:=hl
 by_cases h40:40<xs.length
 ·have HB:=hid (show Gm xs=true by unfold Gm;simp[h40])
  rw[HB.out]
  clear hC h hcap hL
  unfold gY
  go_enter Tryz.func40,Tryz.ntmps40
  go_wp2_with fail
  go_ret
  exact⟨rfl,HG1.out⟩
 have HBB:=hid (show Gm xs=xs.any FI by unfold Gm;simp[h40])
 rw[HBB.out]
 clear hC h hcap hL
 unfold gY
 go_enter Tryz.func40,Tryz.ntmps40
 go_wp2_with fail
 go_loopw [12] (fun i wr=>∃k:Nat,k≤xs.length∧i=.int .i64 k∧(xs.take k).any FI=false∧G w1 wr) (fun i _=>xs.length-(intOf i).toNat)
 case atStart=>exact⟨0,Nat.zero_le _,rfl,rfl,G.refl _⟩
 case round=>
  obtain⟨k,hk,rfl,hno,hg⟩:=hrel
  have HG:=hid hg
  have HNO:=hid hno
  clear hno hg
  by_cases hlt2:k<xs.length
  ·obtain⟨b,off,cap,e,hb,hit⟩:=(HIT.out.grow HG.out).at_ (by rintro rfl;simp at hlt2)
   cases e
   have hx:=List.getElem?_eq_getElem hlt2
   obtain⟨x,hxe⟩:∃x,xs[k]=x:=⟨_,rfl⟩
   rw[hxe]at hx
   obtain⟨pv,lv,hat⟩:=hit k x hx
   obtain⟨pa,pc,rfl⟩:=hat.ok.pv
   obtain⟨la,lc,rfl⟩:=hat.ok.lv
   obtain⟨k0,k1,k2,k3,k4,k5,k6,k7,k8,k9,k10,k11,k12,k13,k14⟩:=hat.e
   have HX:=hid hx
   have HOK:=hid hat.ok
   have hkl:(k:Int)<(xs.length:Int):=by omega
   have HXB:=hid (HN.out x (List.mem_of_getElem? hx))
   clear hit hat hx hxe
   go_wp2_with fail
   have hwd:=Zi x.g x.n [] (.slice pa x.ps.length pc) x.ps (wr.alloc (.cells #[.string (S x.g),.string (S x.n),.slice pa x.ps.length pc,.int .i64 x.v.ty,.string (S x.v.tx),.slice la x.v.ps.length lc,.int .i64 x.v.st.y,.int .i64 x.v.st.m,.int .i64 x.v.st.d,.int .i64 x.v.st.h,.int .i64 x.v.st.n,.int .i64 x.v.st.s,.bool x.v.st.zd,.int .i64 x.v.st.zn,.int .i64 x.v.n] 38)) (HOK.out.p.grow ((G.refl _).alloc _)) (by have:=HXB.out.p;omega) (by have:=HXB.out.g;omega) (by have:=HXB.out.n;omega) (by simp)
   have hsn:(xs.take (k+1)).any FI=FI x:=by
    rw[List.take_add_one,HX.out,List.any_append,HNO.out];simp
   have HSN:=hid hsn
   obtain⟨t1,ht1⟩:∃t,aaT x=t:=⟨_,rfl⟩
   have ht1':decide (2500<fK x.ps+x.g.length+x.n.length+([]:List UInt8).length)=t1:=ht1
   rw[ht1']at hwd
   refine hwd.use ?_
   clear hwd hsn ht1'
   intro w2 g2
   have HT1:=hid ht1
   have HANY:Hid (FI x=true→xs.any FI=true):=hid fun h=>List.any_eq_true.2 ⟨x,List.mem_of_getElem? HX.out,h⟩
   have hbox:∀(j:Nat) (u:Value),(x.cells (.slice pa x.ps.length pc) (.slice la x.v.ps.length lc))[j]?=some u→w2.cell? ⟨wr.heap.size,j,none⟩=some u:=fun j u hu=>by
    rw[g2.cell (by simp)]
    simpa[It.cells]using hu
   have q3:=hbox 3 _ rfl
   have q4:=hbox 4 _ rfl
   have q5:=hbox 5 _ rfl
   have q6:=hbox 6 _ rfl
   have q7:=hbox 7 _ rfl
   have q8:=hbox 8 _ rfl
   have q9:=hbox 9 _ rfl
   have q10:=hbox 10 _ rfl
   have q11:=hbox 11 _ rfl
   have q12:=hbox 12 _ rfl
   have q13:=hbox 13 _ rfl
   have q14:=hbox 14 _ rfl
   have GA:=hid ((G.refl wr).alloc (.cells #[.string (S x.g),.string (S x.n),.slice pa x.ps.length pc,.int .i64 x.v.ty,.string (S x.v.tx),.slice la x.v.ps.length lc,.int .i64 x.v.st.y,.int .i64 x.v.st.m,.int .i64 x.v.st.d,.int .i64 x.v.st.h,.int .i64 x.v.st.n,.int .i64 x.v.st.s,.bool x.v.st.zd,.int .i64 x.v.st.zn,.int .i64 x.v.n] 38) |>.trans g2)
   have TH:=hid (WR x.v la lc w2 (HOK.out.l.grow GA.out) HXB.out.t (by have:=HXB.out.l;omega))
   clear hbox g2 ht1 k0 k1 k2 k3 k4 k5 k6 k7 k8 k9 k10 k11 k12 k13 k14
   cases t1 with
   |true=>
    go_wp2_with fail
    go_ret
    exact⟨cO (HANY.out (by unfold FI;rw[HT1.out];rfl)).symm,HG1.out.trans (HG.out.trans GA.out)⟩
   |false=>
    go_wp2_with fail
    obtain⟨t2,ht2⟩:∃t,aaU x=t:=⟨_,rfl⟩
    have hth:=TH.out
    rw[show decide (1500<x.v.tx.length∨1500<iL x.v.ps)=t2 from ht2]at hth
    refine hth.use ?_
    have HT2:=hid ht2
    clear hth ht2 TH q3 q4 q5 q6 q7 q8 q9 q10 q11 q12 q13 q14
    intro w3 g3
    have GB:=hid (GA.out.trans g3)
    clear g3
    cases t2 with
    |true=>
     go_wp2_with fail
     go_ret
     exact⟨cO (HANY.out (by unfold FI;rw[HT2.out];simp)).symm,HG1.out.trans (HG.out.trans GB.out)⟩
    |false=>
     go_wp2_with fail
     go_roundw
     case measure=>simp[intOf];omega
     case rel=>exact⟨k+1,by omega,by go_num,by rw[HSN.out];unfold FI;rw[HT1.out,HT2.out];rfl,HG.out.trans GB.out⟩
  ·obtain rfl:k=xs.length:=by omega
   have HE:=hid (show xs.any FI=false by have:=HNO.out;rw[List.take_of_length_le (Nat.le_refl _)]at this;exact this)
   go_wp2_with fail
   go_ret
   exact⟨cO HE.out.symm,HG1.out.trans HG.out⟩
end Go.Proofs.YtmffejnigppbpaaGreatDoor

set_option maxHeartbeats 4000000
set_option maxRecDepth 100000
namespace Go.Proofs.YtmffejnigppbpaaGreatDoor
open Go.RowKit
theorem OE{xs:List It}(h:∀x∈xs,dC x.n dN=false):dS xs=xs:=by
 have key:∀(xs ys:List It),(∀x∈xs,dC x.n dN=false)→xs.foldl ja ys=ys++xs:=by
  intro xs
  induction xs with
  |nil=>intro ys _;simp
  |cons x xs ih=>
   intro ys h
   have e:ja ys x=ys++[x]:=by
    unfold ja
    rw[if_neg (by rw[h x List.mem_cons_self];rintro⟨h,_⟩;cases h)]
   rw[List.foldl_cons,e,ih _ (fun y hy=>h y (List.mem_cons_of_mem _ hy)),List.append_assoc];rfl
 exact key xs [] h
theorem MJ(L:List Nat)(iv:Value)(xs:List It)(w:World)(h:dX (Wl L w) iv xs)(hl:xs.length≤1000)(hs:∀x∈xs,x.n.length≤1000000)(hn:∀x∈xs,dC x.n dN=false):dP 50 #[iv] w (fun r w'=>∃ds,kS w.heap.size w' r xs.length ds∧fO (Wl L w') xs ds):=by
 have HIT:=hid h
 have HS:=hid hs
 have HN:=hid hn
 obtain⟨ia,ic,rfl,hcap⟩:=h.len
 clear h hcap hs hn
 obtain⟨i0,hi,hz0,hz1,hz2⟩:=info_parts x8
 go_enter Tryz.func50,Tryz.ntmps50
 go_wp2_with fail
 go_loopw [3,11] (fun ov i wr=>∃(k:Nat) (ds:List Value),k≤xs.length∧i=.int .i64 k∧kS w.heap.size wr ov k ds∧fO (Wl L w) (xs.take k) ds∧G w wr) (fun _ i _=>xs.length-(intOf i).toNat)
 case atStart=>exact⟨0,[],Nat.zero_le _,rfl,World.ownsRow_nil _ _ _ _,rfl,G.refl _⟩
 case round=>
  obtain⟨k,ds,hk,rfl,how,hir,gr⟩:=hrel
  have HOW:=hid how
  have HIR:=hid hir
  have GR:=hid gr
  obtain⟨oa,oc,hov⟩:=ug how
  subst hov
  clear how hir gr
  by_cases hlt:k<xs.length
  ·obtain⟨b,off,cap,e,hb,hit⟩:=pq HIT.out (by rintro rfl;simp at hlt)
   cases e
   have hx:=List.getElem?_eq_getElem hlt
   obtain⟨x,hxe⟩:∃x,xs[k]=x:=⟨_,rfl⟩
   rw[hxe]at hx
   obtain⟨pv,lv,hat⟩:=hit k x hx
   have hsg:xZ wr b (off+k*15) x pv lv:=xZ.grow (w:=w) ⟨fun j u hu=>(Wl.sub L w).cell _ _ (hat.c j u hu),hat.ok.sub (Wl.sub L w)⟩ (by rw[Wl.size]at hb;exact hb) GR.out
   obtain⟨pa,pc,rfl⟩:=hat.ok.pv
   obtain⟨la,lc,rfl⟩:=hat.ok.lv
   obtain⟨k0,k1,k2,k3,k4,k5,k6,k7,k8,k9,k10,k11,k12,k13,k14⟩:=hsg.e
   have HX:=hid hx
   have HOK:=hid hat.ok
   have hkl:(k:Int)<(xs.length:Int):=by omega
   have hnl:=HS.out x (List.mem_of_getElem? hx)
   have SM:=hid (fun W=>kM x.n dN W (by omega) (by simp[dN]))
   rw[HN.out x (List.mem_of_getElem? hx)]at SM
   unfold dN at SM
   have HBX:=hid (heap_alloc_new wr (.cells (x.cells (.slice pa x.ps.length pc) (.slice la x.v.ps.length lc)).toArray 38))
   clear hit hat hsg hx hxe
   go_wp2_with fail
   refine(SM.out _).use ?_
   intro w2 g2
   have HB2:=hid (aB HBX.out g2)
   have G2:=hid (((G.refl wr).alloc (.cells (x.cells (.slice pa x.ps.length pc) (.slice la x.v.ps.length lc)).toArray 38)).trans g2)
   have HO2:=hid (kS.grow HOW.out G2.out)
   have hsz:=GR.out.size
   have hsz2:=G2.out.size
   clear k0 k1 k2 k3 k4 k5 k6 k7 k8 k9 k10 k11 k12 k13 k14 g2
   obtain⟨k0,k1,k2,k3,k4,k5,k6,k7,k8,k9,k10,k11,k12,k13,k14⟩:=aP HB2.out
   go_wp2_with (at_builtin;refine wpList_append_own _ rfl _ _ 22 rfl w.heap.size 38 i0 _ 15 176 Tryz.underlying22 hi hz0 hz1 hz2 rfl (by decide) _ _ _ rfl (HO2.out.alloc _) ⟨w2.heap.size,0,none⟩ 1 1 (x.cells (.slice pa x.ps.length pc) (.slice la x.v.ps.length lc)) rfl rfl (fun j u hu=>by rw[mV,Nat.zero_add,cell_of_row _ _ j _ _ _ (heap_alloc_new w2 _)];simpa[It.cells]using hu) HOK.out.one (by unfold maxLen;omega) (by omega) (by simp;omega) ?_;intro v' w3 hown' hgrow hnil)
   have hG3:G w w3:=Below.grown ((GR.out.trans G2.out).alloc _) hgrow (by simp;omega) (fun j hj=>(HO2.out.lt j hj).1)
   have HOW3:=hid (show kS w.heap.size w3 v' (k+1) (ds++x.cells (.slice pa x.ps.length pc) (.slice la x.v.ps.length lc))from hown')
   have HIR3:=hid (show fO (Wl L w) (xs.take (k+1)) (ds++x.cells (.slice pa x.ps.length pc) (.slice la x.v.ps.length lc))from by
    rw[List.take_add_one,HX.out]
    exact HIR.out.append (fO.single HOK.out))
   have HG3:=hid hG3
   clear hown' hgrow hnil hG3 k0 k1 k2 k3 k4 k5 k6 k7 k8 k9 k10 k11 k12 k13 k14
   go_wp2_with fail
   go_roundw
   case measure=>simp[intOf];omega
   case rel=>exact⟨k+1,_,by omega,by go_num,HOW3.out,HIR3.out,HG3.out⟩
  ·obtain rfl:k=xs.length:=by omega
   have HIR2:=hid (show fO (Wl L w) xs ds from by have:=HIR.out;rwa [List.take_length]at this)
   go_wp2_with fail
   go_ret
   exact⟨_,rfl,⟨ds,HOW.out,HIR2.out.grow (Wl.g GR.out)⟩,GR.out⟩
end Go.Proofs.YtmffejnigppbpaaGreatDoor

namespace Go.Proofs.YtmffejnigppbpaaGreatDoor
open Go.RowKit
def NJ(v:Value):List Nat:=match v.ownBlock with|none=>[]|some b=>[b]
def woC(C:Option Nat)(w:World):World:=match C with|none=>w|some b=>Wo b w
theorem Sub.app{w w':World}{C:Option Nat}{g:Nat}(m:w.grownBy w' C)(hg:C=some g∨w.heap.size≤g):Sub (woC C w) (Wo g w'):=by
 have key:∀(p:Addr) (u:Value),p.block≠g→C≠some p.block→w.cell? p=some u→(Wo g w').cell? p=some u:=fun p u h1 h2 e=>by
  rw[World.cell?_of_block (Wo.other g w' _ h1),World.cell?_of_block (m.block p.block (World.block_lt_of_cell? _ _ e) (fun q=>h2 q.symm))]
  exact e
 cases C with
 |none=>
  show Sub w (Wo g w')
  refine⟨by rw[Wo.size];exact m.size,fun p u e=>key p u ?_ (by simp) e⟩
  have:p.block<w.heap.size:=World.block_lt_of_cell? w p e
  rcases hg with h|h
  ·cases h
  ·omega
 |some b=>
  show Sub (Wo b w) (Wo g w')
  refine⟨by rw[Wo.size,Wo.size];exact m.size,fun p u e=>?_⟩
  have h1:=Wo.not e
  have e2:=Wo.cell b w p u e
  have h2:=World.block_lt_of_cell? _ _ e2
  refine key p u ?_ (fun q=>h1 (Option.some.inj q).symm) e2
  rcases hg with h|h
  ·cases h;exact h1
  ·omega
theorem abN(v:Value)(w:World):Wl (NJ v) w=woC v.ownBlock w:=by
 unfold NJ woC
 cases v.ownBlock<;>rfl
theorem tZ{fn:Func}{Q:Ending→World→Prop}{a:Act}{WF:World}{X s t:Nat}{c0 c1 e:Value}(hres:fn.results=#[.cell s 24,.tmp t])(hp:a.tmps.getD s undef=.pointer (some ⟨X,0,none⟩))(hb:a.tmps.getD t undef=e)(hd:a.defers=[])(hrow:WF.heap[X]?=some (.cells #[c0,c1] 24 (0,0)))(hQ:Q (.returned (.tuple #[.agg #[c0,c1],e])) WF):bodyPost Tryz.prog fn Q .ret a WF:=by
 obtain⟨e0,e1⟩:=jJ hrow
 refine bodyPost_ret (v:=.tuple #[.agg #[c0,c1],e]) ?_ hd hQ
 have hp2:a.tmps[s]?.getD undef=.pointer (some ⟨X,0,none⟩):=by simpa using hp
 have hb2:a.tmps[t]?.getD undef=e:=by simpa using hb
 simp only[results,hres]
 go_simp
theorem I7{W:World}{X:Nat}{a0 a1 b0 b1:Value}{T:TypeId}(h:W.heap[X]?=some (.cells #[a0,a1] T (0,0))):((W.setCell ⟨X,0,none⟩ b0).setCell ⟨X,1,none⟩ b1).heap[X]?=some (.cells #[b0,b1] T (0,0)):=by
 simp[World.setCell,Array.getElem?_modify,h]
theorem Vj{w:World}{base:Nat}{t:TypeId}{k n i X:Nat}{v u:Value}{cs:List Value}(h:w.ownsRow base t k v n cs)(hX:X<base):(w.setCell ⟨X,i,none⟩ u).ownsRow base t k v n cs:=h.kept (AC w X i u) (l9 h hX)
theorem aaf{w:World}{base:Nat}{v:Value}{n:Nat}{cs:List Value}(h:kS base w v n cs):∀X∈NJ v,X<w.heap.size∧base≤X:=fun X hx=>by
 unfold NJ at hx
 cases hv:v.ownBlock with
 |none=>rw[hv]at hx;cases hx
 |some b=>
  rw[hv]at hx
  have:=List.mem_singleton.1 hx
  subst this
  exact⟨(h.lt _ hv).2,(h.lt _ hv).1⟩
theorem Wl.app:∀(A B:List Nat) (w:World),Wl (A++B) w=Wl B (Wl A w)
 |[],B,w=>rfl
 |X::A,B,w=>Wl.app A B (Wo X w)
theorem Wl.of{w w':World}(h:G w w'):∀ {L:List Nat},(∀X∈L,w.heap.size≤X)→G w (Wl L w'):=by
 intro L
 induction L generalizing w' with
 |nil=>intro _;exact h
 |cons X L ih=>intro hX;exact ih (Wo.of h (hX X List.mem_cons_self)) (fun Y hY=>hX Y (List.mem_cons_of_mem _ hY))
theorem Wl.notin{p:Addr}{u:Value}:∀ {L:List Nat} {w:World},(Wl L w).cell? p=some u→∀X∈L,p.block≠X
 |[],_,_,X,h=>by cases h
 |Y::L,w,e,X,h=>by
  rcases List.mem_cons.1 h with rfl|h
  ·exact Wo.not ((Wl.sub L _).cell _ _ e)
  ·exact Wl.notin (L:=L) (w:=Wo Y w) e X h
theorem Wl.step{w w':World}{L A:List Nat}{O:Nat}(m:w.grownBy w' (some O))(hO:O∈L)(hA:∀X∈A,w.heap.size≤X):Sub (Wl L w) (Wl (A++L) w'):=⟨by rw[Wl.size,Wl.size];exact m.size,fun p u e=>by
 have h1:=Wl.notin e
 have e2:=(Wl.sub L w).cell p u e
 have h2:=World.block_lt_of_cell? w p e2
 rw[World.cell?_of_block (Wl.other (L:=A++L) (w:=w') (fun X hX=>by
  rcases List.mem_append.1 hX with h|h
  ·have:=hA X h;omega
  ·exact h1 X h)),World.cell?_of_block (m.block p.block h2 (fun q=>h1 O hO (Option.some.inj q)))]
 exact e2⟩
theorem lL.put{w:World}{v:Value}{c:Int}{k:Option Nat}{X:Nat}{a0:Value}{s:Option Addr}{n cp:Nat}{T:TypeId}(h:lL w v (some (c,k)))(hX:w.heap[X]?=some (.cells #[a0,.slice s n cp] T (0,0)))(b0 b1:Value):lL ((w.setCell ⟨X,0,none⟩ b0).setCell ⟨X,1,none⟩ b1) v (some (c,k)):=by
 cases k with
 |none=>exact h
 |some k=>
  obtain⟨b,e,h0,h1,h2⟩:=h
  have hne:b≠X:=by
   rintro rfl
   rw[cell_of_row w b 1 _ _ _ hX]at h1
   cases h1
  have far:∀(w:World) (i j:Nat) (v:Value),(w.setCell ⟨X,i,none⟩ v).cell? ⟨b,j,none⟩=w.cell? ⟨b,j,none⟩:=fun w i j v=>World.cell?_setCell_other _ _ _ _ (by intro e;injection e with e;exact hne e.symm)
  exact⟨b,e,by rw[far,far];exact h0,by rw[far,far];exact h1,by simpa using h2⟩
end Go.Proofs.YtmffejnigppbpaaGreatDoor

set_option maxHeartbeats 8000000
set_option maxRecDepth 100000
namespace Go.Proofs.YtmffejnigppbpaaGreatDoor
open Go.RowKit
def Zq(x:It)(pv:Value)(ver:Int)(l:List UInt8)(k:Nat)(v:Value)(W:World):Prop:=
 match k with
 |0=>v=.agg #[.string (S x.g),.string (S x.n),pv,.string (S x.v.text)]
 |1=>v=.int .i64 ver
 |2=>v=.bool (ver==4)
 |3=>v=.tuple #[.string (S l),.nilIface]
 |4=>v=.string (S l)
 |5=>v=.nilIface
 |_=>True
theorem Xt(ver:Int)(hv:ver=3∨ver=4)(x:It)(pv lv:Value)(w:World)(h:dG w x pv lv)(hs:Sml x)(hR:qm w)(hM:nJ w)(hE:gQ w)(h1:qM ver x=true):dA 36 #[x.val pv lv,.int .i64 ver] w (.tuple #[.string (S (pO (ver==4) (lnX x x.v.text))),.nilIface]):=by
 have hb:=hs.bounds
 obtain⟨h2,_,_,_,ho,_,_⟩:=Un.1 h1
 have hre:=(L9 h2 ho).1
 have LP0:∀W,G w W→dA 72 #[.agg #[.string (S x.g),.string (S x.n),pv,.string (S x.v.text)],.bool (ver==4)] W (.tuple #[.string (S (pO (ver==4) (lnX x x.v.text))),.nilIface]):=fun W g=>by
  refine Calls.mono (zM x.g x.n x.v.text pv x.ps (ver==4) W (h.p.grow g) hb.1 hb.2.1 hb.2.2.2.2.2 hb.2.2.1) ?_
  rintro e w' ⟨r,rfl,hr,hg⟩
  have hr2:nD (ver==4) (lnX x x.v.text) r w':=hr
  unfold nD at hr2
  rw[hre]at hr2
  simp only at hr2
  subst hr2
  exact⟨rfl,hg⟩
 have ON:=hid (fun W (g:G w W)=>Uo ver hv x pv lv W (h.grow g) hs (hR.grow g) (hM.grow g) (hE.grow g))
 have PR:=hid (fun W (g:G w W)=>Oy x pv lv ver W (h.grow g) hs (hM.grow g) (hE.grow g) ho)
 obtain⟨l,hl⟩:∃l,l=pO (ver==4) (lnX x x.v.text):=⟨_,rfl⟩
 rw[←hl]at LP0⊢
 obtain⟨pa,pc,rfl⟩:=h.pv
 obtain⟨la,lc,rfl⟩:=h.lv
 have LPW:=hid LP0
 have H1:=hid h1
 clear LP0 h hb hs hR hM hE h1 h2 ho hre hl
 have ways:(ver != 3)=false∨((ver != 3)=true∧(ver != 4)=false):=by rcases hv with rfl|rfl<;>simp
 clear hv
 rcases ways with b3|⟨b3,b4⟩
 all_goals
  go_enter Tryz.func36,Tryz.ntmps36
  go_wp2_with fail
  generalize hw1:w.alloc _=w1
  have HB:=hid (show w1.heap[w.heap.size]?=some (.cells (x.cells (.slice pa x.ps.length pc) (.slice la x.v.ps.length lc)).toArray 38 (0,0)) by rw[←hw1];exact heap_alloc_new w _)
  have G1:=hid (show G w w1 by rw[←hw1];exact(G.refl w).alloc _)
  clear hw1
  refine(ON.out w1 G1.out).use ?_
  rintro r w2 ⟨c,rfl,hoc⟩ g2
  obtain rfl:c=0:=hoc.ok.2 H1.out
  have G2:=hid (G1.out.trans g2)
  have HB2:=hid (aB HB.out g2)
  clear hoc g2
  obtain⟨q0,q1,q2,q3,q4,q5,q6,q7,q8,q9,q10,q11,q12,q13,q14⟩:=aP HB2.out
  go_wp2_with fail
  refine(PR.out w2 G2.out).use ?_
  intro wb gb
  clear q0 q1 q2 q3 q4 q5 q6 q7 q8 q9 q10 q11 q12 q13 q14
  go_wp2_with fail
  generalize hw9:wb.alloc _=w9
  have HP4:=hid (show w9.heap[wb.heap.size]?=some (.cells #[.string (S x.g),.string (S x.n),.slice pa x.ps.length pc,.string (S x.v.text)] 109 (0,0)) by rw[←hw9];exact heap_alloc_new wb _)
  have G9:=hid (show G w w9 by rw[←hw9];exact G2.out.trans (gb.alloc _))
  have LP:=hid (fun W (g:G w9 W)=>LPW.out W (G9.out.trans g))
  clear hw9 gb
  refine wp_region_any (by kernel_rfl) ?_
  refine jQ (E:=#[false,false,false,false,false,false,false,false]) G 6 (Zq x (.slice pa x.ps.length pc) ver l) [some [],some [],some [(1,33)],some [(0,32),(2,34),(2,34)],some [(3,35)],some [(3,35)],none,none] [(0,32),(1,33),(2,34),(3,35),(4,36),(5,37)] _ (by kernel_rfl) (by decide) (by kernel_rfl) (by kernel_rfl) rfl G.refl (fun _ _ _=>G.trans) (w0:=w9) ((G.refl w9).drew) ?_ ?_ ?_
  ·intro k v W W' g h
   match k,h with
   |0,h=>exact h
   |1,h=>exact h
   |2,h=>exact h
   |3,h=>exact h
   |4,h=>exact h
   |5,h=>exact h
   |n+6,h=>trivial
  ·refine bi (fun vals W g d=>?_)<|bi (fun vals W g d=>?_)<|bi (fun vals W g d=>?_)<|bi (fun vals W g d=>?_)<|bi (fun vals W g d=>?_)<|bi (fun vals W g d=>?_)<|eY<|eY oD
   ·refine bI rfl rfl rfl fun K hK=>?_
    simp only[gFr]at hK⊢
    obtain⟨k0,k1,k2,k3⟩:=J8 (aB HP4.out g)
    go_simp
    exact hK _ _ (G.refl _) rfl
   ·refine bI rfl rfl rfl fun K hK=>?_
    simp only[gFr]at hK⊢
    go_simp
    exact hK _ _ (G.refl _) rfl
   ·obtain⟨d1,_⟩:=d
    change vals 1=_ at d1
    refine bI rfl rfl rfl fun K hK=>?_
    simp only[gFr,d1]at hK⊢
    go_simp
    refine(Ad ver W).use ?_
    intro W' hg
    exact hK _ _ hg rfl
   ·obtain⟨d0,d2,_,_⟩:=d
    change vals 0=_ at d0
    change vals 2=_ at d2
    refine bI rfl rfl rfl fun K hK=>?_
    simp only[gFr,d0,d2]at hK⊢
    go_simp
    refine(LP.out W g).use ?_
    intro W' hg
    exact hK _ _ hg rfl
   ·obtain⟨d3,_⟩:=d
    change vals 3=_ at d3
    refine bI rfl rfl rfl fun K hK=>?_
    simp only[gFr,d3]at hK⊢
    go_simp
    exact hK _ _ (G.refl _) rfl
   ·obtain⟨d3,_⟩:=d
    change vals 3=_ at d3
    refine bI rfl rfl rfl fun K hK=>?_
    simp only[gFr,d3]at hK⊢
    go_simp
    exact hK _ _ (G.refl _) rfl
  ·intro vals W g d
   simp only[jf,jH]at d
   obtain⟨d0,d1,d2,d3,d4,d5,_⟩:=d
   change vals 0=_ at d0
   change vals 1=_ at d1
   change vals 2=_ at d2
   change vals 3=_ at d3
   change vals 4=_ at d4
   change vals 5=_ at d5
   have GW:=hid (G9.out.trans g)
   refine⟨?_⟩
   show wpList _ _ _ [_,_] _ _
   simp only[gFr,d0,d1,d2,d3,d4,d5]
   clear d0 d1 d2 d3 d4 d5
   go_wp2_with fail
   refine bodyPost_ret (v:=.tuple #[.string (S l),.nilIface]) ?_ rfl ⟨rfl,GW.out⟩
   simp only[results,Tryz.f36]
   go_simp
end Go.Proofs.YtmffejnigppbpaaGreatDoor
