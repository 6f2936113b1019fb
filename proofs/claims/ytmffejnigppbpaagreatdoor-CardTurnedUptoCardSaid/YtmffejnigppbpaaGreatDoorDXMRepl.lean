/-
  Texts merged into one: ReplBuild, ReplRun, Repl, Escape.
-/
import Derived.Test.YtmffejnigppbpaaGreatDoorDXMA69
import Derived.Test.YtmffejnigppbpaaGreatDoorDXMA52
import Derived.OwnWalk
import Derived.Deep.AppendLies
import Derived.Deep.OwnRows
import Derived.Deep.WholeRow
import Derived.Lib.BufferMore
import Derived.Test.YtmffejnigppbpaaGreatDoorDXShelf
import Derived.Laws.CopyOwn
import Derived.Deep.RegionLaw
import Derived.Deep.Onto
set_option linter.unusedVariables false
set_option linter.unusedSimpArgs false
set_option maxHeartbeats 4000000
set_option maxRecDepth 100000
namespace Go.Proofs.YtmffejnigppbpaaGreatDoor
open Go.RowKit
def afy(w:World)(o:Nat)(ps:List (UInt8×List UInt8)):Prop:=
 o<w.heap.size∧∀(j:Nat) (h:j<ps.length),w.cell? ⟨o,2*j,none⟩=some (.string (S [ps[j].1]))∧w.cell? ⟨o,2*j+1,none⟩=some (.string (S ps[j].2))
theorem afy.grow{w w':World}{o:Nat}{ps:List (UInt8×List UInt8)}(h:afy w o ps)(g:G w w'):afy w' o ps:=
 ⟨Nat.lt_of_lt_of_le h.1 g.size,fun j hj=>by rw[g.cell h.1,g.cell h.1];exact h.2 j hj⟩
theorem aiN{w w':World}{base:Nat}{e:TypeId}{size:Nat}{v:Value}{n:Nat}{xs:List Value}(h:w.ownsRow base e size v n xs)(g:G w w'):w'.ownsRow base e size v n xs:=by
 refine⟨h.1,?_⟩
 rcases h.2 with hn|⟨q,cap,cur,rfl,hbg,hgg,rest⟩
 ·exact .inl hn
 ·have hq:q<w.heap.size:=by
   rcases Nat.lt_or_ge q w.heap.size with h'|h'
   ·exact h'
   ·rw[Array.getElem?_eq_none h']at hgg;cases hgg
  exact .inr ⟨q,cap,cur,rfl,hbg,by rw[g.below.block q hq];exact hgg,rest⟩
theorem axj(b j:Nat):(⟨b,0,none⟩:Addr).add j=⟨b,j,none⟩:=by unfold Addr.add;split<;>simp_all
def aew:List (UInt8×List UInt8)→UInt8→Option (List UInt8)
 |[],_=>none
 |p::r,c=>if p.1=c then some p.2 else aew r c
theorem ahQ(w:World)(a:Addr)(v:Value):w.grownBy (w.setCell a v) (some a.block):=
 ⟨rfl,rfl,rfl,by simp[World.setCell],fun k hk hne=>by
  show(w.heap.modify _ _)[k]?=_
  rw[Array.getElem?_modify]
  rw[if_neg (fun h=>hne (by rw[h]))]⟩
structure ac7(w0 w:World)(C:Nat)(tv:Value)(f:UInt8→Option (List UInt8))(keys:List UInt8):Prop where
 g:G w0 w
 cl:w0.heap.size≤C
 ch:C<w.heap.size
 fz:∀k,w.frozen? ⟨C,k,none⟩=false
 own:w.ownsRow w0.heap.size 9 1 tv keys.length (keys.map fun k=>.string (S [k]))
 ne:tv.ownBlock≠some C
 top:w.cell? ⟨C,256,none⟩=some tv
 slots:∀c:UInt8,(f c=none∧w.cell? ⟨C,c.toNat,none⟩=some (.slice none 0 0))∨∃l b cap,f c=some l∧w.cell? ⟨C,c.toNat,none⟩=some (.slice (some ⟨b,0,none⟩) l.length cap)∧b<w.heap.size∧b≠C∧tv.ownBlock≠some b∧∀j (h:j<l.length),w.cell? ⟨b,j,none⟩=some (.int .u8 (l[j].toNat:Int))
theorem ac7.keyed{w0 w w2 w3:World}{C:Nat}{tv:Value}{f:UInt8→Option (List UInt8)}{keys:List UInt8}(h:ac7 w0 w C tv f keys)(g2:G w w2)(hgrow:w2.grownBy w3 tv.ownBlock)(k:UInt8)(g cap:Nat)(hH:tv.ownBlock=some g∨g=w2.heap.size)(hown:w3.ownsRow w0.heap.size 9 1 (.slice (some ⟨g,0,none⟩) (keys.length+1) cap) (keys.length+1) ((keys.map fun k=>Value.string (S [k]))++[.string (S [k])])) :
  ac7 w0 (w3.setCell ⟨C,256,none⟩ (.slice (some ⟨g,0,none⟩) (keys.length+1) cap)) C (.slice (some ⟨g,0,none⟩) (keys.length+1) cap) f (keys++[k]):=by
 have hC2:C<w2.heap.size:=Nat.lt_of_lt_of_le h.ch g2.size
 have hgC:g≠C:=by
  rcases hH with e|e
  ·exact fun e2=>h.ne (by rw[e,e2])
  ·omega
 have far:∀(b j:Nat),b<w.heap.size→tv.ownBlock≠some b→w3.cell? ⟨b,j,none⟩=w.cell? ⟨b,j,none⟩:=fun b j hb hne=>by
  rw[hgrow.cell_far ⟨b,j,none⟩ (Nat.lt_of_lt_of_le hb g2.size) (fun e=>hne e.symm),g2.cell hb]
 have hC3:C<w3.heap.size:=Nat.lt_of_lt_of_le hC2 hgrow.size
 have hsz:∀v,(w3.setCell ⟨C,256,none⟩ v).heap.size=w3.heap.size:=fun v=>by simp[World.setCell]
 refine⟨?_,h.cl,by rw[hsz];exact hC3,fun j=>?_,?_,?_,?_,fun c=>?_⟩
 ·exact(Below.grown (h.g.trans g2) hgrow (by have:=h.g.size;have:=g2.size;omega) (fun j hj=>(h.own.lt j hj).1)).setCell (p:=⟨C,256,none⟩) h.cl _
 ·rw[World.frozen?_setCell,hgrow.frozen_far ⟨C,j,none⟩ hC2 (fun e=>h.ne e.symm),Below.frozen g2 (p:=⟨C,j,none⟩) h.ch]
  exact h.fz j
 ·have:=hown.kept (ahQ w3 ⟨C,256,none⟩ (.slice (some ⟨g,0,none⟩) (keys.length+1) cap)) (.inr (by simp[Value.ownBlock,hgC]))
  simpa using this
 ·simp[Value.ownBlock,hgC]
 ·exact World.cell?_setCell_same _ _ _ ((far C 256 h.ch h.ne).trans h.top)
 ·have h256:(c.toNat:Nat)≠256:=by have:=c.toNat_lt;omega
  have e:∀v,(w3.setCell ⟨C,256,none⟩ v).cell? ⟨C,c.toNat,none⟩=w.cell? ⟨C,c.toNat,none⟩:=fun v=>by
   rw[World.cell?_setCell_other _ _ _ _ (by first|(simp;done)|(simp;omega))];exact far C _ h.ch h.ne
  rcases h.slots c with⟨h1,h2⟩|⟨l,b,cap',h1,h2,h3,h4,h5,h6⟩
  ·exact .inl ⟨h1,(e _).trans h2⟩
  ·refine .inr ⟨l,b,cap',h1,(e _).trans h2,?_,h4,?_,fun j hj=>?_⟩
   ·rw[hsz];have:=hgrow.size;have:=g2.size;omega
   ·rcases hH with e|e
    ·intro e2;have:g=b:=by simpa[Value.ownBlock]using e2
     exact h5 (by rw[e,this])
    ·intro e2;have:g=b:=by simpa[Value.ownBlock]using e2
     have:=g2.size;omega
   ·rw[World.cell?_setCell_other _ _ _ _ (by first|(simp;done)|(simp;omega))]
    rw[far b j h3 h5];exact h6 j hj
theorem ac7.slot{w0 w w2:World}{C:Nat}{tv:Value}{f:UInt8→Option (List UInt8)}{keys:List UInt8}(h:ac7 w0 w C tv f keys)(g2:G w w2)(k:UInt8)(l:List UInt8)(cap:Nat)(hlt:w.heap.size<w2.heap.size)(hc:∀j (h:j<l.length),w2.cell? ⟨w.heap.size,j,none⟩=some (.int .u8 (l[j].toNat:Int))) :
  ac7 w0 (w2.setCell ⟨C,k.toNat,none⟩ (.slice (some ⟨w.heap.size,0,none⟩) l.length cap)) C tv (fun c=>if k=c then some l else f c) keys:=by
 have hC2:C<w2.heap.size:=Nat.lt_of_lt_of_le h.ch g2.size
 have hsz:∀v,(w2.setCell ⟨C,k.toNat,none⟩ v).heap.size=w2.heap.size:=fun v=>by simp[World.setCell]
 have hk256:k.toNat≠256:=by have:=k.toNat_lt;omega
 have hown2:=aiN h.own g2
 refine⟨(h.g.trans g2).below.setCell (p:=⟨C,k.toNat,none⟩) h.cl _,h.cl,by rw[hsz];exact hC2,fun j=>?_,?_,h.ne,?_,fun c=>?_⟩
 ·rw[World.frozen?_setCell,Below.frozen g2 (p:=⟨C,j,none⟩) h.ch];exact h.fz j
 ·exact hown2.kept (ahQ w2 ⟨C,k.toNat,none⟩ _) (.inr h.ne)
 ·rw[World.cell?_setCell_other _ _ _ _ (by first|(simp;done)|(simp;omega)),g2.cell h.ch];exact h.top
 ·by_cases e:k=c
  ·subst e
   right
   refine⟨l,w.heap.size,cap,by simp,?_,by rw[hsz];exact hlt,by have:=h.ch;omega,?_,fun j hj=>?_⟩
   ·rcases h.slots k with⟨_,h2⟩|⟨_,_,_,_,h2,_⟩
    all_goals exact World.cell?_setCell_same _ _ _ ((g2.cell h.ch).trans h2)
   ·intro e;have:=(h.own.lt _ e).2;omega
   ·rw[World.cell?_setCell_other _ _ _ _ (by have:=h.ch;first|(simp;done)|(simp;omega))];exact hc j hj
  ·have hne:k.toNat≠c.toNat:=fun h=>e (UInt8.toNat_inj.1 h)
   have e1:∀v,(w2.setCell ⟨C,k.toNat,none⟩ v).cell? ⟨C,c.toNat,none⟩=w.cell? ⟨C,c.toNat,none⟩:=fun v=>by
    rw[World.cell?_setCell_other _ _ _ _ (by first|(simp;done)|(simp;omega))];exact g2.cell h.ch
   rcases h.slots c with⟨h1,h2⟩|⟨l',b,cap',h1,h2,h3,h4,h5,h6⟩
   ·exact .inl ⟨by simp[e,h1],(e1 _).trans h2⟩
   ·refine .inr ⟨l',b,cap',by simp[e,h1],(e1 _).trans h2,by rw[hsz];have:=g2.size;omega,h4,h5,fun j hj=>?_⟩
    rw[World.cell?_setCell_other _ _ _ _ (by first|(simp;done)|(simp;omega)),g2.cell h3];exact h6 j hj
theorem avz:(Tryz.prog.info? 320).map (·.size)=some 257:=by kernel_rfl
theorem aoO:Tryz.zeroCells320=Array.replicate 257 (.slice none 0 0):=by kernel_rfl
theorem avA:Tryz.zeroCells320.size=257:=by rw[aoO];simp
theorem axk(V:Value)(hV:V.oneCell'=true):((Tryz.zeroCells320.toList.set 256 V).toArray).all (·.oneCell')=true:=by
 rw[aoO]
 simp only[List.all_toArray,List.all_eq_true]
 intro x hx
 rcases List.mem_or_eq_of_mem_set hx with h|rfl
 ·rw[Array.toList_replicate]at h
  rw[List.eq_of_mem_replicate h];rfl
 ·exact hV
theorem ak4:(Tryz.prog.info? 9).map (fun i=>(i.zero,i.size,i.bytes))=some (some (.string ⟨#[]⟩),1,16):=by kernel_rfl
theorem atO(b o cap n:Nat)(ps:List (UInt8×List UInt8))(w:World)(hr:w.cell? ⟨b,4,none⟩=some (.slice (some ⟨o,0,none⟩) n cap))(hb:b<w.heap.size)(hn:n=2*ps.length)(hp:afy w o ps)(hv:∀p∈ps,p.2.length=2)(h2:2≤ps.length)(h3:ps.length≤100)(hd:∀(m:Nat) (h:m<ps.length),aew (ps.drop (m+1)) ps[m].1=none) :
  Uz 205 #[.pointer (some ⟨b,0,none⟩)] w fun v w'=>∃C tv,v=.iface 321 (.pointer (some ⟨C,0,none⟩))∧ac7 w w' C tv (aew ps) (ps.reverse.map (·.1)):=by
 have HP:=hid hp
 have HV:=hid hv
 have HN:=hid hn
 have hn4:4≤n:=by omega
 have hn2:((n:Int)==2)=false:=beq_eq_false_iff_ne.2 (by omega)
 have hnn:n≤200:=by omega
 have HD:=hid hd
 clear hp hv hn hd
 obtain⟨i0,hi,hz0,hz1,hz2⟩:=info_parts ak4
 have hnil:∀W,(binOp .eql 122 (.slice none 0 0) (.slice none 0 0)).run Tryz.prog W=.ok (.bool true) W:=fun W=>Lib.run_eql_slice_nil_nil W _ _ Tryz.underlying122
 go_enter Tryz.func205,Tryz.ntmps205
 go_wp2_with fail
 go_loopw [4,5] (fun bv iv wr=>∃j:Nat,iv=.int .i64 ((2*j:Nat):Int)∧2*j≤n∧(j=0∧bv=.bool true∨0<j∧bv=.bool false)∧wr=w) (fun bv iv _=>n-(intOf iv).toNat)
 case atStart=>exact⟨0,rfl,Nat.zero_le _,.inl ⟨rfl,rfl⟩,rfl⟩
 case round=>
  obtain⟨j,rfl,hj,hbv,rfl⟩:=hrel
  by_cases hlt:2*j<n
  ·have hjp:j<ps.length:=by have:=HN.out;omega
   have hlt1:2*j+1<n:=by have:=HN.out;omega
   obtain⟨c1,c2⟩:=HP.out.2 j hjp
   have l2:((ps[j]'hjp).2.length:Int)=2:=by have:=HV.out _ (List.getElem_mem hjp);omega
   obtain⟨x,hx⟩:∃x,(ps[j]'hjp).2=x:=⟨_,rfl⟩
   obtain⟨c,hc⟩:∃c,(ps[j]'hjp).1=c:=⟨_,rfl⟩
   rw[hx]at c2 l2
   rw[hc]at c1
   clear hx hc
   have q2:((x.length:Int) != 1)=true:=by rw[l2];rfl
   clear l2
   rcases hbv with⟨h0,rfl⟩|⟨h0,rfl⟩
   ·subst h0
    simp only[Nat.mul_zero,Nat.zero_add]at c1 c2 hlt hlt1
    go_wp2_with fail
    go_roundw
    case rel=>exact⟨1,by go_num,by omega,.inr ⟨by omega,rfl⟩,trivial⟩
    case measure=>simp[intOf];omega
   ·go_wp2_with fail
    go_roundw
    case rel=>exact⟨j+1,by go_num,by have:=HN.out;omega,.inr ⟨by omega,rfl⟩,trivial⟩
    case measure=>simp[intOf];omega
  ·have hje:2*j=n:=by omega
   rcases hbv with⟨h0,rfl⟩|⟨h0,rfl⟩
   ·omega
   clear hlt hj
   obtain⟨K,hK⟩:∃K,n/2=K:=⟨_,rfl⟩
   have hKn:((n:Int)/2)=(K:Int):=by omega
   have hKle:K≤100:=by omega
   have HK:Hid (K=ps.length):=hid (by have:=HN.out;omega)
   rw[hje]
   clear hje hK
   go_wp2_with (at_make;refine wpList_make_own _ rfl _ _ 39 rfl wr.heap.size 9 i0 _ 1 Tryz.underlying39 hi hz0 hz1 .i64 .i64 _ K rfl rfl rfl ?m1 ?m2 (Nat.le_refl _) ?_)
   case m1=>rw[hz2];omega
   case m2=>unfold maxLen;omega
   intro w1 hown hgrow
   have hst:=run_storeCells_new (P:=Tryz.prog) w1 320 Tryz.zeroCells320 (Tryz.zeroCells320.toList.set 256 (Value.slice (some ⟨wr.heap.size,0,none⟩) 0 K)).toArray (by simp[avz,avA]) (by simp) (axk _ rfl)
   obtain⟨w0,rfl⟩:∃z,z=wr:=⟨_,rfl⟩
   have hMlt:=(hown.lt w0.heap.size rfl).2
   have HB0:Hid (ac7 w0 (w1.alloc (.cells (Tryz.zeroCells320.toList.set 256 (Value.slice (some ⟨w0.heap.size,0,none⟩) 0 K)).toArray 320)) w1.heap.size (.slice (some ⟨w0.heap.size,0,none⟩) 0 K) (fun _=>none) []):=hid (by
    have hg1:G w0 w1:=Below.grown (G.refl w0) hgrow (Nat.le_refl _) (by simp)
    refine⟨hg1.alloc _,hg1.size,by simp,fun k=>World.frozen?_alloc_at _ _ _ _ rfl,hown.alloc _,?_,?_,fun c=>.inl ⟨rfl,?_⟩⟩
    ·intro e;have:w0.heap.size=w1.heap.size:=by simpa[Value.ownBlock]using e
     omega
    ·rw[World.cell?_alloc_new]
     rw[aoO];simp
    ·rw[World.cell?_alloc_new]
     have:=c.toNat_lt
     rw[aoO,List.getElem?_toArray,List.getElem?_set_ne (by omega),Array.toList_replicate,List.getElem?_replicate,if_pos (by omega)])
   clear hown hgrow
   go_wp2_with fail
   obtain⟨wL,hL⟩:∃wL,w1.alloc (.cells (Tryz.zeroCells320.toList.set 256 (Value.slice (some ⟨w0.heap.size,0,none⟩) 0 K)).toArray 320)=wL:=⟨_,rfl⟩
   rw[hL]at HB0⊢
   clear hL
   obtain⟨C,hC⟩:∃C,w1.heap.size=C:=⟨_,rfl⟩
   rw[hC]at HB0⊢
   clear hC hst hMlt
   go_loopw [12] (fun iv wq=>∃(m:Nat) (tv:Value),iv=.int .i64 (2*(m:Int)-2)∧m≤ps.length∧ac7 w0 wq C tv (aew (ps.drop m)) ((ps.drop m).reverse.map (·.1))) (fun iv _=>(intOf iv+2).toNat)
   case atStart=>
    refine⟨ps.length,.slice (some ⟨w0.heap.size,0,none⟩) 0 K,?_,Nat.le_refl _,?_⟩
    ·have:=HN.out;congr 1;omega
    ·have:=HB0.out
     rw[List.drop_length];exact this
   case round=>
    obtain⟨m,tv,rfl,hm,hbs⟩:=hrel
    have HB:=hid hbs
    clear hbs
    rcases m with _|m
    ·go_wp2_with fail
     go_ret
     exact⟨_,rfl,⟨C,tv,rfl,HB.out⟩,HB.out.g⟩
    ·have hmn:2*m+1<n:=by have:=HN.out;omega
     have hmn0:2*m<n:=by omega
     obtain⟨c1,c2⟩:=(HP.out.grow HB.out.g).2 m (by omega)
     have hiv:(2*((m+1:Nat):Int)-2)=((2*m:Nat):Int):=by omega
     rw[hiv]
     clear hiv
     obtain⟨c,hc⟩:∃c,(ps[m]'(by omega)).1=c:=⟨_,rfl⟩
     obtain⟨x,hx⟩:∃x,(ps[m]'(by omega)).2=x:=⟨_,rfl⟩
     rw[hc]at c1
     rw[hx]at c2
     have hno:aew (ps.drop (m+1)) c=none:=by rw[←hc];exact HD.out m (by omega)
     have hsl:wr.cell? ⟨C,c.toNat,none⟩=some (.slice none 0 0):=by
      rcases HB.out.slots c with h|⟨_,_,_,h,_⟩
      ·exact h.2
      ·rw[hno]at h;cases h
     have hc256:=c.toNat_lt
     have htop:=HB.out.top
     have hfz:=HB.out.fz 256
     have HC:=hid hc
     have HX:=hid hx
     have HNO:=hid hno
     clear hc hx hno
     have hkl:((ps.drop (m+1)).reverse.map (·.1)).length≤100:=by simp;omega
     obtain⟨ks,hks⟩:∃ks,(ps.drop (m+1)).reverse.map (·.1)=ks:=⟨_,rfl⟩
     rw[hks]at HB hkl
     have HKS:=hid hks
     clear hks
     go_wp2_with (at_builtin;refine wpList_append_lies _ rfl _ _ 39 rfl w0.heap.size 9 i0 _ 1 16 Tryz.underlying39 hi hz0 hz1 hz2 rfl (by decide) _ _ _ rfl ((HB.out.own.alloc _).alloc _) ⟨wr.heap.size+1,0,none⟩ 1 1 [.string (S [c])] rfl rfl ?c1 ?c2 (by omega) ?c3 ?c4 ?c5 _ rfl ?_)
     case c1=>
      intro j u hj
      rw[axj]
      match j,hj with
      |0,hj=>simp at hj;subst hj;simp
     case c2=>intro u hu;simp at hu;subst hu;rfl
     case c3=>unfold maxLen;omega
     case c4=>omega
     case c5=>have:=HB.out.g.size;simp;omega
     intro g cap2 w3 hown3 hgrow3 hat hlt3
     have g2:G wr _:=((G.refl wr).alloc (.cells #[.int .u8 (c.toNat:Int)] 5)).alloc (.cells #[.string (S [c])] 9)
     have htop3:w3.cell? ⟨C,256,none⟩=some tv:=(hgrow3.cell_far ⟨C,256,none⟩ (Nat.lt_of_lt_of_le HB.out.ch g2.size) (fun e=>HB.out.ne e.symm)).trans ((g2.cell HB.out.ch).trans HB.out.top)
     have hfz3:w3.frozen? ⟨C,256,none⟩=false:=(hgrow3.frozen_far ⟨C,256,none⟩ (Nat.lt_of_lt_of_le HB.out.ch g2.size) (fun e=>HB.out.ne e.symm)).trans ((Below.frozen g2 (p:=⟨C,256,none⟩) HB.out.ch).trans (HB.out.fz 256))
     have HB1:Hid (ac7 w0 (w3.setCell ⟨C,256,none⟩ (.slice (some ⟨g,0,none⟩) (ks.length+1) cap2)) C (.slice (some ⟨g,0,none⟩) (ks.length+1) cap2) (aew (ps.drop (m+1))) (ks++[c])):=hid (HB.out.keyed g2 hgrow3 c g cap2 (hat.imp id (fun h=>by rw[h];simp)) hown3)
     clear hown3 hgrow3 hat hlt3 g2 htop hfz hsl c1 c2
     go_wp2_with fail
     obtain⟨w4,h4⟩:∃w4,w3.setCell ⟨C,256,none⟩ (.slice (some ⟨g,0,none⟩) (ks.length+1) cap2)=w4:=⟨_,rfl⟩
     rw[h4]at HB1⊢
     clear h4 htop3 hfz3
     have hconv:=run_bytes_of_string (P:=Tryz.prog) w4 9 122 5 (S x) Tryz.underlying9 Tryz.underlying122 Tryz.underlying5
     have hob:=aiT.of_bytes w4 5 (S x)
     obtain⟨W5,hW5⟩:∃W5,w4.drew.alloc (.cells (bytesRow (S x) (grownCap w4 (S x).size 0 5)) 5 ((bytesRow (S x) (grownCap w4 (S x).size 0 5)).size,(bytesRow (S x) (grownCap w4 (S x).size 0 5)).size+1))=W5:=⟨_,rfl⟩
     have g5:G w4 W5:=by rw[←hW5];exact((G.refl _).drew).alloc _
     have hlt5:w4.heap.size<W5.heap.size:=by rw[←hW5];simp
     rw[hW5]at hconv hob
     have hsl5:W5.cell? ⟨C,c.toNat,none⟩=some (.slice none 0 0):=by
      rw[g5.cell HB1.out.ch]
      rcases HB1.out.slots c with h|⟨_,_,_,h,_⟩
      ·exact h.2
      ·rw[HNO.out]at h;cases h
     have hfz5:W5.frozen? ⟨C,c.toNat,none⟩=false:=(Below.frozen g5 (p:=⟨C,c.toNat,none⟩) HB1.out.ch).trans (HB1.out.fz _)
     have HB2:=hid (HB1.out.slot g5 c x (grownCap w4 x.length 0 5) hlt5 (fun j hj=>(hob j hj).1))
     clear hW5 g5 hlt5 hob
     simp only[ahu]at hconv
     rw[hconv]
     simp only[Result.andThen]
     rw[Oper.upon_value]
     clear hconv
     go_wp2_with fail
     go_roundw
     case rel=>
      refine⟨m,.slice (some ⟨g,0,none⟩) (ks.length+1) cap2,rfl,by omega,?_⟩
      ·have e1:ps.drop m=ps[m]'(by omega)::ps.drop (m+1):=List.drop_eq_getElem_cons (by omega)
       have e2:aew (ps.drop m)=fun c'=>if c=c' then some x else aew (ps.drop (m+1)) c':=by
        rw[e1];funext c';show(if _=c' then _ else _)=_;rw[HC.out,HX.out]
       have e3:(ps.drop m).reverse.map (·.1)=ks++[c]:=by
        rw[e1,List.reverse_cons,List.map_append,HKS.out];simp[HC.out]
       rw[e2,e3]
       exact HB2.out
     case measure=>simp[intOf];omega
end Go.Proofs.YtmffejnigppbpaaGreatDoor

set_option maxHeartbeats 4000000
set_option maxRecDepth 100000
namespace Go.Proofs.YtmffejnigppbpaaGreatDoor
open Go.RowKit
theorem ac7.grow{w0 w w':World}{C:Nat}{tv:Value}{f:UInt8→Option (List UInt8)}{keys:List UInt8}(h:ac7 w0 w C tv f keys)(g:G w w'):ac7 w0 w' C tv f keys:=by
 refine⟨h.g.trans g,h.cl,Nat.lt_of_lt_of_le h.ch g.size,fun k=>(Below.frozen g (p:=⟨C,k,none⟩) h.ch).trans (h.fz k),aiN h.own g,h.ne,(g.cell h.ch).trans h.top,fun c=>?_⟩
 rcases h.slots c with⟨h1,h2⟩|⟨l,b,cap,h1,h2,h3,h4,h5,h6⟩
 ·exact .inl ⟨h1,(g.cell h.ch).trans h2⟩
 ·exact .inr ⟨l,b,cap,h1,(g.cell h.ch).trans h2,Nat.lt_of_lt_of_le h3 g.size,h4,h5,fun j hj=>(g.cell h3).trans (h6 j hj)⟩
def Two(f:UInt8→Option (List UInt8)):Prop:=∀c l,f c=some l→l.length=2
theorem ac7.some{w0 w:World}{C:Nat}{tv:Value}{f:UInt8→Option (List UInt8)}{keys:List UInt8}(h:ac7 w0 w C tv f keys)(h2:Two f){c:UInt8}{l:List UInt8}(hf:f c=.some l) :
  ∃b cap,w.cell? ⟨C,c.toNat,none⟩=.some (.slice (.some ⟨b,0,none⟩) 2 cap)∧b<w.heap.size∧∀j (h:j<l.length),w.cell? ⟨b,j,none⟩=.some (.int .u8 (l[j].toNat:Int)):=by
 rcases h.slots c with⟨h1,_⟩|⟨l',b,cap,h1,h3,h4,_,_,h6⟩
 ·rw[h1]at hf;cases hf
 ·rw[h1]at hf
  injection hf with hf
  subst hf
  exact⟨b,cap,by rw[h3,h2 c l' h1],h4,h6⟩
theorem ac7.none{w0 w:World}{C:Nat}{tv:Value}{f:UInt8→Option (List UInt8)}{keys:List UInt8}(h:ac7 w0 w C tv f keys){c:UInt8}(hf:f c=.none):w.cell? ⟨C,c.toNat,.none⟩=.some (.slice .none 0 0):=by
 rcases h.slots c with⟨_,h2⟩|⟨l',b,cap,h1,_⟩
 ·exact h2
 ·rw[h1]at hf;cases hf
theorem an3(f:UInt8→Option (List UInt8))(h2:Two f)(s keys:List UInt8)(hin:∀k∈keys,f k≠none)(i:Nat)(hi:i<keys.length):ahR f s (keys.take (i+1))=ahR f s (keys.take i)+s.count keys[i]:=by
 rw[List.take_succ_eq_append_getElem hi]
 unfold ahR
 rw[List.map_append,List.sum_append]
 have hk:=hin _ (List.getElem_mem hi)
 have:amG f keys[i]=1:=by
  unfold amG
  cases hf:f keys[i]with
  |none=>exact absurd hf hk
  |some l=>simp[adC,hf,h2 _ _ hf]
 simp[this]
theorem avD(s keys:List UInt8)(f:UInt8→Option (List UInt8))(hk:ahe f keys)(i:Nat):ahR f s (keys.take i)≤9*s.length:=by
 have h1:ahR f s (keys.take i)≤ahR f s keys:=by
  conv=>rhs;rw[←List.take_append_drop i keys]
  unfold ahR
  rw[List.map_append,List.sum_append];omega
 have:=aqs hk s
 have:=(asD hk s).2
 omega
theorem atS{f:UInt8→Option (List UInt8)}{keys:List UInt8}(hk:ahe f keys)(s:List UInt8)(h:∀k∈keys,s.count k=0):UK f s=s:=
 an2 s fun c hc=>(hk.iff c).2 fun hm=>by have:=h c hm;exact absurd hc (List.count_eq_zero.1 this)
def adN(l:List UInt8):List Value:=l.map fun b=>.int .u8 (b.toNat:Int)
@[simp] theorem ajW(l:List UInt8):(adN l).length=l.length:=by simp[adN]
theorem axm:(Tryz.prog.info? 5).map (fun i=>(i.zero,i.size,i.bytes))=some (some (.int .u8 0),1,1):=by kernel_rfl
theorem aqt(C:Nat)(tv:Value)(f:UInt8→Option (List UInt8))(keys s:List UInt8)(w0 w:World)(h:ac7 w0 w C tv f keys)(hk:ahe f keys)(h2:Two f)(hs:s.length≤100000)(hkl:keys.length≤100)(hk0:0<keys.length) :
  Um 328 #[.pointer (some ⟨C,0,none⟩),.string (S s)] w (.string (S (UK f s))):=by
 have HB:=hid h
 have HK:=hid hk
 have H2:=hid h2
 obtain⟨q,cap,hq,-,hqlt⟩:=h.own.form hk0
 subst hq
 have htop:=h.top
 have hlt:=h.ch
 have HIN:Hid (∀k∈keys,f k≠none):=hid (fun k hm e=>(hk.iff k).1 e hm)
 clear h hk h2
 obtain⟨R,hR⟩:∃R,(UK f s).length=R:=⟨_,rfl⟩
 have hR1:R≤1000000:=by have:=(asD HK.out s).2;omega
 have HR:=hid hR
 clear hR
 obtain⟨i0,hi,hz0,hz1,hz2⟩:=info_parts axm
 go_enter Tryz.func328,Tryz.ntmps328
 cases qb:decide ((keys.length:Int)*8≤(s.length:Int))with
 |true=>
  go_wp2_with fail
  go_loopw [5,6,32] (fun nv bv kv wr=>∃(k:Nat) (N:Nat) (bb:Bool),kv=.int .i64 k∧nv=.int .i64 N∧bv=.bool bb∧k≤keys.length∧N=s.length+ahR f s (keys.take k)∧(bb=false→∀c∈keys.take k,s.count c=0)∧G w wr) (fun nv bv kv _=>keys.length-(intOf kv).toNat)
  case atStart=>exact⟨0,s.length,false,rfl,rfl,rfl,Nat.zero_le _,by simp[ahR],by simp,G.refl _⟩
  case round=>
   obtain⟨k,N,bb,rfl,rfl,rfl,hkk,hN,hbb,hg⟩:=hrel
   have HBB:=hid hbb
   have HG:=hid hg
   have HNN:=hid hN
   have hN1:N≤1000000:=by have:=avD s keys f HK.out k;omega
   clear hbb hg hN
   by_cases hlk:k<keys.length
   ·obtain⟨c,hc⟩:∃c,keys[k]'hlk=c:=⟨_,rfl⟩
    have hcell:wr.cell? ⟨q,k,none⟩=some (.string (S [c])):=by
     have:=(HB.out.grow HG.out).own.cellAt k (by omega)
     rw[this,List.getElem?_map,List.getElem?_eq_getElem hlk,hc];rfl
    obtain⟨l,hl⟩:∃l,f c=some l:=Option.ne_none_iff_exists'.1 (HIN.out c (hc▸List.getElem_mem hlk))
    obtain⟨b,cap2,hsl,-,-⟩:=(HB.out.grow HG.out).some H2.out hl
    have hc256:=c.toNat_lt
    have HC:=hid hc
    have HL:=hid hl
    obtain⟨n,hn⟩:∃n,s.count c=n:=⟨_,rfl⟩
    have hn1:n≤100000:=by have:=List.count_le_length (a:=c) (l:=s);omega
    have HNC:=hid hn
    have HBK:Hid (ac7 w0 wr C _ f keys):=hid (HB.out.grow HG.out)
    have htop':=HBK.out.top
    clear hc hl hn
    go_wp2_with fail
    refine(Tryz.strings_Count_one (S s) c _).mono ?_
    rintro e w' ⟨rfl,rfl⟩
    have e0:Lib.countByte (S s).data.toList c=n:=HNC.out
    rw[e0]
    clear e0
    by_cases hn0:n=0
    ·have qn:((n:Int) != 0)=false:=by simp[hn0]
     have HN0:=hid hn0
     clear hn0
     go_wp2_with fail
     go_roundw
     case rel=>
      refine⟨k+1,N,bb,by go_num,rfl,rfl,by omega,?_,?_,HG.out⟩
      ·have:=HNN.out
       rw[an3 f H2.out s keys HIN.out k hlk,HC.out,HNC.out,HN0.out];omega
      ·intro h c' hc'
       rw[List.take_succ_eq_append_getElem hlk,List.mem_append]at hc'
       rcases hc' with hc'|hc'
       ·exact HBB.out h c' hc'
       ·simp at hc'
        rw[hc',HC.out,HNC.out,HN0.out]
     case measure=>simp[intOf];omega
    ·have qn:((n:Int) != 0)=true:=by simp[hn0]
     clear hn0
     go_wp2_with fail
     go_quiet (fail)
     go_wp2_with fail
     go_roundw
     case rel=>
      refine⟨k+1,N+n,true,by go_num,by go_num,rfl,by omega,?_,by simp,HG.out.drewN _⟩
      rw[an3 f H2.out s keys HIN.out k hlk,HC.out,HNC.out,HNN.out];omega
     case measure=>simp[intOf];omega
   ·obtain rfl:k=keys.length:=by omega
    have HRN:Hid (N=R):=hid (by
     have h1:=HNN.out
     rw[List.take_length]at h1
     rw[h1,←HR.out,aqs HK.out])
    have HNO:Hid (bb=false→UK f s=s):=hid (fun h=>atS HK.out s (by
     have:=HBB.out h
     rwa [List.take_length]at this))
    have hRN:=HRN.out
    subst hRN
    clear HNN HBB hlk
    cases bb with
    |false=>
     have HS:=hid (HNO.out rfl)
     go_wp2_with fail
     go_ret
     exact⟨alu (by rw[HS.out];rfl),HG.out⟩
    |true=>
     have HG0:Hid (ac7 w0 wr C _ f keys):=hid (HB.out.grow HG.out)
     go_wp2_with (at_make;refine wpList_make_full _ rfl _ _ 122 rfl wr.heap.size 5 i0 _ 1 Tryz.underlying122 hi hz0 hz1 .i64 .i64 _ _ N rfl rfl rfl rfl ?m1 ?m2 (Nat.le_refl _) ?_)
     case m1=>first|omega|(rw[hz2];omega)
     case m2=>unfold maxLen;omega
     intro w1 hown hgrow
     obtain⟨g,hg⟩:∃g,wr.heap.size=g:=⟨_,rfl⟩
     have hG1:G wr w1:=Below.grown (G.refl wr) hgrow (Nat.le_refl _) (by simp)
     have hwg:w.heap.size≤g:=by have:=HG.out.size;omega
     rw[hg]at hown⊢
     obtain⟨Z,hZ,hZl⟩:∃Z:List Value,w1.heap[g]?=some (.cells Z.toArray 5 (0,0))∧Z.length=N:=by
      rcases hown.2 with⟨e,_⟩|⟨g',cap',cur,e,_,h1,_,_,h2,_⟩
      ·cases e
      ·simp only[Value.slice.injEq,Option.some.injEq,Addr.mk.injEq,and_true]at e
       obtain⟨rfl,_,rfl⟩:=e
       exact⟨cur.toList,by simpa using h1,by simpa using h2⟩
     have HZ:=hid hZ
     have HZL:=hid hZl
     have HG1:Hid (G w w1):=hid (HG.out.trans hG1)
     have HB1:Hid (ac7 w0 w1 C _ f keys):=hid (HG0.out.grow hG1)
     clear hown hgrow hG1 hZ hZl hg HG0
     go_wp2_with fail
     go_loopw [13,14] (fun jv iv wr=>∃(i J:Nat),jv=.int .i64 J∧iv=.int .i64 i∧i≤s.length∧J=(UK f (s.take i)).length∧wr.heap[g]?=some (.cells (adN (UK f (s.take i))++Z.drop J).toArray 5 (0,0))∧G w wr) (fun _ iv _=>s.length-(intOf iv).toNat)
     case atStart=>exact⟨0,0,rfl,rfl,Nat.zero_le _,by simp[UK],by simpa[UK,adN]using HZ.out,HG1.out⟩
     case round=>
      obtain⟨i,J,rfl,rfl,hi1,hJ,hrow,hg1⟩:=hrel
      have HJ:=hid hJ
      have HROW:=hid hrow
      have HG2:=hid hg1
      have HB2:Hid (ac7 w0 wr C _ f keys):=hid (HB.out.grow HG2.out)
      clear hJ hrow hg1
      by_cases hlt2:i<s.length
      ·obtain⟨c,hc⟩:∃c,s[i]'hlt2=c:=⟨_,rfl⟩
       have HC:=hid hc
       have hJN:J+(adC f c).length≤N:=by
        have h1:=adP f s i hlt2
        have h2:=ahf f s (i+1)
        rw[h1,hc]at h2
        have:=HJ.out;have:=HR.out
        simp at h2;omega
       have hc256:=c.toNat_lt
       cases hf:f c with
       |none=>
        have HF:=hid hf
        have hsl:=HB2.out.none hf
        have hr1:adC f c=[c]:=by simp[adC,hf]
        rw[hr1]at hJN
        have hJ1:J<N:=by simp at hJN;omega
        have hcJ:wr.cell? ⟨g,J,none⟩=some (Z[J]'(by rw[HZL.out];exact hJ1)):=by
         rw[cell_of_row wr g J _ _ _ HROW.out]
         simp only[List.getElem?_toArray]
         rw[List.getElem?_append_right (by simp[HJ.out]),List.getElem?_drop]
         simp[HJ.out]
        have hfJ:wr.frozen? ⟨g,J,none⟩=false:=frozen_of_row wr g J _ _ HROW.out
        have HR1:=hid hr1
        clear hf hr1 hJN
        subst hc
        go_wp2_with fail
        go_roundw
        case rel=>
         refine⟨i+1,J+1,by go_num,by go_num,by omega,?_,?_,HG2.out.below.setCell (p:=⟨g,J,none⟩) hwg _⟩
         ·rw[adP f s i hlt2,HC.out,HR1.out];simp[HJ.out]
         ·rw[setCell_eq_setRow wr g J _ _ _ _ HROW.out]
          rw[setRow_heap wr g _ _ _ _ HROW.out]
          congr 2
          rw[adP f s i hlt2,HC.out,HR1.out]
          rw[List.setIfInBounds_toArray]
          congr 1
          rw[List.set_append_right _ _ (by simp[HJ.out])]
          simp only[ajW,←HJ.out,Nat.sub_self]
          rw[List.drop_eq_getElem_cons (by rw[HZL.out];exact hJ1),List.set_cons_zero]
          simp[adN]
        case measure=>simp[intOf];omega
       |some l=>
        have HF:=hid hf
        obtain⟨b',cap3,hsl,-,hlc⟩:=HB2.out.some H2.out hf
        have hl2:=H2.out _ _ hf
        have hr1:adC f c=l:=by simp[adC,hf]
        rw[hr1,hl2]at hJN
        have hJ1:J≤N:=by omega
        have HL2:=hid hl2
        have HR1:=hid hr1
        have HLC:=hid hlc
        have hNJ:((N:Int)-(J:Int)).toNat=N-J:=by omega
        have hlen:(adN (UK f (s.take i))++Z.drop J).length=N:=by simp[HZL.out,←HJ.out];omega
        have HLEN:=hid hlen
        obtain⟨cur,hcur⟩:∃cur,adN (UK f (s.take i))++Z.drop J=cur:=⟨_,rfl⟩
        obtain⟨cs,hcs⟩:∃cs,adN l=cs:=⟨_,rfl⟩
        have HCUR:=hid hcur
        have HCS:=hid hcs
        rw[hcur]at HROW HLEN
        have hcl:Hid (cs.length=2):=hid (by rw[←hcs];simp[hl2])
        have hcs1:Hid (∀v∈cs,v.oneCell'=true):=hid (by rw[←hcs];intro v hv;simp[adN]at hv;obtain⟨x,_,rfl⟩:=hv;rfl)
        have hsrc:Hid (∀j v,cs[j]?=some v→wr.cell? ((⟨b',0,none⟩:Addr).add j)=some v):=hid (by
         intro j v hv
         rw[axj]
         rw[←hcs]at hv
         unfold adN at hv
         rw[List.getElem?_map]at hv
         cases hlj:l[j]? with
         |none=>rw[hlj]at hv;cases hv
         |some x=>
          rw[hlj]at hv
          injection hv with hv
          obtain⟨h,rfl⟩:=List.getElem?_eq_some_iff.1 hlj
          rw[hlc j h,←hv])
        clear hf hr1 hlc hl2 hlen hcur hcs
        have hc9:((c.toNat:Nat):Int)<256:=by omega
        subst hc
        go_wp2_with fail
        go_region_law (refine step_copy_splice rfl (.tmp 105) (.tmp 111) 122 122 rfl 5 Tryz.underlying122 (by rw[hi];exact congrArg some hz1) (some ⟨g,J,none⟩) (some ⟨b',0,none⟩) (N-J) (N-J) 2 cap3 (by simp[Act.eval,Act.put];omega) (by simp[Act.eval,Act.put]) g J cur 5 HROW.out cs (by rw[hcl.out];show 2=min 2 (N-J);omega) (fun _=>⟨rfl,_,rfl,hsrc.out⟩) (by rw[hcl.out,HLEN.out];omega) hcs1.out w.heap.size w HG2.out.drew hwg ?_;intro w4 hg4 hb4)
        all_goals
         rw[hcl.out]
         go_wp2_with fail
         go_roundw
         case rel=>
          refine⟨i+1,J+2,by go_num,by go_num,by omega,?_,?_,hb4⟩
          ·rw[adP f s i hlt2,HR1.out];simp[HJ.out,HL2.out]
          ·rw[hg4.out]
           congr 2
           rw[adP f s i hlt2,HR1.out]
           unfold splice
           rw[hcl.out,←HCUR.out,←HCS.out]
           have e1:(adN (UK f (s.take i))++Z.drop J).take J=adN (UK f (s.take i)):=by
            rw[List.take_append_of_le_length (by simp[HJ.out])]
            exact List.take_of_length_le (by simp[HJ.out])
           have e2:(adN (UK f (s.take i))++Z.drop J).drop (J+2)=Z.drop (J+2):=by
            rw[List.drop_append,List.drop_eq_nil_of_le (by simp[←HJ.out])]
            simp[←HJ.out,List.drop_drop]
           rw[e1,e2]
           simp[adN]
         case measure=>simp[intOf];omega
      ·obtain rfl:i=s.length:=by omega
       have hrow:wr.heap[g]?=some (.cells (adN (UK f s)).toArray 5 (0,0)):=by
        have h1:=HROW.out
        have h2:=HJ.out
        rw[List.take_length]at h1 h2
        have h3:Z.drop J=[]:=List.drop_eq_nil_of_le (Nat.le_of_eq (by rw[HZL.out,h2,HR.out]))
        rw[h3,List.append_nil]at h1
        exact h1
       have hob:aiT wr g (UK f s):=fun j hj=>⟨by rw[cell_of_row wr g j _ _ _ hrow];simp[adN,hj],frozen_of_row wr g j _ _ hrow⟩
       have hback:=hob.back (P:=Tryz.prog) 122 9 5 N Tryz.underlying122 Tryz.underlying5 Tryz.underlying9
       rw[HR.out]at hback
       clear hob hrow
       go_wp2_with fail
       go_ret
       exact⟨alu rfl,HG2.out⟩
 |false=>
  go_wp2_with fail
  go_loopw [5,6,10] (fun nv bv iv wr=>∃(i N:Nat) (bb:Bool),nv=.int .i64 N∧bv=.bool bb∧iv=.int .i64 i∧i≤s.length∧N+i=s.length+(UK f (s.take i)).length∧(bb=false→∀c∈s.take i,f c=none)∧G w wr) (fun nv bv iv _=>s.length-(intOf iv).toNat)
  case atStart=>exact⟨0,s.length,false,rfl,rfl,rfl,Nat.zero_le _,by simp[UK],by simp,G.refl _⟩
  case round=>
   obtain⟨i,N,bb,rfl,rfl,rfl,hii,hN,hbb,hg⟩:=hrel
   have HBB:=hid hbb
   have HG:=hid hg
   have HNN:=hid hN
   have hN1:N≤2000000:=by have:=ahf f s i;have:=HR.out;omega
   have HBK:Hid (ac7 w0 wr C _ f keys):=hid (HB.out.grow HG.out)
   clear hbb hg hN
   by_cases hlk:i<s.length
   ·obtain⟨c,hc⟩:∃c,s[i]'hlk=c:=⟨_,rfl⟩
    have hc256:=c.toNat_lt
    have HC:=hid hc
    cases hf:f c with
    |none=>
     have HF:=hid hf
     have hsl:=HBK.out.none hf
     have HR1:Hid (adC f c=[c]):=hid (by simp[adC,hf])
     clear hf
     subst hc
     go_wp2_with fail
     go_roundw
     case rel=>
      refine⟨i+1,N,bb,rfl,rfl,by go_num,by omega,?_,?_,HG.out⟩
      ·rw[adP f s i hlk,HR1.out]
       have:=HNN.out
       simp;omega
      ·intro h c' hc'
       rw[List.take_succ_eq_append_getElem hlk,List.mem_append]at hc'
       rcases hc' with hc'|hc'
       ·exact HBB.out h c' hc'
       ·simp at hc'
        rw[hc'];exact HF.out
     case measure=>simp[intOf];omega
    |some l=>
     obtain⟨b',cap3,hsl,-,-⟩:=HBK.out.some H2.out hf
     have hl2:=H2.out _ _ hf
     have HR1:Hid (adC f c=l):=hid (by simp[adC,hf])
     have HL2:=hid hl2
     clear hf hl2
     subst hc
     go_wp2_with fail
     go_roundw
     case rel=>
      refine⟨i+1,N+1,true,by go_num,rfl,by go_num,by omega,?_,by simp,HG.out⟩
      rw[adP f s i hlk,HR1.out]
      have:=HNN.out
      simp[HL2.out];omega
     case measure=>simp[intOf];omega
   ·obtain rfl:i=s.length:=by omega
    have HRN:Hid (N=R):=hid (by
     have h1:=HNN.out
     rw[List.take_length,HR.out]at h1
     omega)
    have HNO:Hid (bb=false→UK f s=s):=hid (fun h=>an2 s (by
     have:=HBB.out h
     rwa [List.take_length]at this))
    have hRN:=HRN.out
    subst hRN
    clear HNN HBB hlk
    cases bb with
    |false=>
     have HS:=hid (HNO.out rfl)
     go_wp2_with fail
     go_ret
     exact⟨alu (by rw[HS.out];rfl),HG.out⟩
    |true=>
     have HG0:Hid (ac7 w0 wr C _ f keys):=hid (HB.out.grow HG.out)
     go_wp2_with (at_make;refine wpList_make_full _ rfl _ _ 122 rfl wr.heap.size 5 i0 _ 1 Tryz.underlying122 hi hz0 hz1 .i64 .i64 _ _ N rfl rfl rfl rfl ?m1 ?m2 (Nat.le_refl _) ?_)
     case m1=>first|omega|(rw[hz2];omega)
     case m2=>unfold maxLen;omega
     intro w1 hown hgrow
     obtain⟨g,hg⟩:∃g,wr.heap.size=g:=⟨_,rfl⟩
     have hG1:G wr w1:=Below.grown (G.refl wr) hgrow (Nat.le_refl _) (by simp)
     have hwg:w.heap.size≤g:=by have:=HG.out.size;omega
     rw[hg]at hown⊢
     obtain⟨Z,hZ,hZl⟩:∃Z:List Value,w1.heap[g]?=some (.cells Z.toArray 5 (0,0))∧Z.length=N:=by
      rcases hown.2 with⟨e,_⟩|⟨g',cap',cur,e,_,h1,_,_,h2,_⟩
      ·cases e
      ·simp only[Value.slice.injEq,Option.some.injEq,Addr.mk.injEq,and_true]at e
       obtain⟨rfl,_,rfl⟩:=e
       exact⟨cur.toList,by simpa using h1,by simpa using h2⟩
     have HZ:=hid hZ
     have HZL:=hid hZl
     have HG1:Hid (G w w1):=hid (HG.out.trans hG1)
     have HB1:Hid (ac7 w0 w1 C _ f keys):=hid (HG0.out.grow hG1)
     clear hown hgrow hG1 hZ hZl hg HG0
     go_wp2_with fail
     go_loopw [13,14] (fun jv iv wr=>∃(i J:Nat),jv=.int .i64 J∧iv=.int .i64 i∧i≤s.length∧J=(UK f (s.take i)).length∧wr.heap[g]?=some (.cells (adN (UK f (s.take i))++Z.drop J).toArray 5 (0,0))∧G w wr) (fun _ iv _=>s.length-(intOf iv).toNat)
     case atStart=>exact⟨0,0,rfl,rfl,Nat.zero_le _,by simp[UK],by simpa[UK,adN]using HZ.out,HG1.out⟩
     case round=>
      obtain⟨i,J,rfl,rfl,hi1,hJ,hrow,hg1⟩:=hrel
      have HJ:=hid hJ
      have HROW:=hid hrow
      have HG2:=hid hg1
      have HB2:Hid (ac7 w0 wr C _ f keys):=hid (HB.out.grow HG2.out)
      clear hJ hrow hg1
      by_cases hlt2:i<s.length
      ·obtain⟨c,hc⟩:∃c,s[i]'hlt2=c:=⟨_,rfl⟩
       have HC:=hid hc
       have hJN:J+(adC f c).length≤N:=by
        have h1:=adP f s i hlt2
        have h2:=ahf f s (i+1)
        rw[h1,hc]at h2
        have:=HJ.out;have:=HR.out
        simp at h2;omega
       have hc256:=c.toNat_lt
       cases hf:f c with
       |none=>
        have HF:=hid hf
        have hsl:=HB2.out.none hf
        have hr1:adC f c=[c]:=by simp[adC,hf]
        rw[hr1]at hJN
        have hJ1:J<N:=by simp at hJN;omega
        have hcJ:wr.cell? ⟨g,J,none⟩=some (Z[J]'(by rw[HZL.out];exact hJ1)):=by
         rw[cell_of_row wr g J _ _ _ HROW.out]
         simp only[List.getElem?_toArray]
         rw[List.getElem?_append_right (by simp[HJ.out]),List.getElem?_drop]
         simp[HJ.out]
        have hfJ:wr.frozen? ⟨g,J,none⟩=false:=frozen_of_row wr g J _ _ HROW.out
        have HR1:=hid hr1
        clear hf hr1 hJN
        subst hc
        go_wp2_with fail
        go_roundw
        case rel=>
         refine⟨i+1,J+1,by go_num,by go_num,by omega,?_,?_,HG2.out.below.setCell (p:=⟨g,J,none⟩) hwg _⟩
         ·rw[adP f s i hlt2,HC.out,HR1.out];simp[HJ.out]
         ·rw[setCell_eq_setRow wr g J _ _ _ _ HROW.out]
          rw[setRow_heap wr g _ _ _ _ HROW.out]
          congr 2
          rw[adP f s i hlt2,HC.out,HR1.out]
          rw[List.setIfInBounds_toArray]
          congr 1
          rw[List.set_append_right _ _ (by simp[HJ.out])]
          simp only[ajW,←HJ.out,Nat.sub_self]
          rw[List.drop_eq_getElem_cons (by rw[HZL.out];exact hJ1),List.set_cons_zero]
          simp[adN]
        case measure=>simp[intOf];omega
       |some l=>
        have HF:=hid hf
        obtain⟨b',cap3,hsl,-,hlc⟩:=HB2.out.some H2.out hf
        have hl2:=H2.out _ _ hf
        have hr1:adC f c=l:=by simp[adC,hf]
        rw[hr1,hl2]at hJN
        have hJ1:J≤N:=by omega
        have HL2:=hid hl2
        have HR1:=hid hr1
        have HLC:=hid hlc
        have hNJ:((N:Int)-(J:Int)).toNat=N-J:=by omega
        have hlen:(adN (UK f (s.take i))++Z.drop J).length=N:=by simp[HZL.out,←HJ.out];omega
        have HLEN:=hid hlen
        obtain⟨cur,hcur⟩:∃cur,adN (UK f (s.take i))++Z.drop J=cur:=⟨_,rfl⟩
        obtain⟨cs,hcs⟩:∃cs,adN l=cs:=⟨_,rfl⟩
        have HCUR:=hid hcur
        have HCS:=hid hcs
        rw[hcur]at HROW HLEN
        have hcl:Hid (cs.length=2):=hid (by rw[←hcs];simp[hl2])
        have hcs1:Hid (∀v∈cs,v.oneCell'=true):=hid (by rw[←hcs];intro v hv;simp[adN]at hv;obtain⟨x,_,rfl⟩:=hv;rfl)
        have hsrc:Hid (∀j v,cs[j]?=some v→wr.cell? ((⟨b',0,none⟩:Addr).add j)=some v):=hid (by
         intro j v hv
         rw[axj]
         rw[←hcs]at hv
         unfold adN at hv
         rw[List.getElem?_map]at hv
         cases hlj:l[j]? with
         |none=>rw[hlj]at hv;cases hv
         |some x=>
          rw[hlj]at hv
          injection hv with hv
          obtain⟨h,rfl⟩:=List.getElem?_eq_some_iff.1 hlj
          rw[hlc j h,←hv])
        clear hf hr1 hlc hl2 hlen hcur hcs
        have hc9:((c.toNat:Nat):Int)<256:=by omega
        subst hc
        go_wp2_with fail
        go_region_law (refine step_copy_splice rfl (.tmp 105) (.tmp 111) 122 122 rfl 5 Tryz.underlying122 (by rw[hi];exact congrArg some hz1) (some ⟨g,J,none⟩) (some ⟨b',0,none⟩) (N-J) (N-J) 2 cap3 (by simp[Act.eval,Act.put];omega) (by simp[Act.eval,Act.put]) g J cur 5 HROW.out cs (by rw[hcl.out];show 2=min 2 (N-J);omega) (fun _=>⟨rfl,_,rfl,hsrc.out⟩) (by rw[hcl.out,HLEN.out];omega) hcs1.out w.heap.size w HG2.out.drew hwg ?_;intro w4 hg4 hb4)
        all_goals
         rw[hcl.out]
         go_wp2_with fail
         go_roundw
         case rel=>
          refine⟨i+1,J+2,by go_num,by go_num,by omega,?_,?_,hb4⟩
          ·rw[adP f s i hlt2,HR1.out];simp[HJ.out,HL2.out]
          ·rw[hg4.out]
           congr 2
           rw[adP f s i hlt2,HR1.out]
           unfold splice
           rw[hcl.out,←HCUR.out,←HCS.out]
           have e1:(adN (UK f (s.take i))++Z.drop J).take J=adN (UK f (s.take i)):=by
            rw[List.take_append_of_le_length (by simp[HJ.out])]
            exact List.take_of_length_le (by simp[HJ.out])
           have e2:(adN (UK f (s.take i))++Z.drop J).drop (J+2)=Z.drop (J+2):=by
            rw[List.drop_append,List.drop_eq_nil_of_le (by simp[←HJ.out])]
            simp[←HJ.out,List.drop_drop]
           rw[e1,e2]
           simp[adN]
         case measure=>simp[intOf];omega
      ·obtain rfl:i=s.length:=by omega
       have hrow:wr.heap[g]?=some (.cells (adN (UK f s)).toArray 5 (0,0)):=by
        have h1:=HROW.out
        have h2:=HJ.out
        rw[List.take_length]at h1 h2
        have h3:Z.drop J=[]:=List.drop_eq_nil_of_le (Nat.le_of_eq (by rw[HZL.out,h2,HR.out]))
        rw[h3,List.append_nil]at h1
        exact h1
       have hob:aiT wr g (UK f s):=fun j hj=>⟨by rw[cell_of_row wr g j _ _ _ hrow];simp[adN,hj],frozen_of_row wr g j _ _ hrow⟩
       have hback:=hob.back (P:=Tryz.prog) 122 9 5 N Tryz.underlying122 Tryz.underlying5 Tryz.underlying9
       rw[HR.out]at hback
       clear hob hrow
       go_wp2_with fail
       go_ret
       exact⟨alu rfl,HG2.out⟩
end Go.Proofs.YtmffejnigppbpaaGreatDoor

set_option maxHeartbeats 4000000
set_option maxRecDepth 100000
namespace Go.Proofs.YtmffejnigppbpaaGreatDoor
open Go.RowKit
structure avy(w0 w:World)(B o n cap:Nat)(ps:List (UInt8×List UInt8)):Prop where
 bl:w0.heap.size≤B
 bh:B<w.heap.size
 fz:∀k,w.frozen? ⟨B,k,none⟩=false
 c0:w.cell? ⟨B,0,none⟩=some (.int .u32 0)
 c1:w.cell? ⟨B,1,none⟩=some (.int .i32 0)
 c3:w.cell? ⟨B,3,none⟩=some .nilIface
 c4:w.cell? ⟨B,4,none⟩=some (.slice (some ⟨o,0,none⟩) n cap)
 ob:o≠B
 ps:afy w o ps
 g:G w0 w
theorem ahr(o n cap:Nat)(ps:List (UInt8×List UInt8))(w:World)(hn:n=2*ps.length)(hp:afy w o ps)(h1:1≤ps.length)(h3:ps.length≤100) :
  Uz 119 #[.slice (some ⟨o,0,none⟩) n cap] w fun v w'=>∃B o' cap',v=.pointer (some ⟨B,0,none⟩)∧avy w w' B o' n cap' ps:=by
 have hmod:((n:Int)%2==1)=false:=beq_eq_false_iff_ne.2 (by omega)
 have hn0:0<n:=by omega
 have hn2:n≤200:=by omega
 have HN:=hid hn
 have HP:=hid hp
 clear hn hp
 obtain⟨xs,hxs⟩:∃xs:List Value,xs=ps.flatMap fun p=>[.string (S [p.1]),.string (S p.2)]:=⟨_,rfl⟩
 have hat:∀(l:List (UInt8×List UInt8)) (j:Nat) (h:j<l.length),(l.flatMap fun p=>[Value.string (S [p.1]),.string (S p.2)])[2*j]?=some (.string (S [l[j].1]))∧(l.flatMap fun p=>[Value.string (S [p.1]),.string (S p.2)])[2*j+1]?=some (.string (S l[j].2)):=by
  intro l
  induction l with
  |nil=>intro j h;simp at h
  |cons p l ih=>
   intro j h
   cases j with
   |zero=>simp
   |succ j=>
    have:=ih j (by simpa using h)
    have e1:2*(j+1)=2*j+1+1:=by omega
    simp only[List.flatMap_cons,List.cons_append,List.nil_append,e1,List.getElem?_cons_succ,List.getElem_cons_succ]
    exact this
 have hlen:xs.length=n:=by
  rw[hxs,HN.out]
  clear hat hxs HN HP h1 h3
  induction ps with
  |nil=>rfl
  |cons p ps ih=>simp only[List.flatMap_cons,List.length_append,ih,List.length_cons,List.length_nil];omega
 have HXA:Hid (∀(j:Nat) (h:j<ps.length),xs[2*j]?=some (.string (S [ps[j].1]))∧xs[2*j+1]?=some (.string (S ps[j].2))):=hid (fun j h=>by rw[hxs];exact hat ps j h)
 have HX1:Hid (∀u∈xs,u.oneCell'=true):=hid (fun u hu=>by
  rw[hxs]at hu
  simp at hu
  obtain⟨a,b,_,h⟩:=hu
  rcases h with rfl|rfl<;>rfl)
 have HXL:=hid hlen
 have HNEW:Hid (∀j u,xs[j]?=some u→w.cell? ((⟨o,0,none⟩:Addr).add j)=some u):=hid (fun j u hj=>by
  rw[axj]
  have hjn:j<2*ps.length:=by
   have:=HN.out
   rcases Nat.lt_or_ge j xs.length with h|h
   ·omega
   ·rw[List.getElem?_eq_none h]at hj;cases hj
  have hk:j/2<ps.length:=by omega
  obtain⟨a1,a2⟩:=HXA.out (j/2) hk
  obtain⟨b1,b2⟩:=HP.out.2 (j/2) hk
  rcases Nat.mod_two_eq_zero_or_one j with h|h
  ·have e:2*(j/2)=j:=by omega
   rw[e]at a1 b1
   rw[b1,←hj,a1]
  ·have e:2*(j/2)+1=j:=by omega
   rw[e]at a2 b2
   rw[b2,←hj,a2])
 clear hxs hat hlen
 obtain⟨i0,hi,hz0,hz1,hz2⟩:=info_parts ak4
 go_enter Tryz.func119,Tryz.ntmps119
 go_wp2_with (at_builtin;refine wpList_append_lies _ rfl _ _ 39 rfl w.heap.size 9 i0 _ 1 16 Tryz.underlying39 hi hz0 hz1 hz2 rfl (by decide) _ 0 [] rfl (World.ownsRow_nil _ _ _ _) ⟨o,0,none⟩ n cap xs rfl (by rw[HXL.out];omega) HNEW.out HX1.out hn0 ?c3 ?c4 (Nat.le_refl _) _ rfl ?_)
 case c3=>unfold maxLen;omega
 case c4=>omega
 intro g cap2 w1 hown hgrow hat hlt
 have hg1:G w w1:=Below.grown (G.refl w) hgrow (Nat.le_refl _) (by simp[Value.ownBlock])
 have hp1:afy w1 g ps:=by
  refine⟨hlt,fun j hj=>?_⟩
  obtain⟨a1,a2⟩:=HXA.out j hj
  have:=HN.out
  have c1:=hown.cellAt (2*j) (by omega)
  have c2:=hown.cellAt (2*j+1) (by omega)
  exact⟨by rw[c1,a1],by rw[c2,a2]⟩
 have HG1:=hid hg1
 have HP1:=hid hp1
 clear hown hgrow hat hg1 hp1
 go_wp2_with fail
 go_ret
 exact⟨_,rfl,⟨w1.heap.size,g,cap2,rfl,⟨HG1.out.size,by simp,fun k=>World.frozen?_alloc_at _ _ _ _ rfl,by simp,by simp,by simp,by simp,by have:=HP1.out.1;omega,HP1.out.grow ((G.refl _).alloc _),HG1.out.alloc _⟩⟩,HG1.out.alloc _⟩
theorem ai9{wb w0 w:World}{C B k:Nat}{tv v:Value}{x:Int}{f:UInt8→Option (List UInt8)}{keys:List UInt8}(h:ac7 wb w C tv f keys)(h2:Two f)(hle:w0.heap.size≤wb.heap.size)(h0:w0.heap.size≤B)(g0:G w0 w)(hc:w.cell? ⟨B,0,none⟩=some (.int .u32 x))(hCB:C≠B)(htB:tv.ownBlock≠some B) :
  ac7 w0 (w.setCell ⟨B,k,none⟩ v) C tv f keys:=by
 have hsz:(w.setCell ⟨B,k,none⟩ v).heap.size=w.heap.size:=by simp[World.setCell]
 have oth:∀(q j:Nat),q≠B→(w.setCell ⟨B,k,none⟩ v).cell? ⟨q,j,none⟩=w.cell? ⟨q,j,none⟩:=fun q j hq=>World.cell?_setCell_other _ _ _ _ (by first|(simp;done)|(simp;omega)|(simp;intro e;exact absurd e.symm hq))
 refine⟨g0.below.setCell (p:=⟨B,k,none⟩) h0 _,by have:=h.cl;omega,by rw[hsz];exact h.ch,fun j=>by rw[World.frozen?_setCell];exact h.fz j,?_,h.ne,(oth _ _ hCB).trans h.top,fun c=>?_⟩
 ·exact(h.own.mono hle).kept (ahQ w ⟨B,k,none⟩ v) (.inr htB)
 ·rcases h.slots c with⟨h1,h3⟩|⟨l,b,cap,h1,h3,h4,h5,h6,h7⟩
  ·exact .inl ⟨h1,(oth _ _ hCB).trans h3⟩
  ·have hbB:b≠B:=by
    rintro rfl
    have:=h7 0 (by rw[h2 _ _ h1];decide)
    rw[hc]at this
    injection this with this
    injection this with this
    cases this
   exact .inr ⟨l,b,cap,h1,(oth _ _ hCB).trans h3,by rw[hsz];exact h4,h5,h6,fun j hj=>(oth _ _ hbB).trans (h7 j hj)⟩
theorem arR{wb w:World}{C B:Nat}{tv:Value}{f:UInt8→Option (List UInt8)}{keys:List UInt8}(h:ac7 wb w C tv f keys)(hB:B<wb.heap.size):C≠B∧tv.ownBlock≠some B:=by
 refine⟨by have:=h.cl;omega,fun e=>?_⟩
 have:=(h.own.lt _ e).1;omega
structure asC(ps:List (UInt8×List UInt8)):Prop where
 two:∀p∈ps,p.2.length=2
 l2:2≤ps.length
 l3:ps.length≤100
 nd:∀(m:Nat) (h:m<ps.length),aew (ps.drop (m+1)) ps[m].1=none
theorem aig(ps:List (UInt8×List UInt8))(h:∀p∈ps,p.2.length=2):Two (aew ps):=by
 induction ps with
 |nil=>intro c l h;cases h
 |cons p ps ih=>
  intro c l hl
  unfold aew at hl
  split at hl
  ·injection hl with hl
   rw[←hl];exact h p List.mem_cons_self
  ·exact ih (fun q hq=>h q (List.mem_cons_of_mem _ hq)) c l hl
structure ajV(w0 w:World)(B C:Nat)(tv:Value)(ps:List (UInt8×List UInt8))(d m:Int):Prop where
 bs:ac7 w0 w C tv (aew ps) (ps.reverse.map (·.1))
 cb:C≠B
 tb:tv.ownBlock≠some B
 c0:w.cell? ⟨B,0,none⟩=some (.int .u32 d)
 c1:w.cell? ⟨B,1,none⟩=some (.int .i32 m)
 c3:w.cell? ⟨B,3,none⟩=some (.iface 321 (.pointer (some ⟨C,0,none⟩)))
 fz:∀k,w.frozen? ⟨B,k,none⟩=false
theorem anr(w0 w:World)(B o n cap:Nat)(ps:List (UInt8×List UInt8))(hn:n=2*ps.length)(hP:asC ps)(hbl:w0.heap.size≤B)(hbh:B<w.heap.size)(hg0:G w0 w)(hp:afy w o ps)(fz:∀k,w.frozen? ⟨B,k,none⟩=false)(c0:w.cell? ⟨B,0,none⟩=some (.int .u32 0))(c1:w.cell? ⟨B,1,none⟩=some (.int .i32 1))(c3:w.cell? ⟨B,3,none⟩=some .nilIface)(c4:w.cell? ⟨B,4,none⟩=some (.slice (some ⟨o,0,none⟩) n cap)) :
  Calls Tryz.prog 172 #[.pointer (some ⟨B,0,none⟩)] w fun e w'=>e=.returned (.tuple #[])∧∃C tv,ajV w0 w' B C tv ps 0 1:=by
 have HP:=hid hP
 have HPA:=hid hp
 have HN:=hid hn
 clear hP hp hn
 go_enter Tryz.func172,Tryz.ntmps172
 go_wp2_with fail
 refine(atO B o cap n ps _ c4 hbh HN.out HPA.out HP.out.two HP.out.l2 HP.out.l3 HP.out.nd).use ?_
 rintro v w1 ⟨C,tv,rfl,hbs⟩ g1
 have d0:=(g1.cell (p:=⟨B,0,none⟩) hbh).trans c0
 have d1:=(g1.cell (p:=⟨B,1,none⟩) hbh).trans c1
 have d3:=(g1.cell (p:=⟨B,3,none⟩) hbh).trans c3
 have d4:=(g1.cell (p:=⟨B,4,none⟩) hbh).trans c4
 have z:∀k,w1.frozen? ⟨B,k,none⟩=false:=fun k=>(Below.frozen g1 (p:=⟨B,k,none⟩) hbh).trans (fz k)
 have z3:=z 3
 have z4:=z 4
 obtain⟨k1,k2⟩:=arR hbs hbh
 have h2:=aig ps HP.out.two
 have g01:=hg0.trans g1
 have b1:=ai9 (k:=3) (v:=.iface 321 (.pointer (some ⟨C,0,none⟩))) hbs h2 hg0.size hbl g01 d0 k1 k2
 have D:Hid (ajV w0 ((w1.setCell ⟨B,3,none⟩ (.iface 321 (.pointer (some ⟨C,0,none⟩)))).setCell ⟨B,4,none⟩ (.slice none 0 0)) B C tv ps 0 1):=hid (by
  refine⟨?_,k1,k2,?_,?_,?_,fun k=>by rw[World.frozen?_setCell,World.frozen?_setCell];exact z k⟩
  ·refine ai9 (x:=0) b1 h2 (Nat.le_refl _) hbl b1.g ?_ k1 k2
   rw[World.cell?_setCell_other _ _ _ _ (by simp)];exact d0
  ·rw[World.cell?_setCell_other _ _ _ _ (by simp),World.cell?_setCell_other _ _ _ _ (by simp)];exact d0
  ·rw[World.cell?_setCell_other _ _ _ _ (by simp),World.cell?_setCell_other _ _ _ _ (by simp)];exact d1
  ·rw[World.cell?_setCell_other _ _ _ _ (by simp)];exact World.cell?_setCell_same _ _ _ d3)
 clear b1 hbs
 go_wp2_with fail
 go_end0
 exact⟨rfl,C,tv,D.out⟩
theorem agU(w:World)(B:Nat)(v:Value):w.setCell ⟨B,0+1,none⟩ v=w.setCell ⟨B,1,none⟩ v:=by rw[Nat.zero_add]
theorem ajV.set{w0 w:World}{B C k:Nat}{tv:Value}{ps:List (UInt8×List UInt8)}{d m d' m':Int}{v:Value}(h:ajV w0 w B C tv ps d m)(h2:Two (aew ps))(hbl:w0.heap.size≤B)(hk:(k=0∧v=.int .u32 d'∧m'=m)∨(k=1∧v=.int .i32 m'∧d'=d)) :
  ajV w0 (w.setCell ⟨B,k,none⟩ v) B C tv ps d' m':=by
 refine⟨ai9 h.bs h2 (Nat.le_refl _) hbl h.bs.g h.c0 h.cb h.tb,h.cb,h.tb,?_,?_,?_,fun j=>by rw[World.frozen?_setCell];exact h.fz j⟩
 all_goals rcases hk with⟨rfl,rfl,rfl⟩|⟨rfl,rfl,rfl⟩
 ·exact World.cell?_setCell_same _ _ _ h.c0
 ·rw[World.cell?_setCell_other _ _ _ _ (by simp)];exact h.c0
 ·rw[World.cell?_setCell_other _ _ _ _ (by simp)];exact h.c1
 ·exact World.cell?_setCell_same _ _ _ h.c1
 ·rw[World.cell?_setCell_other _ _ _ _ (by simp)];exact h.c3
 ·rw[World.cell?_setCell_other _ _ _ _ (by simp)];exact h.c3
theorem ajV.drew{w0 w:World}{B C:Nat}{tv:Value}{ps:List (UInt8×List UInt8)}{d m:Int}(h:ajV w0 w B C tv ps d m):ajV w0 w.drew B C tv ps d m:=by
 refine⟨h.bs.grow (G.refl _).drew,h.cb,h.tb,?_,?_,?_,fun k=>?_⟩
 ·rw[World.cell?_drew];exact h.c0
 ·rw[World.cell?_drew];exact h.c1
 ·rw[World.cell?_drew];exact h.c3
 ·rw[World.frozen?_drew];exact h.fz k
theorem amF(a : Addr)(w : World) : (method 513 321 (.pointer (some a)) "Replace").run Tryz.prog w = .ok (328, .pointer (some a)) w := by kernel_rfl
theorem ak3(w0 w:World)(B o n cap:Nat)(ps:List (UInt8×List UInt8))(s:List UInt8)(hn:n=2*ps.length)(hP:asC ps)(h:avy w0 w B o n cap ps)(hk:ahe (aew ps) (ps.reverse.map (·.1)))(hs:s.length≤100000) :
  Calls Tryz.prog 120 #[.pointer (some ⟨B,0,none⟩),.string (S s)] w fun e w'=>e=.returned (.string (S (UK (aew ps) s)))∧G w0 w':=by
 have H:=hid h
 have HP:=hid hP
 have HK:=hid hk
 have HN:=hid hn
 clear h hP hk hn
 have hmf:∀(fn:Fn) (first cap:Array Value) (w:World),(Instr.makeFunc fn first cap).run Tryz.prog w=.ok (.func fn first cap) w:=fun _ _ _ _=>rfl
 have hmeth : ∀ (a : Addr) (w : World), (method 513 321 (.pointer (some a)) "Replace").run Tryz.prog w = .ok (328, .pointer (some a)) w := fun a w => amF a w
 go_enter Tryz.func120,Tryz.ntmps120
 go_wp2_with fail
 have hg1:G w0 (w.setCell ⟨B,1,none⟩ (.int .i32 1)):=H.out.g.below.setCell (p:=⟨B,1,none⟩) H.out.bl _
 have hpa:afy (w.setCell ⟨B,1,none⟩ (.int .i32 1)) o ps:=by
  refine⟨by simpa[World.setCell]using H.out.ps.1,fun j hj=>?_⟩
  have hne:o≠B:=H.out.ob
  rw[World.cell?_setCell_other _ _ _ _ (by first|(simp;done)|(simp;omega)),World.cell?_setCell_other _ _ _ _ (by first|(simp;done)|(simp;omega))]
  exact H.out.ps.2 j hj
 refine Calls.mono (arI (.pointer (some ⟨B,0,none⟩)) B 0 w (fun w'=>∃C tv,ajV w0 w' B C tv ps 0 1) H.out.c0 H.out.c1 (H.out.fz 0) (H.out.fz 1) ?once) ?_
 case once=>
  rw[agU]
  refine Calls.mono (anr w0 _ B o n cap ps HN.out HP.out H.out.bl (by simpa[World.setCell]using H.out.bh) hg1 hpa (fun k=>by rw[World.frozen?_setCell];exact H.out.fz k) ?_ ?_ ?_ ?_) ?_
  ·rw[World.cell?_setCell_other _ _ _ _ (by simp)];exact H.out.c0
  ·exact World.cell?_setCell_same _ _ _ H.out.c1
  ·rw[World.cell?_setCell_other _ _ _ _ (by simp)];exact H.out.c3
  ·rw[World.cell?_setCell_other _ _ _ _ (by simp)];exact H.out.c4
  ·rintro e w' ⟨rfl,C,tv,hb⟩
   exact⟨rfl,⟨C,tv,hb⟩,hb.c0,hb.fz 0,hb.c1,hb.fz 1⟩
 rintro e w' ⟨rfl,w1,⟨C,tv,hb⟩,rfl⟩
 rw[agU]
 have h2:=aig ps HP.out.two
 have hb2:=((hb.drew.set (k:=0) (v:=.int .u32 1) (d':=1) (m':=1) h2 H.out.bl (.inl ⟨rfl,rfl,rfl⟩))).set (k:=1) (v:=.int .i32 0) (d':=1) (m':=0) h2 H.out.bl (.inr ⟨rfl,rfl,rfl⟩)
 obtain⟨w2,hw2⟩:∃w2,(w1.drew.setCell ⟨B,0,none⟩ (.int .u32 1)).setCell ⟨B,1,none⟩ (.int .i32 0)=w2:=⟨_,rfl⟩
 rw[hw2]at hb2⊢
 have HB:=hid hb2
 have hc3:=hb2.c3
 clear hw2 hb hb2 hg1 hpa
 go_wp2_with fail
 refine(aqt C tv (aew ps) _ s w0 w2 HB.out.bs HK.out h2 hs (by simp;have:=HP.out.l3;omega) (by simp;have:=HP.out.l2;omega)).use ?_
 intro w3 g3
 have G3:Hid (G w0 w3):=hid (HB.out.bs.g.trans g3)
 clear g3
 go_wp2_with fail
 go_ret
 exact⟨rfl,G3.out⟩
end Go.Proofs.YtmffejnigppbpaaGreatDoor

set_option maxHeartbeats 4000000
set_option maxRecDepth 100000
namespace Go.Proofs.YtmffejnigppbpaaGreatDoor
open Go.RowKit
def aln:List (UInt8×List UInt8):=[(92,[92,92]),(44,[92,44]),(59,[92,59]),(10,[92,110])]
def afN:List (UInt8×List UInt8):=[(94,[94,94]),(10,[94,110]),(34,[94,39])]
theorem ati:aew aln=agV:=by
 funext c
 exact of_decide_eq_true (aei (fun c=>decide (aew aln c=agV c)) (by decide +kernel) c)
theorem apN:aew afN=afj:=by
 funext c
 exact of_decide_eq_true (aei (fun c=>decide (aew afN c=afj c)) (by decide +kernel) c)
theorem ama:asC aln:=⟨by decide,by decide,by decide,fun m h=>by
 match m,h with
 |0,_=>rfl
 |1,_=>rfl
 |2,_=>rfl
 |3,_=>rfl
 |n+4,h=>simp[aln]at h;omega⟩
theorem ajz:asC afN:=⟨by decide,by decide,by decide,fun m h=>by
 match m,h with
 |0,_=>rfl
 |1,_=>rfl
 |2,_=>rfl
 |n+3,h=>simp[afN]at h;omega⟩
theorem anM{f:UInt8→Option (List UInt8)}{keys:List UInt8}(h:Two f)(hn:keys.Nodup)(hi:∀c,f c=none↔c∉keys):ahe f keys:=
 ⟨hn,hi,fun c l hl=>by rw[h c l hl];decide,fun c l hl=>by rw[h c l hl];decide⟩
theorem ara:ahe (aew aln) (aln.reverse.map (·.1)):=anM (aig _ ama.two) (by decide) fun c=>
 of_decide_eq_true (aei (fun c=>decide (aew aln c=none↔c∉aln.reverse.map (·.1))) (by decide +kernel) c)
theorem aor:ahe (aew afN) (afN.reverse.map (·.1)):=anM (aig _ ajz.two) (by decide) fun c=>
 of_decide_eq_true (aei (fun c=>decide (aew afN c=none↔c∉afN.reverse.map (·.1))) (by decide +kernel) c)
theorem akM{w:World}{cs:Array Value}{t:TypeId}{ps:List (UInt8×List UInt8)}(h:∀j (h:j<ps.length),cs[2*j]?=some (.string (S [ps[j].1]))∧cs[2*j+1]?=some (.string (S ps[j].2))):afy (w.alloc (.cells cs t)) w.heap.size ps:=
 ⟨by simp,fun j hj=>by rw[World.cell?_alloc_new,World.cell?_alloc_new];exact h j hj⟩
theorem amb(s:List UInt8)(w:World)(hs:s.length≤100000):Um 142 #[.string (S s)] w (.string (S (UK agV s))):=by
 have hpa:=akM (w:=w) (t:=9) (ps:=aln) (cs:=#[.string ⟨#[92]⟩,.string ⟨#[92,92]⟩,.string ⟨#[44]⟩,.string ⟨#[92,44]⟩,.string ⟨#[59]⟩,.string ⟨#[92,59]⟩,.string ⟨#[10]⟩,.string ⟨#[92,110]⟩]) (fun j h=>by
  match j,h with
  |0,_=>exact⟨rfl,rfl⟩
  |1,_=>exact⟨rfl,rfl⟩
  |2,_=>exact⟨rfl,rfl⟩
  |3,_=>exact⟨rfl,rfl⟩
  |n+4,h=>simp[aln]at h;omega)
 have HPA:=hid hpa
 clear hpa
 go_enter Tryz.func142,Tryz.ntmps142
 go_wp2_with fail
 refine(ahr w.heap.size 8 8 aln _ rfl HPA.out (by decide) (by decide)).use ?_
 rintro v w1 ⟨B,o',cap',rfl,hr⟩ g1
 have HR:=hid hr
 have g0:G w _:=(G.refl w).alloc (.cells #[.string ⟨#[92]⟩,.string ⟨#[92,92]⟩,.string ⟨#[44]⟩,.string ⟨#[92,44]⟩,.string ⟨#[59]⟩,.string ⟨#[92,59]⟩,.string ⟨#[10]⟩,.string ⟨#[92,110]⟩] 9)
 have HG0:=hid g0
 clear hr g0 g1
 go_wp2_with fail
 refine Calls.mono (ak3 _ w1 B o' 8 cap' aln s rfl ama HR.out ara hs) ?_
 rintro e w2 ⟨rfl,g2⟩
 rw[ati]
 have G2:=hid (HG0.out.trans g2)
 clear g2
 go_wp2_with fail
 go_ret
 exact⟨rfl,G2.out⟩
theorem amc(s:List UInt8)(w:World)(hs:s.length≤100000):Um 74 #[.string (S s)] w (.string (S (UK afj s))):=by
 have hpa:=akM (w:=w) (t:=9) (ps:=afN) (cs:=#[.string ⟨#[94]⟩,.string ⟨#[94,94]⟩,.string ⟨#[10]⟩,.string ⟨#[94,110]⟩,.string ⟨#[34]⟩,.string ⟨#[94,39]⟩]) (fun j h=>by
  match j,h with
  |0,_=>exact⟨rfl,rfl⟩
  |1,_=>exact⟨rfl,rfl⟩
  |2,_=>exact⟨rfl,rfl⟩
  |n+3,h=>simp[afN]at h;omega)
 have HPA:=hid hpa
 clear hpa
 go_enter Tryz.func74,Tryz.ntmps74
 go_wp2_with fail
 refine(ahr w.heap.size 6 6 afN _ rfl HPA.out (by decide) (by decide)).use ?_
 rintro v w1 ⟨B,o',cap',rfl,hr⟩ g1
 have HR:=hid hr
 have g0:G w _:=(G.refl w).alloc (.cells #[.string ⟨#[94]⟩,.string ⟨#[94,94]⟩,.string ⟨#[10]⟩,.string ⟨#[94,110]⟩,.string ⟨#[34]⟩,.string ⟨#[94,39]⟩] 9)
 have HG0:=hid g0
 clear hr g0 g1
 go_wp2_with fail
 refine Calls.mono (ak3 _ w1 B o' 6 cap' afN s rfl ajz HR.out aor hs) ?_
 rintro e w2 ⟨rfl,g2⟩
 rw[apN]
 have G2:=hid (HG0.out.trans g2)
 clear g2
 go_wp2_with fail
 go_ret
 exact⟨rfl,G2.out⟩
end Go.Proofs.YtmffejnigppbpaaGreatDoor
