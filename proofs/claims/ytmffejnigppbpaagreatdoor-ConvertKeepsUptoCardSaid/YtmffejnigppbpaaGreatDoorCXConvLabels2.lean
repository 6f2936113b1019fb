/-
 CONTRACT of convert.labels. (written by gen_convlabels.py)
-/
import Derived.Test.YtmffejnigppbpaaGreatDoorCXMA61
import Derived.Test.YtmffejnigppbpaaGreatDoorCXConvKind
set_option linter.unusedVariables false
set_option linter.unusedSimpArgs false
set_option maxHeartbeats 16000000
set_option maxRecDepth 100000
namespace Go.Proofs.YtmffejnigppbpaaGreatDoor
open Go.RowKit
def XK(L:List Nat)(D n cap i X:Nat)(pv:Value)(ps:List Pm)(tx:List UInt8)(k:Nat)(v:Value)(W:World):Prop:=
 match k with
 |0=>v=.slice (some ⟨D,0,none⟩) n cap
 |1=>v=.int .i64 (i:Int)
 |2=>v=.slice (some ⟨D,0,none⟩) n cap
 |3=>v=.int .i64 (i:Int)
 |4=>v=.pointer (some ⟨D,i*15,none⟩)
 |5=>v=.pointer (some ⟨D,i*15+2,none⟩)
 |6=>v=pv
 |7=>v=.pointer (some ⟨X,3,none⟩)
 |8=>v=.pointer (some ⟨X,4,none⟩)
 |9=>v=.string (S tx)
 |10=>di (Wl (D::L) W) v [tx]
 |11=>PmR (Wl (D::L) W) v (ps++[(dN,[tx])])
 |_=>True
theorem UQ{w:World}{base:Nat}{t:TypeId}{k n c:Nat}{a:Option Addr}{cs:List Value}(h:w.ownsRow base t k (.slice a n c) n cs)(hn:0<n):∃D,a=some ⟨D,0,none⟩:=by
 rcases h.2 with⟨_,h0⟩|⟨g,cap,cur,e,_⟩
 ·omega
 ·injection e with e1 e2 e3
  exact⟨g,e1⟩
theorem QS(L:List Nat)(iv:Value)(xs:List It)(w:World)(hX:∀X∈L,X<w.heap.size)(h:dX (Wl L w) iv xs)(hl:xs.length≤1000)(hs:∀x∈xs,O7 x):dP 50 #[iv] w (fun r w'=>∃ds,kS w.heap.size w' r (dS xs).length ds∧fO (Wl L w') (dS xs) ds):=by
 have HIT:=hid h
 have HS:=hid hs
 have HXX:=hid hX
 obtain⟨ia,ic,rfl,hcap⟩:=h.len
 clear h hcap hs hX
 obtain⟨i0,hi,hz0,hz1,hz2⟩:=info_parts x8
 go_enter Tryz.func50,Tryz.ntmps50
 go_wp2_with fail
 go_loopw [3,11] (fun ov i wr=>∃(k:Nat) (ys:List It) (ds:List Value),k≤xs.length∧ys.length≤k∧i=.int .i64 k∧ys=dS (xs.take k)∧(∀y∈ys,O7 y)∧kS w.heap.size wr ov ys.length ds∧fO (Wl L (Wb ov.ownBlock wr)) ys ds∧G w wr) (fun _ i _=>xs.length-(intOf i).toNat)
 case atStart=>exact⟨0,[],[],Nat.zero_le _,Nat.le_refl _,rfl,rfl,by simp,World.ownsRow_nil _ _ _ _,rfl,G.refl _⟩
 case round=>
  obtain⟨w1,rfl⟩:∃w1,w1=wr:=⟨_,rfl⟩
  obtain⟨k,ys,ds,hk,hyk,rfl,hys,hsm,how,hir,gr⟩:=hrel
  have HOW:=hid how
  have HIR:=hid hir
  have GR:=hid gr
  have HYS:=hid hys
  have HSM:=hid hsm
  obtain⟨oa,oc,hov⟩:=ug how
  subst hov
  clear how hir gr hys hsm
  by_cases hlt:k<xs.length
  ·obtain⟨b,off,cap,e,hb,hit⟩:=pq HIT.out (by rintro rfl;simp at hlt)
   cases e
   have hx:=List.getElem?_eq_getElem hlt
   obtain⟨x,hxe⟩:∃x,xs[k]=x:=⟨_,rfl⟩
   rw[hxe]at hx
   obtain⟨pv,lv,hat⟩:=hit k x hx
   have hsg:xZ w1 b (off+k*15) x pv lv:=xZ.grow (w:=w) ⟨fun j u hu=>(Wl.sub L w).cell _ _ (hat.c j u hu),hat.ok.sub (Wl.sub L w)⟩ (by rw[Wl.size]at hb;exact hb) GR.out
   obtain⟨pa,pc,rfl⟩:=hat.ok.pv
   obtain⟨la,lc,rfl⟩:=hat.ok.lv
   obtain⟨k0,k1,k2,k3,k4,k5,k6,k7,k8,k9,k10,k11,k12,k13,k14⟩:=hsg.e
   have HX:=hid hx
   have HOK:=hid hat.ok
   have hkl:(k:Int)<(xs.length:Int):=by omega
   have HSX:=hid (HS.out x (List.mem_of_getElem? hx))
   have SM:=hid (fun W=>kM x.n dN W (by have:=HSX.out.1;omega) (by simp[dN]))
   obtain⟨bl,hbl⟩:∃bl,dC x.n dN=bl:=⟨_,rfl⟩
   rw[hbl]at SM
   have HBL:=hid hbl
   unfold dN at SM
   have HBX:=hid (heap_alloc_new w1 (.cells (x.cells (.slice pa x.ps.length pc) (.slice la x.v.ps.length lc)).toArray 38))
   have HLS:=hid (show dS (xs.take (k+1))=ja ys x by rw[O6 hx,HYS.out])
   clear hit hat hsg hx hxe hbl
   have ways:(bl=false∨bl=true∧(x.v.ty==1)=false)∨(bl=true∧(x.v.ty==1)=true):=by
    cases bl<;>cases (x.v.ty==1)<;>simp
   rcases ways with hno|⟨rfl,e1⟩
   ·have HLE:=hid (show ja ys x=ys++[x] from MW (by
     rintro⟨h1,h2⟩
     rw[HBL.out]at h1
     rcases hno with h|⟨_,h⟩
     ·rw[h]at h1;cases h1
     ·rw[h2]at h;cases h))
    rcases hno with rfl|⟨rfl,e1⟩
    ·go_upto_region 15 with(go_at_call 16;refine(SM.out _).use ?_;intro w2 g2;have HB2:=hid (aB HBX.out g2);have G2:=hid (((G.refl w1).alloc (.cells (x.cells (.slice pa x.ps.length pc) (.slice la x.v.ps.length lc)).toArray 38)).trans g2))
     obtain⟨k0,k1,k2,k3,k4,k5,k6,k7,k8,k9,k10,k11,k12,k13,k14⟩:=aP HB2.out
     have HA2:=hid (show kS w.heap.size (w2.alloc (.cells (x.cells (.slice pa x.ps.length pc) (.slice la x.v.ps.length lc)).toArray 38)) (.slice oa ys.length oc) ys.length ds from(kS.grow HOW.out G2.out).alloc _)
     have HC2:=hid (heap_alloc_new w2 (.cells (x.cells (.slice pa x.ps.length pc) (.slice la x.v.ps.length lc)).toArray 38))
     have HI2:=hid (show fO (Wl L (Wb (Value.slice oa ys.length oc).ownBlock (w2.alloc (.cells (x.cells (.slice pa x.ps.length pc) (.slice la x.v.ps.length lc)).toArray 38)))) ys ds from(HIR.out.grow (Wl.g (Wb.g G2.out))).grow (Wl.g (Wb.g ((G.refl w2).alloc _))))
     have HG2:=hid (show G w (w2.alloc (.cells (x.cells (.slice pa x.ps.length pc) (.slice la x.v.ps.length lc)).toArray 38))from(GR.out.trans G2.out).alloc _)
     have hyl:ys.length≤1000:=by omega
     go_wp2_with (at_builtin;go_loud (refine wpList_append_lies _ rfl (.tmp 61) (.tmp 63) 22 rfl w.heap.size 38 i0 _ 15 176 Tryz.underlying22 hi hz0 hz1 hz2 rfl (by decide) _ _ _ rfl HA2.out ⟨w2.heap.size,0,none⟩ 1 1 (x.cells (.slice pa x.ps.length pc) (.slice la x.v.ps.length lc)) rfl rfl (fun j u hu=>by rw[mV,Nat.zero_add];refine(cell_of_row _ _ j _ _ _ HC2.out).trans ?_;simpa[It.cells]using hu) HOK.out.one (by omega) (by unfold maxLen;omega) (by omega) HG2.out.size _ rfl ?_))
     intro g1 cap1 w9 hown hgrow hat hlt9
     have LA:=hid (wC HA2.out HI2.out hgrow (hat.imp id (fun e=>by rw[e];simp)) HOK.out HG2.out)
     have HOWN:=hid hown
     clear hown hgrow hat hlt9
     clear k0 k1 k2 k3 k4 k5 k6 k7 k8 k9 k10 k11 k12 k13 k14
     go_wp2_with fail
     go_roundw
     case measure=>simp[intOf];omega
     case rel=>exact⟨k+1,ys++[x],ds++x.cells (.slice pa x.ps.length pc) (.slice la x.v.ps.length lc),by omega,by rw[List.length_append,List.length_singleton];omega,by go_num,by rw[HLS.out,HLE.out],yM HSM.out HSX.out,by rw[List.length_append,List.length_singleton];exact HOWN.out,LA.out.2,LA.out.1⟩
    ·go_upto_region 15 with(go_at_call 16;refine(SM.out _).use ?_;intro w2 g2;have HB2:=hid (aB HBX.out g2);have G2:=hid (((G.refl w1).alloc (.cells (x.cells (.slice pa x.ps.length pc) (.slice la x.v.ps.length lc)).toArray 38)).trans g2);obtain⟨_,_,_,q3,_⟩:=aP HB2.out)
     obtain⟨k0,k1,k2,k3,k4,k5,k6,k7,k8,k9,k10,k11,k12,k13,k14⟩:=aP HB2.out
     have HA2:=hid (show kS w.heap.size (w2.alloc (.cells (x.cells (.slice pa x.ps.length pc) (.slice la x.v.ps.length lc)).toArray 38)) (.slice oa ys.length oc) ys.length ds from(kS.grow HOW.out G2.out).alloc _)
     have HC2:=hid (heap_alloc_new w2 (.cells (x.cells (.slice pa x.ps.length pc) (.slice la x.v.ps.length lc)).toArray 38))
     have HI2:=hid (show fO (Wl L (Wb (Value.slice oa ys.length oc).ownBlock (w2.alloc (.cells (x.cells (.slice pa x.ps.length pc) (.slice la x.v.ps.length lc)).toArray 38)))) ys ds from(HIR.out.grow (Wl.g (Wb.g G2.out))).grow (Wl.g (Wb.g ((G.refl w2).alloc _))))
     have HG2:=hid (show G w (w2.alloc (.cells (x.cells (.slice pa x.ps.length pc) (.slice la x.v.ps.length lc)).toArray 38))from(GR.out.trans G2.out).alloc _)
     have hyl:ys.length≤1000:=by omega
     go_wp2_with (at_builtin;go_loud (refine wpList_append_lies _ rfl (.tmp 61) (.tmp 63) 22 rfl w.heap.size 38 i0 _ 15 176 Tryz.underlying22 hi hz0 hz1 hz2 rfl (by decide) _ _ _ rfl HA2.out ⟨w2.heap.size,0,none⟩ 1 1 (x.cells (.slice pa x.ps.length pc) (.slice la x.v.ps.length lc)) rfl rfl (fun j u hu=>by rw[mV,Nat.zero_add];refine(cell_of_row _ _ j _ _ _ HC2.out).trans ?_;simpa[It.cells]using hu) HOK.out.one (by omega) (by unfold maxLen;omega) (by omega) HG2.out.size _ rfl ?_))
     intro g1 cap1 w9 hown hgrow hat hlt9
     have LA:=hid (wC HA2.out HI2.out hgrow (hat.imp id (fun e=>by rw[e];simp)) HOK.out HG2.out)
     have HOWN:=hid hown
     clear hown hgrow hat hlt9
     clear k0 k1 k2 k3 k4 k5 k6 k7 k8 k9 k10 k11 k12 k13 k14
     go_wp2_with fail
     go_roundw
     case measure=>simp[intOf];omega
     case rel=>exact⟨k+1,ys++[x],ds++x.cells (.slice pa x.ps.length pc) (.slice la x.v.ps.length lc),by omega,by rw[List.length_append,List.length_singleton];omega,by go_num,by rw[HLS.out,HLE.out],yM HSM.out HSX.out,by rw[List.length_append,List.length_singleton];exact HOWN.out,LA.out.2,LA.out.1⟩
   ·go_upto_region 7 with(go_at_call 16;refine(SM.out _).use ?_;intro w2 g2;have HB2:=hid (aB HBX.out g2);have G2:=hid (((G.refl w1).alloc (.cells (x.cells (.slice pa x.ps.length pc) (.slice la x.v.ps.length lc)).toArray 38)).trans g2);obtain⟨_,_,_,q3,_⟩:=aP HB2.out)
    have HOW2:=hid (kS.grow HOW.out G2.out)
    have HIR2:=hid (show fO (Wl L (Wb (Value.slice oa ys.length oc).ownBlock w2)) ys ds from HIR.out.grow (Wl.g (Wb.g G2.out)))
    have hyl:ys.length≤1000:=by omega
    have hs12:=G2.out.size
    have hs01:=GR.out.size
    clear q3
    go_wp2_with fail
    go_loopw [6,26] (fun kv i wx=>∃j:Nat,j≤ys.length∧i=.int .i64 j∧kv=.int .i64 (kF (uk xn (ys.take j)))∧G w2 wx) (fun _ i _=>ys.length-(intOf i).toNat)
    case atStart=>exact⟨0,Nat.zero_le _,rfl,rfl,G.refl _⟩
    case round=>
     obtain⟨w4,rfl⟩:∃w4,w4=wr:=⟨_,rfl⟩
     obtain⟨j,hj,rfl,rfl,gx⟩:=hrel
     have GX:=hid gx
     clear gx
     by_cases hjl:j<ys.length
     ·have hy0:=List.getElem?_eq_getElem hjl
      obtain⟨y,hye⟩:∃y,ys[j]=y:=⟨_,rfl⟩
      rw[hye]at hy0
      obtain⟨D,rfl⟩:=UQ HOW.out (by omega)
      obtain⟨yv,zv,hok,hDlt,hwD,hcs,hfz,_⟩:=U5 (L:=L) HOW2.out HIR2.out rfl hy0
      have hsg:=xZ.grow (w:=w2) ⟨hcs,hok.sub ((Wl.sub L _).trans (Wo.sub D w2))⟩ hDlt GX.out
      obtain⟨ya,yc,rfl⟩:=hok.pv
      obtain⟨za,zc,rfl⟩:=hok.lv
      obtain⟨k0,k1,k2,k3,k4,k5,k6,k7,k8,k9,k10,k11,k12,k13,k14⟩:=hsg.e
      have hjl2:(j:Int)<(ys.length:Int):=by omega
      have SA:=hid (fun W=>kM y.n xn W (by have:=(HSM.out y (List.mem_of_getElem? hy0)).1;omega) (by simp[xn]))
      obtain⟨ba,hba⟩:∃ba,dC y.n xn=ba:=⟨_,rfl⟩
      rw[hba]at SA
      unfold xn at SA
      have HL:=hid (show uk xn (ys.take (j+1))=if ba=true then some j else uk xn (ys.take j) by
       rw[List.take_add_one,hy0]
       show uk xn (ys.take j++[y])=_
       rw[RQ,hba,List.length_take,Nat.min_eq_left (by omega)])
      clear hye hy0 hok hcs hfz hsg hba
      cases ba
      all_goals
       go_wp2_with (go_at_call 16;refine(SA.out _).use ?_;intro w7 g7;have G7:=hid (((G.refl w4).alloc (.cells (y.cells (.slice ya y.ps.length yc) (.slice za y.v.ps.length zc)).toArray 38)).trans g7);clear g7)
       go_roundw
       case measure=>simp[intOf];omega
       case rel=>exact⟨j+1,by omega,by go_num,by rw[HL.out];rfl,GX.out.trans G7.out⟩
     ·obtain rfl:j=ys.length:=by omega
      rw[List.take_length]
      have HB5:=hid (aB HB2.out GX.out)
      have G15:=hid (G2.out.trans GX.out)
      obtain⟨o,ho⟩:∃o,uk xn ys=o:=⟨_,rfl⟩
      rw[ho]
      cases o with
      |none=>
       simp only[kF]
       have HLE:=hid (O8 (x:=x) ho)
       clear ho
       go_upto_region 15 with fail
       obtain⟨k0,k1,k2,k3,k4,k5,k6,k7,k8,k9,k10,k11,k12,k13,k14⟩:=aP HB5.out
       have HA2:=hid (show kS w.heap.size (w4.alloc (.cells (x.cells (.slice pa x.ps.length pc) (.slice la x.v.ps.length lc)).toArray 38)) (.slice oa ys.length oc) ys.length ds from(kS.grow HOW.out G15.out).alloc _)
       have HC2:=hid (heap_alloc_new w4 (.cells (x.cells (.slice pa x.ps.length pc) (.slice la x.v.ps.length lc)).toArray 38))
       have HI2:=hid (show fO (Wl L (Wb (Value.slice oa ys.length oc).ownBlock (w4.alloc (.cells (x.cells (.slice pa x.ps.length pc) (.slice la x.v.ps.length lc)).toArray 38)))) ys ds from(HIR.out.grow (Wl.g (Wb.g G15.out))).grow (Wl.g (Wb.g ((G.refl w4).alloc _))))
       have HG2:=hid (show G w (w4.alloc (.cells (x.cells (.slice pa x.ps.length pc) (.slice la x.v.ps.length lc)).toArray 38))from(GR.out.trans G15.out).alloc _)
       have hyl:ys.length≤1000:=by omega
       go_wp2_with (at_builtin;go_loud (refine wpList_append_lies _ rfl (.tmp 61) (.tmp 63) 22 rfl w.heap.size 38 i0 _ 15 176 Tryz.underlying22 hi hz0 hz1 hz2 rfl (by decide) _ _ _ rfl HA2.out ⟨w4.heap.size,0,none⟩ 1 1 (x.cells (.slice pa x.ps.length pc) (.slice la x.v.ps.length lc)) rfl rfl (fun j u hu=>by rw[mV,Nat.zero_add];refine(cell_of_row _ _ j _ _ _ HC2.out).trans ?_;simpa[It.cells]using hu) HOK.out.one (by omega) (by unfold maxLen;omega) (by omega) HG2.out.size _ rfl ?_))
       intro g1 cap1 w9 hown hgrow hat hlt9
       have LA:=hid (wC HA2.out HI2.out hgrow (hat.imp id (fun e=>by rw[e];simp)) HOK.out HG2.out)
       have HOWN:=hid hown
       clear hown hgrow hat hlt9
       clear k0 k1 k2 k3 k4 k5 k6 k7 k8 k9 k10 k11 k12 k13 k14
       go_wp2_with fail
       go_roundw
       case measure=>simp[intOf];omega
       case rel=>exact⟨k+1,ys++[x],ds++x.cells (.slice pa x.ps.length pc) (.slice la x.v.ps.length lc),by omega,by rw[List.length_append,List.length_singleton];omega,by go_num,by rw[HLS.out,HLE.out],yM HSM.out HSX.out,by rw[List.length_append,List.length_singleton];exact HOWN.out,LA.out.2,LA.out.1⟩
      |some i=>
       simp only[kF]
       have hil:=X8 ho
       have hy0:=List.getElem?_eq_getElem hil
       obtain⟨y,hye⟩:∃y,ys[i]=y:=⟨_,rfl⟩
       rw[hye]at hy0
       obtain⟨D,rfl⟩:=UQ HOW.out (by omega)
       obtain⟨yv,zv,hok,hDlt,hwD,hcs,hfz,hset⟩:=U5 (L:=L) HOW2.out HIR2.out rfl hy0
       obtain⟨ya,yc,rfl⟩:=hok.pv
       obtain⟨za,zc,rfl⟩:=hok.lv
       have y2:=(GX.out.cell (p:=⟨D,i*15+2,none⟩) hDlt).trans (hcs 2 _ rfl)
       have hil2:(i:Int)<(ys.length:Int):=by omega
       have h0i:(0:Int)≤(i:Int):=by omega
       have hLS:=HSM.out y (List.mem_of_getElem? hy0)
       have HPM:=hid (fun W (g:G w2 W)=>(hok.pm.grow (Wl.g (L:=L) (Wo.g g)):PmR (Wl (D::L) W) (.slice ya y.ps.length yc) y.ps))
       have FN:=hid (fun W (g:G w2 W)=>qQ (.slice ya y.ps.length yc) y.ps dN W ((HPM.out W g).un.p) (by have:=hLS.2.2.1;omega) hLS.2.1 (by simp[dN]))
       obtain⟨f,hf⟩:∃f,gZ y.ps dN=f:=⟨_,rfl⟩
       rw[hf]at FN
       unfold dN at FN
       have HSET:=hid hset
       have HFZ:=hid hfz
       have HF:=hid hf
       have HY0:=hid hy0
       have HO:=hid ho
       clear hye hok hcs hfz hset hf hy0 ho
       cases f with
       |some q=>
        have HLE:=hid (RV (x:=x) HO.out HY0.out (by rw[HF.out];rfl))
        simp only[kF]at FN
        have hq:¬(q:Int)<0:=by omega
        go_upto_region 15 with(go_at_call 37;refine(FN.out w4 GX.out).use ?_;intro w5 g5;have HB6:=hid (aB HB5.out g5);have G25:=hid (G15.out.trans g5);clear g5)
        obtain⟨k0,k1,k2,k3,k4,k5,k6,k7,k8,k9,k10,k11,k12,k13,k14⟩:=aP HB6.out
        have HA2:=hid (show kS w.heap.size (w5.alloc (.cells (x.cells (.slice pa x.ps.length pc) (.slice la x.v.ps.length lc)).toArray 38)) (.slice (some ⟨D,0,none⟩) ys.length oc) ys.length ds from(kS.grow HOW.out G25.out).alloc _)
        have HC2:=hid (heap_alloc_new w5 (.cells (x.cells (.slice pa x.ps.length pc) (.slice la x.v.ps.length lc)).toArray 38))
        have HI2:=hid (show fO (Wl L (Wb (Value.slice (some ⟨D,0,none⟩) ys.length oc).ownBlock (w5.alloc (.cells (x.cells (.slice pa x.ps.length pc) (.slice la x.v.ps.length lc)).toArray 38)))) ys ds from(HIR.out.grow (Wl.g (Wb.g G25.out))).grow (Wl.g (Wb.g ((G.refl w5).alloc _))))
        have HG2:=hid (show G w (w5.alloc (.cells (x.cells (.slice pa x.ps.length pc) (.slice la x.v.ps.length lc)).toArray 38))from(GR.out.trans G25.out).alloc _)
        have hyl:ys.length≤1000:=by omega
        go_wp2_with (at_builtin;go_loud (refine wpList_append_lies _ rfl (.tmp 61) (.tmp 63) 22 rfl w.heap.size 38 i0 _ 15 176 Tryz.underlying22 hi hz0 hz1 hz2 rfl (by decide) _ _ _ rfl HA2.out ⟨w5.heap.size,0,none⟩ 1 1 (x.cells (.slice pa x.ps.length pc) (.slice la x.v.ps.length lc)) rfl rfl (fun j u hu=>by rw[mV,Nat.zero_add];refine(cell_of_row _ _ j _ _ _ HC2.out).trans ?_;simpa[It.cells]using hu) HOK.out.one (by omega) (by unfold maxLen;omega) (by omega) HG2.out.size _ rfl ?_))
        intro g1 cap1 w9 hown hgrow hat hlt9
        have LA:=hid (wC HA2.out HI2.out hgrow (hat.imp id (fun e=>by rw[e];simp)) HOK.out HG2.out)
        have HOWN:=hid hown
        clear hown hgrow hat hlt9
        clear k0 k1 k2 k3 k4 k5 k6 k7 k8 k9 k10 k11 k12 k13 k14
        go_wp2_with fail
        go_roundw
        case measure=>simp[intOf];omega
        case rel=>exact⟨k+1,ys++[x],ds++x.cells (.slice pa x.ps.length pc) (.slice la x.v.ps.length lc),by omega,by rw[List.length_append,List.length_singleton];omega,by go_num,by rw[HLS.out,HLE.out],yM HSM.out HSX.out,by rw[List.length_append,List.length_singleton];exact HOWN.out,LA.out.2,LA.out.1⟩
       |none=>
        have hn:(gZ y.ps dN).isNone=true:=by rw[HF.out];rfl
        have HLE:=hid (RS (x:=x) HBL.out (by simpa using e1) HO.out HY0.out hn)
        have hcount:=hLS.2.2.2 hn
        simp only[kF]at FN
        go_upto_region 14 with(go_at_call 37;refine(FN.out w4 GX.out).use ?_;intro w5 g5;have G45:=hid g5;clear g5)
        have HB6:=hid (aB HB5.out G45.out)
        have G25:=hid (GX.out.trans G45.out)
        have LD:=hid (Nat.lt_of_lt_of_le hDlt G25.out.size)
        have Y2:=hid ((G45.out.cell (p:=⟨D,i*15+2,none⟩) (Nat.lt_of_lt_of_le hDlt GX.out.size)).trans y2)
        have HLD:=hid (show ∀X∈D::L,X<w5.heap.size from fun X hX=>by
         rcases List.mem_cons.1 hX with rfl|hX
         ·exact LD.out
         ·have h1:=HXX.out X hX
          have h2:=G25.out.size
          omega)
        have CW:=hid (fun W (g:G w5 W) sv (h:di (Wl (D::L) W) sv [x.v.tx])=>yJ (D::L) (.slice ya y.ps.length yc) dN sv [x.v.tx] y.ps W (fun X hX=>Nat.lt_of_lt_of_le (HLD.out X hX) g.size) (HPM.out W (G25.out.trans g)) h hcount)
        unfold dN at CW
        clear y2 FN hcount
        refine wp_region_any (by kernel_rfl) ?_
        refine jQ (E:=#[false,false,false,false,false,false,false,false,false,false,false,false,false,false,false]) G 12 (XK L D ys.length oc i w1.heap.size (.slice ya y.ps.length yc) y.ps x.v.tx) [some [],some [],some [],some [],some [(2,49),(3,50)],some [(4,51)],some [(5,52)],some [],some [(7,54)],some [(8,55)],some [(9,56)],some [(6,53),(10,57)],none,none,none] [(0,47),(1,48),(2,49),(3,50),(4,51),(5,52),(6,53),(7,54),(8,55),(9,56),(10,57),(11,58)] _ (by kernel_rfl) (by decide) (by kernel_rfl) (by kernel_rfl) rfl G.refl (fun _ _ _=>G.trans) (w0:=w5) ((G.refl w5).drew) ?_ ?_ ?_
        ·intro k v W W' g h
         match k,h with
         |0,h=>exact h
         |1,h=>exact h
         |2,h=>exact h
         |3,h=>exact h
         |4,h=>exact h
         |5,h=>exact h
         |6,h=>exact h
         |7,h=>exact h
         |8,h=>exact h
         |9,h=>exact h
         |10,h=>exact di.grow h (Wl.g g)
         |11,h=>exact PmR.wo h g
         |n+12,h=>trivial
        ·refine bi (fun vals W g d=>?_)<|bi (fun vals W g d=>?_)<|bi (fun vals W g d=>?_)<|bi (fun vals W g d=>?_)<|bi (fun vals W g d=>?_)<|bi (fun vals W g d=>?_)<|bi (fun vals W g d=>?_)<|bi (fun vals W g d=>?_)<|bi (fun vals W g d=>?_)<|bi (fun vals W g d=>?_)<|bi (fun vals W g d=>?_)<|bi (fun vals W g d=>?_)<|eY<|eY<|eY oD
         ·refine bI rfl rfl rfl fun K hK=>?_
          simp only[gFr]at hK⊢
          go_simp
          exact hK _ _ (G.refl _) rfl
         ·refine bI rfl rfl rfl fun K hK=>?_
          simp only[gFr]at hK⊢
          go_simp
          exact hK _ _ (G.refl _) rfl
         ·refine bI rfl rfl rfl fun K hK=>?_
          simp only[gFr]at hK⊢
          go_simp
          exact hK _ _ (G.refl _) rfl
         ·refine bI rfl rfl rfl fun K hK=>?_
          simp only[gFr]at hK⊢
          go_simp
          exact hK _ _ (G.refl _) rfl
         ·obtain⟨d2,d3,_⟩:=d
          change vals 2=_ at d2
          change vals 3=_ at d3
          refine bI rfl rfl rfl fun K hK=>?_
          simp only[gFr,d2,d3]at hK⊢
          have hin:=hil
          go_simp
          exact hK _ _ (G.refl _) rfl
         ·obtain⟨d4,_⟩:=d
          change vals 4=_ at d4
          refine bI rfl rfl rfl fun K hK=>?_
          simp only[gFr,d4]at hK⊢
          go_simp
          exact hK _ _ (G.refl _) rfl
         ·obtain⟨d5,_⟩:=d
          change vals 5=_ at d5
          refine bI rfl rfl rfl fun K hK=>?_
          simp only[gFr,d5]at hK⊢
          have s1:=(g.cell (p:=⟨D,i*15+2,none⟩) LD.out).trans Y2.out
          go_simp
          exact hK _ _ (G.refl _) rfl
         ·refine bI rfl rfl rfl fun K hK=>?_
          simp only[gFr]at hK⊢
          go_simp
          exact hK _ _ (G.refl _) rfl
         ·obtain⟨d7,_⟩:=d
          change vals 7=_ at d7
          refine bI rfl rfl rfl fun K hK=>?_
          simp only[gFr,d7]at hK⊢
          go_simp
          exact hK _ _ (G.refl _) rfl
         ·obtain⟨d8,_⟩:=d
          change vals 8=_ at d8
          refine bI rfl rfl rfl fun K hK=>?_
          simp only[gFr,d8]at hK⊢
          obtain⟨q0,q1,q2,q3,q4,_⟩:=aP (aB HB6.out g)
          go_simp
          exact hK _ _ (G.refl _) rfl
         ·obtain⟨d9,_⟩:=d
          change vals 9=_ at d9
          refine bI rfl rfl rfl fun K hK=>?_
          simp only[gFr,d9]at hK⊢
          go_simp
          exact hK _ _ ((G.refl _).alloc _) (MI HLD.out g)
         ·obtain⟨d6,d10,_⟩:=d
          change vals 6=_ at d6
          refine bI rfl rfl rfl fun K hK=>?_
          simp only[gFr,d6]at hK⊢
          go_simp
          refine(CW.out W g _ d10).use ?_
          intro u W' hu hg
          exact hK _ _ hg hu
        ·intro vals W g d
         simp only[jf,jH]at d
         obtain⟨d0,d1,d2,d3,d4,d5,d6,d7,d8,d9,d10,d11,_⟩:=d
         change vals 0=_ at d0
         change vals 1=_ at d1
         change vals 2=_ at d2
         change vals 3=_ at d3
         change vals 4=_ at d4
         change vals 5=_ at d5
         change vals 6=_ at d6
         change vals 7=_ at d7
         change vals 8=_ at d8
         change vals 9=_ at d9
         have GG:=hid (G25.out.trans g)
         obtain⟨a3,m3,c3,e11⟩:=d11.sl
         obtain⟨ds',ho',hi'⟩:=HSET.out W _ _ GG.out d11
         rw[e11]at ho' hi'
         have HO9:=hid ho'
         have HI9:=hid hi'
         have cD:=(g.cell (p:=⟨D,i*15+2,none⟩) LD.out).trans Y2.out
         have fD:=(Below.frozen GG.out (p:=⟨D,i*15+2,none⟩) hDlt).trans (HFZ.out _)
         clear ho' hi'
         refine⟨?_⟩
         show wpList _ _ _ [_,_,_] _ _
         simp only[gFr,d0,d1,d2,d3,d4,d5,d6,d7,d8,d9]
         clear d0 d1 d2 d3 d4 d5 d6 d7 d8 d9
         simp only[e11]
         clear e11 d10 d11 g
         go_wp2_with fail
         go_roundw
         case measure=>simp[intOf];omega
         case rel=>exact⟨k+1,ys.set i { y with ps:=y.ps++[(dN,[x.v.tx])] },ds',by omega,by rw[List.length_set];omega,by go_num,by rw[HLS.out,HLE.out],X9 HSM.out HY0.out hn,by rw[List.length_set];exact HO9.out,HI9.out,jU (GR.out.trans (G2.out.trans GG.out)) hwD⟩
  ·obtain rfl:k=xs.length:=by omega
   have HIR2:=hid (show fO (Wl L w1) (dS xs) ds from by
    have e:=HYS.out
    rw[List.take_length]at e
    rw[←e]
    exact HIR.out.sub (Wl.mono (Wb.sub _ w1)))
   have hl2:ys.length=(dS xs).length:=by have e:=HYS.out;rw[List.take_length]at e;rw[e]
   go_wp2_with fail
   go_ret
   exact⟨_,rfl,⟨ds,by rw[←hl2];exact HOW.out,HIR2.out⟩,GR.out⟩
end Go.Proofs.YtmffejnigppbpaaGreatDoor
