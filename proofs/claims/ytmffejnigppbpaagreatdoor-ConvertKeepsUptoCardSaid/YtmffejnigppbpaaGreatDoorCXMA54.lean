/-
  Texts merged into one: Heavy, Thick, B64, ParamsRow.
-/
import Derived.Test.YtmffejnigppbpaaGreatDoorCXMA59
import Derived.Test.YtmffejnigppbpaaGreatDoorCXMA50
import Derived.Test.YtmffejnigppbpaaGreatDoorCXMPieces
import Derived.Test.YtmffejnigppbpaaGreatDoorCXMA63
import Derived.Deep.OwnRows
import Derived.Deep.Slices
import Derived.OwnWalk
import Derived.Lib.SliceRun
import Derived.Laws.Cover3
import Derived.Laws.AppendOwn
set_option linter.unusedVariables false
set_option linter.unusedSimpArgs false
set_option maxHeartbeats 2000000
set_option maxRecDepth 100000
namespace Go.Proofs.YtmffejnigppbpaaGreatDoor
open Go.RowKit
theorem RN(x:List (List UInt8)):jF x=x.length+(x.map List.length).sum:=by
 induction x with
 |nil=>rfl
 |cons a x ih=>rw[ql,ih];simp;omega
theorem RP(x:List (List (List UInt8))):iL x=x.length+(x.map jF).sum:=by
 induction x with
 |nil=>rfl
 |cons a x ih=>rw[sD,ih];simp;omega
theorem V4{v:Value}{ls:List (List (List UInt8))}(w:World)(h:fA w v ls)(hb:iL ls≤2000000):nT 124 #[v] w (.bool (decide (1500<iL ls))):=by
 have hsp:=RP ls
 obtain⟨a,cap,hv,_⟩:=h.len
 have H:=hid h
 have HSP:=hid hsp
 subst hv
 have htot:(ls.map jF).sum≤2000000:=by omega
 have hll:ls.length+(ls.map jF).sum≤2000000:=by omega
 clear h hsp
 go_enter Tryz.func124,Tryz.ntmps124
 go_wp2_with fail
 go_loop [3,12] (fun n i=>∃k:Nat,k≤ls.length∧i=.int .i64 k∧n=.int .i64 ((ls.length+nN jF ls k:Nat):Int)) (fun _ i=>ls.length-(intOf i).toNat)
 case atStart=>exact⟨0,Nat.zero_le _,rfl,by rw[wU];rfl⟩
 case round=>
  obtain⟨k,hk,rfl,rfl⟩:=hrel
  have hst:=qV jF ls k
  by_cases hlt:k<ls.length
  ·obtain⟨b,o,c,e1,_,hb',hc⟩:=H.out.at_ (by rintro rfl;simp at hlt)
   simp only[Value.slice.injEq,true_and]at e1
   obtain⟨rfl,rfl⟩:=e1
   obtain⟨sv,d1,i1⟩:=hc k _ (List.getElem?_eq_getElem hlt)
   have hsn:=wV jF ls k hlt
   have hst2:=qV jF ls (k+1)
   obtain⟨x,hx⟩:∃x,ls[k]=x:=⟨_,rfl⟩
   rw[hx]at i1 hsn
   have hxs:=RN x
   obtain⟨xa,xc,hxv,_⟩:=i1.len
   have I1:=hid i1
   subst hxv
   obtain⟨B,hB⟩:∃B,ls.length+nN jF ls k=B:=⟨_,rfl⟩
   have hB2:B+x.length+(x.map List.length).sum≤2000000:=by omega
   have HSN:Hid (ls.length+nN jF ls (k+1)=B+x.length+(x.map List.length).sum):=hid (by omega)
   rw[hB]
   clear hc i1 hx hsn hst2 hxs hB hst
   go_wp2_with fail
   go_loop [3,22] (fun n i=>∃j:Nat,j≤x.length∧i=.int .i64 j∧n=.int .i64 ((B+x.length+nN List.length x j:Nat):Int)) (fun _ i=>x.length-(intOf i).toNat)
   case atStart=>exact⟨0,Nat.zero_le _,rfl,by rw[wU];go_num⟩
   case round=>
    obtain⟨j,hj,rfl,rfl⟩:=hrel
    have hst:=qV List.length x j
    by_cases hjt:j<x.length
    ·obtain⟨b2,o2,c2,e2,_,hb2',hc2⟩:=I1.out.at_ (by rintro rfl;simp at hjt)
     simp only[Value.slice.injEq,true_and]at e2
     obtain⟨rfl,rfl⟩:=e2
     have d2:=hc2 j _ (List.getElem?_eq_getElem hjt)
     have hsn:=wV List.length x j hjt
     have hst2:=qV List.length x (j+1)
     obtain⟨s,hs⟩:∃s,x[j]=s:=⟨_,rfl⟩
     rw[hs]at d2 hsn
     have hs2:B+x.length+nN List.length x j+s.length≤2000000:=by omega
     have HSJ:=hid hsn
     clear hc2 hs hsn hst2
     go_wp2_with fail
     go_round
     case rel=>exact⟨j+1,by omega,by go_num,by rw[HSJ.out];go_num⟩
     case measure=>simp[intOf];omega
    ·obtain rfl:j=x.length:=by omega
     have HE:Hid (nN List.length x x.length=(x.map List.length).sum):=hid (y9 _ _ _ (Nat.le_refl _))
     rw[HE.out]
     go_wp2_with fail
     go_round
     case rel=>exact⟨k+1,by omega,by go_num,by rw[HSN.out]⟩
     case measure=>simp[intOf];omega
  ·obtain rfl:k=ls.length:=by omega
   have HE:Hid (nN jF ls ls.length=(ls.map jF).sum):=hid (y9 _ _ _ (Nat.le_refl _))
   rw[HE.out,←HSP.out]
   clear hst
   go_wp2_with fail
   go_ret
   exact⟨cO (by simp;omega),rfl⟩
end Go.Proofs.YtmffejnigppbpaaGreatDoor

set_option maxHeartbeats 4000000
set_option maxRecDepth 100000
namespace Go.Proofs.YtmffejnigppbpaaGreatDoor
open Go.RowKit
theorem WR(x:Vl)(a:Option Addr)(ca:Nat)(w:World)(hL:fA w (.slice a x.ps.length ca) x.ps)(ht:x.tx.length≤1048576)(hp:iL x.ps≤2000000):dA 78 #[x.v (.slice a x.ps.length ca)] w (.bool (decide (1500<x.tx.length∨1500<iL x.ps))):=by
 obtain⟨ty,tx,ps,⟨y,m,d,h,nn,s_,zd,zn⟩,n⟩:=x
 simp only at hL ht hp
 have HL:=hid hL
 have HP:=hid hp
 clear hL hp
 simp only[Vl.v]
 have g0:Hid (G w (w.alloc (.cells #[.int .i64 ty,.string (S tx),.slice a ps.length ca,.int .i64 y,.int .i64 m,.int .i64 d,.int .i64 h,.int .i64 nn,.int .i64 s_,.bool zd,.int .i64 zn,.int .i64 n] 36))):=hid ((G.refl w).alloc _)
 by_cases h1:1500<tx.length
 ·go_enter Tryz.func78,Tryz.ntmps78
  go_wp2_with fail
  go_ret
  exact⟨cO (by first|(simp;done)|(simp;omega)),by repeat (first|exact g0.out|apply G.drew)⟩
 ·have hh:=V4 (w.alloc (.cells #[.int .i64 ty,.string (S tx),.slice a ps.length ca,.int .i64 y,.int .i64 m,.int .i64 d,.int .i64 h,.int .i64 nn,.int .i64 s_,.bool zd,.int .i64 zn,.int .i64 n] 36)) (HL.out.grow g0.out) HP.out
  have HH:=hid hh
  clear hh
  go_enter Tryz.func78,Tryz.ntmps78
  go_wp2_with fail
  refine HH.out.use ?_
  go_wp2_with fail
  go_ret
  exact⟨cO (by simp[h1];intro hq;omega),by repeat (first|exact g0.out|apply G.drew)⟩
end Go.Proofs.YtmffejnigppbpaaGreatDoor

set_option maxHeartbeats 4000000
set_option maxRecDepth 100000
namespace Go.Proofs.YtmffejnigppbpaaGreatDoor
open Go.RowKit
def oq:List UInt8:=[65,66,67,68,69,70,71,72,73,74,75,76,77,78,79,80,81,82,83,84,85,86,87,88,89,90,97,98,99,100,101,102,103,104,105,106,107,108,109,110,111,112,113,114,115,116,117,118,119,120,121,122,48,49,50,51,52,53,54,55,56,57,43,47]
theorem EC:oq.length=64:=by decide
def og(k:Int):Int:=((oq.getD k.toNat 0).toNat:Int)
theorem mG(k:Int):0≤og k∧og k<256:=by
 unfold og;have:=(oq.getD k.toNat 0).toNat_lt;omega
theorem mJ(k:Int)(h0:0≤k)(h1:k<64)(w:World):(Instr.index 9 (.string ⟨#[65,66,67,68,69,70,71,72,73,74,75,76,77,78,79,80,81,82,83,84,85,86,87,88,89,90,97,98,99,100,101,102,103,104,105,106,107,108,109,110,111,112,113,114,115,116,117,118,119,120,121,122,48,49,50,51,52,53,54,55,56,57,43,47]⟩) (.int .i64 k)).run Tryz.prog w=.ok (.int .u8 (og k)) w:=by
 have h:=run_index_string (P:=Tryz.prog) w 9 (S oq) .i64 k Tryz.underlying9
 have hs:(S oq).size=64:=by rw[xB,EC]
 rw[dif_pos ⟨h0,by rw[hs];omega⟩]at h
 have e:(⟨#[65,66,67,68,69,70,71,72,73,74,75,76,77,78,79,80,81,82,83,84,85,86,87,88,89,90,97,98,99,100,101,102,103,104,105,106,107,108,109,110,111,112,113,114,115,116,117,118,119,120,121,122,48,49,50,51,52,53,54,55,56,57,43,47]⟩:ByteArray)=S oq:=rfl
 rw[e,h]
 unfold og
 rw[Xq]
 have hk:k.toNat<oq.length:=by rw[EC];omega
 simp[List.getD,List.getElem?_eq_getElem hk]
def rH(n:Int):List UInt8:=[dL (og (n/262144%64)),dL (og (n/4096%64)),dL (og (n/64%64)),dL (og (n%64))]
def vU(a b c:UInt8):Int:=((a.toNat:Int)*256+b.toNat)*256+c.toNat
def rP:List UInt8→List UInt8
 |[]=>[]
 |[a]=>(rH (vU a 0 0)).take 2++[61,61]
 |[a,b]=>(rH (vU a b 0)).take 3++[61]
 |a::b::c::t=>rH (vU a b c)++rP t
theorem LY(n:Int):(rH n).length=4:=rfl
theorem xq:∀l:List UInt8,(rP l).length=(l.length+2)/3*4
 |[]=>rfl
 |[a]=>by simp[rP,rH]
 |[a,b]=>by simp[rP,rH]
 |a::b::c::t=>by
  rw[rP,List.length_append,LY,xq t]
  simp only[List.length_cons]
  omega
theorem Xj(a b c:UInt8)(t:List UInt8):(a::b::c::t).drop (min 3 ((t.length:Int)+1+1+1)).toNat=t:=by
 have e3:(min 3 ((t.length:Int)+1+1+1)).toNat=3:=by omega
 rw[e3];rfl
theorem Xk(a:UInt8):rP [a]=(rH (vU a 0 0)).take 2++[61,61]:=rfl
theorem Xl(a b:UInt8):rP [a,b]=(rH (vU a b 0)).take 3++[61]:=rfl
theorem Xm(a b c:UInt8)(t:List UInt8):rP (a::b::c::t)=rH (vU a b c)++rP t:=by rw[rP]
theorem Jy(l:List UInt8)(w:World)(hl:l.length≤1099511627776):dA 184 #[.string (S l)] w (.string (S (rP l))):=by
 go_enter Tryz.func184,Tryz.ntmps184
 go_wp2_with fail
 have hnew:=IsB.new (G.refl w)
 have Hnew:=hid hnew
 clear hnew
 go_loopw [0] (fun s wr=>∃rest pre:List UInt8,s=.string (S rest)∧rP l=pre++rP rest∧rest.length≤l.length∧pre.length+(rest.length+2)/3*4≤(l.length+2)/3*4∧IsB w wr w.heap.size pre∧G w wr) (fun s _=>match s with|.string x=>x.size|_=>0)
 case atStart=>exact⟨l,[],rfl,by simp,Nat.le_refl _,by simp,Hnew.out,(G.refl w).alloc _⟩
 case round=>
  obtain⟨rest,pre,rfl,he,hrl,hpl,hb,hg⟩:=hrel
  have Hb:=hid hb
  have He:=hid he
  clear hb he Hnew
  rcases rest with _|⟨a,_|⟨b,_|⟨c,t⟩⟩⟩
  ·go_wp2_with fail
   refine(Gv Hb.out hg).mono ?_
   rintro e w1 ⟨rfl,g1,_⟩
   go_wp2_with fail
   go_ret
   exact⟨by rw[He.out];simp[rP],g1⟩
  ·simp only[List.length_cons,List.length_nil]at hrl hpl
   have ha:a.toNat<256:=a.toNat_lt
   have o0:bits .or .i64 0 (a.toNat:Int)=(a.toNat:Int):=by have:=pg 8 0 (a.toNat:Int) (by omega) (by decide) (by omega) (by omega) (by omega) (by omega);omega
   have HN:Hid (vU a 0 0=(a.toNat:Int)*256*256):=hid (by unfold vU;simp)
   have n0:0≤(a.toNat:Int)*256*256:=by omega
   have n1:(a.toNat:Int)*256*256<16777216:=by omega
   obtain⟨N,hN⟩:∃N,N=(a.toNat:Int)*256*256:=⟨_,rfl⟩
   rw[←hN]at n0 n1
   have m0:bits .and .i64 (N/262144) 63=N/262144%64:=lK 6 (by omega) _ 63 (by omega) (by omega) rfl
   have m1:bits .and .i64 (N/4096) 63=N/4096%64:=lK 6 (by omega) _ 63 (by omega) (by omega) rfl
   have HQ:Hid (rH N=[dL (og (N/262144%64)),dL (og (N/4096%64)),dL (og (N/64%64)),dL (og (N%64))]):=hid rfl
   have b0a:0≤N/262144%64:=by omega
   have b0b:N/262144%64<64:=by omega
   generalize N/262144%64=K0 at *
   have l0:=mJ K0 b0a b0b
   have r0:=mG K0
   have b1a:0≤N/4096%64:=by omega
   have b1b:N/4096%64<64:=by omega
   generalize N/4096%64=K1 at *
   have l1:=mJ K1 b1a b1b
   have r1:=mG K1
   have hN2:=hid hN
   clear hN
   go_wp2_with fail
   refine wp_loop_rounds 4 ?_
   rw[rounds_succ]
   go_wp2_with fail
   rw[rounds_succ]
   go_wp2_with fail
   rw[rounds_succ]
   go_wp2_with fail
   rw[rounds_succ]
   go_wp2_with fail
   simp only[←hN2.out]
   refine wp_loop_rounds 5 ?_
   rw[rounds_succ]
   go_wp2_with fail
   refine(iy Hb.out hg (og K0) r0.1 r0.2 (by simp;omega)).mono ?_
   rintro e w0 ⟨rfl,hb0,hg0,_⟩
   have Hb0:=hid hb0
   clear hb0
   go_wp2_with fail
   rw[rounds_succ]
   go_wp2_with fail
   refine(iy Hb0.out hg0 (og K1) r1.1 r1.2 (by simp;omega)).mono ?_
   rintro e w1 ⟨rfl,hb1,hg1,_⟩
   have Hb1:=hid hb1
   clear hb1
   go_wp2_with fail
   rw[rounds_succ]
   go_wp2_with fail
   refine(iy Hb1.out hg1 61 (by omega) (by omega) (by simp;omega)).mono ?_
   rintro e w2 ⟨rfl,hb2,hg2,_⟩
   have Hb2:=hid hb2
   clear hb2
   go_wp2_with fail
   rw[rounds_succ]
   go_wp2_with fail
   refine(iy Hb2.out hg2 61 (by omega) (by omega) (by simp;omega)).mono ?_
   rintro e w3 ⟨rfl,hb3,hg3,_⟩
   have Hb3:=hid hb3
   clear hb3
   go_wp2_with fail
   rw[rounds_succ]
   go_wp2_with fail
   go_roundw
   case rel=>
    refine⟨[],_,by first|rfl|rw[Xj],?_,(by first|omega|simp),?_,Hb3.out,hg3⟩
    ·rw[He.out,Xk,HN.out,←hN2.out,HQ.out];simp[rP]
    ·simp;omega
   case measure=>simp;omega
  ·simp only[List.length_cons,List.length_nil]at hrl hpl
   have ha:a.toNat<256:=a.toNat_lt
   have hb:b.toNat<256:=b.toNat_lt
   have o0:bits .or .i64 0 (a.toNat:Int)=(a.toNat:Int):=by have:=pg 8 0 (a.toNat:Int) (by omega) (by decide) (by omega) (by omega) (by omega) (by omega);omega
   have o1:bits .or .i64 ((a.toNat:Int)*256) (b.toNat:Int)=(a.toNat:Int)*256+b.toNat:=pg 8 _ _ (by omega) (by simp) (by omega) (by omega) (by omega) (by omega)
   have HN:Hid (vU a b 0=((a.toNat:Int)*256+b.toNat)*256):=hid (by unfold vU;simp)
   have n0:0≤((a.toNat:Int)*256+b.toNat)*256:=by omega
   have n1:((a.toNat:Int)*256+b.toNat)*256<16777216:=by omega
   obtain⟨N,hN⟩:∃N,N=((a.toNat:Int)*256+b.toNat)*256:=⟨_,rfl⟩
   rw[←hN]at n0 n1
   have m0:bits .and .i64 (N/262144) 63=N/262144%64:=lK 6 (by omega) _ 63 (by omega) (by omega) rfl
   have m1:bits .and .i64 (N/4096) 63=N/4096%64:=lK 6 (by omega) _ 63 (by omega) (by omega) rfl
   have m2:bits .and .i64 (N/64) 63=N/64%64:=lK 6 (by omega) _ 63 (by omega) (by omega) rfl
   have HQ:Hid (rH N=[dL (og (N/262144%64)),dL (og (N/4096%64)),dL (og (N/64%64)),dL (og (N%64))]):=hid rfl
   have b0a:0≤N/262144%64:=by omega
   have b0b:N/262144%64<64:=by omega
   generalize N/262144%64=K0 at *
   have l0:=mJ K0 b0a b0b
   have r0:=mG K0
   have b1a:0≤N/4096%64:=by omega
   have b1b:N/4096%64<64:=by omega
   generalize N/4096%64=K1 at *
   have l1:=mJ K1 b1a b1b
   have r1:=mG K1
   have b2a:0≤N/64%64:=by omega
   have b2b:N/64%64<64:=by omega
   generalize N/64%64=K2 at *
   have l2:=mJ K2 b2a b2b
   have r2:=mG K2
   have hN2:=hid hN
   clear hN
   go_wp2_with fail
   refine wp_loop_rounds 4 ?_
   rw[rounds_succ]
   go_wp2_with fail
   rw[rounds_succ]
   go_wp2_with fail
   rw[rounds_succ]
   go_wp2_with fail
   rw[rounds_succ]
   go_wp2_with fail
   simp only[←hN2.out]
   refine wp_loop_rounds 5 ?_
   rw[rounds_succ]
   go_wp2_with fail
   refine(iy Hb.out hg (og K0) r0.1 r0.2 (by simp;omega)).mono ?_
   rintro e w0 ⟨rfl,hb0,hg0,_⟩
   have Hb0:=hid hb0
   clear hb0
   go_wp2_with fail
   rw[rounds_succ]
   go_wp2_with fail
   refine(iy Hb0.out hg0 (og K1) r1.1 r1.2 (by simp;omega)).mono ?_
   rintro e w1 ⟨rfl,hb1,hg1,_⟩
   have Hb1:=hid hb1
   clear hb1
   go_wp2_with fail
   rw[rounds_succ]
   go_wp2_with fail
   refine(iy Hb1.out hg1 (og K2) r2.1 r2.2 (by simp;omega)).mono ?_
   rintro e w2 ⟨rfl,hb2,hg2,_⟩
   have Hb2:=hid hb2
   clear hb2
   go_wp2_with fail
   rw[rounds_succ]
   go_wp2_with fail
   refine(iy Hb2.out hg2 61 (by omega) (by omega) (by simp;omega)).mono ?_
   rintro e w3 ⟨rfl,hb3,hg3,_⟩
   have Hb3:=hid hb3
   clear hb3
   go_wp2_with fail
   rw[rounds_succ]
   go_wp2_with fail
   go_roundw
   case rel=>
    refine⟨[],_,by first|rfl|rw[Xj],?_,(by first|omega|simp),?_,Hb3.out,hg3⟩
    ·rw[He.out,Xl,HN.out,←hN2.out,HQ.out];simp[rP]
    ·simp;omega
   case measure=>simp;omega
  ·simp only[List.length_cons,List.length_nil]at hrl hpl
   have ha:a.toNat<256:=a.toNat_lt
   have hb:b.toNat<256:=b.toNat_lt
   have hc:c.toNat<256:=c.toNat_lt
   have o0:bits .or .i64 0 (a.toNat:Int)=(a.toNat:Int):=by have:=pg 8 0 (a.toNat:Int) (by omega) (by decide) (by omega) (by omega) (by omega) (by omega);omega
   have o1:bits .or .i64 ((a.toNat:Int)*256) (b.toNat:Int)=(a.toNat:Int)*256+b.toNat:=pg 8 _ _ (by omega) (by simp) (by omega) (by omega) (by omega) (by omega)
   have o2:bits .or .i64 (((a.toNat:Int)*256+b.toNat)*256) (c.toNat:Int)=((a.toNat:Int)*256+b.toNat)*256+c.toNat:=pg 8 _ _ (by omega) (by simp) (by omega) (by omega) (by omega) (by omega)
   have HN:Hid (vU a b c=((a.toNat:Int)*256+b.toNat)*256+c.toNat):=hid (by unfold vU;simp)
   have n0:0≤((a.toNat:Int)*256+b.toNat)*256+c.toNat:=by omega
   have n1:((a.toNat:Int)*256+b.toNat)*256+c.toNat<16777216:=by omega
   obtain⟨N,hN⟩:∃N,N=((a.toNat:Int)*256+b.toNat)*256+c.toNat:=⟨_,rfl⟩
   rw[←hN]at n0 n1
   have m0:bits .and .i64 (N/262144) 63=N/262144%64:=lK 6 (by omega) _ 63 (by omega) (by omega) rfl
   have m1:bits .and .i64 (N/4096) 63=N/4096%64:=lK 6 (by omega) _ 63 (by omega) (by omega) rfl
   have m2:bits .and .i64 (N/64) 63=N/64%64:=lK 6 (by omega) _ 63 (by omega) (by omega) rfl
   have m3:bits .and .i64 N 63=N%64:=lK 6 (by omega) _ 63 (by omega) (by omega) rfl
   have HQ:Hid (rH N=[dL (og (N/262144%64)),dL (og (N/4096%64)),dL (og (N/64%64)),dL (og (N%64))]):=hid rfl
   have b0a:0≤N/262144%64:=by omega
   have b0b:N/262144%64<64:=by omega
   generalize N/262144%64=K0 at *
   have l0:=mJ K0 b0a b0b
   have r0:=mG K0
   have b1a:0≤N/4096%64:=by omega
   have b1b:N/4096%64<64:=by omega
   generalize N/4096%64=K1 at *
   have l1:=mJ K1 b1a b1b
   have r1:=mG K1
   have b2a:0≤N/64%64:=by omega
   have b2b:N/64%64<64:=by omega
   generalize N/64%64=K2 at *
   have l2:=mJ K2 b2a b2b
   have r2:=mG K2
   have b3a:0≤N%64:=by omega
   have b3b:N%64<64:=by omega
   generalize N%64=K3 at *
   have l3:=mJ K3 b3a b3b
   have r3:=mG K3
   have hN2:=hid hN
   clear hN
   go_wp2_with fail
   refine wp_loop_rounds 4 ?_
   rw[rounds_succ]
   go_wp2_with fail
   rw[rounds_succ]
   go_wp2_with fail
   rw[rounds_succ]
   go_wp2_with fail
   rw[rounds_succ]
   go_wp2_with fail
   simp only[←hN2.out]
   refine wp_loop_rounds 5 ?_
   rw[rounds_succ]
   go_wp2_with fail
   refine(iy Hb.out hg (og K0) r0.1 r0.2 (by simp;omega)).mono ?_
   rintro e w0 ⟨rfl,hb0,hg0,_⟩
   have Hb0:=hid hb0
   clear hb0
   go_wp2_with fail
   rw[rounds_succ]
   go_wp2_with fail
   refine(iy Hb0.out hg0 (og K1) r1.1 r1.2 (by simp;omega)).mono ?_
   rintro e w1 ⟨rfl,hb1,hg1,_⟩
   have Hb1:=hid hb1
   clear hb1
   go_wp2_with fail
   rw[rounds_succ]
   go_wp2_with fail
   refine(iy Hb1.out hg1 (og K2) r2.1 r2.2 (by simp;omega)).mono ?_
   rintro e w2 ⟨rfl,hb2,hg2,_⟩
   have Hb2:=hid hb2
   clear hb2
   go_wp2_with fail
   rw[rounds_succ]
   go_wp2_with fail
   refine(iy Hb2.out hg2 (og K3) r3.1 r3.2 (by simp;omega)).mono ?_
   rintro e w3 ⟨rfl,hb3,hg3,_⟩
   have Hb3:=hid hb3
   clear hb3
   go_wp2_with fail
   rw[rounds_succ]
   go_wp2_with fail
   go_roundw
   case rel=>
    refine⟨t,_,by first|rfl|rw[Xj],?_,(by first|omega|simp),?_,Hb3.out,hg3⟩
    ·rw[He.out,Xm,HN.out,←hN2.out,HQ.out];simp[rP]
    ·simp;omega
   case measure=>simp;omega
end Go.Proofs.YtmffejnigppbpaaGreatDoor

namespace Go.Proofs.YtmffejnigppbpaaGreatDoor
open Go.RowKit
def lu:List Pm→List Value→List Value
 |p::ps,v::vs=>.string (S p.1)::v::lu ps vs
 |_,_=>[]
theorem yh:∀(ps:List Pm) (vs:List Value),vs.length=ps.length→(lu ps vs).length=ps.length*2
 |[],vs,h=>by cases vs with|nil=>rfl|cons _ _=>simp at h
 |p::ps,[],h=>by simp at h
 |p::ps,v::vs,h=>by
  have:=yh ps vs (by simpa using h)
  simp only[lu,List.length_cons,this];omega
theorem AA:∀(ps:List Pm) (vs:List Value) (i:Nat) (p:Pm) (v:Value),ps[i]?=some p→vs[i]?=some v→(lu ps vs)[i*2]?=some (.string (S p.1))∧(lu ps vs)[i*2+1]?=some v
 |[],_,i,p,v,h,_=>by simp at h
 |q::ps,[],i,p,v,_,h=>by simp at h
 |q::ps,u::vs,0,p,v,h,h'=>by simp at h h';subst h;subst h';simp[lu]
 |q::ps,u::vs,i+1,p,v,h,h'=>by
  have:=AA ps vs i p v (by simpa using h) (by simpa using h')
  have e1:(i+1)*2=i*2+1+1:=by omega
  rw[e1]
  simpa[lu]using this
theorem yj:∀(ps:List Pm) (vs:List Value) (qs:List Pm) (us:List Value),vs.length=ps.length→lu (ps++qs) (vs++us)=lu ps vs++lu qs us
 |[],vs,qs,us,h=>by cases vs with|nil=>rfl|cons _ _=>simp at h
 |p::ps,[],qs,us,h=>by simp at h
 |p::ps,v::vs,qs,us,h=>by
  have:=yj ps vs qs us (by simpa using h)
  simp only[List.cons_append,lu,this]
theorem eu.slices{w:World}{v:Value}{ps:List Pm}(h:eu w v ps)(h0:ps≠[]):∃(b off cap:Nat) (vs:List Value),v=.slice (some ⟨b,off,none⟩) ps.length cap∧b<w.heap.size∧vs.length=ps.length ∧
  (∀(i:Nat) (p:Pm) (u:Value),ps[i]?=some p→vs[i]?=some u→di w u p.2)∧(∀(j:Nat) (u:Value),(lu ps vs)[j]?=some u→w.cell? ⟨b,off+j,none⟩=some u):=by
 obtain⟨a,cap,rfl,hc,h⟩:=h
 obtain⟨b,off,rfl,hb,h⟩:=h h0
 obtain⟨f,hf⟩:=Deep.choose_lt (α:=Value) (n:=ps.length) (p:=fun i sv=>∀p,ps[i]?=some p→w.cell? ⟨b,off+i*2,none⟩=some (.string (S p.1))∧w.cell? ⟨b,off+i*2+1,none⟩=some sv∧di w sv p.2) (fun i hi=>by
  obtain⟨sv,h1,h2,h3⟩:=h i _ (List.getElem?_eq_getElem hi)
  refine⟨sv,fun p hp=>?_⟩
  rw[List.getElem?_eq_getElem hi]at hp
  injection hp with hp
  subst hp
  exact⟨h1,h2,h3⟩)
 have hlen:((List.range ps.length).map f).length=ps.length:=by simp
 have hat:∀i,i<ps.length→((List.range ps.length).map f)[i]?=some (f i):=fun i hi=>by simp[List.getElem?_range hi]
 refine⟨b,off,cap,(List.range ps.length).map f,rfl,hb,hlen,?_,?_⟩
 ·intro i p u hp hu
  have hi:i<ps.length:=(List.getElem?_eq_some_iff.1 hp).1
  rw[hat i hi]at hu
  injection hu with hu
  subst hu
  exact(hf i hi p hp).2.2
 ·intro j u hu
  have hj:j<ps.length*2:=by rw[←yh ps _ hlen];exact(List.getElem?_eq_some_iff.1 hu).1
  have hi:j/2<ps.length:=by omega
  have hp:=List.getElem?_eq_getElem hi
  obtain⟨k1,k2,_⟩:=hf _ hi _ hp
  obtain⟨m1,m2⟩:=AA ps _ _ _ _ hp (hat _ hi)
  rcases Nat.mod_two_eq_zero_or_one j with h2|h2
  ·have ej:j/2*2=j:=by omega
   rw[ej]at k1 m1
   rw[k1,←hu,m1]
  ·have ej:j/2*2+1=j:=by omega
   rw[Nat.add_assoc,ej]at k2
   rw[ej]at m2
   rw[k2,←hu,m2]
theorem uY{w:World}{base:Nat}{u:Value}{ps:List Pm}{vs:List Value}{t:TypeId}(hl:vs.length=ps.length)(hs:∀(i:Nat) (p:Pm) (v:Value),ps[i]?=some p→vs[i]?=some v→di w v p.2)(hr:w.ownsRow base t 2 u ps.length (lu ps vs)):eu w u ps:=by
 rcases hr.2 with⟨rfl,h0⟩|⟨g,cap,cur,rfl,_,hg,hc,_⟩
 ·have:ps=[]:=List.length_eq_zero_iff.1 h0
  subst this
  exact⟨_,_,rfl,by simp,fun h=>absurd rfl h⟩
 ·refine⟨_,_,rfl,hc,fun h0=>⟨g,0,rfl,(Array.getElem?_eq_some_iff.1 hg).1,fun i p hp=>?_⟩⟩
  have hi:i<ps.length:=(List.getElem?_eq_some_iff.1 hp).1
  have hv:=List.getElem?_eq_getElem (show i<vs.length by omega)
  obtain⟨m1,m2⟩:=AA ps vs i p _ hp hv
  have ea:∀j,(⟨g,0,none⟩:Addr).add j=⟨g,0+j,none⟩:=fun j=>by unfold Addr.add;split<;>simp_all
  have c1:=hr.cells (g:=g) rfl _ _ m1
  have c2:=hr.cells (g:=g) rfl _ _ m2
  rw[ea]at c1 c2
  exact⟨_,c1,by rw[Nat.add_assoc];exact c2,hs i p _ hp hv⟩
theorem Ea:(Tryz.prog.info? 41).map (fun i=>(i.zero,i.size,i.bytes))=some (some (.agg #[.string ⟨#[]⟩,.slice none 0 0]),2,40):=by kernel_rfl
theorem PI{w5 w':World}{base:Nat}{u sv:Value}{ps:List Pm}{vs0:List Value}{nm:List UInt8}{vs:List (List UInt8)}{t:TypeId}(hl:vs0.length=ps.length)(hs:∀(i:Nat) (p:Pm) (x:Value),ps[i]?=some p→vs0[i]?=some x→di w5 x p.2)(hsv:di w5 sv vs)(hg:G w5 w')(hr:w'.ownsRow base t 2 u (ps.length+1) (lu ps vs0++[.string (S nm),sv])):eu w' u (ps++[(nm,vs)]):=by
 refine uY (vs:=vs0++[sv]) (by simp[hl]) ?_ (by rw[List.length_append,yj _ _ _ _ hl];exact hr)
 intro i p x hp hx
 rcases Nat.lt_or_ge i ps.length with hi|hi
 ·rw[List.getElem?_append_left hi]at hp
  rw[List.getElem?_append_left (by omega)]at hx
  exact(hs i p x hp hx).grow hg
 ·have hi2:i=ps.length:=by
   have:=(List.getElem?_eq_some_iff.1 hp).1
   simp at this
   omega
  subst hi2
  rw[List.getElem?_append_right (Nat.le_refl _)]at hp
  rw[List.getElem?_append_right (by omega)]at hx
  simp[hl]at hp hx
  subst hp;subst hx
  exact hsv.grow hg
end Go.Proofs.YtmffejnigppbpaaGreatDoor
